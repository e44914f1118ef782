/- programs made shorter: two operations made less -/
import Derived.Test.YtpifnegikoldmaaGreatDoorZDI
import Derived.Test.YtpifnegikoldmaaGreatDoorZDH
import Derived.Test.YtpifnegikoldmaaGreatDoorZDC
set_option linter.unusedVariables false
set_option linter.unusedSimpArgs false
set_option linter.unusedSectionVars false
set_option maxRecDepth 100000
namespace Go.Proofs.YtpifnegikoldmaaGreatDoor.X
open Go Go.RowKit Go.Proofs
theorem Fj : aa Tryz.prog 90 = true := by kernel_rfl
theorem sE : aa Tryz.prog 91 = true := by kernel_rfl
theorem sD : aa Tryz.prog 92 = true := by kernel_rfl
theorem Fi : aa Tryz.prog 93 = true := by kernel_rfl
theorem rr : lk Tryz.prog 31 = some (false, 1) := by kernel_rfl
theorem FZ.back {S T : Nat → Prop} {H0 K2 K3 : Hp} {A : Nat} {os : List (AV × AV)} {all : List aR} (J : FZ T K2 K3 A os all) (hS : ∀ j, S j → T j) (h : ∀ j, S j → K2.obj j = H0.obj j) : FZ S H0 K3 A os all :=
 ⟨J.fin, fun j hj => J.sN j (hS j hj), fun j hj => (J.old j (hS j hj)).trans (h j hj), fun hA => J.lo (hS _ hA), J.len, J.row, J.ops, fun i o id h1 h2 => ⟨fun h3 => (J.ids i o id h1 h2).1 (hS _ h3), (J.ids i o id h1 h2).2⟩, J.own, J.dist⟩
def D4 (u v : Int) (K : Hp) : Hp := (K.new [.v (.int .i64 u)]).new [.v (.int .i64 v)]
def Ii (S : Nat → Prop) (K : Hp) : Nat → Prop := fun j => S j ∨ j = K.next ∨ j = K.next + 1
section
variable {S : Nat → Prop} {H0 K : Hp} {A : Nat} {os : List (AV × AV)} {all : List aR} (I : FZ S H0 K A os all) (u v : Int)
theorem xK {j : Nat} (h : j < K.next) : (D4 u v K).obj j = K.obj j := by
 show (if j = K.next + 1 then _ else if j = K.next then _ else K.obj j) = _
 rw [if_neg (by omega), if_neg (by omega)]
theorem Hk : (D4 u v K).obj K.next = some [.v (.int .i64 u)] := by
 show (if K.next = K.next + 1 then _ else if K.next = K.next then _ else K.obj K.next) = _
 rw [if_neg (by omega), if_pos rfl]
theorem Hj : (D4 u v K).obj (K.next + 1) = some [.v (.int .i64 v)] := by
 show (if K.next + 1 = K.next + 1 then _ else _) = _
 rw [if_pos rfl]
include I in
theorem FZ.Hx : FZ (Ii S K) (D4 u v K) (D4 u v K) A os all := by
 have I2 := I.more (K' := D4 u v K) (eF (eF I.fin _) _) (by show K.next ≤ K.next + 1 + 1; omega) fun j hj => xK u v hj
 refine I2.aH (fun j hj => ?_) (fun h => ?_) fun i o id h1 h2 h3 => ?_
 ·show j < K.next + 1 + 1
  rcases hj with h | h | h
  ·have := I.sN j h; omega
  ·omega
  ·omega
 ·have := I.alt
  rcases h with h | h | h
  ·exact I.lo h
  ·omega
  ·omega
 ·have := I.sA h1 h2
  rcases h3 with h | h | h
  ·exact (I.ids i o id h1 h2).1 h
  ·omega
  ·omega
theorem xL : Hn (Ii S K) (D4 u v K) 110 [.op K.next 0, .op (K.next + 1) 0] u v :=
 ⟨by kernel_rfl, fun K' h r => HC u v r _ _ K' ((h _ (.inr (.inl rfl))).trans (Hk u v)) ((h _ (.inr (.inr rfl))).trans (Hj u v))⟩
include I in
theorem FZ.Hy {K3 : Hp} {os' : List (AV × AV)} {all' : List aR} (J : FZ (Ii S K) (D4 u v K) K3 A os' all') : FZ S H0 K3 A os' all' :=
 J.back (fun j h => .inl h) fun j h => (xK u v (I.sN j h)).trans (I.old j h)
end
def uR (S : Nat → Prop) (H0 K : Hp) (A : Nat) (all : List aR) (i : Nat) (r : Option aR) : AV → Hp → Prop := fun v K' => match r with | none => v = .bool false ∧ K' = K | some q => v = .bool true ∧ K.next ≤ K'.next ∧ ∃ os', FZ S H0 K' A os' (all.set i q)
theorem lx (u v : Int) (K : Hp) : K.next ≤ (D4 u v K).next := by show K.next ≤ K.next + 1 + 1; omega
theorem lq {p : aR} {a : List Int} {n : Nat} (h : p.ops.length ≤ n) : (p.drop a).ops.length ≤ n := Nat.le_trans (cc a p.ops 0).length_le h
theorem ln {p : aR} {a : List Int} {x : al} (h : x ∈ (p.drop a).ops) : x ∈ p.ops := (cc a p.ops 0).mem h
theorem CH {p : aR} {u v : Int} {n : Nat} (h : ∀ x ∈ p.ops, x.regs.length ≤ n) : ∀ x ∈ (p.cS u v).ops, x.regs.length ≤ n := fun x hx => by
 obtain ⟨y, h1, rfl⟩ := List.mem_map.1 hx
 have := h y h1
 unfold al.cS al.clean
 repeat' split
 all_goals simpa using this
theorem qc {S : Nat → Prop} {H0 K K' : Hp} {A i : Nat} {os' : List (AV × AV)} {all : List aR} {r : Option aR} {q : aR} (h : r = some q) (hn : K.next ≤ K'.next) (hz : FZ S H0 K' A os' (all.set i q)) : uR S H0 K A all i r (.bool true) K' := by subst h; exact ⟨rfl, hn, _, hz⟩
theorem Dr {S : Nat → Prop} {H0 K : Hp} {A i : Nat} {os : List (AV × AV)} {all : List aR} {r : Option aR} (h : r = none) (hz : FZ S H0 K A os all) : uR S H0 K A all i r (.bool false) K := by subst h; exact ⟨rfl, rfl⟩
theorem kV {α : Type} {l : List α} {n : Nat} {d : α} (h : n < l.length) : l[n]? = some (l.getD n d) := by
 rw [List.getD_eq_getElem?_getD, List.getElem?_eq_getElem h]; rfl
theorem Ev {all : List aR} {p : aR} {i k : Nat} {x y : al} (h : (x.kind == 1 && y.kind == 1 && x.a == y.a) = true) : e8 all p i k x y = some (aR.drop [(k : Int)] { p with ops := p.ops.set i (nA x y) }) := by
 unfold e8; rw [if_pos (by simpa [and_assoc] using h)]
theorem Eu {all : List aR} {p : aR} {i k : Nat} {x y : al} (h : (x.kind == 2 && y.kind == 3 && x.b == y.a && x.c == y.b && decide (eB p.ops x.b = 2) && decide (eB p.ops x.c = 2)) = true) : e8 all p i k x y = some ((p.drop [(i : Int), (k : Int)]).cS y.c x.a) := by
 simp only [Bool.and_eq_true, beq_iff_eq, decide_eq_true_eq, and_assoc] at h
 unfold e8; rw [if_neg (by omega), if_pos h]
theorem Et {all : List aR} {p : aR} {i k : Nat} {x y : al} (h : (x.kind == 3 && y.kind == 2 && x.c == y.a && decide (eB p.ops x.c = 2)) = true) : e8 all p i k x y = some (((p.drop [(i : Int), (k : Int)]).cS y.b x.a).cS y.c x.b) := by
 simp only [Bool.and_eq_true, beq_iff_eq, decide_eq_true_eq, and_assoc] at h
 unfold e8; rw [if_neg (by omega), if_neg (by omega), if_pos h]
theorem Es {all : List aR} {p : aR} {i k : Nat} {x y : al} (h : (x.kind == 4 && y.kind == 5 && x.b == y.a && p8 (all.getD x.part.toNat bY)) = true) : e8 all p i k x y = some ((p.drop [(i : Int), (k : Int)]).cS y.b x.a) := by
 simp only [Bool.and_eq_true, beq_iff_eq, decide_eq_true_eq, and_assoc] at h
 unfold e8; rw [if_neg (by omega), if_neg (by omega), if_neg (by omega), if_pos h]
theorem Ew {all : List aR} {p : aR} {i k : Nat} {x y : al} (h1 : (x.kind == 1 && y.kind == 1 && x.a == y.a) = false) (h2 : (x.kind == 2 && y.kind == 3 && x.b == y.a && x.c == y.b && decide (eB p.ops x.b = 2) && decide (eB p.ops x.c = 2)) = false)
  (h3 : (x.kind == 3 && y.kind == 2 && x.c == y.a && decide (eB p.ops x.c = 2)) = false) (h4 : (x.kind == 4 && y.kind == 5 && x.b == y.a && p8 (all.getD x.part.toNat bY)) = false) : e8 all p i k x y = none := by
 have e : ∀ {b : Bool} {P : Prop}, b = false → (b = true ↔ P) → ¬ P := fun h1 h2 h3 => by rw [h2.2 h3] at h1; cases h1
 unfold e8
 rw [if_neg (e h1 (by simp [and_assoc])), if_neg (e h2 (by simp [and_assoc])), if_neg (e h3 (by simp [and_assoc])), if_neg (e h4 (by simp [and_assoc]))]
theorem DZ {S : Nat → Prop} {H0 K : Hp} {A i : Nat} {os : List (AV × AV)} {all : List aR} {p : aR} {o : AV × AV} (I : FZ S H0 K A os all) (hp : all[i]? = some p) (ho : os[i]? = some o) (hl : p.ops.length ≤ 1000000) (hu : p.outs.length ≤ 1000000) (hr : ∀ x ∈ p.ops, x.regs.length ≤ 1000000) {j k : Nat} {x y : al} (hx : p.ops[j]? = some x) (hy : p.ops[k]? = some y) {pid : Nat} (hS : S pid) (hP : H0.obj pid = some [.v (.os A all.length 7)]) (hb : x.kind = 4 → 0 ≤ x.part ∧ x.part < (all.length : Int) ∧ (all.getD x.part.toNat bY).ins ≠ []) : fw Tryz.prog 63 [.op pid 0, .op A (i * 7), .int .i64 (j : Int), .int .i64 (k : Int)] K (uR S H0 K A all i (e8 all p j k x y)) := by
 refine fw.aN Tryz.func63 rfl rfl (aF rfl) (aC.seq (aC.region (aB.run II 1 rfl (aB.nil (aC.seq (aC.drawn mixed rfl (aD.run II 3 rfl (aD.c1 rfl (c9 (aF rfl) eh rfl rfl I.row (dF _ _) rfl (I.get hp ho) rfl) (aD.run II 1 rfl (aD.c1 rfl (eK (aF rfl) fO rfl (I.ops _ _ _ ho hp).1 rfl (Int.natCast_nonneg _) (by rw [List.length_map]; have := bP hx; omega)) ?_))))))))))
 refine aD.c1 rfl (ed (aF rfl) dd rfl rfl (dU (I.ops _ _ _ ho hp).1 (by rw [List.length_map]; exact bP hx)) (eA _) rfl (oW hx)) ?_
 refine aD.run II 3 rfl (aD.c1 rfl (c9 (aF rfl) eh rfl rfl I.row (dF _ _) rfl (I.get hp ho) rfl) (aD.run II 1 rfl (aD.c1 rfl (eK (aF rfl) fO rfl (I.ops _ _ _ ho hp).1 rfl (Int.natCast_nonneg _) (by rw [List.length_map]; have := bP hy; omega)) ?_)))
 refine aD.c1 rfl (ed (aF rfl) dd rfl rfl (dU (I.ops _ _ _ ho hp).1 (by rw [List.length_map]; exact bP hy)) (eA _) rfl (oW hy)) ?_
 refine aD.run II 4 rfl (aD.nil (by kernel_rfl) (Kept.now (aC.seq (aC.blk (aC.c8 [.h, .s 0, .s 1, .s 2, .s 3, .s 9, .b 9, .s 10, .b 10] (fun (b : Bool) => [(.s 25, .sv (.v (.bool b)))]) (fun (b : Bool) => b = (x.kind == 1 && y.kind == 1 && x.a == y.a)) rfl ?_ ?_)))))
 ·refine aC.region (aB.run II 4 rfl (aB.tell (d := 29) rfl (fun hg1 => ?_) (fun hg1 => ?_)))
  ·refine aB.run II 5 rfl (aB.tell (d := 34) rfl (fun hg2 => ?_) (fun hg2 => ?_))
   ·exact aB.run II 7 rfl (aB.kept (Kept.aH [.s 25, .h, .s 0, .s 1, .s 2, .s 3, .s 9, .b 9, .s 10, .b 10] rfl (by decide) (Kept.now ⟨_, by grind, rfl⟩)))
   ·exact aB.run II 7 rfl (aB.kept (Kept.aH [.s 25, .h, .s 0, .s 1, .s 2, .s 3, .s 9, .b 9, .s 10, .b 10] rfl (by decide) (Kept.now ⟨_, by grind, rfl⟩)))
  ·exact aB.run II 12 rfl (aB.kept (Kept.aH [.s 25, .h, .s 0, .s 1, .s 2, .s 3, .s 9, .b 9, .s 10, .b 10] rfl (by decide) (Kept.now ⟨_, by grind, rfl⟩)))
 ·rintro b hFc4
  refine aC.cond rfl (fun hc3 => ?_) (fun hc3 => ?_)
  ·refine aC.region (aB.run II 3 rfl (aB.dh (aF rfl) Fj rfl rfl (G6 I hp ho hl hx hy) (fun r1 K1 hP1 => ?_)))
   obtain ⟨rfl, hN, o1, hZ⟩ := hP1
   exact aB.nil (aC.seq (aC.region (aB.run II 1 rfl (aB.nil (aC.ret ⟨.inr rfl, .bool true, _, (qc (Ev (hFc4.symm.trans hc3)) hN hZ), aE.r1 rfl (.tmp rfl .nil), rfl⟩)))))
  ·refine aC.c8 [.h, .s 0, .s 1, .s 2, .s 3, .s 9, .b 9, .s 10, .b 10] (fun (b : Bool) => [(.s 45, .sv (.v (.bool b)))]) (fun (b : Bool) => b = (x.kind == 2 && y.kind == 3 && x.b == y.a && x.c == y.b && decide (eB p.ops x.b = 2) && decide (eB p.ops x.c = 2))) rfl ?_ ?_
   ·refine aC.region (aB.run II 4 rfl (aB.tell (d := 49) rfl (fun hg4 => ?_) (fun hg4 => ?_)))
    ·refine aB.run II 5 rfl (aB.tell (d := 54) rfl (fun hg5 => ?_) (fun hg5 => ?_))
     ·refine aB.run II 7 rfl (aB.tell (d := 61) rfl (fun hg6 => ?_) (fun hg6 => ?_))
      ·refine aB.run II 7 rfl (aB.tell (d := 68) rfl (fun hg7 => ?_) (fun hg7 => ?_))
       ·refine aB.run II 3 rfl (aB.g1 rfl (aF rfl) rfl rfl (ff (aF rfl) sG rfl rfl (rb I hp ho hl hr _)) (aB.run II 3 rfl (aB.tell (d := 75) rfl (fun hg8 => ?_) (fun hg8 => ?_))))
        ·exact aB.run II 3 rfl (aB.g1 rfl (aF rfl) rfl rfl (ff (aF rfl) sG rfl rfl (rb I hp ho hl hr _)) (aB.run II 3 rfl (aB.kept (Kept.aH [.s 45, .h, .s 0, .s 1, .s 2, .s 3, .s 9, .b 9, .s 10, .b 10] rfl (by decide) (Kept.now ⟨_, by grind, rfl⟩)))))
        ·exact aB.run II 7 rfl (aB.kept (Kept.aH [.s 45, .h, .s 0, .s 1, .s 2, .s 3, .s 9, .b 9, .s 10, .b 10] rfl (by decide) (Kept.now ⟨_, by grind, rfl⟩)))
       ·exact aB.run II 14 rfl (aB.kept (Kept.aH [.s 45, .h, .s 0, .s 1, .s 2, .s 3, .s 9, .b 9, .s 10, .b 10] rfl (by decide) (Kept.now ⟨_, by grind, rfl⟩)))
      ·exact aB.run II 21 rfl (aB.kept (Kept.aH [.s 45, .h, .s 0, .s 1, .s 2, .s 3, .s 9, .b 9, .s 10, .b 10] rfl (by decide) (Kept.now ⟨_, by grind, rfl⟩)))
     ·exact aB.run II 28 rfl (aB.kept (Kept.aH [.s 45, .h, .s 0, .s 1, .s 2, .s 3, .s 9, .b 9, .s 10, .b 10] rfl (by decide) (Kept.now ⟨_, by grind, rfl⟩)))
    ·exact aB.run II 33 rfl (aB.kept (Kept.aH [.s 45, .h, .s 0, .s 1, .s 2, .s 3, .s 9, .b 9, .s 10, .b 10] rfl (by decide) (Kept.now ⟨_, by grind, rfl⟩)))
   ·rintro b hFc6
    refine aC.cond rfl (fun hc9 => ?_) (fun hc9 => ?_)
    ·refine aC.seq (aC.region (aB.run II 4 rfl (aB.dh (aF rfl) pK rfl rfl (oT I hp ho hl [(j : Int), (k : Int)] (by simp)) (fun r2 K2 hP2 => ?_))))
     obtain ⟨rfl, hN, o1, hZ⟩ := hP2
     refine aB.nil (aC.region (aB.run II 5 rfl (aB.c2 rfl (db (aF rfl) sD rfl rfl (Cc _ _ _)) (aB.dh (aF rfl) sE rfl rfl (lW (hZ.Hx y.c x.a) (List.getElem?_set_self (bP hp)) (List.getElem?_set_self (bP ho)) (lq hl) hu (fun z hz => hr z (ln hz)) (xL _ _)) (fun r3 K3 hP3 => ?_)))))
     obtain ⟨rfl, hN2, o2, hZ2⟩ := hP3
     exact aB.nil (aC.seq (aC.region (aB.run II 1 rfl (aB.nil (aC.ret ⟨.inr rfl, .bool true, _, (qc (Eu (hFc6.symm.trans hc9)) (Nat.le_trans hN (Nat.le_trans (lx _ _ _) hN2)) (by have h := hZ.Hy _ _ hZ2; rw [List.set_set, List.set_set] at h; exact h)), aE.r1 rfl (.tmp rfl .nil), rfl⟩)))))
    ·refine aC.c8 [.h, .s 0, .s 1, .s 2, .s 3, .s 9, .b 9, .s 10, .b 10] (fun (b : Bool) => [(.s 94, .sv (.v (.bool b)))]) (fun (b : Bool) => b = (x.kind == 3 && y.kind == 2 && x.c == y.a && decide (eB p.ops x.c = 2))) rfl ?_ ?_
     ·refine aC.region (aB.run II 4 rfl (aB.tell (d := 98) rfl (fun hg10 => ?_) (fun hg10 => ?_)))
      ·refine aB.run II 5 rfl (aB.tell (d := 103) rfl (fun hg11 => ?_) (fun hg11 => ?_))
       ·refine aB.run II 7 rfl (aB.tell (d := 110) rfl (fun hg12 => ?_) (fun hg12 => ?_))
        ·exact aB.run II 3 rfl (aB.g1 rfl (aF rfl) rfl rfl (ff (aF rfl) sG rfl rfl (rb I hp ho hl hr _)) (aB.run II 3 rfl (aB.kept (Kept.aH [.s 94, .h, .s 0, .s 1, .s 2, .s 3, .s 9, .b 9, .s 10, .b 10] rfl (by decide) (Kept.now ⟨_, by grind, rfl⟩)))))
        ·exact aB.run II 7 rfl (aB.kept (Kept.aH [.s 94, .h, .s 0, .s 1, .s 2, .s 3, .s 9, .b 9, .s 10, .b 10] rfl (by decide) (Kept.now ⟨_, by grind, rfl⟩)))
       ·exact aB.run II 14 rfl (aB.kept (Kept.aH [.s 94, .h, .s 0, .s 1, .s 2, .s 3, .s 9, .b 9, .s 10, .b 10] rfl (by decide) (Kept.now ⟨_, by grind, rfl⟩)))
      ·exact aB.run II 19 rfl (aB.kept (Kept.aH [.s 94, .h, .s 0, .s 1, .s 2, .s 3, .s 9, .b 9, .s 10, .b 10] rfl (by decide) (Kept.now ⟨_, by grind, rfl⟩)))
     ·rintro b hFc9
      refine aC.cond rfl (fun hc13 => ?_) (fun hc13 => ?_)
      ·refine aC.seq (aC.region (aB.run II 4 rfl (aB.dh (aF rfl) pK rfl rfl (oT I hp ho hl [(j : Int), (k : Int)] (by simp)) (fun r4 K4 hP4 => ?_))))
       obtain ⟨rfl, hN, o1, hZ⟩ := hP4
       refine aB.nil (aC.seq (aC.region (aB.run II 5 rfl (aB.c2 rfl (db (aF rfl) sD rfl rfl (Cc _ _ _)) (aB.dh (aF rfl) sE rfl rfl (lW (hZ.Hx y.b x.a) (List.getElem?_set_self (bP hp)) (List.getElem?_set_self (bP ho)) (lq hl) hu (fun z hz => hr z (ln hz)) (xL _ _)) (fun r5 K5 hP5 => ?_))))))
       obtain ⟨rfl, hN2, o2, hZ2⟩ := hP5
       have hZ5 : FZ S H0 K5 A (os.set i o2) (all.set i ((p.drop [(j : Int), (k : Int)]).cS y.b x.a)) := by have h := hZ.Hy _ _ hZ2; rw [List.set_set, List.set_set] at h; exact h
       have hN5 := Nat.le_trans hN (Nat.le_trans (lx y.b x.a _) hN2)
       refine aB.nil (aC.region (aB.run II 5 rfl (aB.c2 rfl (db (aF rfl) sD rfl rfl (Cc _ _ _)) (aB.dh (aF rfl) sE rfl rfl (lW (hZ5.Hx y.c x.b) (List.getElem?_set_self (bP hp)) (List.getElem?_set_self (bP ho)) (by simpa [aR.cS] using lq hl) (by simpa [aR.cS, aR.drop] using hu) (CH fun z hz => hr z (ln hz)) (xL _ _)) (fun r6 K6 hP6 => ?_)))))
       obtain ⟨rfl, hN2, o2, hZ2⟩ := hP6
       exact aB.nil (aC.seq (aC.region (aB.run II 1 rfl (aB.nil (aC.ret ⟨.inr rfl, .bool true, _, (qc (Et (hFc9.symm.trans hc13)) (Nat.le_trans hN5 (Nat.le_trans (lx _ _ _) hN2)) (by have h := hZ5.Hy _ _ hZ2; rw [List.set_set, List.set_set] at h; exact h)), aE.r1 rfl (.tmp rfl .nil), rfl⟩)))))
      ·refine aC.c8 [.h, .s 1, .s 2, .s 3, .s 9, .b 9, .s 10, .b 10] (fun (b : Bool) => [(.s 136, .sv (.v (.bool b)))]) (fun (b : Bool) => b = (x.kind == 4 && y.kind == 5 && x.b == y.a && p8 (all.getD x.part.toNat bY))) rfl ?_ ?_
       ·refine aC.drawn mixed rfl (aD.run II 4 rfl (aD.tell (d := 140) rfl (fun hg14 => ?_) (fun hg14 => ?_)))
        ·refine aD.run II 5 rfl (aD.tell (d := 145) rfl (fun hg15 => ?_) (fun hg15 => ?_))
         ·refine aD.run II 7 rfl (aD.tell (d := 152) rfl (fun hg16 => ?_) (fun hg16 => ?_))
          ·refine aD.run II 3 rfl (aD.g1 rfl (aF rfl) rfl rfl (dI (aF rfl) rr rfl rfl ((I.old _ hS).trans hP) rfl) (aD.run II 2 rfl (aD.g1 rfl (aF rfl) rfl rfl (cM (aF rfl) cm rfl rfl (hb (by grind)).1 (hb (by grind)).2.1) (aD.g1 rfl (aF rfl) rfl rfl (ed (aF rfl) eL rfl rfl I.row (dF _ _) rfl (lH (kV (d := bY) (by have := hb (by grind); omega)) (kV (d := (AV.nsl, AV.nsl)) (by have := hb (by grind); have := I.len; omega)))) ?_))))
           refine aD.g1 rfl (aF rfl) rfl rfl (ff (aF rfl) Fi rfl rfl (HB _ _ _ (I.ops _ _ _ (kV (d := (AV.nsl, AV.nsl)) (by have := hb (by grind); have := I.len; omega)) (kV (d := bY) (by have := hb (by grind); omega))).1 (I.ops _ _ _ (kV (d := (AV.nsl, AV.nsl)) (by have := hb (by grind); have := I.len; omega)) (kV (d := bY) (by have := hb (by grind); omega))).2 (hb (by grind)).2.2)) ?_
           exact aD.run II 2 rfl (aD.nil (by kernel_rfl) (Kept.aH [.s 136, .h, .s 1, .s 2, .s 3, .s 9, .b 9, .s 10, .b 10] rfl (by decide) (Kept.now ⟨_, by grind, rfl⟩)))
          ·exact aD.run II 11 rfl (aD.nil (by kernel_rfl) (Kept.aH [.s 136, .h, .s 1, .s 2, .s 3, .s 9, .b 9, .s 10, .b 10] rfl (by decide) (Kept.now ⟨_, by grind, rfl⟩)))
         ·exact aD.run II 18 rfl (aD.nil (by kernel_rfl) (Kept.aH [.s 136, .h, .s 1, .s 2, .s 3, .s 9, .b 9, .s 10, .b 10] rfl (by decide) (Kept.now ⟨_, by grind, rfl⟩)))
        ·exact aD.run II 23 rfl (aD.nil (by kernel_rfl) (Kept.aH [.s 136, .h, .s 1, .s 2, .s 3, .s 9, .b 9, .s 10, .b 10] rfl (by decide) (Kept.now ⟨_, by grind, rfl⟩)))
       ·rintro b hFc13
        refine aC.cond rfl (fun hc17 => ?_) (fun hc17 => ?_)
        ·refine aC.seq (aC.region (aB.run II 4 rfl (aB.dh (aF rfl) pK rfl rfl (oT I hp ho hl [(j : Int), (k : Int)] (by simp)) (fun r7 K7 hP7 => ?_))))
         obtain ⟨rfl, hN, o1, hZ⟩ := hP7
         refine aB.nil (aC.region (aB.run II 5 rfl (aB.c2 rfl (db (aF rfl) sD rfl rfl (Cc _ _ _)) (aB.dh (aF rfl) sE rfl rfl (lW (hZ.Hx y.b x.a) (List.getElem?_set_self (bP hp)) (List.getElem?_set_self (bP ho)) (lq hl) hu (fun z hz => hr z (ln hz)) (xL _ _)) (fun r8 K8 hP8 => ?_)))))
         obtain ⟨rfl, hN2, o2, hZ2⟩ := hP8
         exact aB.nil (aC.seq (aC.region (aB.run II 1 rfl (aB.nil (aC.ret ⟨.inr rfl, .bool true, _, (qc (Es (hFc13.symm.trans hc17)) (Nat.le_trans hN (Nat.le_trans (lx _ _ _) hN2)) (by have h := hZ.Hy _ _ hZ2; rw [List.set_set, List.set_set] at h; exact h)), aE.r1 rfl (.tmp rfl .nil), rfl⟩)))))
        ·exact aC.seq (aC.region (aB.run II 1 rfl (aB.nil (aC.ret ⟨.inr rfl, .bool false, _, (Dr (Ew (hFc4.symm.trans hc3) (hFc6.symm.trans hc9) (hFc9.symm.trans hc13) (hFc13.symm.trans hc17)) I), aE.r1 rfl (.tmp rfl .nil), rfl⟩))))
/- programs made shorter: one step -/
theorem Fv : aa Tryz.prog 61 = true := by kernel_rfl
theorem Fu : aa Tryz.prog 63 = true := by kernel_rfl
def sc (all : List aR) (p : aR) (j : Nat) (x : al) (k : Nat) : Option aR := dx (fun k y => e8 all p j k x y) k (p.ops.drop k)
def sd (all : List aR) (p : aR) (j : Nat) : Option aR := dx (fun i x => if kb p x then some (p.drop [(i : Int)]) else sc all p i x (i + 1)) j (p.ops.drop j)
theorem wU {S : Nat → Prop} {H0 K K' : Hp} {A i : Nat} {all : List aR} {r : Option aR} {v : AV} (h : uR S H0 K A all i r v K') : ∃ b, v = .bool b ∧ (b = false → r = none ∧ K' = K) ∧ (b = true → ∃ q, r = some q ∧ K.next ≤ K'.next ∧ ∃ os', FZ S H0 K' A os' (all.set i q)) := by
 cases r with
 | none => exact ⟨false, h.1, fun _ => ⟨rfl, h.2⟩, fun e => (by cases e)⟩
 | some q => exact ⟨true, h.1, fun e => (by cases e), fun _ => ⟨q, rfl, h.2.1, h.2.2⟩⟩
theorem qO {all : List aR} {p : aR} {j k : Nat} {x : al} (h : k < p.ops.length) : sc all p j x k = (e8 all p j k x p.ops[k]).orElse fun _ => sc all p j x (k + 1) := by
 unfold sc; rw [List.drop_eq_getElem_cons h, dx]
theorem zC {all : List aR} {p : aR} {j k : Nat} {x : al} (h : p.ops.length ≤ k) : sc all p j x k = none := by
 unfold sc; rw [List.drop_of_length_le h, dx]
theorem qP {all : List aR} {p : aR} {j : Nat} (h : j < p.ops.length) : sd all p j = (if kb p p.ops[j] then some (p.drop [(j : Int)]) else sc all p j p.ops[j] (j + 1)).orElse fun _ => sd all p (j + 1) := by
 unfold sd; rw [List.drop_eq_getElem_cons h, dx]
theorem zD {all : List aR} {p : aR} {j : Nat} (h : p.ops.length ≤ j) : sd all p j = none := by
 unfold sd; rw [List.drop_of_length_le h, dx]
theorem yg {S : Nat → Prop} {H0 K : Hp} {A i : Nat} {os : List (AV × AV)} {all : List aR} {p : aR} {o : AV × AV} (I : FZ S H0 K A os all) (hp : all[i]? = some p) (ho : os[i]? = some o) (hl : p.ops.length ≤ 1000000) (hu : p.outs.length ≤ 1000000) (hr : ∀ x ∈ p.ops, x.regs.length ≤ 1000000) {pid : Nat} (hS : S pid) (hP : H0.obj pid = some [.v (.os A all.length 7)]) (hb : ∀ x ∈ p.ops, x.kind = 4 → 0 ≤ x.part ∧ x.part < (all.length : Int) ∧ (all.getD x.part.toNat bY).ins ≠ []) : fw Tryz.prog 29 [.op pid 0, .op A (i * 7)] K (uR S H0 K A all i (gQ all p)) := by
 refine fw.aN Tryz.func29 rfl rfl (aF rfl) (aC.seq (aC.region (aB.run II 1 rfl (aB.nil (aC.seq (aC.seq (aC.region (aB.run II 3 rfl (aB.c1 rfl (c9 (aF rfl) eh rfl rfl I.row (dF _ _) rfl (I.get hp ho) rfl) (aB.c1 rfl (fU (aF rfl) mF rfl (I.ops _ _ _ ho hp).1) (aB.run II 1 rfl (aB.nil (aC.blk (aC.aJ (Kept.aH [.s 13, .h, .s 0, .s 1, .s 11, .s 12] rfl (by decide) (Kept.now (aC.aW (fun (j : Nat) => [(.s 13, .sv (.v (.int .i64 (j : Int))))]) _ (fun (j : Nat) => sd all p j = gQ all p) (fun (j : Nat) => p.ops.length - j) 0 rfl rfl ?_)))))))))))))))))
 rintro j hI
 refine aC.seq (aC.region (aB.run II 1 rfl (aB.nil (aC.seq (aC.cond rfl (fun hc1 => ?_) (fun hc1 => ?_))))))
 ·have hj := ch hc1
  refine aC.skip (aC.seq (aC.blk (aC.seq (aC.region (aB.run II 1 rfl (aB.c1 rfl (eK (aF rfl) fO rfl (I.ops _ _ _ ho hp).1 rfl (Int.natCast_nonneg _) (by rw [List.length_map]; omega)) ?_))))))
  refine aB.c1 rfl (ed (aF rfl) dd rfl rfl (dU (I.ops _ _ _ ho hp).1 (by rw [List.length_map]; exact hj)) (eA _) rfl (rj hj)) ?_
  refine aB.run II 3 rfl (aB.nil (aC.seq (aC.seq (aC.region (aB.run II 2 rfl (aB.c1 rfl (ff (aF rfl) Fv rfl rfl (Ez I hp ho hl hu hr p.ops[j])) (aB.nil (aC.cond rfl (fun hc2 => ?_) (fun hc2 => ?_)))))))))
  ·refine aC.seq (aC.region (aB.run II 3 rfl (aB.dh (aF rfl) pK rfl rfl (oT I hp ho hl [(j : Int)] (by simp)) (fun r1 K1 hP1 => ?_))))
   obtain ⟨rfl, hN, o1, hZ⟩ := hP1
   exact aB.nil (aC.seq (aC.region (aB.run II 1 rfl (aB.nil (aC.ret ⟨.inr rfl, .bool true, _, (qc (by rw [← hI, qP hj, if_pos hc2]; rfl) hN hZ), aE.r1 rfl (.tmp rfl .nil), rfl⟩)))))
  ·refine aC.skip (aC.seq (aC.region (aB.run II 1 rfl (aB.c1 rfl (bI (aF rfl) rfl rfl (Gc (a := j) (by omega))) (aB.run II 1 rfl (aB.nil (aC.blk (aC.aJ (Kept.aH [.s 7, .h, .s 0, .s 1, .s 5, .s 11, .s 12, .s 13] rfl (by decide) (Kept.now (aC.aW (fun (k : Nat) => [(.s 7, .sv (.v (.int .i64 (k : Int))))]) _ (fun (k : Nat) => j + 1 ≤ k ∧ sd all p j = (sc all p j p.ops[j] k).orElse fun _ => sd all p (j + 1)) (fun (k : Nat) => p.ops.length - k) (j + 1) rfl ⟨Nat.le_refl _, by rw [qP hj, if_neg (by rw [hc2]; simp)]⟩ ?_)))))))))))
   rintro k hK
   refine aC.seq (aC.seq (aC.region (aB.run II 4 rfl (aB.c1 rfl (c9 (aF rfl) eh rfl rfl I.row (dF _ _) rfl (I.get hp ho) rfl) (aB.c1 rfl (fU (aF rfl) mF rfl (I.ops _ _ _ ho hp).1) (aB.run II 1 rfl (aB.nil (aC.cond rfl (fun hc3 => ?_) (fun hc3 => ?_)))))))))
   ·have hk := ch hc3
    refine aC.skip (aC.seq (aC.blk (aC.seq (aC.region (aB.run II 4 rfl (aB.dh (aF rfl) Fu rfl rfl (DZ I hp ho hl hu hr (j := j) (k := k) (List.getElem?_eq_getElem hj) (List.getElem?_eq_getElem hk) hS hP (hb _ (List.getElem_mem hj))) (fun r2 K2 hP2 => ?_)))))))
    obtain ⟨b, rfl, hR⟩ := wU hP2
    refine aB.nil (aC.cond rfl (fun hc4 => ?_) (fun hc4 => ?_))
    ·exact aC.seq (aC.region (aB.run II 1 rfl (aB.nil (aC.ret (⟨.inr rfl, .bool true, _, (by obtain ⟨q, hq, hN, os2, hZ⟩ := hR.2 hc4; exact qc (by rw [← hI, hK.2, qO hk, hq]; rfl) hN hZ), aE.r1 rfl (.tmp rfl .nil), rfl⟩)))))
    ·obtain ⟨hq, rfl⟩ := hR.1 hc4
     exact aC.skip (aC.region (aB.run II 3 rfl (aB.kept (Kept.aX 7 rfl (inc (by omega)) (Kept.aH [.s 7, .h, .s 0, .s 1, .s 5, .s 11, .s 12, .s 13] rfl (by decide) (Kept.now (⟨k + 1, by omega, ⟨by omega, by rw [hK.2, qO hk, hq]; rfl⟩, rfl⟩)))))))
   ·have hk := ck hc3
    exact aC.exit (aC.region (aB.run II 2 rfl (aB.kept (Kept.aX 13 rfl (inc (by omega)) (Kept.aH [.s 13, .h, .s 0, .s 1, .s 11, .s 12] rfl (by decide) (Kept.now ⟨j + 1, by omega, by rw [← hI, hK.2, zC hk]; rfl, rfl⟩))))))
 ·have hj := ck hc1
  exact aC.exit (aC.seq (aC.region (aB.run II 1 rfl (aB.nil (aC.ret ⟨.inr rfl, .bool false, _, (Dr (by rw [← hI, zD (by omega)]) I), aE.r1 rfl (.tmp rfl .nil), rfl⟩)))))
/- programs made shorter: a program of one's own -/
theorem Fx : aa Tryz.prog 57 = true := by kernel_rfl
theorem Ax : aa Tryz.prog 58 = true := by kernel_rfl
theorem Fw : aa Tryz.prog 59 = true := by kernel_rfl
theorem tL (l : List aR) (hl : l.length ≤ 1000000) (hne : l ≠ []) (H : Hp) : dW Tryz.prog 57 [.sl (l.map aR.av)] H (.os (H.next + 1) l.length 7) (rX (l.map aR.av) H) := by
 refine dW.aN Tryz.func57 rfl rfl (aF rfl) (aC.seq (aC.region (aB.run II 1 rfl (aB.nil (aC.seq (aC.seq (aC.region (aB.run II 1 rfl (aB.pR (aF rfl) Tryz.underlying31 rfl (fun b hb => (aB.nil (aC.cond (b := b) rfl (fun hc1 => ?_) (fun hc1 => ?_)))))))))))))
 ·exact aC.seq (aC.region (aB.run II 1 rfl (aB.nil (aC.ret (absurd (List.map_eq_nil_iff.1 (hb hc1)) hne)))))
 ·refine aC.skip (aC.seq (aC.region (aB.c3 rfl (gw («as» := []) (aF rfl) km iz rfl rfl rfl (ft rfl) rfl rfl) (aB.run II 1 rfl (aB.c3 rfl (iF (aF rfl) km iz rfl rfl Hp.dG (fun e he => by cases he) rfl rfl (bW aR.cells (fun _ => rfl) _) rfl (by rw [List.length_map]; omega) (by rw [List.length_map]; omega)) ?_)))))
  exact aB.run II 1 rfl (aB.nil (aC.ret ⟨.inr rfl, (aE.r1 rfl (.tmp rfl .nil)).cast (by rw [List.length_map, Nat.zero_add]; rfl), rfl⟩))
theorem rf (l : List Port) (hl : l.length ≤ 1000000) (hne : l ≠ []) (H : Hp) : dW Tryz.prog 58 [.sl (l.map Port.av)] H (.os (H.next + 1) l.length 9) (rX (l.map Port.av) H) := by
 refine dW.aN Tryz.func58 rfl rfl (aF rfl) (aC.seq (aC.region (aB.run II 1 rfl (aB.nil (aC.seq (aC.seq (aC.region (aB.run II 1 rfl (aB.pR (aF rfl) Tryz.underlying48 rfl (fun b hb => (aB.nil (aC.cond (b := b) rfl (fun hc1 => ?_) (fun hc1 => ?_)))))))))))))
 ·exact aC.seq (aC.region (aB.run II 1 rfl (aB.nil (aC.ret (absurd (List.map_eq_nil_iff.1 (hb hc1)) hne)))))
 ·refine aC.skip (aC.seq (aC.region (aB.c3 rfl (gw («as» := []) (aF rfl) dH fz rfl rfl rfl (ft rfl) rfl rfl) (aB.run II 1 rfl (aB.c3 rfl (iF (aF rfl) dH fz rfl rfl Hp.dG (fun e he => by cases he) rfl rfl (bW Port.cells (fun _ => rfl) _) rfl (by rw [List.length_map]; omega) (by rw [List.length_map]; omega)) ?_)))))
  exact aB.run II 1 rfl (aB.nil (aC.ret ⟨.inr rfl, (aE.r1 rfl (.tmp rfl .nil)).cast (by rw [List.length_map, Nat.zero_add]; rfl), rfl⟩))
theorem tM (l : List al) (hl : l.length ≤ 1000000) : Pure Tryz.prog 59 [.sl (l.map al.av)] (.sl (l.map al.av)) := by
 refine Pure.aN Tryz.func59 rfl rfl (aF rfl) fun H => (aC.seq (aC.region (aB.run II 1 rfl (aB.nil (aC.seq (aC.seq (aC.region (aB.run II 1 rfl (aB.pR (aF rfl) Tryz.underlying49 rfl (fun b hb => (aB.nil (aC.cond rfl (fun hc1 => ?_) (fun hc1 => ?_)))))))))))))
 ·exact aC.seq (aC.region (aB.run II 1 rfl (aB.nil (aC.ret ⟨.inr rfl, (aE.r1 rfl (.tmp rfl .nil)).cast (by rw [hb hc1]), rfl⟩))))
 ·refine aC.skip (aC.seq (aC.region (aB.c2 rfl (az («as» := []) (aF rfl) fm eU rfl rfl rfl (ft rfl) rfl) (aB.run II 1 rfl (aB.c3 rfl (aV (aF rfl) fm rfl rfl rfl (bW al.cells (fun _ => rfl) _) rfl (by rw [List.length_map]; simp only [List.length_nil]; omega) (by rw [List.length_map]; simp only [List.length_nil]; omega)) ?_)))))
  exact aB.run II 1 rfl (aB.nil (aC.ret ⟨.inr rfl, (aE.r1 rfl (.tmp rfl .nil)).cast (by rfl), rfl⟩))
theorem tN (l : List al) (hl : l.length ≤ 1000000) (hne : l ≠ []) (H : Hp) : dW Tryz.prog 59 [.sl (l.map al.av)] H (.os (H.next + 1) l.length 13) (rX (l.map al.av) H) := by
 refine dW.aN Tryz.func59 rfl rfl (aF rfl) (aC.seq (aC.region (aB.run II 1 rfl (aB.nil (aC.seq (aC.seq (aC.region (aB.run II 1 rfl (aB.pR (aF rfl) Tryz.underlying49 rfl (fun b hb => (aB.nil (aC.cond (b := b) rfl (fun hc1 => ?_) (fun hc1 => ?_)))))))))))))
 ·exact aC.seq (aC.region (aB.run II 1 rfl (aB.nil (aC.ret (absurd (List.map_eq_nil_iff.1 (hb hc1)) hne)))))
 ·refine aC.skip (aC.seq (aC.region (aB.c3 rfl (gw («as» := []) (aF rfl) fm eU rfl rfl rfl (ft rfl) rfl rfl) (aB.run II 1 rfl (aB.c3 rfl (iF (aF rfl) fm eU rfl rfl Hp.dG (fun e he => by cases he) rfl rfl (bW al.cells (fun _ => rfl) _) rfl (by rw [List.length_map]; omega) (by rw [List.length_map]; omega)) ?_)))))
  exact aB.run II 1 rfl (aB.nil (aC.ret ⟨.inr rfl, (aE.r1 rfl (.tmp rfl .nil)).cast (by rw [List.length_map, Nat.zero_add]; rfl), rfl⟩))
def Gj (K : Hp) (xs : List AV) (e : Nat) (o : AV) (K' : Hp) : Prop := isRow K' o e xs ∧ K'.fin ∧ K.next ≤ K'.next ∧ (∀ j, j < K.next → K'.obj j = K.obj j) ∧ ∀ id, bh o = some id → K.next ≤ id ∧ id < K'.next
theorem xH {K : Hp} (hf : K.fin) (xs : List AV) (e : Nat) : Gj K xs e (.os (K.next + 1) xs.length e) (rX xs K) :=
 ⟨.inr (.inr ⟨_, rfl, nw _ _⟩), eF (jW (eF hf _) _) _, by show K.next ≤ K.next + 1 + 1; omega, fun j hj => ny _ _ hj, fun id h => (by cases h; exact ⟨by omega, by show K.next + 1 < K.next + 1 + 1; omega⟩)⟩
theorem xI {K : Hp} (hf : K.fin) (e : Nat) : Gj K [] e (.sl []) K := ⟨.inl ⟨rfl, rfl⟩, hf, Nat.le_refl _, fun _ _ => rfl, fun id h => (by cases h)⟩
theorem zi (l : List Port) (hl : l.length ≤ 1000000) (K : Hp) (hf : K.fin) : ∃ o K', dW Tryz.prog 58 [.sl (l.map Port.av)] K o K' ∧ Gj K (l.map Port.av) 9 o K' := by
 by_cases h : l = []
 ·subst h; exact ⟨_, _, mu [] hl K, xI hf 9⟩
 ·exact ⟨_, _, by have := rf l hl h K; rwa [← List.length_map (f := Port.av)] at this, xH hf _ _⟩
theorem FA (l : List al) (hl : l.length ≤ 1000000) (K : Hp) (hf : K.fin) : ∃ o K', dW Tryz.prog 59 [.sl (l.map al.av)] K o K' ∧ Gj K (l.map al.av) 13 o K' := by
 by_cases h : l = []
 ·subst h; exact ⟨_, _, tM [] hl K, xI hf 13⟩
 ·exact ⟨_, _, by have := tN l hl h K; rwa [← List.length_map (f := al.av)] at this, xH hf _ _⟩
/-! ### a row that is opened -/
def x7 (ys : List AV) : List Sv := (ys.flatMap AV.cells).map .v
theorem Aj (f : Nat) (s : St) : ∀ (l : List AV) (j : Nat), ga f s j (l.map .v) = true
 | [], _ => rfl
 | _ :: l, j => Aj f s l (j + 1)
theorem Dv (f : Nat) : ∀ (l : List AV) (j : Nat), bO f j (l.map .v) = l.map .v
 | [], _ => rfl
 | a :: l, j => by simp only [List.map_cons, bO, Dv f l (j + 1)]
theorem Dj (f : Nat) : ∀ (l : List AV) (j : Nat), cL f j (l.map .v) = []
 | [], _ => rfl
 | a :: l, j => Dj f l (j + 1)
theorem EB (s : St) : ∀ l : List AV, kc s (l.map .v) = some (l.map .v)
 | [] => rfl
 | a :: l => by simp only [List.map_cons, kc, y8, EB s l]
theorem ub : ∀ l : List AV, rowsOf (l.map .v) = []
 | [] => rfl
 | a :: l => ub l
theorem Kept.IT {s : St} {Q : St → Prop} (k id : Nat) {ys : List AV} {H : Hp} (hH : get s .h = some (.hp H)) (ho : H.obj id = some (ae ys)) (hk : get s (.b k) = none) (h : Kept ((.b k, .ob id (x7 ys)) :: (.h, .hp (H.del id)) :: s) Q) : Kept s Q := by
 refine Kept.IU k id 0 hH ho hk (Aj _ _ _ _) ?_
 unfold ae
 rw [Dv, Dj]
 exact h
theorem Kept.Ic {s : St} {Q : St → Prop} (k : Nat) {id : Nat} {ys : List AV} {H : Hp} (hk : get s (.b k) = some (.ob id (x7 ys))) (hH : get s .h = some (.hp H)) (h : Kept ((.b k, .gone) :: (.h, .hp (H.set id (ae ys))) :: s) Q) : Kept s Q := by
 refine Kept.cls k hk hH (EB _ _) (by unfold x7; rw [ub]; rfl) ?_
 unfold x7
 rw [ub]
 exact h
section
variable {P : Program} {N : Nat} {s : St} {d : Nat} {ty : TypeId} {pos : String} {af : Array Edge} {g : Option (Nat × Bool)}
theorem wJ {esz : Nat} {ys : List AV} (h : ∀ e ∈ ys, e.cells.length = esz) {i j : Nat} {cs : List AV} {c : AV} (hi : ys[i]? = some (.agg cs)) (hc : cs[j]? = some c) : (x7 ys)[i * esz + j]? = some (.v c) := by
 have hcs : cs.length = esz := h _ (List.mem_of_getElem? hi)
 have hj := (List.getElem?_eq_some_iff.1 hc).1
 unfold x7; rw [List.getElem?_map, gb h i j (.agg cs) hi (by omega)]
 simp only [AV.cells, hc, Option.map_some]
theorem nT {t1 : TypeId} {x : Operand} {k id off i f esz : Nat} {ys cs : List AV} {c : AV} (hN : d < N) (hl : lk P t1 = some (false, 1)) (hx : fq x s = some (.lp k off)) (hk : get s (.b k) = some (.ob id (x7 ys))) (hes : ∀ e ∈ ys, e.cells.length = esz) (hoff : off = i * esz + f) (he : ys[i]? = some (.agg cs)) (hc : cs[f]? = some c) :
  aY P N ⟨some d, .load t1 x, ty, pos, af, g⟩ s (rd x ++ [.b k]) [(.s d, .sv (.v c))] := by
 subst hoff
 refine FK hN hl hx hk ?_
 have h1 := wJ hes he hc
 obtain ⟨h2, h3⟩ := List.getElem?_eq_some_iff.1 h1
 rw [List.drop_eq_getElem_cons h2, h3]; rfl
theorem AW {l m : List AV} {k : Nat} {a : AV} (h : (l.map Hc.v).set k (.v a) = m.map Hc.v) : (l.map Sv.v).set k (.v a) = m.map Sv.v := by
 rw [← List.map_set] at h ⊢
 have inj : ∀ {a b : List AV}, a.map Hc.v = b.map Hc.v → a = b := fun {a b} e => by
  have := congrArg (List.map qA) e
  simpa [List.map_map, Function.comp_def, qA] using this
 rw [inj h]
theorem nR {t1 : TypeId} {x y : Operand} {k id off i f esz : Nat} {b : Bool} {ys cs : List AV} {av : AV} (hl : lk P t1 = some (b, 1)) (hx : fq x s = some (.lp k off)) (hk : get s (.b k) = some (.ob id (x7 ys))) (hy : fq y s = some (.v av)) (hfl : av.flat = true) (hes : ∀ e ∈ ys, e.cells.length = esz) (hoff : off = i * esz + f) (he : ys[i]? = some (.agg cs)) (hf : f < esz) :
  aY P N ⟨none, .store t1 x y, ty, pos, af, g⟩ s (rd x ++ (rd y ++ [.b k])) [(.b k, .ob id (x7 (ys.set i (.agg (cs.set f av)))))] := by
 subst hoff
 have hcs : cs.length = esz := hes _ (List.mem_of_getElem? he)
 obtain ⟨c, hc⟩ : ∃ c, cs[f]? = some c := ⟨_, List.getElem?_eq_getElem (by omega)⟩
 have h2 := (List.getElem?_eq_some_iff.1 (wJ hes he hc)).1
 have hce : (Sv.v av).cells = [Sv.v av] := by simp [Sv.cells, AV.fR hfl]
 have := FE (ty := ty) (pos := pos) (af := af) (g := g) (N := N) (n := 1) hl hx hk hy (by cases av <;> first | rfl | cases hfl) (by rw [hce]; rfl) (by omega)
 rw [hce] at this
 have e : setAt (x7 ys) (i * esz + f) [.v av] = x7 (ys.set i (.agg (cs.set f av))) := by
  rw [show setAt (x7 ys) (i * esz + f) [.v av] = (x7 ys).set (i * esz + f) (.v av) from by
   unfold setAt; rw [List.set_eq_take_append_cons_drop, if_pos h2]; simp]
  exact AW (lR hes he hf av)
 rwa [e] at this
end
/-! ### parts, of which the first have rows of their own -/
def nI (ps : List aR) (os : List (AV × AV)) : List AV := fW (ps.take os.length) os ++ (ps.drop os.length).map aR.av
theorem jo (ps : List aR) (os : List (AV × AV)) : ∀ e ∈ nI ps os, e.cells.length = 7 := fun e he => by
 rcases List.mem_append.1 he with h | h
 ·exact dF _ _ e h
 ·obtain ⟨p, _, rfl⟩ := List.mem_map.1 h; rfl
theorem AT {ps : List aR} {os : List (AV × AV)} {i : Nat} {p : aR} (hi : os.length = i) (hp : ps[i]? = some p) : (nI ps os)[i]? = some (.agg p.cells) := by
 subst hi
 have hlt := (List.getElem?_eq_some_iff.1 hp).1
 have h1 : (fW (ps.take os.length) os).length = os.length := by rw [lG (by simp; omega)]; simp; omega
 unfold nI
 rw [List.getElem?_append_right (by omega), h1, Nat.sub_self, List.getElem?_map, List.getElem?_drop, Nat.add_zero, hp]; rfl
theorem AS {ps : List aR} {os : List (AV × AV)} {i : Nat} {p : aR} {o : AV × AV} (hi : os.length = i) (hp : ps[i]? = some p) : (nI ps os).set i (fe p o) = nI ps (os ++ [o]) := by
 subst hi
 have hlt := (List.getElem?_eq_some_iff.1 hp).1
 have h1 : (fW (ps.take os.length) os).length = os.length := by rw [lG (by simp; omega)]; simp; omega
 have h2 : (ps.take os.length).length = os.length := by simp; omega
 unfold nI
 rw [List.set_append_right _ _ (by omega), h1, Nat.sub_self, List.length_append, List.length_singleton, List.drop_eq_getElem_cons hlt, List.map_cons, List.set_cons_zero, List.take_add_one, hp]
 show fW (ps.take os.length) os ++ (fe p o :: _) = fW (ps.take os.length ++ [p]) (os ++ [o]) ++ _
 have e2 : fW (ps.take os.length ++ [p]) (os ++ [o]) = fW (ps.take os.length) os ++ [fe p o] := by
  unfold fW
  rw [List.zipWith_append (by omega)]; rfl
 rw [e2, List.append_assoc]; rfl
structure MZ (H K : Hp) (A : Nat) (ps : List aR) (os : List (AV × AV)) : Prop where
 fin : K.fin
 nx : H.next ≤ K.next
 old : ∀ j, j < H.next → K.obj j = H.obj j
 lo : H.next ≤ A
 row : K.obj A = some (ae (nI ps os))
 ops : ∀ (i : Nat) o p, os[i]? = some o → ps[i]? = some p → isRow K o.1 13 (p.ops.map al.av) ∧ isRow K o.2 9 (p.outs.map Port.av)
 ids : ∀ (i : Nat) o id, os[i]? = some o → (bh o.1 = some id ∨ bh o.2 = some id) → H.next ≤ id ∧ id < K.next ∧ id ≠ A
 own : ∀ (i : Nat) o id, os[i]? = some o → bh o.1 = some id → bh o.2 = some id → False
 dist : ∀ (i j : Nat) o o' id, os[i]? = some o → os[j]? = some o' → (bh o.1 = some id ∨ bh o.2 = some id) → (bh o'.1 = some id ∨ bh o'.2 = some id) → i = j
theorem MZ.alt {H K : Hp} {A : Nat} {ps : List aR} {os : List (AV × AV)} (I : MZ H K A ps os) : A < K.next := by
 apply Classical.byContradiction
 intro hn
 have := I.row
 rw [I.fin A (by omega)] at this; cases this
theorem jf {α : Type} {l : List α} {x y : α} {j : Nat} (h : (l ++ [x])[j]? = some y) : (j = l.length ∧ y = x) ∨ l[j]? = some y := by
 rcases Nat.lt_or_ge j l.length with h1 | h1
 ·rw [List.getElem?_append_left h1] at h; exact .inr h
 ·rw [List.getElem?_append_right h1] at h
  cases e : j - l.length with
  | zero => rw [e] at h; simp at h; exact .inl ⟨by omega, h.symm⟩
  | succ k => rw [e] at h; simp at h
theorem MZ.next {H K K1 K2 : Hp} {A : Nat} {ps : List aR} {os : List (AV × AV)} (I : MZ H K A ps os) {p : aR} (hp : ps[os.length]? = some p) {o1 o2 : AV} (h1 : Gj (K.del A) (p.outs.map Port.av) 9 o1 K1) (h2 : Gj K1 (p.ops.map al.av) 13 o2 K2) :
  MZ H (K2.set A (ae (nI ps (os ++ [(o2, o1)])))) A ps (os ++ [(o2, o1)]) := by
 obtain ⟨a1, a2, a3, a4, a5⟩ := h1
 obtain ⟨b1, b2, b3, b4, b5⟩ := h2
 have hA := I.alt
 have a3 : K.next ≤ K1.next := a3
 have hlow : ∀ j, j < K.next → j ≠ A → (K2.set A (ae (nI ps (os ++ [(o2, o1)])))).obj j = K.obj j := fun j hj hne => by
  rw [Hp.dS hne, b4 j (by omega), a4 j hj]
  show (if j = A then none else K.obj j) = _
  rw [if_neg hne]
 refine ⟨jE b2 (by omega) _, Nat.le_trans I.nx (Nat.le_trans a3 b3), fun j hj => by rw [hlow j (by have := I.nx; omega) (by have := I.lo; omega)]; exact I.old j hj, I.lo, Hp.dG, fun i o q ho hq => ?_, fun i o id ho h => ?_, fun i o id ho g1 g2 => ?_, fun i j o o' id ho ho' g1 g2 => ?_⟩
 ·rcases jf ho with ⟨rfl, rfl⟩ | ho
  ·rw [hp] at hq; cases hq
   refine ⟨c6 b1 fun id h => ?_, c6 a1 fun id h => ?_⟩
   ·have : K1.next ≤ id := (b5 id h).1
    exact Hp.dS (by omega)
   ·have : K.next ≤ id ∧ id < K1.next := a5 id h
    rw [Hp.dS (by omega), b4 id this.2]
  ·obtain ⟨c1, c2⟩ := I.ops i o q ho hq
   exact ⟨c6 c1 fun id h => hlow id (I.ids i o id ho (.inl h)).2.1 (I.ids i o id ho (.inl h)).2.2, c6 c2 fun id h => hlow id (I.ids i o id ho (.inr h)).2.1 (I.ids i o id ho (.inr h)).2.2⟩
 ·show H.next ≤ id ∧ id < K2.next ∧ id ≠ A
  have := I.nx
  rcases jf ho with ⟨rfl, rfl⟩ | ho
  ·rcases h with h | h
   ·have := b5 id h; omega
   ·have : K.next ≤ id ∧ id < K1.next := a5 id h
    omega
  ·have := I.ids i o id ho h; omega
 ·rcases jf ho with ⟨rfl, rfl⟩ | ho
  ·have := b5 id g1
   have : K.next ≤ id ∧ id < K1.next := a5 id g2
   omega
  ·exact I.own i o id ho g1 g2
 ·have hnew : ∀ id, (bh o2 = some id ∨ bh o1 = some id) → K.next ≤ id := fun id h => by
   rcases h with h | h
   ·have := b5 id h; omega
   ·exact (a5 id h).1
  rcases jf ho with ⟨rfl, rfl⟩ | ho <;> rcases jf ho' with ⟨rfl, rfl⟩ | ho'
  ·rfl
  ·have := hnew id g1; have := I.ids j o' id ho' g2; omega
  ·have := hnew id g2; have := I.ids i o id ho g1; omega
  ·exact I.dist i j o o' id ho ho' g1 g2
theorem MZ.start {H : Hp} {ps : List aR} (hf : H.fin) : MZ H (rX (ps.map aR.av) H) (H.next + 1) ps [] :=
 ⟨eF (jW (eF hf _) _) _, by show H.next ≤ H.next + 1 + 1; omega, fun j hj => ny _ _ hj, by omega, nw _ _, fun i o p h => by simp at h, fun i o id h => by simp at h, fun i o id h => by simp at h, fun i j o o' id h => by simp at h⟩
def Hq (H : Hp) (ps : List aR) : AV → Hp → Prop := fun r K => ∃ pid A os, r = .op pid 0 ∧ H.next ≤ pid ∧ K.obj pid = some [.v (.os A ps.length 7)] ∧ (∀ j, j < H.next → K.obj j = H.obj j) ∧ FZ (fun j => j < H.next ∨ j = pid) K K A os ps
theorem MZ.end {H K : Hp} {A : Nat} {ps : List aR} {os : List (AV × AV)} (I : MZ H K A ps os) (hl : os.length = ps.length) : Hq H ps (.op K.next 0) (K.new [.v (.os A ps.length 7)]) := by
 have hA := I.alt
 have hn := I.nx
 refine ⟨K.next, A, os, rfl, I.nx, Hp.cg _ _, fun j hj => by rw [Hp.cN _ _ (by omega)]; exact I.old j hj, eF I.fin _, fun j hj => ?_, fun _ _ => rfl, ?_, hl, ?_, fun i o p h1 h2 => ?_, fun i o id h1 h2 => ?_, I.own, I.dist⟩
 ·show j < K.next + 1
  rcases hj with h | h <;> omega
 ·rintro (h | h)
  ·have := I.lo; omega
  ·omega
 ·rw [Hp.cN _ _ hA, I.row]
  unfold nI
  rw [List.take_of_length_le (by omega), List.drop_eq_nil_of_le (by omega)]; simp
 ·obtain ⟨c1, c2⟩ := I.ops i o p h1 h2
  exact ⟨c6 c1 fun id h => Hp.cN _ _ (I.ids i o id h1 (.inl h)).2.1, c6 c2 fun id h => Hp.cN _ _ (I.ids i o id h1 (.inr h)).2.1⟩
 ·have := I.ids i o id h1 h2
  refine ⟨?_, this.2.2⟩
  rintro (h | h) <;> omega
theorem nu {ys : List AV} {esz i : Nat} {cs : List AV} (h : ∀ e ∈ ys, e.cells.length = esz) (hc : cs.length = esz) : ∀ e ∈ ys.set i (.agg cs), e.cells.length = esz := fun e he => by
 rcases List.mem_or_eq_of_mem_set he with h1 | rfl
 ·exact h e h1
 ·exact hc
theorem kl {ys : List AV} {i : Nat} {cs : List AV} {e : AV} (h : ys[i]? = some e) : (ys.set i (.agg cs))[i]? = some (.agg cs) := List.getElem?_set_self (List.getElem?_eq_some_iff.1 h).1
def PB (ps : List aR) : Prop := ∀ p ∈ ps, p.ins.length ≤ 1000000 ∧ p.outs.length ≤ 1000000 ∧ p.ops.length ≤ 1000000 ∧ p.ever.length ≤ 1000000
theorem zg (ps : List aR) (hne : ps ≠ []) (hlen : ps.length ≤ 1000000) (hb : PB ps) (H : Hp) (hf : H.fin) : fw Tryz.prog 28 [bo ps] H (Hq H ps) := by
 have e0 : bo ps = .agg [.sl (ps.map aR.av)] := rfl
 refine fw.aN Tryz.func28 rfl rfl (aF rfl) (aC.seq (aC.region (aB.run II 2 rfl (aB.nil (aC.seq (aC.region (aB.run II 2 rfl (aB.c2 rfl (db (aF rfl) Fx rfl rfl (tL ps hlen hne H)) (aB.run II 3 rfl (aB.nil (aC.seq (aC.seq (aC.region (aB.run II 6 rfl (aB.nil (aC.blk (aC.aJ (Kept.aH [.s 16, .h, .s 15, .s 3, .b 10] rfl (by decide) (Kept.now (aC.aW (fun ((i, K, os) : Nat × Hp × List (AV × AV)) => [(.s 16, .sv (.v (.int .i64 (i : Int)))), (.h, .hp K), (.s 15, .sv (.v (.int .i64 (ps.length : Int))))]) _ (fun ((i, K, os) : Nat × Hp × List (AV × AV)) => MZ H K (H.next + 1) ps os ∧ os.length = i ∧ i ≤ ps.length) (fun ((i, K, os) : Nat × Hp × List (AV × AV)) => ps.length - i) (0, rX (ps.map aR.av) H, []) rfl ⟨MZ.start hf, rfl, Nat.zero_le _⟩ ?_))))))))))))))))))))
 rintro ⟨i, K, os⟩ hI
 dsimp only at hI
 refine aC.seq (aC.region (aB.run II 1 rfl (aB.nil (aC.seq (aC.cond rfl (fun hc1 => ?_) (fun hc1 => ?_))))))
 ·have hi := Hv hc1
  refine aC.skip (aC.seq (aC.blk (aC.seq (aC.region (aB.run II 2 rfl (aB.nil (aC.seq (aC.region (aB.run II 5 rfl (aB.c1 rfl (cM (aF rfl) cm rfl rfl (Int.natCast_nonneg _) (by omega)) (aB.run II 1 rfl (aB.nil ?_))))))))))))
  obtain ⟨p, hp⟩ : ∃ p, ps[i]? = some p := ⟨_, List.getElem?_eq_getElem hi⟩
  have hpb := hb p (List.mem_of_getElem? hp)
  obtain ⟨o1, K1, hR1, hC1⟩ := zi p.outs hpb.2.1 (K.del (H.next + 1)) (jW hI.1.fin _)
  obtain ⟨o2, K2, hR2, hC2⟩ := FA p.ops hpb.2.2.1 K1 hC1.2.1
  have hm := AT hI.2.1 hp
  refine aC.aJ (Kept.IT 100 (H.next + 1) rfl hI.1.row rfl (Kept.lp 5 100 rfl rfl (Kept.now (aC.drawn mixed rfl (aD.run II 7 rfl (aD.c1 rfl (nT (aF rfl) gY rfl rfl (jo _ _) rfl hm rfl) (aD.c1 rfl (aG (aF rfl) Ax rfl (mu _ hpb.1)) (aD.run II 3 rfl (aD.c1 rfl (nT (aF rfl) gY rfl rfl (jo _ _) rfl hm rfl) (aD.c2 rfl (db (aF rfl) Ax rfl rfl hR1) (aD.run II 3 rfl (aD.c1 rfl (nT (aF rfl) eh rfl rfl (jo _ _) rfl hm rfl) (aD.c2 rfl (db (aF rfl) Fw rfl rfl hR2) (aD.run II 3 rfl ?_))))))))))))))
  refine aD.c1 rfl (nT (aF rfl) vI rfl rfl (jo _ _) rfl hm rfl) (aD.c1 rfl (aG (aF rfl) Av rfl (tO _ hpb.2.2.2)) (aD.run II 2 rfl (aD.c1 rfl (nR gY rfl rfl rfl rfl (jo _ _) rfl hm (aF rfl)) (aD.run II 2 rfl (aD.c1 rfl (nR gY rfl rfl rfl (qZ hC1.1) (nu (jo _ _) rfl) rfl (kl hm) (aF rfl)) (aD.run II 2 rfl (aD.c1 rfl (nR eh rfl rfl rfl (qZ hC2.1) (nu (nu (jo _ _) rfl) rfl) rfl (kl (kl hm)) (aF rfl)) (aD.run II 2 rfl (aD.c1 rfl (nR vI rfl rfl rfl rfl (nu (nu (nu (jo _ _) rfl) rfl) rfl) rfl (kl (kl (kl hm))) (aF rfl)) (aD.nil (by kernel_rfl) (Kept.Ic 100 rfl rfl (Kept.now (aC.aJ (Kept.k6 rfl (show K2.set (H.next + 1) (ae ((((((nI ps os).set i _).set i _).set i _).set i _))) = K2.set (H.next + 1) (ae (nI ps (os ++ [(o2, o1)]))) from congrArg (fun ys => K2.set (H.next + 1) (ae ys)) (by rw [List.set_set, List.set_set, List.set_set]; exact AS (o := (o2, o1)) hI.2.1 hp)) (Kept.now ?_)))))))))))))))
  exact aC.region (aB.run II 2 rfl (aB.kept (Kept.aX 16 rfl (inc (by omega)) (Kept.aH [.s 16, .h, .s 15, .s 3, .b 10] rfl (by decide) (Kept.now (⟨(i + 1, _, os ++ [(o2, o1)]), by dsimp only; omega, ⟨hI.1.next (by rw [hI.2.1]; exact hp) hC1 hC2, by simp [hI.2.1], by omega⟩, rfl⟩))))))
 ·have hi := DL hc1
  exact aC.exit (aC.seq (aC.region (aB.run II 2 rfl (aB.kept (Kept.xn 10 rfl rfl (Kept.op 2 rfl rfl (Kept.cls 10 rfl rfl rfl rfl (Kept.now (aC.ret ⟨.inr rfl, _, _, hI.1.end (by have := hI.2; omega), aE.r1 rfl (.tmp rfl .nil), rfl⟩)))))))))
/- programs made shorter: Fuse -/
theorem GR : aa Tryz.prog 28 = true := by kernel_rfl
theorem GQ : aa Tryz.prog 29 = true := by kernel_rfl
theorem Ag {s : St} {K : Hp} {A c : Nat} {ys : List AV} {o : AV} {e : Nat} {xs : List AV} (hH : get s .h = some (.hp K)) (hA : K.obj A = some (ae ys)) (hc : (ae ys)[c]? = some (.v o)) (ho : isRow K o e xs) (hne : ∀ id, bh o = some id → id ≠ A) (hes : ∀ x ∈ xs, x.cells.length = e) :
  Kept s fun s' => (∀ c, c ≠ .h → get s' c = get s c) ∧ ∃ K', get s' .h = some (.hp K') ∧ K'.next = K.next ∧ K'.obj A = some ((ae ys).set c (.v (.sl xs))) ∧ ∀ j, j ≠ A → bh o ≠ some j → K'.obj j = K.obj j := by
 rcases ho with ⟨rfl, rfl⟩ | ⟨rfl, rfl⟩ | ⟨id, rfl, h2⟩
 ·exact Kept.now ⟨fun _ _ => rfl, K, hH, rfl, by rw [hA, fa hc], fun _ _ _ => rfl⟩
 ·exact Kept.HI A c hH hA hc (Kept.now ⟨fun c hc => by simp [get, Ne.symm hc], _, rfl, rfl, Hp.dG, fun j hj _ => Hp.dS hj⟩)
 ·refine Kept.HY A c (ys := xs) hH hA hc h2 (hne id rfl).symm hes (by rw [List.take_of_length_le]; rw [cZ hes]; exact Nat.le_refl _) (Nat.le_refl _) (Kept.now ⟨fun c hc => by simp [get, Ne.symm hc], _, rfl, rfl, ?_, fun j hj hi => ?_⟩)
  ·rw [List.take_of_length_le (Nat.le_refl _)]; exact Hp.dG
  ·rw [Hp.dS hj]
   show (if j = id then none else K.obj j) = _
   rw [if_neg fun e => hi (by rw [e]; rfl)]
def nG (all : List aR) (os : List (AV × AV)) (n : Nat) : List AV := (all.take n).map aR.av ++ (fW all os).drop n
theorem vG (all : List aR) (os : List (AV × AV)) (n : Nat) : ∀ e ∈ nG all os n, e.cells.length = 7 := fun e he => by
 rcases List.mem_append.1 he with h | h
 ·obtain ⟨p, _, rfl⟩ := List.mem_map.1 h; rfl
 ·exact dF all os e (List.mem_of_mem_drop h)
theorem AR {all : List aR} {os : List (AV × AV)} {n : Nat} {p : aR} {o : AV × AV} (hp : all[n]? = some p) (ho : os[n]? = some o) : (nG all os n)[n]? = some (fe p o) := by
 have hn := (List.getElem?_eq_some_iff.1 hp).1
 have h1 : ((all.take n).map aR.av).length = n := by simp; omega
 unfold nG
 rw [List.getElem?_append_right (by omega), h1, Nat.sub_self, List.getElem?_drop, Nat.add_zero]
 exact lH hp ho
theorem AQ {all : List aR} {os : List (AV × AV)} {n : Nat} {p : aR} (hl : os.length = all.length) (hp : all[n]? = some p) : (nG all os n).set n p.av = nG all os (n + 1) := by
 have hn := (List.getElem?_eq_some_iff.1 hp).1
 have h1 : ((all.take n).map aR.av).length = n := by simp; omega
 have hz : n < (fW all os).length := by rw [lG hl]; exact hn
 unfold nG
 rw [List.set_append_right _ _ (by omega), h1, Nat.sub_self, List.drop_eq_getElem_cons hz, List.set_cons_zero, List.take_add_one, hp]
 simp
structure FG (S : Nat → Prop) (H0 K : Hp) (M A : Nat) (os : List (AV × AV)) (all : List aR) (n : Nat) : Prop where
 nx : K.next = M
 old : ∀ i, S i → K.obj i = H0.obj i
 lo : ¬ S A
 len : os.length = all.length
 row : K.obj A = some (ae (nG all os n))
 ops : ∀ (i : Nat) o p, n ≤ i → os[i]? = some o → all[i]? = some p → isRow K o.1 13 (p.ops.map al.av) ∧ isRow K o.2 9 (p.outs.map Port.av)
 ids : ∀ (i : Nat) o id, os[i]? = some o → (bh o.1 = some id ∨ bh o.2 = some id) → ¬ S id ∧ id ≠ A
 own : ∀ (i : Nat) o id, os[i]? = some o → bh o.1 = some id → bh o.2 = some id → False
 dist : ∀ (i j : Nat) o o' id, os[i]? = some o → os[j]? = some o' → (bh o.1 = some id ∨ bh o.2 = some id) → (bh o'.1 = some id ∨ bh o'.2 = some id) → i = j
theorem H8 {s : St} {S : Nat → Prop} {H0 K : Hp} {M A : Nat} {os : List (AV × AV)} {all : List aR} {n : Nat} (hH : get s .h = some (.hp K)) (I : FG S H0 K M A os all n) (hn : n < all.length) :
  Kept s fun s' => (∀ c, c ≠ .h → get s' c = get s c) ∧ ∃ K', get s' .h = some (.hp K') ∧ FG S H0 K' M A os all (n + 1) := by
 have hl := I.len
 obtain ⟨p, hp⟩ : ∃ p, all[n]? = some p := ⟨_, List.getElem?_eq_getElem hn⟩
 obtain ⟨o, ho⟩ : ∃ o, os[n]? = some o := ⟨_, List.getElem?_eq_getElem (by omega)⟩
 obtain ⟨r1, r2⟩ := I.ops n o p (Nat.le_refl _) ho hp
 have hg := AR hp ho
 have hc1 : (ae (nG all os n))[n * 7 + 2]? = some (.v o.1) := by rw [gR (vG all os n) hg (by decide)]; rfl
 refine (Ag hH I.row hc1 r1 (fun id h => (I.ids n o id ho (.inl h)).2) (eA _)).bind fun s1 ⟨e1, K1, e2, e3, e4, e5⟩ => ?_
 have hs1 : (ae (nG all os n)).set (n * 7 + 2) (.v (.sl (p.ops.map al.av))) = ae ((nG all os n).set n (.agg ((fe p o).cells.set 2 (.sl (p.ops.map al.av))))) := lR (vG all os n) hg (by decide) _
 rw [hs1] at e4
 have hE1 := nu (i := n) (vG all os n) (cs := (fe p o).cells.set 2 (.sl (p.ops.map al.av))) rfl
 have hg1 := kl (cs := (fe p o).cells.set 2 (.sl (p.ops.map al.av))) hg
 have hc2 : (ae ((nG all os n).set n (.agg ((fe p o).cells.set 2 (.sl (p.ops.map al.av))))))[n * 7 + 3]? = some (.v o.2) := by rw [gR hE1 hg1 (by decide)]; rfl
 have r2' : isRow K1 o.2 9 (p.outs.map Port.av) := c6 r2 fun id h => e5 id (I.ids n o id ho (.inr h)).2 fun h1 => I.own n o id ho h1 h
 refine (Ag e2 e4 hc2 r2' (fun id h => (I.ids n o id ho (.inr h)).2) (jJ _)).bind fun s2 ⟨f1, K2, f2, f3, f4, f5⟩ => Kept.now ⟨fun c hc => (f1 c hc).trans (e1 c hc), K2, f2, ?_⟩
 have hs2 := lR hE1 hg1 (show 3 < 7 by decide) (.sl (p.outs.map Port.av))
 rw [hs2, List.set_set] at f4
 have hK : ∀ j, j ≠ A → bh o.1 ≠ some j → bh o.2 ≠ some j → K2.obj j = K.obj j := fun j h1 h2 h3 => (f5 j h1 h3).trans (e5 j h1 h2)
 refine ⟨f3.trans (e3.trans I.nx), fun i hi => ?_, I.lo, hl, ?_, fun i o2 p2 h1 h2 h3 => ?_, I.ids, I.own, I.dist⟩
 ·rw [hK i (fun e => I.lo (e ▸ hi)) (fun h => (I.ids n o i ho (.inl h)).1 hi) (fun h => (I.ids n o i ho (.inr h)).1 hi)]; exact I.old i hi
 ·rw [f4]
  exact congrArg (fun l => some (ae l)) (AQ hl hp)
 ·obtain ⟨c1, c2⟩ := I.ops i o2 p2 (by omega) h2 h3
  have hd : ∀ id, (bh o2.1 = some id ∨ bh o2.2 = some id) → K2.obj id = K.obj id := fun id h => hK id (I.ids i o2 id h2 h).2 (fun e => by have := I.dist i n o2 o id h2 ho h (.inl e); omega) (fun e => by have := I.dist i n o2 o id h2 ho h (.inr e); omega)
  exact ⟨c6 c1 fun id h => hd id (.inl h), c6 c2 fun id h => hd id (.inr h)⟩
theorem ED {S : Nat → Prop} {H0 : Hp} {M A : Nat} {os : List (AV × AV)} {all : List aR} : ∀ (k n : Nat) {s : St} {K : Hp} (_ : get s .h = some (.hp K)) (_ : FG S H0 K M A os all n) (_ : n + k = all.length),
  Kept s fun s' => (∀ c, c ≠ .h → get s' c = get s c) ∧ ∃ K', get s' .h = some (.hp K') ∧ FG S H0 K' M A os all all.length
 | 0, n, s, K, hH, I, hk => by
  have : n = all.length := by omega
  subst this
  exact Kept.now ⟨fun _ _ => rfl, K, hH, I⟩
 | k + 1, n, s, K, hH, I, hk => (H8 hH I (by omega)).bind fun s' ⟨h1, K', h2, I'⟩ => (ED k (n + 1) h2 I' (by omega)).bind fun s2 ⟨h3, K2, h4, I2⟩ => Kept.now ⟨fun c hc => (h3 c hc).trans (h1 c hc), K2, h4, I2⟩
theorem Kept.yd {s : St} {Q : St → Prop} (b : Nat) {S : Nat → Prop} {H0 K : Hp} {A : Nat} {os : List (AV × AV)} {all : List aR} (I : FZ S H0 K A os all) (hH : get s .h = some (.hp K)) {n : Nat} (hn : n = all.length) (hk : get s (.b b) = some (.bx [.v (.os A n 7)]))
  (h : ∀ s' K', (∀ c, c ≠ .h → c ≠ .b b → get s' c = get s c) → get s' (.b b) = some (.bx [.v (.sl (all.map aR.av))]) → get s' .h = some (.hp K') → K'.next = K.next → (∀ i, S i → K'.obj i = H0.obj i) → Q s') : Kept s Q := by
 subst hn
 have I0 : FG S H0 K K.next A os all 0 := ⟨rfl, I.old, I.lo, I.len, I.row, fun i o p _ h1 h2 => I.ops i o p h1 h2, I.ids, I.own, I.dist⟩
 refine (ED all.length 0 hH I0 (by omega)).bind fun s' ⟨h1, K', h2, I'⟩ => ?_
 have cE : K'.obj A = some (ae (all.map aR.av)) := by
  rw [I'.row]
  unfold nG
  rw [List.take_of_length_le (Nat.le_refl _), List.drop_eq_nil_of_le (by rw [lG I.len]; exact Nat.le_refl _), List.append_nil]
 refine Kept.Ai b A (ys := all.map aR.av) (cs := [.v (.os A all.length 7)]) (ds := [.v (.sl (all.map aR.av))]) (esz := 7) (by rw [h1 _ (by simp)]; exact hk) h2 cE (fun e he => by obtain ⟨p, _, rfl⟩ := List.mem_map.1 he; rfl) (by
  have e : (all.map aR.av).take all.length = all.map aR.av := List.take_of_length_le (by simp)
  simp [iG, ez, e]) (Kept.now (h _ (K'.del A) (fun c hc1 hc2 => ?_) ?_ ?_ I'.nx fun i hi => ?_))
 ·simp [get, Ne.symm hc1, Ne.symm hc2]; exact h1 c hc1
 ·simp [get]
 ·simp [get]
 ·show (if i = A then none else K'.obj i) = _
  rw [if_neg (fun e : i = A => I'.lo (e ▸ hi))]; exact I'.old i hi
/-! ### all steps -/
def xZ (all : List aR) (i : Nat) : Option (List aR) := dx (fun i p => (gQ all p).map fun q => all.set i q) i (all.drop i)
theorem qN {all : List aR} {i : Nat} {p : aR} (h : all[i]? = some p) : xZ all i = ((gQ all p).map fun q => all.set i q).orElse fun _ => xZ all (i + 1) := by
 obtain ⟨h1, h2⟩ := List.getElem?_eq_some_iff.1 h
 unfold xZ; rw [List.drop_eq_getElem_cons h1, dx, h2]
theorem zB {all : List aR} {i : Nat} (h : all.length ≤ i) : xZ all i = none := by
 unfold xZ; rw [List.drop_of_length_le h, dx]
theorem qm : ∀ (n : Nat) (l : List aR) (m : Nat), iE l ≤ n → iE l ≤ m → hD n l = hD m l
 | 0, l, m, h1, h2 => by
  have hn : fI l = none := by
   cases e : fI l with
   | none => rfl
   | some r => have := (fZ e).2; omega
  cases m with
  | zero => rfl
  | succ m => simp only [hD, hn]
 | n + 1, l, m, h1, h2 => by
  cases e : fI l with
  | none =>
   cases m with
   | zero => simp only [hD, e]
   | succ m => simp only [hD, e]
  | some r =>
   have := (fZ e).2
   obtain ⟨m, rfl⟩ : ∃ k, m = k + 1 := ⟨m - 1, by omega⟩
   simp only [hD, e]
   exact qm n r m (by omega) (by omega)
theorem yb {l r : List aR} (h : fI l = some r) : m6 l = m6 r := by
 have := (fZ h).2
 unfold m6
 obtain ⟨k, hk⟩ : ∃ k, iE l = k + 1 := ⟨iE l - 1, by omega⟩
 rw [hk, hD, h]
 exact qm k r _ (by omega) (Nat.le_refl _)
theorem yc {l : List aR} (h : fI l = none) : m6 l = l := by
 unfold m6
 cases e : iE l with
 | zero => rfl
 | succ k => rw [hD, h]
def FB (all : List aR) : Prop := ∀ p ∈ all, p.ops.length ≤ 1000000 ∧ p.outs.length ≤ 1000000 ∧ ∀ x ∈ p.ops, x.regs.length ≤ 1000000 ∧ (x.kind = 4 → 0 ≤ x.part ∧ x.part < (all.length : Int) ∧ (all.getD x.part.toNat bY).ins ≠ [])
def wi (x y : al) : Prop := x.kind = y.kind ∧ x.part = y.part ∧ x.regs.length = y.regs.length
theorem vl (x : al) : wi x.clean x := by
 unfold al.clean wi; repeat' split
 all_goals exact ⟨rfl, rfl, rfl⟩
theorem zN (u v : Int) (x : al) : wi (x.cS u v) x := by
 have := vl ({ x with a := qF u v x.a, b := qF u v x.b, c := qF u v x.c, regs := x.regs.map (qF u v) } : al)
 exact ⟨this.1, this.2.1, this.2.2.trans (List.length_map ..)⟩
def kJ (p q : aR) : Prop := ∀ x ∈ q.ops, ∃ y ∈ p.ops, wi x y
theorem kJ.drop (p : aR) (a : List Int) : kJ p (p.drop a) := fun x hx => ⟨x, (cc a p.ops 0).mem hx, rfl, rfl, rfl⟩
theorem kJ.cS {p q : aR} (h : kJ p q) (u v : Int) : kJ p (q.cS u v) := fun x hx => by
 obtain ⟨z, h1, rfl⟩ := List.mem_map.1 hx
 obtain ⟨y, h2, h3⟩ := h z h1
 have := zN u v z
 exact ⟨y, h2, this.1.trans h3.1, this.2.1.trans h3.2.1, this.2.2.trans h3.2.2⟩
theorem uo {all : List aR} {p q : aR} {i k : Nat} {x y : al} (hx : p.ops[i]? = some x) (h : e8 all p i k x y = some q) : kJ p q := by
 unfold e8 at h
 split at h
 ·cases h
  intro z hz
  have := (cc [(k : Int)] (p.ops.set i (nA x y)) 0).mem hz
  rcases List.mem_or_eq_of_mem_set this with h1 | rfl
  ·exact ⟨z, h1, rfl, rfl, rfl⟩
  ·exact ⟨x, List.mem_of_getElem? hx, rfl, rfl, rfl⟩
 ·split at h
  ·cases h; exact (kJ.drop _ _).cS _ _
  ·split at h
   ·cases h; exact ((kJ.drop _ _).cS _ _).cS _ _
   ·split at h
    ·cases h; exact (kJ.drop _ _).cS _ _
    ·cases h
theorem sq {all : List aR} {p q : aR} (h : gQ all p = some q) : kJ p q := by
 obtain ⟨i, x, h1, h2⟩ := dD h
 rw [Nat.zero_add] at h2
 split at h2
 ·cases h2; exact kJ.drop _ _
 ·obtain ⟨k, y, h3, h4⟩ := dD h2
  exact uo h1 h4
theorem FB.next {all : List aR} {i : Nat} {p q : aR} (h : FB all) (hp : all[i]? = some p) (hq : gQ all p = some q) : FB (all.set i q) := by
 have hL := mn hq
 have hin : ∀ j : Nat, ((all.set i q).getD j bY).ins = (all.getD j bY).ins := fun j => by
  rw [List.getD_eq_getElem?_getD, List.getD_eq_getElem?_getD, List.getElem?_set]
  split
  ·rename_i e; subst e
   have := (List.getElem?_eq_some_iff.1 hp).1
   rw [if_pos this, hp]; exact hL.ins
  ·rfl
 have key : ∀ x : al, (x.kind = 4 → 0 ≤ x.part ∧ x.part < (all.length : Int) ∧ (all.getD x.part.toNat bY).ins ≠ []) → x.kind = 4 → 0 ≤ x.part ∧ x.part < ((all.set i q).length : Int) ∧ ((all.set i q).getD x.part.toNat bY).ins ≠ [] := fun x hx hk => by
  rw [List.length_set, hin]; exact hx hk
 intro r hr
 rcases List.mem_or_eq_of_mem_set hr with h1 | rfl
 ·obtain ⟨a1, a2, a3⟩ := h r h1
  exact ⟨a1, a2, fun x hx => ⟨(a3 x hx).1, key x (a3 x hx).2⟩⟩
 ·obtain ⟨a1, a2, a3⟩ := h p (List.mem_of_getElem? hp)
  refine ⟨by have := hL.len; omega, by rw [hL.outs]; exact a2, fun x hx => ?_⟩
  obtain ⟨y, h1, h2, h3, h4⟩ := sq hq x hx
  refine ⟨by rw [h4]; exact (a3 y h1).1, key x fun hk => ?_⟩
  rw [h3]; exact (a3 y h1).2 (by rw [← h2]; exact hk)
theorem z8 {D : Nat → Prop} (ps : List aR) : bE D (bo ps) := .agg _ (ah.cons (.sl _ (ah.map fun y _ => y.lZ)) ah.nil)
theorem Eb (ps : List aR) (hne : ps ≠ []) (hlen : ps.length ≤ 1000000) (hb : PB ps) (hfb : FB ps) : Pure Tryz.prog 19 [bo ps] (bo (m6 ps)) := by
 have e0 : bo ps = .agg [.sl (ps.map aR.av)] := rfl
 refine fun H => dW.fin fun hfin => (dW.nY Tryz.func19 rfl rfl (aF rfl) (z8 _) (aC.seq (aC.region (aB.run II 2 rfl (aB.nil (aC.scope (aC.seq (aC.region (aB.run II 1 rfl (aB.dh (aF rfl) GR rfl rfl (zg ps hne hlen hb H hfin) (fun r1 K1 hP1 => ?_)))))))))))
 obtain ⟨pid, A, os0, rfl, hpid, hPO, hold, hZ⟩ := hP1
 refine aB.run II 1 rfl (aB.nil (aC.seq (aC.label (aC.seq (aC.blk (aC.aJ (Kept.aH [.h, .s 3, .b 2, .s 2] rfl (by decide) (Kept.now (aC.aW (fun ((K, os, all) : Hp × List (AV × AV) × List aR) => [(.h, .hp K), (.s 3, .sv (.v (.op pid 0))), (.b 2, .bx [.v (.sl [])])]) _ (fun ((K, os, all) : Hp × List (AV × AV) × List aR) => FZ (fun j => j < H.next ∨ j = pid) K1 K A os all ∧ m6 all = m6 ps ∧ FB all ∧ all.length = ps.length) (fun ((K, os, all) : Hp × List (AV × AV) × List aR) => iE all) (K1, os0, ps) rfl ⟨hZ, rfl, hfb, rfl⟩ ?_)))))))))
 rintro ⟨K, os, all⟩ hI
 dsimp only at hI
 refine aC.blk (aC.seq (aC.seq (aC.region (aB.run II 3 rfl (aB.c1 rfl (dI (aF rfl) rr rfl rfl ((hI.1.old _ (.inr rfl)).trans hPO) rfl) (aB.run II 2 rfl (aB.nil (aC.blk (aC.aJ (Kept.aH [.s 12, .h, .s 2, .b 2, .s 3, .s 11] rfl (by decide) (Kept.now (aC.aW (fun (i : Nat) => [(.s 12, .sv (.v (.int .i64 (i : Int))))]) _ (fun (i : Nat) => xZ all i = fI all) (fun (i : Nat) => ps.length - i) 0 rfl rfl ?_))))))))))))
 rintro i hJ
 refine aC.seq (aC.region (aB.run II 1 rfl (aB.nil (aC.seq (aC.cond rfl (fun hc1 => ?_) (fun hc1 => ?_))))))
 ·have hi := Hv hc1
  obtain ⟨p, hp⟩ : ∃ p, all[i]? = some p := ⟨_, List.getElem?_eq_getElem (by have := hI.2.2.2; omega)⟩
  obtain ⟨o, ho⟩ : ∃ o, os[i]? = some o := ⟨_, List.getElem?_eq_getElem (by have := hI.1.len; have := hI.2.2.2; omega)⟩
  have hB := hI.2.2.1 p (List.mem_of_getElem? hp)
  refine aC.skip (aC.seq (aC.blk (aC.seq (aC.region (aB.run II 2 rfl (aB.nil (aC.seq (aC.region (aB.run II 4 rfl (aB.c1 rfl (dI (aF rfl) rr rfl rfl ((hI.1.old _ (.inr rfl)).trans hPO) rfl) (aB.run II 1 rfl (aB.c1 rfl (cM (aF rfl) cm rfl rfl (Int.natCast_nonneg _) (by omega)) (aB.dh (aF rfl) GQ rfl rfl (yg hI.1 hp ho hB.1 hB.2.1 (fun x hx => (hB.2.2 x hx).1) (.inr rfl) (by rw [hI.2.2.2]; exact hPO) (fun x hx => (hB.2.2 x hx).2)) (fun r2 K2 hP2 => ?_))))))))))))))
  obtain ⟨b, rfl, hR⟩ := wU hP2
  refine aB.nil (aC.cond rfl (fun hc2 => ?_) (fun hc2 => ?_))
  ·refine aC.aJ (Kept.aH [.h, .s 3, .b 2, .s 2] rfl (by decide) (Kept.now (aC.exit ?_)))
   obtain ⟨q, hq, hN, os2, hZ2⟩ := hR.2 hc2
   have hs : fI all = some (all.set i q) := by rw [← hJ, qN hp, hq]; rfl
   exact ⟨(K2, os2, all.set i q), (fZ hs).2, ⟨hZ2, (yb hs).symm.trans hI.2.1, hI.2.2.1.next hp hq, by rw [List.length_set]; exact hI.2.2.2⟩, rfl⟩
  ·obtain ⟨hq, rfl⟩ := hR.1 hc2
   exact aC.skip (aC.region (aB.run II 2 rfl (aB.kept (Kept.aX 12 rfl (inc (by omega)) (Kept.aH [.s 12, .h, .s 2, .b 2, .s 3, .s 11] rfl (by decide) (Kept.now ⟨i + 1, by omega, by rw [← hJ, qN hp, hq]; rfl, rfl⟩))))))
 ·have hi := DL hc1
  have hsn : fI all = none := by rw [← hJ, zB (by have := hI.2.2.2; omega)]
  iterate 2 (refine aC.exit ?_)
  exact aC.seq (aC.region (aB.run II 2 rfl (aB.c1 rfl (dI (aF rfl) cx rfl rfl ((hI.1.old _ (.inr rfl)).trans hPO) rfl) (aB.run II 1 rfl (aB.kept (Kept.yd 2 hI.1 rfl hI.2.2.2.symm rfl (fun s2 K2 e1 e2 e3 e4 e5 => (aC.ret ⟨.inr rfl, (aE.r1 rfl (.cell cx (zk ((e1 (.s 2) (by decide) (by decide)).trans rfl)) e2 rfl rfl .nil)).cast (by rw [← hI.2.1, yc hsn]; rfl), K2, e3, (by rw [e4]; exact Nat.le_of_not_lt fun h => Nat.lt_irrefl _ (hI.1.sN _ (.inl h))), fun i hi => (e5 i (.inl hi)).trans (hold i hi)⟩))))))))
open Go Go.RowKit
/- Plain laws: how great the parts of a migration are; those ahead of the steps stay. No condition. -/
theorem ml (p : aR) (x : aP) : (aO p x).ins = p.ins := by
 unfold aO
 dsimp only
 repeat' split
 all_goals rfl
theorem rR (p : aR) (x : aP) : p.regs ≤ (aO p x).regs ∧ (aO p x).regs ≤ p.regs + 2 := by
 unfold aO
 dsimp only
 repeat' split
 all_goals (dsimp only; omega)
structure Stepped (w w' : fB) (m : aU) (k : Nat) (p p' : aR) : Prop where
 nm : w.names[k]? = some m.name
 nm' : w'.names[k]? = some m.name
 fit : Fit w.names p m
 at_ : w.all[k]? = some p
 ins : p'.ins = p.ins
 rl : p.regs ≤ p'.regs
 ru : p'.regs ≤ p.regs + 2
 all : w'.all = w.all.set k p' ∨ ∃ (y : Port) (nm : aw), y ∈ p.outs ∧ w'.all = w.all.set k p' ++ [bV { bY with name := nm, born := true, regs := 1, ins := [{ y with reg := 0 }], outs := [{ y with reg := 0 }] }]
theorem Inv.wK {s t : aM} {x : aP} {m : aU} {at_ : Nat} {w : fB} (I : Inv s w) (A : cB s x t m at_) : ∃ k p p', Stepped w (w.step x) m k p p' := by
 have hm : m ∈ s.msgs := List.mem_of_getElem? A.eq
 obtain ⟨k, p, k1, k2, hF⟩ := I.fwd m hm
 have hne : m.name ≠ [] := gx (A.fL.nm m hm)
 have hk : k < w.all.length := (List.getElem?_eq_some_iff.1 k2).1
 have hkn : k < w.names.length := (List.getElem?_eq_some_iff.1 k1).1
 have hix : cP w.names x.msg = k := ia (by rw [← A.nm]; exact k1) fun j hj => I.uniq j k _ hj (by rw [← A.nm]; exact k1) (by rw [← A.nm]; exact hne)
 have hgd : w.all.getD k bY = p := by rw [List.getD_eq_getElem?_getD, k2]; rfl
 by_cases h6 : x.kind = 6
 ·have hhas : m.eD x.field = true := by have := A.has; simpa [aP.bg, h6] using this
  have hh := en hhas
  obtain ⟨q1, q2, q3⟩ := fJ hF.outs ⟨_, hh.1, hh.2⟩
  let wp : aR := bV { bY with name := x.dest, born := true, regs := 1, ins := [{ aL p.outs x.field with reg := 0 }], outs := [{ aL p.outs x.field with reg := 0 }] }
  let g : Port := ⟨{ dg with name := x.also, num := x.num, ty := 15, ref := x.dest }, p.regs, w.all.length⟩
  let p' : aR := { p with ops := p.ops ++ [{ gE with kind := 4, a := (aL p.outs x.field).reg, b := p.regs, part := w.all.length }], regs := p.regs + 1, outs := bN (aT p.outs x.field) g }
  have hst : w.step x = ⟨(w.all ++ [wp]).set k (bV p'), w.names ++ [x.dest]⟩ := by
   unfold fB.step
   simp only [hix, h6, if_true, au, hgd, show ¬ (6 : Int) = 7 by decide, if_false]
   congr 1
   rw [List.getD_eq_getElem?_getD, List.getElem?_set_self (by simp; omega)]
   simp only [Option.getD_some, List.set_set]
   rfl
  refine ⟨k, p, bV p', k1, ?_, hF, k2, rfl, ?_, ?_, .inr ⟨_, x.dest, q1, ?_⟩⟩
  ·rw [hst]; show (w.names ++ [x.dest])[k]? = _
   rw [List.getElem?_append_left hkn]; exact k1
  ·show p.regs ≤ p.regs + 1; omega
  ·show p.regs + 1 ≤ p.regs + 2; omega
  ·rw [hst]; show (w.all ++ [wp]).set k (bV p') = _
   rw [List.set_append, if_pos hk]
 ·by_cases h7 : x.kind = 7
  ·have hhas : m.eD x.field = true := by have := A.has; simpa [aP.bg, h7] using this
   have hh := en hhas
   obtain ⟨q1, q2, q3⟩ := fJ hF.outs ⟨_, hh.1, hh.2⟩
   have q2 : (aL p.outs x.field).f = m.aQ x.field := q2
   obtain ⟨m2, g, j2, B⟩ := A.boxed h7
   obtain ⟨j, hj1, hj2⟩ := (hF.part _ q1).1 (by rw [q2]; exact B.ty)
   rw [q2] at hj2
   have hpart : (aL p.outs x.field).part.toNat = j := by rw [hj1]; simp
   have hkk : k ≠ j := fun e => by
    rw [e, hj2] at k1
    injection k1 with k1
    exact B.ne k1
   obtain ⟨p2, hg2⟩ : ∃ p2, w.all.getD j bY = p2 := ⟨_, rfl⟩
   let g' : Port := { (p2.outs.headD gU) with reg := p.regs }
   let p' : aR := { p with ops := p.ops ++ [{ gE with kind := 5, a := (aL p.outs x.field).reg, b := p.regs, part := (aL p.outs x.field).part }], regs := p.regs + 1, outs := bN (aT p.outs x.field) g' }
   have hst : w.step x = ⟨w.all.set k (bV p'), w.names.set j []⟩ := by
    unfold fB.step
    simp only [hix, h7, if_true, if_false, au, hgd, hpart, hg2, show ¬ (7 : Int) = 6 by decide]
    congr 1
    rw [List.getD_eq_getElem?_getD, List.getElem?_set_self hk]
    simp only [Option.getD_some, List.set_set]
    rfl
   refine ⟨k, p, bV p', k1, ?_, hF, k2, rfl, ?_, ?_, .inl ?_⟩
   ·rw [hst]; show (w.names.set j [])[k]? = _
    rw [List.getElem?_set_ne (fun q => hkk q.symm)]; exact k1
   ·show p.regs ≤ p.regs + 1; omega
   ·show p.regs + 1 ≤ p.regs + 2; omega
   ·rw [hst]
  ·have hst : w.step x = ⟨w.all.set k (bV (aO p x)), w.names⟩ := by
    unfold fB.step
    simp only [hix, h6, h7, if_false, au, hgd]
    congr 1
    rw [List.getD_eq_getElem?_getD, List.getElem?_set_self hk]
    simp
   have hr := rR p x
   exact ⟨k, p, bV (aO p x), k1, by rw [hst]; exact k1, hF, k2, ml p x, hr.1, hr.2, .inl (by rw [hst])⟩
structure sV (w : fB) (n : Nat) : Prop where
 len : w.all.length ≤ 6 + n
 sides : ∀ p ∈ w.all, p.ins.length ≤ 10 ∧ p.outs.length ≤ 10
 regs : ∀ p ∈ w.all, 0 ≤ p.regs ∧ p.regs ≤ 10 + 2 * (n : Int)
 ew : ∀ p ∈ w.all, ∀ x ∈ p.ins ++ p.outs, 0 ≤ x.reg ∧ x.reg < p.regs ∧ x.part < w.all.length ∧ -1 ≤ x.part
theorem Fit.HX {names : List aw} {p : aR} {m : aU} {t : aM} (h : Fit names p m) (ht : t.tU) (hm : m ∈ t.msgs) : p.outs.length ≤ 10 ∧ ∀ x ∈ p.outs, 0 ≤ x.reg ∧ x.reg < p.regs ∧ x.part < names.length ∧ -1 ≤ x.part := by
 refine ⟨?_, fun x hx => ?_⟩
 ·have := ht.sm.f m hm
  rw [← h.outs, List.length_map] at this; exact this
 ·have hr := h.reg x hx
  have hp := h.part x hx
  by_cases e : x.f.ty = 15
  ·obtain ⟨j, h1, h2⟩ := hp.1 e
   have := (List.getElem?_eq_some_iff.1 h2).1
   omega
  ·have := hp.2 e
   omega
theorem Inv.live {t : aM} {w : fB} (I : Inv t w) {k : Nat} {n : aw} (h : w.names[k]? = some n) (hn : n ≠ []) : ∃ m ∈ t.msgs, m.name = n ∧ ∃ p, w.all[k]? = some p ∧ Fit w.names p m := by
 obtain ⟨m, hm, e⟩ := I.back k n h hn
 obtain ⟨k', p, h1, h2, h3⟩ := I.fwd m hm
 have : k' = k := I.uniq k' k n (by rw [h1, e]) h hn
 subst this
 exact ⟨m, hm, e, p, h2, h3⟩
theorem sV.step {s t : aM} {x : aP} {m : aU} {at_ : Nat} {w : fB} {n : Nat} (B : sV w n) (I : Inv s w) (A : cB s x t m at_) (I' : Inv t (w.step x)) : sV (w.step x) (n + 1) := by
 obtain ⟨k, p, p', S⟩ := I.wK A
 have hne : m.name ≠ [] := gx (A.fL.nm m (List.mem_of_getElem? A.eq))
 have hk : k < w.all.length := (List.getElem?_eq_some_iff.1 S.at_).1
 have hpm : p ∈ w.all := List.mem_of_getElem? S.at_
 have hlen : w.all.length ≤ (w.step x).all.length ∧ (w.step x).all.length ≤ w.all.length + 1 := by
  rcases S.all with e | ⟨y, nm, _, e⟩ <;> rw [e] <;> simp
 have hmem : ∀ q ∈ (w.step x).all, q = p' ∨ q ∈ w.all ∨ ∃ (y : Port) (nm : aw), y ∈ p.outs ∧ q = bV { bY with name := nm, born := true, regs := 1, ins := [{ y with reg := 0 }], outs := [{ y with reg := 0 }] } := by
  intro q hq
  have hs : ∀ q ∈ w.all.set k p', q = p' ∨ q ∈ w.all := fun q hq => by
   rcases List.mem_or_eq_of_mem_set hq with h | h
   ·exact .inr h
   ·exact .inl h
  rcases S.all with e | ⟨y, nm, hy, e⟩
  ·rw [e] at hq
   rcases hs q hq with h | h
   ·exact .inl h
   ·exact .inr (.inl h)
  ·rw [e] at hq
   rcases List.mem_append.1 hq with hq | hq
   ·rcases hs q hq with h | h
    ·exact .inl h
    ·exact .inr (.inl h)
   ·exact .inr (.inr ⟨y, nm, hy, by simpa using hq⟩)
 obtain ⟨m', hm', e', p2, h2, F2⟩ := I'.live S.nm' hne
 have hp2 : p2 = p' := by
  have hk' : (w.step x).all[k]? = some p' := by
   rcases S.all with e | ⟨y, nm, _, e⟩
   ·rw [e, List.getElem?_set_self hk]
   ·rw [e, List.getElem?_append_left (by simpa using hk), List.getElem?_set_self hk]
  rw [hk'] at h2; cases h2; rfl
 subst hp2
 have g2 := F2.HX I'.ok hm'
 have hl' := I'.len
 have bp := B.regs p hpm
 have hrl := S.rl
 have hru := S.ru
 have hB := B.len
 refine ⟨by omega, fun q hq => ?_, fun q hq => ?_, fun q hq z hz => ?_⟩
 ·rcases hmem q hq with rfl | h | ⟨y, nm, hy, rfl⟩
  ·exact ⟨by rw [S.ins]; exact (B.sides p hpm).1, g2.1⟩
  ·exact B.sides q h
  ·exact ⟨by show 1 ≤ 10; omega, by show 1 ≤ 10; omega⟩
 ·rcases hmem q hq with rfl | h | ⟨y, nm, hy, rfl⟩
  ·omega
  ·have := B.regs q h; omega
  ·show (0 : Int) ≤ 1 ∧ (1 : Int) ≤ _; omega
 ·rcases hmem q hq with rfl | h | ⟨y, nm, hy, rfl⟩
  ·rcases List.mem_append.1 hz with hz | hz
   ·rw [S.ins] at hz
    have := B.ew p hpm z (List.mem_append_left _ hz)
    omega
   ·have := g2.2 z hz
    omega
  ·have := B.ew q h z hz
   omega
  ·have hz : z = { y with reg := 0 } := by
    have hz : z ∈ [({ y with reg := 0 } : Port)] ++ [{ y with reg := 0 }] := hz
    simpa using hz
   have := B.ew p hpm y (List.mem_append_right _ hy)
   subst hz
   show (0 : Int) ≤ 0 ∧ (0 : Int) < 1 ∧ y.part < _ ∧ -1 ≤ y.part
   omega
theorem sV.begin {s : aM} (hs : s.tU) : sV (gG s) 0 := by
 have hl : (gG s).all.length = s.msgs.length := by simp [gG, bb]
 have hm := hs.sm.m
 have hmem : ∀ p ∈ (gG s).all, ∃ m ∈ s.msgs, p.ins = bM s m ∧ p.outs = bM s m ∧ p.regs = m.fields.length := fun p hp => by
  obtain ⟨m, h1, rfl⟩ := List.mem_map.1 hp
  exact ⟨m, h1, rfl, rfl, rfl⟩
 have hpl : ∀ m, (bM s m).length = m.fields.length := fun m => by simp [bM]
 refine ⟨by omega, fun p hp => ?_, fun p hp => ?_, fun p hp x hx => ?_⟩
 ·obtain ⟨m, h1, h2, h3, h4⟩ := hmem p hp
  have := hs.sm.f m h1
  rw [h2, h3, hpl]; omega
 ·obtain ⟨m, h1, h2, h3, h4⟩ := hmem p hp
  have := hs.sm.f m h1
  rw [h4]; omega
 ·obtain ⟨m, h1, h2, h3, h4⟩ := hmem p hp
  have hx : x ∈ bM s m := by
   rw [h2, h3] at hx
   rcases List.mem_append.1 hx with h | h <;> exact h
  obtain ⟨k, a1, a2, a3, a4⟩ := mJ hx
  have hpt : x.part < s.msgs.length ∧ -1 ≤ x.part := by
   rw [a4]
   split
   ·rcases bB (fun m : aU => m.name == x.f.ref) s.msgs 0 with ⟨h1, h2⟩ | ⟨i, hi, h1, h2⟩
    ·have : s.bD x.f.ref = -1 := h1
     omega
    ·have : s.bD x.f.ref = ((0 + i : Nat) : Int) := h1
     omega
   ·omega
  omega
theorem mB.begin (s : aM) : mB s (gG s) := ⟨fun k m h => ⟨bV { bY with name := m.name, ins := bM s m, outs := bM s m, regs := m.fields.length }, by simp [gG, bb, h], rfl, Int.le_refl _⟩⟩
theorem mB.step {r s t : aM} {x : aP} {m : aU} {at_ : Nat} {w : fB} (B : mB r w) (I : Inv s w) (A : cB s x t m at_) : mB r (w.step x) := by
 obtain ⟨k, p, p', S⟩ := I.wK A
 have hk : k < w.all.length := (List.getElem?_eq_some_iff.1 S.at_).1
 refine ⟨fun i y hy => ?_⟩
 obtain ⟨q, h1, h2, h3⟩ := B.ins i y hy
 have hi : i < w.all.length := (List.getElem?_eq_some_iff.1 h1).1
 have hget : (w.step x).all[i]? = (w.all.set k p')[i]? := by
  rcases S.all with e | ⟨z, nm, _, e⟩
  ·rw [e]
  ·rw [e, List.getElem?_append_left (by simpa using hi)]
 rw [hget]
 by_cases e : i = k
 ·subst e
  rw [S.at_] at h1; cases h1
  exact ⟨p', List.getElem?_set_self hk, by rw [S.ins]; exact h2, Int.le_trans h3 S.rl⟩
 ·exact ⟨q, by rw [List.getElem?_set_ne (fun h => e h.symm)]; exact h1, h2, h3⟩
theorem rF : ∀ {l : List aP} {r s : aM} {acc L : List aM} {w : fB} {n : Nat}, Inv s w → sV w n → mB r w → aM.dO l s acc = .ok L → sV (l.foldl fB.step w) (n + l.length) ∧ mB r (l.foldl fB.step w)
 | [], r, s, acc, L, w, n, I, B, C, h => ⟨B, C⟩
 | x :: l, r, s, acc, L, w, n, I, B, C, h => by
  unfold aM.dO at h
  cases e : s.apply x with
  | error k => rw [e] at h; cases h
  | ok t =>
   rw [e] at h
   have I' := I.step e
   obtain ⟨m, at_, A⟩ := gg e
   have := rF I' (B.step I A I') (C.step I A) h
   have e2 : n + (x :: l).length = n + 1 + l.length := by simp; omega
   rw [e2]; exact this
theorem D9 {s : aM} {l : List aP} {L : List aM} (h : s.all l = .ok L) : sV (l.foldl fB.step (gG s)) l.length ∧ mB s (l.foldl fB.step (gG s)) := by
 unfold aM.all at h
 split at h
 ·cases h
 rename_i h1
 split at h
 ·cases h
 have hs := aM.gF (by simpa using h1)
 have := rF (Inv.begin hs) (sV.begin hs) (mB.begin s) h
 simpa using this
/- Plain laws: the parts of a migration are such as can be made shorter; how much they cost. No condition. -/
theorem zK {w : fB} {x : aP} {k : Nat} {p : aR} (W : nB w x k p) : ∃ P' tl, (w.step x).all = (w.all ++ tl).set k (bV P') ∧ P'.ins = p.ins ∧ tl.length ≤ 1 ∧ (∀ q ∈ tl, q.ops = [] ∧ q.ins ≠ []) ∧
  ∀ y ∈ P'.ops, y ∈ p.ops ∨ (y.regs.length ≤ x.names.length ∧ y.dv.s.length ≤ x.dv.s.length ∧ (y.kind = 4 → y.part = (w.all.length : Int) ∧ tl ≠ [])) := by
 have hk := (List.getElem?_eq_some_iff.1 W.pt).1
 have hgd : w.all.getD k bY = p := by rw [List.getD_eq_getElem?_getD, W.pt]; rfl
 have e : (w.step x).all = (au w.all k x).set k (bV ((au w.all k x).getD k bY)) := by
  show (au w.all (cP w.names x.msg) x).set (cP w.names x.msg) (bV ((au w.all (cP w.names x.msg) x).getD (cP w.names x.msg) bY)) = _
  rw [W.ix]
 have key : ∀ (all : List aR) (P : aR), k < all.length → (all.set k P).set k (bV ((all.set k P).getD k bY)) = all.set k (bV P) := fun all P h => by
  rw [List.getD_eq_getElem?_getD, List.getElem?_set_self h, List.set_set]; rfl
 by_cases h6 : x.kind = 6
 ·refine ⟨{ p with ops := p.ops ++ [{ gE with kind := 4, a := (aL p.outs x.field).reg, b := p.regs, part := w.all.length }], regs := p.regs + 1, outs := bN (aT p.outs x.field) ⟨{ dg with name := x.also, num := x.num, ty := 15, ref := x.dest }, p.regs, w.all.length⟩ }, [bV { bY with name := x.dest, born := true, regs := 1, ins := [{ aL p.outs x.field with reg := 0 }], outs := [{ aL p.outs x.field with reg := 0 }] }], ?_, rfl, Nat.le_refl _, ?_, ?_⟩
  ·rw [e]
   unfold au
   simp only [h6, if_true, hgd]
   exact key _ _ (by simp; omega)
  ·intro q hq
   rw [List.mem_singleton.1 hq]
   exact ⟨rfl, List.cons_ne_nil _ _⟩
  ·intro y hy
   rcases List.mem_append.1 hy with h | h
   ·exact .inl h
   ·rw [List.mem_singleton.1 h]
    exact .inr ⟨Nat.zero_le _, Nat.zero_le _, fun _ => ⟨rfl, List.cons_ne_nil _ _⟩⟩
 ·by_cases h7 : x.kind = 7
  ·refine ⟨{ p with ops := p.ops ++ [{ gE with kind := 5, a := (aL p.outs x.field).reg, b := p.regs, part := (aL p.outs x.field).part }], regs := p.regs + 1, outs := bN (aT p.outs x.field) { ((w.all.getD (aL p.outs x.field).part.toNat bY).outs.headD gU) with reg := p.regs } }, [], ?_, rfl, Nat.zero_le _, fun q hq => (by cases hq), ?_⟩
   ·rw [e, List.append_nil]
    unfold au
    simp only [h7, show ¬ (7 : Int) = 6 by decide, if_true, if_false, hgd]
    exact key _ _ hk
   ·intro y hy
    rcases List.mem_append.1 hy with h | h
    ·exact .inl h
    ·rw [List.mem_singleton.1 h]
     exact .inr ⟨Nat.zero_le _, Nat.zero_le _, fun h => (by simp at h)⟩
  ·refine ⟨aO p x, [], ?_, ml p x, Nat.zero_le _, fun q hq => (by cases hq), ?_⟩
   ·rw [e, List.append_nil]
    unfold au
    simp only [h6, h7, if_false, hgd]
    exact key _ _ hk
   ·intro y hy
    have hnew : ∀ z : al, y ∈ p.ops ++ [z] → z.regs.length ≤ x.names.length → z.dv.s.length ≤ x.dv.s.length → z.kind ≠ 4 → y ∈ p.ops ∨ (y.regs.length ≤ x.names.length ∧ y.dv.s.length ≤ x.dv.s.length ∧ (y.kind = 4 → y.part = (w.all.length : Int) ∧ ([] : List aR) ≠ [])) := fun z h h1 h2 h3 => by
     rcases List.mem_append.1 h with h | h
     ·exact .inl h
     ·rw [List.mem_singleton.1 h]; exact .inr ⟨h1, h2, fun h => absurd h h3⟩
    unfold aO at hy
    dsimp only at hy
    split at hy
    ·exact .inl hy
    split at hy
    ·exact .inl hy
    split at hy
    ·exact hnew _ hy (Nat.zero_le _) (Nat.zero_le _) (by simp)
    split at hy
    ·exact hnew _ hy (Nat.zero_le _) (Nat.zero_le _) (by simp)
    split at hy
    ·exact hnew _ hy (Nat.zero_le _) (Nat.zero_le _) (by simp)
    split at hy
    ·exact hnew _ hy (Nat.le_of_eq (by simp)) (Nat.zero_le _) (by simp)
    split at hy
    ·exact hnew _ hy (Nat.zero_le _) (Nat.le_refl _) (by simp)
    ·exact .inl hy
def Im (all : List aR) (x : al) : Prop := x.regs.length ≤ 1000 ∧ x.dv.s.length ≤ 140737488355328 ∧ (x.kind = 4 → 0 ≤ x.part ∧ x.part < (all.length : Int) ∧ (all.getD x.part.toNat bY).ins ≠ [])
structure De (w : fB) (n : Nat) : Prop where
 bd : ∀ p ∈ w.all, p.bd n
 ops : ∀ p ∈ w.all, ∀ x ∈ p.ops, Im w.all x
theorem De.step {w : fB} {x : aP} {k : Nat} {p : aR} {n : Nat} (F : De w n) (W : nB w x k p) (hn : n ≤ 16) (h1 : x.names.length ≤ 1000) (h2 : x.dv.s.length ≤ 140737488355328) : De (w.step x) (n + 1) := by
 have hk := (List.getElem?_eq_some_iff.1 W.pt).1
 refine ⟨fun y hy => ?_, ?_⟩
 ·obtain ⟨hb, hlen, hll⟩ := sR F.bd W.pt W.kd
  have e : (w.step x).all = (au w.all k x).set k (bV ((au w.all k x).getD k bY)) := by
   show (au w.all (cP w.names x.msg) x).set (cP w.names x.msg) (bV ((au w.all (cP w.names x.msg) x).getD (cP w.names x.msg) bY)) = _
   rw [W.ix]
  rw [e] at hy
  rcases iX hy with rfl | hy
  ·have hk2 : k < (au w.all k x).length := by omega
   rw [List.getD_eq_getElem?_getD, List.getElem?_eq_getElem hk2]
   exact (hb _ (List.getElem_mem hk2)).bd hn
  ·exact (hb y hy).up hn
 ·obtain ⟨P', tl, e, hi, htl, ht, ho⟩ := zK W
  have hins : ∀ i, i < w.all.length → ((w.step x).all.getD i bY).ins = (w.all.getD i bY).ins := fun i h => by
   rw [e, List.getD_eq_getElem?_getD, List.getD_eq_getElem?_getD, List.getElem?_set]
   split
   ·rename_i e2; subst e2
    rw [if_pos (by simp; omega), W.pt]; exact hi
   ·rw [List.getElem?_append_left h]
  have hlen : (w.step x).all.length = w.all.length + tl.length := by rw [e]; simp
  have up : ∀ y, Im w.all y → Im (w.step x).all y := fun y ⟨a1, a2, a3⟩ => ⟨a1, a2, fun h4 => by
   obtain ⟨b1, b2, b3⟩ := a3 h4
   exact ⟨b1, by omega, by rw [hins _ (by omega)]; exact b3⟩⟩
  intro q hq y hy
  rw [e] at hq
  rcases iX hq with rfl | hq
  ·rcases ho y hy with h | ⟨h3, h4, h5⟩
   ·exact up y (F.ops p (List.mem_of_getElem? W.pt) y h)
   ·refine ⟨by omega, by omega, fun h6 => ?_⟩
    obtain ⟨h7, h8⟩ := h5 h6
    have hl1 : 1 ≤ tl.length := by cases tl with | nil => exact absurd rfl h8 | cons => simp
    refine ⟨by omega, by omega, ?_⟩
    rw [h7, Int.toNat_natCast, e, List.getD_eq_getElem?_getD, List.getElem?_set_ne (by omega), List.getElem?_append_right (Nat.le_refl _), Nat.sub_self]
    cases tl with
    | nil => simp at hl1
    | cons a r => exact (ht a List.mem_cons_self).2
  ·rcases List.mem_append.1 hq with h | h
   ·exact up y (F.ops q h y hy)
   ·rw [(ht q h).1] at hy; cases hy
theorem uO : ∀ {l : List aP} {s : aM} {acc L : List aM} {w : fB} {n : Nat}, Inv s w → De w n → n + l.length ≤ 16 → (∀ x ∈ l, x.names.length ≤ 1000 ∧ x.dv.s.length ≤ 140737488355328) → aM.dO l s acc = .ok L → De (l.foldl fB.step w) (n + l.length)
 | [], s, acc, L, w, n, I, F, hn, hx, h => F
 | x :: l, s, acc, L, w, n, I, F, hn, hx, h => by
  unfold aM.dO at h
  cases e : s.apply x with
  | error k => rw [e] at h; cases h
  | ok t =>
   rw [e] at h
   have I' := I.step e
   obtain ⟨m, at_, A⟩ := gg e
   obtain ⟨k, p, W⟩ := s9 I A
   have hn2 : n + 1 + l.length ≤ 16 := by simp at hn; omega
   have hx0 := hx x List.mem_cons_self
   have := uO I' (F.step W (by omega) hx0.1 hx0.2) hn2 (fun y hy => hx y (List.mem_cons_of_mem _ hy)) h
   have e2 : n + (x :: l).length = n + 1 + l.length := by simp; omega
   rw [e2]; exact this
theorem De.begin {s : aM} (hs : s.sm) : De (gG s) 0 := by
 refine ⟨uK hs, fun p hp x hx => ?_⟩
 obtain ⟨m, _, rfl⟩ := List.mem_map.1 (show p ∈ s.msgs.map fun m => bV { bY with name := m.name, ins := bM s m, outs := bM s m, regs := m.fields.length } from hp)
 cases hx
theorem Gb {s : aM} {l : List aP} {L : List aM} (h : s.all l = .ok L) (hx : ∀ x ∈ l, x.names.length ≤ 1000 ∧ x.dv.s.length ≤ 140737488355328) : De (l.foldl fB.step (gG s)) l.length := by
 have h16 := (mA h).2
 unfold aM.all at h
 split at h
 ·cases h
 rename_i h1
 split at h
 ·cases h
 have hs := aM.gF (s := s) (by simpa using h1)
 have := uO (Inv.begin hs) (De.begin hs.sm) (by omega) hx h
 simpa using this
structure Df (ps : List aR) : Prop where
 ne : ps ≠ []
 len : ps.length ≤ 1000
 pb : PB ps
 fb : FB ps
 n : ∀ p ∈ ps, p.ops.length ≤ 16 ∧ ∀ x ∈ p.ops, x.dv.s.length ≤ 140737488355328
theorem kC {s : aM} {l : List aP} {L : List aM} (h : s.all l = .ok L) (hx : ∀ x ∈ l, x.names.length ≤ 1000 ∧ x.dv.s.length ≤ 140737488355328) : Df (lower s l) := by
 have h16 := (mA h).2
 obtain ⟨B, _⟩ := D9 h
 have F := Gb h hx
 obtain ⟨_, t, _, I⟩ := D8 h
 have hl : lower s l = (l.foldl fB.step (gG s)).all := rfl
 rw [hl]
 refine ⟨fun e => ?_, by have := B.len; omega, fun p hp => ?_, fun p hp => ?_, fun p hp => ?_⟩
 ·have h1 := I.len
  have h2 := I.root
  rw [e] at h1
  have : (l.foldl fB.step (gG s)).names = [] := by cases hn : (l.foldl fB.step (gG s)).names with | nil => rfl | cons a r => rw [hn] at h1; simp at h1
  rw [this] at h2
  have h3 := I.ok.ne
  cases hm : t.msgs with
  | nil => rw [hm] at h3; simp at h3
  | cons a r => rw [hm] at h2; simp at h2
 ·have h1 := B.sides p hp
  have h2 := F.bd p hp
  have h3 := h2.ops
  have h4 := h2.ever
  have h5 : 100 * (l.length + 1) ≤ 1700 := by omega
  exact ⟨by omega, by omega, by omega, by omega⟩
 ·have h1 := B.sides p hp
  have h3 := (F.bd p hp).ops
  exact ⟨by omega, by omega, fun x hx => ⟨by have := (F.ops p hp x hx).1; omega, (F.ops p hp x hx).2.2⟩⟩
 ·have h3 := (F.bd p hp).ops
  exact ⟨by omega, fun x hx => (F.ops p hp x hx).2.1⟩
/- what programs cost, and need -/
theorem GV : aa Tryz.prog 19 = true := by kernel_rfl
theorem dW.lets {P : Program} {f : FuncId} {args : List AV} {H H1 : Hp} {r : AV} (h : dW P f args H r H1) (hro : bE (fun id => id < H.next) r) (hnx : H.next ≤ H1.next) (hobj : ∀ i, i < H.next → H1.obj i = H.obj i) : dW P f args H r H := fun G w cargs hg hk hH hV => by
 refine (h G w cargs hg hk hH hV).mono ?_
 rintro e w' ⟨v, G', rfl, hV', hx, hkn, hok, hfr, hft⟩
 have hlt : ∀ id b, G.ob id = some b → id < H.next := fun id b e => (hH.lt id b e).1
 have hres1 : ∀ id, id < H.next → (G'.res H.next).ob id = G'.ob id := fun id h => by simp [Gh.res, h]
 have hres2 : ∀ id b, (G'.res H.next).ob id = some b → id < H.next ∧ G'.ob id = some b := fun id b h => by
  simp only [Gh.res] at h
  split at h
  ·exact ⟨by assumption, h⟩
  ·cases h
 have hop : ∀ {u : Value} {a : AV}, V G u a → bE (fun id => id < H.next) a := fun hu => hu.ops.mono fun id ⟨b, e⟩ => hlt id b e
 have hidl : ∀ id cs, H.obj id = some cs → id < H.next := fun id cs e => by
  obtain ⟨blk, _, _, q1, _⟩ := hH.obj id cs e
  exact hlt id blk q1
 have cE : ∀ id j b, cE (G'.res H.next) H w' id j b → cE G' H1 w' id j b := by
  rintro id j b ⟨cs, el, esz, xs, b0, arr, t, fr, h1, h2, h3, h4, h5⟩
  exact ⟨cs, el, esz, xs, b0, arr, t, fr, by rw [hobj id (hidl id cs h1)]; exact h1, h2, (hres2 _ _ h3).2, h4, h5⟩
 have hfoot : ∀ b, aZ (G'.res H.next) H w' b → aZ G' H1 w' b := by
  rintro b (⟨id, ⟨cs, h1⟩, h2⟩ | ⟨id, j, h1⟩)
  ·exact .inl ⟨id, ⟨cs, by rw [hobj id (hidl id cs h1)]; exact h1⟩, (hres2 _ _ h2).2⟩
  ·exact .inr ⟨id, j, cE _ _ _ h1⟩
 have hHp : dK (G'.res H.next) w' H := by
  refine ⟨fun id b e => ⟨(hres2 id b e).1, (hok.lt id b (hres2 id b e).2).2⟩, fun id id' b e e' ⟨c, k⟩ ⟨c', k'⟩ => hok.inj id id' b (hres2 _ _ e).2 (hres2 _ _ e').2 ⟨c, by rw [hobj id (hidl id c k)]; exact k⟩ ⟨c', by rw [hobj id' (hidl id' c' k')]; exact k'⟩, fun id cs e => ?_, fun id j blk hh' => ?_⟩
  ·obtain ⟨blk, arr, el, q1, q2, q3, q4, q5⟩ := hok.obj id cs (by rw [hobj id (hidl id cs e)]; exact e)
   obtain ⟨blk0, arr0, el0, p1, p2, p3, p4, p5⟩ := hH.obj id cs e
   refine ⟨blk, arr, el, by rw [hres1 id (hidl id cs e)]; exact q1, q2, q3, fun j x hx => ?_, q5⟩
   have hq := q4 j x hx
   have hp := p4 j x hx
   cases x with
   | v a => exact ⟨hq.1, hq.2.res (hop hp.2)⟩
   | row el2 esz xs =>
    have hq' : du G' w' true el2 esz (arr.getD j undef) xs := hq
    have hp' : du G w true el2 esz (arr0.getD j undef) xs := hp
    obtain ⟨cells, k1, k2, k3, k4, k5⟩ := hq'
    obtain ⟨cells0, _, _, _, l4, _⟩ := hp'
    exact ⟨cells, (fun e => by cases e), k2, k3, ⟨k4.1, fun i e j c a b => ⟨(k4.2 i e j c a b).1, (k4.2 i e j c a b).2.res (hop (l4.2 i e j c a b).2)⟩⟩, k5⟩
  ·obtain ⟨q1, q2⟩ := hok.apart id j blk (cE _ _ _ hh')
   exact ⟨fun id' e => q1 id' (hres2 _ _ e).2, fun id' j' h2 => q2 id' j' (cE _ _ _ h2)⟩
 exact ⟨v, G'.res H.next, rfl, hV'.res hro, ⟨hx.kn, fun id b e => ⟨by rw [hres1 id (hlt id b e)]; exact (hx.ob id b e).1, (hx.ob id b e).2⟩, fun id b e => hx.obn id b (hres2 id b e).2⟩, hkn, hHp, hfr, fun b hb => hft b (hfoot b hb)⟩
/-! ### a case's program, made shorter -/
def z7 (s : aM) (l : List aP) : Except Int (List aM) → AV
 | .ok L => .tup [bo (m6 (lower s l)), (L.getD l.length lS).av, .bool true]
 | .error _ => .tup [.agg [.sl []], lS.av, .bool false]
theorem oH (s : aM) (l : List aP) (hs : s.fT) (hb : ∀ x ∈ l, x.fT ∧ x.names.length ≤ 1000) (hd : ∀ x ∈ l, x.dv.s.length ≤ 140737488355328) (hl : l.length ≤ 9223372036854775807) : Pure Tryz.prog 6 [fS s l, .bool true] (z7 s l (s.all l)) := by
 have e0 : fS s l = .agg [.sl (s.enums.map dP.av), .sl (s.msgs.map aU.av), .sl (l.map aP.av)] := rfl
 refine Pure.aN Tryz.func6 rfl rfl (aF rfl) fun H => (aC.seq (aC.region (aB.run II 4 rfl (aB.nil (aC.seq (aC.region (aB.run II 4 rfl ?_)))))))
 cases hp1 : s.all l with
 | ok x1 => 
  refine aB.c1 rfl (aG (aF rfl) m8 rfl (oM hs hb hl hp1)) (aB.run II 7 rfl (aB.nil (aC.seq (aC.seq (aC.region (aB.run II 2 rfl (aB.nil (aC.bR rfl rfl (aC.skip (aC.seq (aC.region (aB.run II 4 rfl (aB.c1 rfl (aG (aF rfl) BE rfl (oK hs hb hl hp1)) (aB.run II 6 rfl (aB.nil (aC.seq (aC.seq (aC.region (aB.run II 2 rfl ?_)))))))))))))))))))
  refine aB.nil (aC.bR rfl rfl (aC.skip (aC.seq (aC.seq (aC.region (aB.run II 1 rfl (aB.nil (aC.bG rfl rfl (aC.region (aB.run II 1 rfl (aB.c1 rfl (aG (aF rfl) GV rfl (Eb _ (kC hp1 fun x hx => ⟨(hb x hx).2, hd x hx⟩).ne (by have := (kC hp1 fun x hx => ⟨(hb x hx).2, hd x hx⟩).len; omega) (kC hp1 fun x hx => ⟨(hb x hx).2, hd x hx⟩).pb (kC hp1 fun x hx => ⟨(hb x hx).2, hd x hx⟩).fb)) ?_)))))))))))
  exact aB.run II 1 rfl (aB.nil (aC.seq (aC.drawn mixed rfl (aD.run II 5 rfl (aD.c1 rfl (aI (aF rfl) vW rfl rfl (Int.natCast_nonneg _) (wj hp1) rfl) (aD.run II 4 rfl (aD.nil (by kernel_rfl) (Kept.now (aC.ret ⟨.inr rfl, (aE.r3 rfl (.cell cx rfl rfl rfl rfl (.cell eM rfl rfl rfl rfl (.tmp rfl .nil)))).cast rfl, rfl⟩)))))))))
 | error e1 => 
  exact aB.c1 rfl (aG (aF rfl) m8 rfl (oN hs hb hl hp1)) (aB.run II 7 rfl (aB.nil (aC.seq (aC.seq (aC.region (aB.run II 2 rfl (aB.nil (aC.bG rfl (by simpa using ph hp1) (aC.seq (aC.region (aB.run II 5 rfl (aB.nil (aC.ret ⟨.inr rfl, (aE.r3 rfl (.cell cx rfl rfl rfl rfl (.cell eM rfl rfl rfl rfl (.tmp rfl .nil)))).cast rfl, rfl⟩)))))))))))))
/-! ### what is needed, and what it costs -/
def mr (ps : List aR) : Int := ps.foldl (fun n p => if p.regs > n then p.regs else n) 0
theorem q7 {ps : List aR} {i : Nat} (hi : i < ps.length) : mr (ps.take (i + 1)) = if ps[i].regs > mr (ps.take i) then ps[i].regs else mr (ps.take i) := by
 unfold mr
 rw [List.take_add_one, List.getElem?_eq_getElem hi, List.foldl_append]; rfl
def CB (ps : List aR) : Prop := ps.length ≤ 1000 ∧ ∀ p ∈ ps, p.ops.length ≤ 16 ∧ ∀ x ∈ p.ops, x.dv.s.length ≤ 140737488355328
theorem FW {x : al} (h : x.dv.s.length ≤ 140737488355328) : sX x ≤ 140737488356000 := by unfold sX; split <;> split <;> omega
theorem rQ {l : List Nat} {b : Nat} (h : ∀ x ∈ l, x ≤ b) : l.sum ≤ l.length * b := by
 induction l with
 | nil => simp
 | cons a l ih =>
  have h1 := h a List.mem_cons_self
  have h2 := ih fun x hx => h x (List.mem_cons_of_mem _ hx)
  rw [List.sum_cons, List.length_cons, Nat.succ_mul]; omega
theorem BO {l : List al} (h : l.length ≤ 16) (hd : ∀ x ∈ l, x.dv.s.length ≤ 140737488355328) : cH l ≤ 2251799813696000 := by
 unfold cH
 have := rQ (l := l.map sX) (b := 140737488356000) fun y hy => by obtain ⟨x, hx, rfl⟩ := List.mem_map.1 hy; exact FW (hd x hx)
 rw [List.length_map] at this
 have h2 : l.length * 140737488356000 ≤ 16 * 140737488356000 := Nat.mul_le_mul_right _ h
 omega
theorem lr {ps : List aR} (h : CB ps) : dN ps ≤ 2251799813696000000 := by
 unfold dN
 have := rQ (l := ps.map fun p => cH p.ops) (b := 2251799813696000) fun y hy => by obtain ⟨x, hx, rfl⟩ := List.mem_map.1 hy; exact BO (h.2 x hx).1 (h.2 x hx).2
 rw [List.length_map] at this
 have h2 : ps.length * 2251799813696000 ≤ 1000 * 2251799813696000 := Nat.mul_le_mul_right _ h.1
 omega
theorem CB.take {ps : List aR} (h : CB ps) (i : Nat) : CB (ps.take i) := ⟨by rw [List.length_take]; have := h.1; omega, fun p hp => h.2 p (List.mem_of_mem_take hp)⟩
theorem pV {ps : List aR} {i : Nat} (hi : i < ps.length) : dN (ps.take (i + 1)) = dN (ps.take i) + cH ps[i].ops := by
 unfold dN; rw [List.take_add_one, List.getElem?_eq_getElem hi, List.map_append, List.sum_append]; simp
theorem jX {l : List al} {k : Nat} (hk : k < l.length) : cH (l.take (k + 1)) = cH (l.take k) + sX l[k] := by
 unfold cH; rw [List.take_add_one, List.getElem?_eq_getElem hk, List.map_append, List.sum_append]; simp
theorem uI {ps : List aR} {i : Nat} (hi : i < ps.length) : fv (ps.take (i + 1)) = fv (ps.take i) + cz ps[i].ops := by
 unfold fv; rw [List.take_add_one, List.getElem?_eq_getElem hi, List.map_append, List.sum_append]; simp
theorem kE {l : List al} {k : Nat} (hk : k < l.length) : cz (l.take (k + 1)) = cz (l.take k) + if l[k].kind = 4 then 1 else 0 := by
 unfold cz; rw [List.take_add_one, List.getElem?_eq_getElem hk]
 simp only [Option.toList_some, List.countP_append, List.countP_cons, List.countP_nil, beq_iff_eq]; omega
theorem qz {l : List al} : cz l ≤ l.length := List.countP_le_length
theorem rA {ps : List aR} (h : CB ps) : fv ps ≤ 16000 := by
 unfold fv
 have := rQ (l := ps.map fun p => cz p.ops) (b := 16) fun y hy => by obtain ⟨x, hx, rfl⟩ := List.mem_map.1 hy; exact Nat.le_trans qz (h.2 x hx).1
 rw [List.length_map] at this
 have h2 : ps.length * 16 ≤ 1000 * 16 := Nat.mul_le_mul_right _ h.1
 omega
theorem ke {l : List al} {k : Nat} : cH (l.take k) ≤ cH l := rN ((List.take_sublist k l).map sX)
theorem qC {ps : List aR} {i : Nat} : dN (ps.take i) ≤ dN ps := rN ((List.take_sublist i ps).map _)
theorem Gy {ps : List aR} {i : Nat} (hi : i < ps.length) : (ps.map aR.av)[((i : Nat) : Int).toNat]? = some (.agg ps[i].cells) := by rw [Int.toNat_natCast, List.getElem?_map, List.getElem?_eq_getElem hi]; rfl
theorem zS (ps : List aR) (hl : ps.length ≤ 1000) : Pure Tryz.prog 10 [bo ps] (.int .i64 (mr ps)) := by
 have e0 : bo ps = .agg [.sl (ps.map aR.av)] := rfl
 refine Pure.aN Tryz.func10 rfl rfl (aF rfl) fun H => (aC.seq (aC.region (aB.run II 2 rfl (aB.nil (aC.seq (aC.region (aB.run II 1 rfl (aB.nil (aC.seq (aC.seq (aC.region (aB.run II 4 rfl (aB.nil (aC.blk (aC.aJ (Kept.aH [.s 9, .s 3, .h, .s 7, .s 8] rfl (by decide) (Kept.now (aC.aW (fun ((i, n) : Nat × Int) => [(.s 9, .sv (.v (.int .i64 (i : Int)))), (.s 3, .sv (.v (.int .i64 n)))]) _ (fun ((i, n) : Nat × Int) => n = mr (ps.take i)) (fun ((i, n) : Nat × Int) => ps.length - i) (0, 0) rfl rfl ?_))))))))))))))))))
 rintro ⟨i, n⟩ hI
 refine aC.seq (aC.region (aB.run II 1 rfl (aB.nil (aC.seq (aC.cond rfl (fun hc1 => ?_) (fun hc1 => ?_))))))
 ·have hi := ch hc1
  exact aC.skip (aC.seq (aC.blk (aC.seq (aC.region (aB.c1 rfl (aI (aF rfl) cm rfl rfl (Int.natCast_nonneg _) (Gy hi) rfl) (aB.run II 3 rfl (aB.nil (aC.region (aB.run II 3 rfl (aB.c1 rfl (nS (aF rfl) rfl rfl) (aB.run II 1 rfl (aB.nil (aC.region (aB.run II 2 rfl (aB.kept (Kept.aX 9 rfl (inc (by omega)) (Kept.aH [.s 9, .s 3, .h, .s 7, .s 8] rfl (by decide) (Kept.now ⟨(i + 1, _), by dsimp only; omega, (by have := hI; dsimp only at this; subst this; exact (q7 hi).symm), rfl⟩))))))))))))))))))
 ·have hi := ck hc1
  exact aC.exit (aC.seq (aC.region (aB.run II 2 rfl (aB.nil (aC.ret ⟨.inr rfl, (aE.r1 rfl (.tmp rfl .nil)).cast (congrArg (AV.int .i64) (by have := hI; dsimp only at this; rw [this, List.take_of_length_le hi])), rfl⟩)))))
theorem wN (ps : List aR) (hl : ps.length ≤ 1000) : Pure Tryz.prog 11 [bo ps] (.int .i64 (mr ps)) := by
 have e0 : bo ps = .agg [.sl (ps.map aR.av)] := rfl
 refine Pure.aN Tryz.func11 rfl rfl (aF rfl) fun H => (aC.seq (aC.region (aB.run II 2 rfl (aB.nil (aC.seq (aC.region (aB.run II 1 rfl (aB.nil (aC.seq (aC.seq (aC.region (aB.run II 1 rfl (aB.nil (aC.blk (aC.aJ (Kept.aH [.s 4, .s 3, .h, .s 1, .b 1] rfl (by decide) (Kept.now (aC.aW (fun ((i, n) : Nat × Int) => [(.s 4, .sv (.v (.int .i64 (i : Int)))), (.s 3, .sv (.v (.int .i64 n)))]) _ (fun ((i, n) : Nat × Int) => n = mr (ps.take i)) (fun ((i, n) : Nat × Int) => ps.length - i) (0, 0) rfl rfl ?_))))))))))))))))))
 rintro ⟨i, n⟩ hI
 refine aC.seq (aC.seq (aC.region (aB.run II 5 rfl (aB.nil (aC.cond rfl (fun hc1 => ?_) (fun hc1 => ?_))))))
 ·have hi := ch hc1
  exact aC.skip (aC.seq (aC.blk (aC.region (aB.run II 4 rfl (aB.c1 rfl (aI (aF rfl) cm rfl rfl (Int.natCast_nonneg _) (Gy hi) rfl) (aB.run II 2 rfl (aB.c1 rfl (nS (aF rfl) rfl rfl) (aB.run II 1 rfl (aB.nil (aC.region (aB.run II 3 rfl (aB.kept (Kept.aX 4 rfl (inc (by omega)) (Kept.aH [.s 4, .s 3, .h, .s 1, .b 1] rfl (by decide) (Kept.now ⟨(i + 1, _), by dsimp only; omega, (by have := hI; dsimp only at this; subst this; exact (q7 hi).symm), rfl⟩)))))))))))))))
 ·have hi := ck hc1
  exact aC.exit (aC.seq (aC.region (aB.run II 2 rfl (aB.nil (aC.ret ⟨.inr rfl, (aE.r1 rfl (.tmp rfl .nil)).cast (congrArg (AV.int .i64) (by have := hI; dsimp only at this; rw [this, List.take_of_length_le hi])), rfl⟩)))))
/- what programs cost -/
theorem Dx {x : al} (h : x.kind = 4) : sX x = 10 := by unfold sX; rw [if_pos h, if_neg (by omega)]
theorem Dw {x : al} (h : x.kind = 7) : sX x = 15 + x.dv.s.length := by unfold sX; rw [if_neg (by omega), if_pos h, Nat.zero_add]
theorem Dy {x : al} (h4 : ¬ x.kind = 4) (h7 : ¬ x.kind = 7) : sX x = 0 := by unfold sX; rw [if_neg h4, if_neg h7]
theorem BP {ps : List aR} (hc : CB ps) {i k : Nat} (hi : i < ps.length) : dN (ps.take i) + cH (ps[i].ops.take k) ≤ 2251799813696000000 := by
 have h1 := lr hc
 have h2 := qC (ps := ps) (i := i + 1)
 rw [pV hi] at h2
 have h3 := ke (l := ps[i].ops) (k := k)
 omega
theorem yo {ps : List aR} (hc : CB ps) {i k : Nat} (hi : i < ps.length) : fv (ps.take i) + cz (ps[i].ops.take k) ≤ 16016 := by
 have h1 := rA (hc.take i)
 have h2 := qz (l := ps[i].ops.take k)
 have h3 := (hc.2 _ (List.getElem_mem hi)).1
 rw [List.length_take] at h2
 omega
theorem ri {ps : List aR} (hc : CB ps) {i : Nat} (hi : i < ps.length) : ps[i].ops.length ≤ 16 := (hc.2 _ (List.getElem_mem hi)).1
theorem EF {ps : List aR} (hc : CB ps) {i k : Nat} (hi : i < ps.length) (hk : k < (ps[i].ops).length) : (ps[i].ops)[k].dv.s.length ≤ 140737488355328 := (hc.2 _ (List.getElem_mem hi)).2 _ (List.getElem_mem hk)
theorem nQ (ps : List aR) (hc : CB ps) : Pure Tryz.prog 9 [bo ps] (.int .i64 (10 + (dN ps : Int))) := by
 have e0 : bo ps = .agg [.sl (ps.map aR.av)] := rfl
 refine Pure.aN Tryz.func9 rfl rfl (aF rfl) fun H => (aC.seq (aC.region (aB.run II 2 rfl (aB.nil (aC.seq (aC.region (aB.run II 1 rfl (aB.nil (aC.seq (aC.seq (aC.region (aB.run II 1 rfl (aB.nil (aC.blk (aC.aJ (Kept.aH [.s 4, .s 3, .h, .s 1, .b 1] rfl (by decide) (Kept.now (aC.aW (fun ((i, n) : Nat × Int) => [(.s 4, .sv (.v (.int .i64 (i : Int)))), (.s 3, .sv (.v (.int .i64 n)))]) _ (fun ((i, n) : Nat × Int) => n = (10 + (dN (ps.take i) : Int))) (fun ((i, n) : Nat × Int) => ps.length - i) (0, 10) rfl rfl ?_))))))))))))))))))
 rintro ⟨i, n⟩ hI
 have h1000 := hc.1
 refine aC.seq (aC.seq (aC.region (aB.run II 5 rfl (aB.nil (aC.cond rfl (fun hc1 => ?_) (fun hc1 => ?_))))))
 ·have hi := ch hc1
  refine aC.skip (aC.seq (aC.blk (aC.seq (aC.region (aB.run II 1 rfl (aB.nil (aC.blk (aC.aJ (Kept.aH [.s 5, .s 3, .h, .s 1, .b 1, .s 4] rfl (by decide) (Kept.now (aC.aW (fun ((k, m) : Nat × Int) => [(.s 5, .sv (.v (.int .i64 (k : Int)))), (.s 3, .sv (.v (.int .i64 m)))]) _ (fun ((k, m) : Nat × Int) => m = (10 + ((dN (ps.take i) + cH ((ps[i]'hi).ops.take k) : Nat) : Int))) (fun ((k, m) : Nat × Int) => (ps[i]'hi).ops.length - k) (0, n) rfl (by have := hI; dsimp only at this ⊢; rw [this]; simp [cH, cz]) ?_)))))))))))
  rintro ⟨k, m⟩ hK
  have hKA := BP hc hi (k := k)
  dsimp only at hK
  subst hK
  refine aC.seq (aC.seq (aC.region (aB.run II 4 rfl (aB.c1 rfl (aI (aF rfl) cm rfl rfl (Int.natCast_nonneg _) (bz hi) rfl) (aB.run II 4 rfl (aB.nil (aC.cond rfl (fun hc2 => ?_) (fun hc2 => ?_))))))))
  ·have hk := ch hc2
   have hdv := EF hc hi hk
   have h16 := ri hc hi
   refine aC.skip (aC.seq (aC.blk (aC.seq (aC.region (aB.run II 3 rfl (aB.c1 rfl (aI (aF rfl) cm rfl rfl (Int.natCast_nonneg _) (bz hi) rfl) (aB.run II 3 rfl (aB.c1 rfl (aI (aF rfl) fO rfl rfl (Int.natCast_nonneg _) (bz hk) rfl) (aB.run II 3 rfl (aB.nil (aC.seq (aC.seq (aC.region (aB.run II 3 rfl (aB.nil (aC.cond rfl (fun hc3 => ?_) (fun hc3 => ?_)))))))))))))))))
   ·refine aC.region (aB.run II 1 rfl (aB.c1 rfl (bI (aF rfl) rfl rfl (jZ (by omega) (by omega))) (aB.run II 1 rfl (aB.nil (aC.seq (aC.region (aB.run II 3 rfl (aB.nil (aC.cond rfl (fun hc4 => ?_) (fun hc4 => ?_))))))))))
    ·exact aC.region (aB.run II 1 rfl (aB.c1 rfl (bI (aF rfl) rfl rfl (jZ (by omega) (by omega))) (aB.run II 4 rfl (aB.c1 rfl (bI (aF rfl) rfl rfl (jZ (by omega) (by omega))) (aB.run II 1 rfl (aB.nil (aC.region (aB.run II 3 rfl (aB.kept (Kept.aX 5 rfl (inc (by omega)) (Kept.aH [.s 5, .s 3, .h, .s 1, .b 1, .s 4] rfl (by decide) (Kept.now ⟨(k + 1, _), by dsimp only; omega, (by exact absurd ((eq_of_beq hc3).symm.trans (eq_of_beq hc4)) (by decide)), rfl⟩))))))))))))
    ·exact aC.skip (aC.region (aB.run II 3 rfl (aB.kept (Kept.aX 5 rfl (inc (by omega)) (Kept.aH [.s 5, .s 3, .h, .s 1, .b 1, .s 4] rfl (by decide) (Kept.now ⟨(k + 1, _), by dsimp only; omega, (by dsimp only; rw [jX hk, Dx (eq_of_beq hc3)]; omega), rfl⟩))))))
   ·refine aC.skip (aC.seq (aC.region (aB.run II 3 rfl (aB.nil (aC.cond rfl (fun hc5 => ?_) (fun hc5 => ?_))))))
    ·exact aC.region (aB.run II 1 rfl (aB.c1 rfl (bI (aF rfl) rfl rfl (jZ (by omega) (by omega))) (aB.run II 4 rfl (aB.c1 rfl (bI (aF rfl) rfl rfl (jZ (by omega) (by omega))) (aB.run II 1 rfl (aB.nil (aC.region (aB.run II 3 rfl (aB.kept (Kept.aX 5 rfl (inc (by omega)) (Kept.aH [.s 5, .s 3, .h, .s 1, .b 1, .s 4] rfl (by decide) (Kept.now ⟨(k + 1, _), by dsimp only; omega, (by dsimp only; rw [jX hk, Dw (eq_of_beq hc5)]; omega), rfl⟩))))))))))))
    ·exact aC.skip (aC.region (aB.run II 3 rfl (aB.kept (Kept.aX 5 rfl (inc (by omega)) (Kept.aH [.s 5, .s 3, .h, .s 1, .b 1, .s 4] rfl (by decide) (Kept.now ⟨(k + 1, _), by dsimp only; omega, (by dsimp only; rw [jX hk, Dy (ne_of_beq_false hc3) (ne_of_beq_false hc5)]; omega), rfl⟩))))))
  ·have hk := ck hc2
   exact aC.exit (aC.region (aB.run II 3 rfl (aB.kept (Kept.aX 4 rfl (inc (by omega)) (Kept.aH [.s 4, .s 3, .h, .s 1, .b 1] rfl (by decide) (Kept.now ⟨(i + 1, _), by dsimp only; omega, (by dsimp only; rw [pV hi, List.take_of_length_le hk]), rfl⟩))))))
 ·have hi := ck hc1
  exact aC.exit (aC.seq (aC.region (aB.run II 2 rfl (aB.nil (aC.ret ⟨.inr rfl, (aE.r1 rfl (.tmp rfl .nil)).cast (congrArg (AV.int .i64) (by have := hI; dsimp only at this; rw [this, List.take_of_length_le hi])), rfl⟩)))))
theorem tC (ps : List aR) (hc : CB ps) : Pure Tryz.prog 13 [bo ps] (.int .i64 (fv ps : Int)) := by
 have e0 : bo ps = .agg [.sl (ps.map aR.av)] := rfl
 refine Pure.aN Tryz.func13 rfl rfl (aF rfl) fun H => (aC.seq (aC.region (aB.run II 2 rfl (aB.nil (aC.seq (aC.region (aB.run II 1 rfl (aB.nil (aC.seq (aC.seq (aC.region (aB.run II 1 rfl (aB.nil (aC.blk (aC.aJ (Kept.aH [.s 4, .s 3, .h, .s 1, .b 1] rfl (by decide) (Kept.now (aC.aW (fun ((i, n) : Nat × Int) => [(.s 4, .sv (.v (.int .i64 (i : Int)))), (.s 3, .sv (.v (.int .i64 n)))]) _ (fun ((i, n) : Nat × Int) => n = (fv (ps.take i) : Int)) (fun ((i, n) : Nat × Int) => ps.length - i) (0, 0) rfl rfl ?_))))))))))))))))))
 rintro ⟨i, n⟩ hI
 have h1000 := hc.1
 refine aC.seq (aC.seq (aC.region (aB.run II 5 rfl (aB.nil (aC.cond rfl (fun hc1 => ?_) (fun hc1 => ?_))))))
 ·have hi := ch hc1
  refine aC.skip (aC.seq (aC.blk (aC.seq (aC.region (aB.run II 1 rfl (aB.nil (aC.blk (aC.aJ (Kept.aH [.s 5, .s 3, .h, .s 1, .b 1, .s 4] rfl (by decide) (Kept.now (aC.aW (fun ((k, m) : Nat × Int) => [(.s 5, .sv (.v (.int .i64 (k : Int)))), (.s 3, .sv (.v (.int .i64 m)))]) _ (fun ((k, m) : Nat × Int) => m = ((fv (ps.take i) + cz ((ps[i]'hi).ops.take k) : Nat) : Int)) (fun ((k, m) : Nat × Int) => (ps[i]'hi).ops.length - k) (0, n) rfl (by have := hI; dsimp only at this ⊢; rw [this]; simp [cH, cz]) ?_)))))))))))
  rintro ⟨k, m⟩ hK
  have hKA := yo hc hi (k := k)
  dsimp only at hK
  subst hK
  refine aC.seq (aC.seq (aC.region (aB.run II 4 rfl (aB.c1 rfl (aI (aF rfl) cm rfl rfl (Int.natCast_nonneg _) (bz hi) rfl) (aB.run II 4 rfl (aB.nil (aC.cond rfl (fun hc2 => ?_) (fun hc2 => ?_))))))))
  ·have hk := ch hc2
   have hdv := EF hc hi hk
   have h16 := ri hc hi
   refine aC.skip (aC.seq (aC.blk (aC.seq (aC.region (aB.run II 3 rfl (aB.c1 rfl (aI (aF rfl) cm rfl rfl (Int.natCast_nonneg _) (bz hi) rfl) (aB.run II 3 rfl (aB.c1 rfl (aI (aF rfl) fO rfl rfl (Int.natCast_nonneg _) (bz hk) rfl) (aB.run II 3 rfl (aB.nil (aC.cond rfl (fun hc3 => ?_) (fun hc3 => ?_))))))))))))
   ·exact aC.region (aB.run II 1 rfl (aB.c1 rfl (bI (aF rfl) rfl rfl (jZ (by omega) (by omega))) (aB.run II 1 rfl (aB.nil (aC.region (aB.run II 3 rfl (aB.kept (Kept.aX 5 rfl (inc (by omega)) (Kept.aH [.s 5, .s 3, .h, .s 1, .b 1, .s 4] rfl (by decide) (Kept.now ⟨(k + 1, _), by dsimp only; omega, (by dsimp only; rw [kE hk, if_pos (eq_of_beq hc3)]; omega), rfl⟩))))))))))
   ·exact aC.skip (aC.region (aB.run II 3 rfl (aB.kept (Kept.aX 5 rfl (inc (by omega)) (Kept.aH [.s 5, .s 3, .h, .s 1, .b 1, .s 4] rfl (by decide) (Kept.now ⟨(k + 1, _), by dsimp only; omega, (by dsimp only; rw [kE hk, if_neg (ne_of_beq_false hc3)]; omega), rfl⟩))))))
  ·have hk := ck hc2
   exact aC.exit (aC.region (aB.run II 3 rfl (aB.kept (Kept.aX 4 rfl (inc (by omega)) (Kept.aH [.s 4, .s 3, .h, .s 1, .b 1] rfl (by decide) (Kept.now ⟨(i + 1, _), by dsimp only; omega, (by dsimp only; rw [uI hi, List.take_of_length_le hk]), rfl⟩))))))
 ·have hi := ck hc1
  exact aC.exit (aC.seq (aC.region (aB.run II 2 rfl (aB.nil (aC.ret ⟨.inr rfl, (aE.r1 rfl (.tmp rfl .nil)).cast (congrArg (AV.int .i64) (by have := hI; dsimp only at this; rw [this, List.take_of_length_le hi])), rfl⟩)))))
/- what programs cost: all operations, gone through -/
/-! ### a region of a round that yields, in the text's order -/
def ev (E : dX) (ro : Option Nat) (P : Program) (N : Nat) (ops : Array Oper) (l : List Oper) (s : St) (Q : St → Prop) : Prop :=
 ∀ a w, Fits E N s a w → ∀ QQ : Exit → Act → World → Prop, (∀ a' w' s', Fits E N s' a' w' → Q s' → QQ .normal a' w') → wpListIn (FF ro) 3 P ops QQ l a w
section
variable {E : dX} {ro : Option Nat} {P : Program} {N : Nat} {ops : Array Oper} {l : List Oper} {o : Oper} {s : St} {Q : St → Prop} {R : List aK}
theorem ev.nil (h : Q s) : ev E ro P N ops [] s Q := fun _ _ hf _ hQ => hQ _ _ _ hf h
theorem ev.cons {ws : St} (hg : o.guard = none) (ho : Gi E ro P N o s R ws) (h : ev E ro P N ops l (ws ++ s) Q) : ev E ro P N ops (o :: l) s Q := fun a w ⟨G, L, hr⟩ QQ hQ =>
 wpListIn_plain hg fun K hK => ho s (fun _ _ => rfl) G L a w hr K QQ fun v w' G' L' hr' => hK _ _ (h _ _ ⟨G', L', hr'⟩ QQ hQ)
theorem ev.c1 {c : aK} {v : CV} (hd : vE o = true) (hg : o.guard = none) (ho : aY P N o s R [(c, v)]) (h : ev E ro P N ops l ((c, v) :: s) Q) : ev E ro P N ops (o :: l) s Q := ev.cons hg (Gi.of hd ho) h
theorem ev.y2 {c c' : aK} {v v' : CV} (hg : o.guard = none) (ho : Gi E ro P N o s R [(c, v), (c', v')]) (h : ev E ro P N ops l ((c, v) :: (c', v') :: s) Q) : ev E ro P N ops (o :: l) s Q := ev.cons hg ho h
theorem ar.CI {id : Nat} {Q : Exit → St → Prop} (h : ev E ro P N l.toArray l s (Q .normal)) : ar E ro P N (.region id l.toArray false) s Q := fun a w hf => wpIn_region_lit (h a w hf _ fun _ _ s' h1 h2 => ⟨s', h1, h2⟩)
end
def di (ps : List aR) : List al := ps.flatMap (·.ops)
def ks (ps : List aR) (i : Nat) : Nat := (di (ps.take i)).length
theorem yF {ps : List aR} {i : Nat} (hi : i < ps.length) : ks ps (i + 1) = ks ps i + ps[i].ops.length := by
 unfold ks di; rw [List.take_add_one, List.getElem?_eq_getElem hi, List.flatMap_append, List.length_append]; simp
theorem AD {ps : List aR} {i : Nat} (hi : ps.length ≤ i) : ks ps i = (di ps).length := by unfold ks; rw [List.take_of_length_le hi]
theorem xP {ps : List aR} {i k : Nat} (hi : i < ps.length) (hk : k < ps[i].ops.length) : (di ps)[ks ps i + k]? = some ps[i].ops[k] := by
 have e : di ps = di (ps.take i) ++ (ps[i].ops ++ di (ps.drop (i + 1))) := by
  have h : ps = ps.take i ++ ps[i] :: ps.drop (i + 1) := by rw [← List.drop_eq_getElem_cons hi, List.take_append_drop]
  conv => lhs; rw [h]
  unfold di; rw [List.flatMap_append, List.flatMap_cons]
 rw [e, List.getElem?_append_right (by unfold ks; omega), show ks ps i + k - (di (ps.take i)).length = k from by unfold ks; omega, List.getElem?_append_left hk, List.getElem?_eq_getElem hk]
theorem Da {ps : List aR} {i k : Nat} (hi : i < ps.length) (hk : k < ps[i].ops.length) : ks ps i + k < (di ps).length := (List.getElem?_eq_some_iff.1 (xP hi hk)).1
def Hs (ps : List aR) (K : Nat → Hp) : List (List AV × Hp × Hp) := (List.range (di ps).length).map fun j => ([((di ps).getD j gE).av], K j, K (j + 1))
theorem Bg {ps : List aR} {K : Nat → Hp} {i k : Nat} (hi : i < ps.length) (hk : k < ps[i].ops.length) : ([AV.agg (ps[i].ops[k]).cells], K (ks ps i + k), K (ks ps i + k + 1)) ∈ Hs ps K := by
 refine List.mem_map.2 ⟨ks ps i + k, List.mem_range.2 (Da hi hk), ?_⟩
 rw [List.getD_eq_getElem?_getD, xP hi hk]; rfl
theorem kO {v : CV} {A B : Hp} {rest : List (aK × CV)} {n : Nat} (h : A = B) : ((aK.s n, v) :: (aK.h, CV.hp A) :: rest) = [(aK.s n, v), (aK.h, CV.hp B)] ++ rest := by rw [h]; rfl
theorem ym (l m : List al) : cH (l ++ m) = cH l + cH m := by unfold cH; rw [List.map_append, List.sum_append]
theorem vq (l m : List al) : cz (l ++ m) = cz l + cz m := by unfold cz; rw [List.countP_append]
theorem m9 : ∀ ps : List aR, cH (di ps) = dN ps
 | [] => rfl
 | p :: ps => by
  have : di (p :: ps) = p.ops ++ di ps := List.flatMap_cons ..
  rw [this, ym, m9 ps]; unfold dN; rw [List.map_cons, List.sum_cons]
theorem lB : ∀ ps : List aR, cz (di ps) = fv ps
 | [] => rfl
 | p :: ps => by
  have : di (p :: ps) = p.ops ++ di ps := List.flatMap_cons ..
  rw [this, vq, lB ps]; unfold fv; rw [List.map_cons, List.sum_cons]
def nK (H : Hp) (ps : List aR) (c : Int) : Hp := (H.new [.v (.int .i64 c)]).new [.v (.sl (ps.map aR.av))]
theorem pX (H : Hp) (ps : List aR) (c d : Int) : (nK H ps c).set H.next [.v (.int .i64 d)] = nK H ps d := by
 unfold nK Hp.new Hp.set
 congr 1
 funext i
 by_cases h1 : i = H.next
 ·subst h1; simp
 ·by_cases h2 : i = H.next + 1
  ·subst h2; simp
  ·simp [h1, h2]
theorem kB (H : Hp) (ps : List aR) (c : Int) : (nK H ps c).obj H.next = some [.v (.int .i64 c)] := by unfold nK; rw [Hp.cN _ _ (by show H.next < H.next + 1; omega)]; exact Hp.cg _ _
theorem BQ (H : Hp) (ps : List aR) (c : Int) : (nK H ps c).obj (H.next + 1) = some [.v (.sl (ps.map aR.av))] := Hp.cg _ _
theorem uB (H : Hp) (ps : List aR) (c : Int) {i : Nat} (h : i < H.next) : (nK H ps c).obj i = H.obj i := by unfold nK; rw [Hp.cN _ _ (by show i < H.next + 1; omega), Hp.cN _ _ h]
theorem Ds (ps : List aR) (H : Hp) : dW Tryz.prog 20 [bo ps] H (.fn 30 [.op H.next 0]) (H.new [.v (.sl (ps.map aR.av))]) := by
 have e0 : bo ps = .agg [.sl (ps.map aR.av)] := rfl
 exact dW.aN Tryz.func20 rfl rfl (aF rfl) (aC.seq (aC.region (aB.run II 2 rfl (aB.kept (Kept.xn 1 rfl rfl (Kept.op 1 rfl rfl (Kept.cls 1 rfl rfl rfl rfl (Kept.now (aC.seq (aC.region (aB.c1 rfl (uv (aF rfl) rfl) (aB.run II 1 rfl (aB.nil (aC.ret ⟨.inr rfl, (aE.r1 rfl (.tmp rfl .nil)).cast rfl, rfl⟩))))))))))))))
theorem A7 (ps : List aR) (hc : CB ps) (B : Nat) (K : Nat → Hp) (hB : (K 0).obj B = some [.v (.sl (ps.map aR.av))]) :
  po Tryz.prog 30 [.op B 0] (K 0) (Hs ps K) (K (di ps).length) := by
 have h1000 := hc.1
 refine po.aN Tryz.func30 rfl rfl (ft rfl) rfl fun E l hY => (ar.seq (ar.region (aB.run II 1 rfl (aB.c1 rfl (dI (aF rfl) rr rfl rfl hB rfl) (aB.run II 2 rfl (aB.nil (ar.blk (ar.aJ (Kept.aH [.s 10, .h, .s 0, .s 8, .s 9] rfl (by decide) (Kept.now (ar.aW (fun (i : Nat) => [(.s 10, .sv (.v (.int .i64 (i : Int)))), (.h, .hp (K (ks ps i)))]) _ (fun (i : Nat) => i ≤ ps.length) (fun (i : Nat) => ps.length - i) 0 rfl (Nat.zero_le _) ?_)))))))))))
 rintro i hI
 refine ar.seq (ar.region (aB.run II 1 rfl (aB.nil (ar.seq (ar.cond rfl (fun hc1 => ?_) (fun hc1 => ?_))))))
 ·have hi := ch hc1
  refine ar.skip (ar.seq (ar.blk (ar.seq (ar.region (aB.c1 rfl (aI (aF rfl) cm rfl rfl (Int.natCast_nonneg _) (bz hi) rfl) (aB.run II 3 rfl (aB.nil (ar.seq (ar.region (aB.run II 4 rfl (aB.nil ?_)))))))))))
  refine ar.blk (ar.aJ (Kept.aH [.s 17, .h, .s 0, .s 8, .s 9, .s 10, .s 15, .s 16] rfl (by decide) (Kept.now (ar.aW (fun (k : Nat) => [(.s 17, .sv (.v (.int .i64 (k : Int)))), (.h, (.hp (K (ks ps i + k))))]) _ (fun (k : Nat) => k ≤ (ps[i]'hi).ops.length) (fun (k : Nat) => (ps[i]'hi).ops.length - k) 0 rfl (Nat.zero_le _) ?_))))
  rintro k hK
  have h16 := ri hc hi
  refine ar.seq (ar.region (aB.run II 1 rfl (aB.nil (ar.seq (ar.cond rfl (fun hc2 => ?_) (fun hc2 => ?_))))))
  ·have hk := ch hc2
   refine ar.skip (ar.seq (ar.blk (ar.seq (ar.region (aB.c1 rfl (aI (aF rfl) fO rfl rfl (Int.natCast_nonneg _) (bz hk) rfl) (aB.run II 3 rfl (aB.nil (ar.seq (ar.CI (ev.c1 rfl rfl (fx (aF rfl) rfl) (ev.c1 rfl rfl (eJ (aF rfl) dd rfl rfl rfl) ?_)))))))))))
   exact ev.y2 rfl (zl (aF rfl) rfl rfl rfl (hY _ (Bg hi hk))) (ev.c1 rfl rfl (oX (aF rfl) rfl rfl) (ev.nil (ar.bR rfl rfl (ar.skip (ar.region (aB.run II 2 rfl (aB.kept (Kept.aX 17 rfl (inc (by omega)) (Kept.aH [.s 17, .h, .s 0, .s 8, .s 9, .s 10, .s 15, .s 16] rfl (by decide) (Kept.now ⟨k + 1, by omega, by omega, rfl⟩))))))))))
  ·have hk := ck hc2
   exact ar.exit (ar.region (aB.run II 2 rfl (aB.kept (Kept.aX 10 rfl (inc (by omega)) (Kept.aH [.s 10, .h, .s 0, .s 8, .s 9] rfl (by decide) (Kept.now ⟨i + 1, by omega, by omega, kO (by rw [yF hi, Nat.le_antisymm hK hk])⟩))))))
 ·have hi := ck hc1
  exact ar.exit ⟨.inl rfl, by rw [← AD hi]; rfl⟩
/- what programs cost: Boxes, Cost, Bound -/
theorem BD : aa Tryz.prog 20 = true := by kernel_rfl
theorem EE : aa Tryz.prog 7 = true := by kernel_rfl
theorem qp : aa Tryz.prog 8 = true := by kernel_rfl
theorem p7 {l : List al} {k : Nat} : cz (l.take k) ≤ cz l := (List.take_sublist k l).countP_le
theorem wu {l : List al} {j : Nat} (hj : j < l.length) : l.getD j gE = l[j] := by rw [List.getD_eq_getElem?_getD, List.getElem?_eq_getElem hj]; rfl
def vr (H : Hp) (ps : List aR) (j : Nat) : Hp := nK H ps (cz ((di ps).take j) : Int)
def pW (H : Hp) (ps : List aR) (j : Nat) : Hp := nK H ps (10 + (cH ((di ps).take j) : Int))
theorem wX (ps : List aR) (hc : CB ps) : Pure Tryz.prog 12 [bo ps] (.int .i64 (fv ps : Int)) := by
 have e0 : bo ps = .agg [.sl (ps.map aR.av)] := rfl
 intro H
 refine dW.lets (H1 := vr H ps (di ps).length) ?_ (.int _ _) (by show H.next ≤ H.next + 1 + 1; omega) (fun i hi => uB _ _ _ hi)
 refine dW.wa Tryz.func12 rfl rfl (ft rfl) (nL.seq (aC.region (aB.run II 2 rfl (aB.nil (⟨rfl, (nL.seq (aC.region (aB.run II 2 rfl (aB.kept (Kept.xn 3 rfl rfl (Kept.op 3 rfl rfl (Kept.cls 3 rfl rfl rfl rfl (Kept.now ⟨rfl, (nL.Gq ?_)⟩))))))))⟩)))))
 refine aC.region (aB.run II 1 rfl (aB.c2 rfl (db (aF rfl) BD rfl rfl (Ds ps _)) (aB.kept (Kept.aH [.h, .s 3, .s 6] rfl (by decide) (Kept.now ⟨rfl, (B4.range (H := vr H ps 0) (H2 := vr H ps (di ps).length) (caps := [.op (H.next + 1) 0]) (ps := [7]) (ys := Hs ps (vr H ps)) (fun _ => rfl) (fun _ => rfl) rfl rfl (by kernel_rfl) (A7 ps hc _ _ (BQ _ _ _)) (by decide) (by decide) ?_ ?_ ?_)⟩)))))
 ·intro y hy
  obtain ⟨j, _, rfl⟩ := List.mem_map.1 hy
  rfl
 ·intro y hy
  obtain ⟨j, hj, rfl⟩ := List.mem_map.1 hy
  have hj := List.mem_range.1 hj
  have hb := rA hc
  rw [← lB] at hb
  have hb2 := p7 (l := di ps) (k := j)
  show nb _ _ _ _ _ _ [((di ps).getD j gE).av] (vr H ps j) (vr H ps (j + 1))
  unfold vr
  rw [kE hj, wu hj]
  generalize cz ((di ps).take j) = c at hb2
  generalize (di ps)[j] = x
  intro E l
  refine ar.region (aB.run II 2 rfl (aB.nil ⟨rfl, fun E' => (ar.blk (ar.seq (ar.region (aB.run II 3 rfl (aB.nil (ar.cond rfl (fun hc1 => ?_) (fun hc1 => ?_)))))))⟩))
  ·refine ar.region (aB.c1 rfl (dI (aF rfl) de rfl rfl (kB _ _ _) rfl) (aB.c1 rfl (bI (aF rfl) rfl rfl (Gc (a := c) (by omega))) (aB.c1 rfl (oY de rfl rfl (kB _ _ _) rfl rfl rfl) (aB.nil ⟨rfl, ?_⟩))))
   rw [if_pos (eq_of_beq hc1)]
   exact congrArg (fun K => some (CV.hp K)) (pX _ _ _ _)
  ·refine ar.skip ⟨rfl, ?_⟩
   rw [if_neg (ne_of_beq_false hc1)]; rfl
 ·exact aC.seq (aC.region (aB.c1 rfl (dI (aF rfl) de rfl rfl (kB _ _ _) rfl) (aB.run II 1 rfl (aB.nil (aC.ret ⟨.inr rfl, (aE.r1 rfl (.tmp rfl .nil)).cast (by rw [List.take_of_length_le (Nat.le_refl _), lB]; rfl), rfl⟩)))))
theorem mN (ps : List aR) (hc : CB ps) : Pure Tryz.prog 8 [bo ps] (.int .i64 (10 + (dN ps : Int))) := by
 have e0 : bo ps = .agg [.sl (ps.map aR.av)] := rfl
 intro H
 refine dW.lets (H1 := pW H ps (di ps).length) ?_ (.int _ _) (by show H.next ≤ H.next + 1 + 1; omega) (fun i hi => uB _ _ _ hi)
 refine dW.wa Tryz.func8 rfl rfl (ft rfl) (nL.seq (aC.region (aB.run II 2 rfl (aB.nil (⟨rfl, (nL.seq (aC.region (aB.run II 2 rfl (aB.kept (Kept.xn 3 rfl rfl (Kept.op 3 rfl rfl (Kept.cls 3 rfl rfl rfl rfl (Kept.now ⟨rfl, (nL.Gq ?_)⟩))))))))⟩)))))
 refine aC.region (aB.run II 1 rfl (aB.c2 rfl (db (aF rfl) BD rfl rfl (Ds ps _)) (aB.kept (Kept.aH [.h, .s 3, .s 6] rfl (by decide) (Kept.now ⟨rfl, (B4.range (H := pW H ps 0) (H2 := pW H ps (di ps).length) (caps := [.op (H.next + 1) 0]) (ps := [7]) (ys := Hs ps (pW H ps)) (fun _ => rfl) (fun _ => rfl) rfl rfl (by kernel_rfl) (A7 ps hc _ _ (BQ _ _ _)) (by decide) (by decide) ?_ ?_ ?_)⟩)))))
 ·intro y hy
  obtain ⟨j, _, rfl⟩ := List.mem_map.1 hy
  rfl
 ·intro y hy
  obtain ⟨j, hj, rfl⟩ := List.mem_map.1 hy
  have hj := List.mem_range.1 hj
  have hb := lr hc
  rw [← m9] at hb
  have hb2 := ke (l := di ps) (k := j + 1)
  have hd : ((di ps)[j]).dv.s.length ≤ 140737488355328 := by
   obtain ⟨p, hp, hx⟩ := List.mem_flatMap.1 (List.getElem_mem hj : (di ps)[j] ∈ ps.flatMap (·.ops))
   exact (hc.2 p hp).2 _ hx
  show nb _ _ _ _ _ _ [((di ps).getD j gE).av] (pW H ps j) (pW H ps (j + 1))
  unfold pW
  rw [jX hj] at hb2 ⊢
  rw [wu hj]
  generalize cH ((di ps).take j) = c at hb2
  generalize (di ps)[j] = x at hb2 hd
  intro E l
  refine ar.region (aB.run II 2 rfl (aB.nil ⟨rfl, fun E' => (ar.blk (ar.seq (ar.region (aB.run II 2 rfl (aB.nil (ar.blk (ar.seq (ar.region ?_))))))))⟩))
  refine aB.run II 2 rfl (aB.nil (ar.cond rfl (fun hc1 => ?_) (fun hc1 => ?_)))
  ·refine ar.region (aB.c1 rfl (dI (aF rfl) de rfl rfl (kB _ _ _) rfl) (aB.c1 rfl (bI (aF rfl) rfl rfl (jZ (by omega) (by omega))) (aB.c1 rfl (oY de rfl rfl (kB _ _ _) rfl rfl rfl) (aB.nil ⟨rfl, (congrArg (fun K => some (CV.hp K)) ((pX _ _ _ _).trans (congrArg (nK H ps) ?_)))⟩))))
   rw [Dx (eq_of_beq hc1)]; omega
  ·refine ar.seq (ar.region (aB.run II 2 rfl (aB.nil (ar.cond rfl (fun hc2 => ?_) (fun hc2 => ?_)))))
   ·refine ar.region (aB.c1 rfl (dI (aF rfl) de rfl rfl (kB _ _ _) rfl) (aB.run II 4 rfl ?_))
    iterate 2 (refine aB.c1 rfl (bI (aF rfl) rfl rfl (jZ (by omega) (by omega))) ?_)
    refine aB.c1 rfl (oY de rfl rfl (kB _ _ _) rfl rfl rfl) (aB.nil ⟨rfl, (congrArg (fun K => some (CV.hp K)) ((pX _ _ _ _).trans (congrArg (nK H ps) ?_)))⟩)
    rw [Dw (eq_of_beq hc2)]; omega
   ·refine ar.skip ⟨rfl, ?_⟩
    rw [Dy (ne_of_beq_false hc1) (ne_of_beq_false hc2)]; rfl
 ·exact aC.seq (aC.region (aB.c1 rfl (dI (aF rfl) de rfl rfl (kB _ _ _) rfl) (aB.run II 1 rfl (aB.nil (aC.ret ⟨.inr rfl, (aE.r1 rfl (.tmp rfl .nil)).cast (by rw [List.take_of_length_le (Nat.le_refl _), m9]; rfl), rfl⟩)))))
theorem wR (ps : List aR) (hc : CB ps) : Pure Tryz.prog 7 [bo ps] (.tup [.int .i64 (10 + (dN ps : Int) + 41), .int .i64 (10 + (dN ps : Int) + 40)]) := by
 have e0 : bo ps = .agg [.sl (ps.map aR.av)] := rfl
 have hb := lr hc
 refine Pure.aN Tryz.func7 rfl rfl (aF rfl) fun H => (aC.seq (aC.region (aB.run II 3 rfl (aB.nil (aC.seq (aC.region (aB.run II 1 rfl (aB.c1 rfl (aG (aF rfl) qp rfl (mN ps hc)) (aB.run II 1 rfl (aB.nil (aC.seq (aC.region (aB.run II 1 rfl ?_)))))))))))))
 iterate 2 (refine aB.c1 rfl (bI (aF rfl) rfl rfl (jZ (by omega) (by omega))) ?_)
 exact aB.run II 1 rfl (aB.c1 rfl (bI (aF rfl) rfl rfl (jZ (by omega) (by omega))) (aB.run II 2 rfl (aB.nil (aC.ret ⟨.inr rfl, (aE.r2 rfl (.tmp rfl (.tmp rfl .nil))).cast (by simp only [Int.add_assoc]; rfl), rfl⟩))))
/-! ### what is made shorter is not great either -/
theorem xe {all : List aR} {p q : aR} (h : gQ all p = some q) : ∀ x ∈ q.ops, ∃ y ∈ p.ops, x.dv = y.dv := by
 have hd : ∀ (p : aR) (a : List Int), ∀ x ∈ (p.drop a).ops, ∃ y ∈ p.ops, x.dv = y.dv := fun p a x hx => ⟨x, (cc a p.ops 0).mem hx, rfl⟩
 have hr : ∀ (p q : aR) (u v : Int), (∀ x ∈ q.ops, ∃ y ∈ p.ops, x.dv = y.dv) → ∀ x ∈ (q.cS u v).ops, ∃ y ∈ p.ops, x.dv = y.dv := fun p q u v h x hx => by
  obtain ⟨z, h1, rfl⟩ := List.mem_map.1 hx
  obtain ⟨y, h2, h3⟩ := h z h1
  exact ⟨y, h2, (oD u v z).2.1.trans h3⟩
 obtain ⟨i, x, h1, h2⟩ := dD h
 rw [Nat.zero_add] at h2
 split at h2
 ·cases h2; exact hd _ _
 ·obtain ⟨k, y, h3, h4⟩ := dD h2
  unfold e8 at h4
  split at h4
  ·cases h4
   intro z hz
   rcases List.mem_or_eq_of_mem_set ((cc _ _ 0).mem hz) with h5 | rfl
   ·exact ⟨z, h5, rfl⟩
   ·exact ⟨x, List.mem_of_getElem? h1, rfl⟩
  ·split at h4
   ·cases h4; exact hr _ _ _ _ (hd _ _)
   ·split at h4
    ·cases h4; exact hr _ _ _ _ (hr _ _ _ _ (hd _ _))
    ·split at h4
     ·cases h4; exact hr _ _ _ _ (hd _ _)
     ·cases h4
theorem tv : ∀ (n : Nat) {l : List aR}, CB l → CB (hD n l)
 | 0, l, h => h
 | n + 1, l, h => by
  rw [hD]
  cases e : fI l with
  | none => exact h
  | some r =>
   refine tv n ?_
   obtain ⟨i, p, q, h1, h2, h3, rfl⟩ := mo e
   refine ⟨by rw [List.length_set]; exact h.1, fun r hr => ?_⟩
   rcases List.mem_or_eq_of_mem_set hr with h4 | rfl
   ·exact h.2 r h4
   ·have hp := h.2 p (List.mem_of_getElem? h1)
    refine ⟨by have := h3.len; omega, fun x hx => ?_⟩
    obtain ⟨y, h5, h6⟩ := xe h2 x hx
    rw [h6]; exact hp.2 y h5
theorem Df.cb {ps : List aR} (h : Df ps) : CB ps ∧ CB (m6 ps) := ⟨⟨h.len, h.n⟩, tv _ ⟨h.len, h.n⟩⟩
theorem rq (a : Int) : (!(a == a)) = false := by simp
theorem qv (a : Int) : (a == a) = true := by simp
def Eh : aR := { bY with name := [77] }
theorem Ix : CB [Eh] := ⟨by decide, fun p hp => by rw [List.mem_singleton.1 hp]; exact ⟨by decide, fun x hx => by cases hx⟩⟩
theorem oS : Pure Tryz.prog 5 [] (.bool true) := by
 refine Pure.aN Tryz.func5 rfl rfl (Nat.zero_le _) fun H => (aC.seq (aC.region (aB.run II 1 rfl (aB.nil (aC.seq (aC.region (aB.run II 5 rfl (aB.nil (aC.seq (aC.region (aB.run II 1 rfl (aB.c1 rfl (aG (aF rfl) EE rfl (wR [Eh] Ix)) (aB.run II 5 rfl (aB.nil (aC.seq (aC.region (aB.run II 1 rfl (aB.c1 rfl (aG (aF rfl) qp rfl (mN [Eh] Ix)) ?_))))))))))))))))))
 exact aB.run II 10 rfl (aB.nil (aC.ret ⟨.inr rfl, (aE.r1 rfl (.tmp rfl .nil)).cast rfl, rfl⟩))
/- the law of what programs cost -/
theorem BI : aa Tryz.prog 10 = true := by kernel_rfl
theorem BH : aa Tryz.prog 11 = true := by kernel_rfl
theorem BG : aa Tryz.prog 12 = true := by kernel_rfl
theorem BF : aa Tryz.prog 13 = true := by kernel_rfl
theorem H9 : aa Tryz.prog 4 = true := by kernel_rfl
theorem Aw : aa Tryz.prog 5 = true := by kernel_rfl
theorem wx : aa Tryz.prog 6 = true := by kernel_rfl
theorem wv : aa Tryz.prog 9 = true := by kernel_rfl
section
variable {s : aM} {l : List aP} {L : List aM} {e : Int} (hc : lD s l) (hsm : fl l = true)
include hc hsm
theorem Iz (h : s.all l = .ok L) : Pure Tryz.prog 6 [fS s l, .bool false] (.tup [bo (lower s l), (L.getD l.length lS).av, .bool true]) := by
 have := q8 s l hc.s.fT (hc.steps hsm) (by have := (jg hsm).1; omega)
 rw [h] at this; exact this
theorem JA (h : s.all l = .error e) : Pure Tryz.prog 6 [fS s l, .bool false] (.tup [.agg [.sl []], lS.av, .bool false]) := by
 have := q8 s l hc.s.fT (hc.steps hsm) (by have := (jg hsm).1; omega)
 rw [h] at this; exact this
theorem JB (h : s.all l = .ok L) : Pure Tryz.prog 6 [fS s l, .bool true] (.tup [bo (m6 (lower s l)), (L.getD l.length lS).av, .bool true]) := by
 have := oH s l hc.s.fT (hc.steps hsm) (fun x hx => (hc.b x hx).s) (by have := (jg hsm).1; omega)
 rw [h] at this; exact this
theorem JC (h : s.all l = .error e) : Pure Tryz.prog 6 [fS s l, .bool true] (.tup [.agg [.sl []], lS.av, .bool false]) := by
 have := oH s l hc.s.fT (hc.steps hsm) (fun x hx => (hc.b x hx).s) (by have := (jg hsm).1; omega)
 rw [h] at this; exact this
theorem BT (h : s.all l = .ok L) : Df (lower s l) := kC h fun x hx => ⟨(hc.steps hsm x hx).2, (hc.b x hx).s⟩
end
theorem rh (s : aM) (l : List aP) (hc : lD s l) (H : Hp) : B6 Tryz.prog 3 [fS s l] H (.bool true) := by
 have e0 : fS s l = .agg [.sl (s.enums.map dP.av), .sl (s.msgs.map aU.av), .sl (l.map aP.av)] := rfl
 refine B6.aN Tryz.func3 rfl rfl (aF rfl) (aC.seq (aC.region (aB.run II 2 rfl (aB.nil (aC.seq (aC.seq (aC.region (aB.run II 1 rfl (aB.c1 rfl (aG (aF rfl) H9 rfl (zY s l [] hc (fun t ht => (List.not_mem_nil ht).elim) (by decide))) (aB.run II 1 rfl (aB.nil (aC.cond rfl (fun hc1 => ?_) (fun hc1 => ?_)))))))))))))
 ·exact aC.seq (aC.region (aB.c1 rfl (aG (aF rfl) Aw rfl oS) (aB.run II 1 rfl (aB.nil (aC.ret ⟨.inr rfl, (aE.r1 rfl (.tmp rfl .nil)).cast rfl⟩)))))
 ·refine aC.skip (aC.seq (aC.region (aB.run II 1 rfl ?_)))
  have hsm : fl l = true := by simp [gL] at hc1; exact hc1.2
  cases hp1 : s.all l with
  | ok x1 => 
   have hcb := (BT hc hsm hp1).cb
   have hbq := lr hcb.2
   have hle : ¬ ((10 + (dN (lower s l) : Int)) < 10 + (dN (m6 (lower s l)) : Int)) := by
    have : dN (m6 (lower s l)) ≤ dN (lower s l) := pF _ _
    omega
   refine aB.c1 rfl (aG (aF rfl) wx rfl (Iz hc hsm hp1)) (aB.run II 9 rfl (aB.nil (aC.seq (aC.region (aB.run II 1 rfl (aB.c1 rfl (aG (aF rfl) wx rfl (JB hc hsm hp1)) (aB.run II 9 rfl (aB.nil (aC.seq (aC.seq (aC.region (aB.run II 6 rfl (aB.nil (aC.bR rfl (congrArg not rfl) (aC.skip (aC.seq (aC.region (aB.run II 1 rfl ?_))))))))))))))))))
   refine aB.c1 rfl (aG (aF rfl) EE rfl (wR _ hcb.2)) (aB.run II 5 rfl (aB.nil (aC.seq (aC.seq (aC.drawn mixed rfl (aD.run II 1 rfl (aD.c1 rfl (aG (aF rfl) qp rfl (mN _ hcb.1)) (aD.run II 1 rfl (aD.c1 rfl (aG (aF rfl) wv rfl (nQ _ hcb.1)) (aD.run II 2 rfl (aD.g1 rfl (aF rfl) rfl (rq _) (eJ (aF rfl) cx rfl rfl rfl) (aD.g1 rfl (aF rfl) rfl (rq _) (aG (aF rfl) qp rfl (mN _ hcb.2)) (aD.g1 rfl (aF rfl) rfl (rq _) (eJ (aF rfl) cx rfl rfl rfl) ?_)))))))))))))
   refine aD.g1 rfl (aF rfl) rfl (rq _) (aG (aF rfl) wv rfl (nQ _ hcb.2)) (aD.g1 rfl (aF rfl) rfl (rq _) (bI (aF rfl) rfl rfl rfl) (aD.c1 rfl (cC (aF rfl) rfl (rq _) rfl) (aD.run II 1 rfl (aD.g1 rfl (aF rfl) rfl (rq _) (eJ (aF rfl) cx rfl rfl rfl) (aD.g1 rfl (aF rfl) rfl (rq _) (aG (aF rfl) qp rfl (mN _ hcb.2)) (aD.g1 rfl (aF rfl) rfl (rq _) (eJ (aF rfl) cx rfl rfl rfl) (aD.g1 rfl (aF rfl) rfl (rq _) (aG (aF rfl) qp rfl (mN _ hcb.1)) (aD.g1 rfl (aF rfl) rfl (rq _) (bI (aF rfl) rfl rfl rfl) (aD.c1 rfl (cC (aF rfl) rfl (rq _) rfl) (aD.run II 1 rfl (aD.g1 rfl (aF rfl) rfl (decide_eq_false hle) (fx (aF rfl) rfl) ?_)))))))))))
   refine aD.g1 rfl (aF rfl) rfl (decide_eq_false hle) (eJ (aF rfl) cx rfl rfl rfl) (aD.g1 rfl (aF rfl) rfl (decide_eq_false hle) (aG (aF rfl) wv rfl (nQ _ hcb.2)) (aD.g1 rfl (aF rfl) rfl (decide_eq_false hle) (bI (aF rfl) rfl rfl (jZ (by omega) (by omega))) (aD.g1 rfl (aF rfl) rfl (decide_eq_false hle) (bI (aF rfl) rfl rfl rfl) (aD.c1 rfl (cC (aF rfl) rfl (decide_eq_false hle) rfl) (aD.run II 1 rfl (aD.g1 rfl (aF rfl) rfl (rq _) (fx (aF rfl) rfl) (aD.g1 rfl (aF rfl) rfl (rq _) (eJ (aF rfl) cx rfl rfl rfl) (aD.g1 rfl (aF rfl) rfl (rq _) (aG (aF rfl) wv rfl (nQ _ hcb.2)) (aD.g1 rfl (aF rfl) rfl (rq _) (bI (aF rfl) rfl rfl (jZ (by omega) (by omega))) (aD.g1 rfl (aF rfl) rfl (rq _) (bI (aF rfl) rfl rfl rfl) (aD.c1 rfl (cC (aF rfl) rfl (rq _) rfl) ?_)))))))))))
   refine aD.nil (by kernel_rfl) (Kept.now (aC.bR rfl (rq _) (aC.skip (aC.seq (aC.drawn mixed rfl (aD.run II 1 rfl (aD.c1 rfl (aG (aF rfl) BI rfl (zS _ hcb.1.1)) (aD.run II 1 rfl (aD.c1 rfl (aG (aF rfl) BH rfl (wN _ hcb.1.1)) (aD.run II 2 rfl (aD.g1 rfl (aF rfl) rfl (qv _) (eJ (aF rfl) cx rfl rfl rfl) (aD.g1 rfl (aF rfl) rfl (qv _) (aG (aF rfl) BI rfl (zS _ hcb.2.1)) (aD.g1 rfl (aF rfl) rfl (qv _) (eJ (aF rfl) cx rfl rfl rfl) ?_)))))))))))))
   refine aD.g1 rfl (aF rfl) rfl (qv _) (aG (aF rfl) BH rfl (wN _ hcb.2.1)) (aD.g1 rfl (aF rfl) rfl (qv _) (bI (aF rfl) rfl rfl rfl) (aD.c1 rfl (cJ (aF rfl) rfl (qv _) rfl) (aD.run II 1 rfl (aD.g1 rfl (aF rfl) rfl (qv _) (eJ (aF rfl) cx rfl rfl rfl) (aD.g1 rfl (aF rfl) rfl (qv _) (aG (aF rfl) BG rfl (wX _ hcb.1)) (aD.g1 rfl (aF rfl) rfl (qv _) (eJ (aF rfl) cx rfl rfl rfl) (aD.g1 rfl (aF rfl) rfl (qv _) (aG (aF rfl) BF rfl (tC _ hcb.1)) (aD.g1 rfl (aF rfl) rfl (qv _) (bI (aF rfl) rfl rfl rfl) (aD.c1 rfl (cJ (aF rfl) rfl (qv _) rfl) (aD.run II 1 rfl (aD.g1 rfl (aF rfl) rfl (qv _) (eJ (aF rfl) cx rfl rfl rfl) ?_)))))))))))
   exact aD.g1 rfl (aF rfl) rfl (qv _) (aG (aF rfl) BG rfl (wX _ hcb.2)) (aD.g1 rfl (aF rfl) rfl (qv _) (eJ (aF rfl) cx rfl rfl rfl) (aD.g1 rfl (aF rfl) rfl (qv _) (aG (aF rfl) BF rfl (tC _ hcb.2)) (aD.g1 rfl (aF rfl) rfl (qv _) (bI (aF rfl) rfl rfl rfl) (aD.c1 rfl (cJ (aF rfl) rfl (qv _) rfl) (aD.run II 1 rfl (aD.g1 rfl (aF rfl) rfl (qv _) (aG (aF rfl) Aw rfl oS) (aD.c1 rfl (cJ (aF rfl) rfl (qv _) rfl) (aD.run II 1 rfl (aD.nil (by kernel_rfl) (Kept.now (aC.ret ⟨.inr rfl, (aE.r1 rfl (.tmp rfl .nil)).cast rfl⟩)))))))))))
  | error e1 => 
   refine aB.c1 rfl (aG (aF rfl) wx rfl (JA hc hsm hp1)) (aB.run II 9 rfl (aB.nil (aC.seq (aC.region (aB.run II 1 rfl (aB.c1 rfl (aG (aF rfl) wx rfl (JC hc hsm hp1)) (aB.run II 9 rfl (aB.nil (aC.seq (aC.seq (aC.region (aB.run II 6 rfl (aB.nil (aC.bG rfl rfl (aC.seq (aC.region (aB.c1 rfl (aG (aF rfl) Aw rfl oS) ?_)))))))))))))))))
   exact aB.run II 1 rfl (aB.nil (aC.ret ⟨.inr rfl, (aE.r1 rfl (.tmp rfl .nil)).cast rfl⟩))
/- How much a value holds. No condition. -/
structure Tree.Ib (t : Tree) : Prop where
 s : t.ak.length ≤ 140737488355328
 r : t.rest.length ≤ 140737488355328
 v : ∀ x ∈ t.ak, x.cI.length ≤ 140737488355328
 m : ∀ x ∈ t.ak, ∀ v ∈ x.cI, v.m.length ≤ 140737488355328
 vs : ∀ x ∈ t.ak, ∀ v ∈ x.cI, v.s.length ≤ 140737488355328
 vn : ∀ x ∈ t.ak, ∀ v ∈ x.cI, v.n < 18446744073709551616
 rs : ∀ r ∈ t.rest, r.s.length ≤ 140737488355328
 rn : ∀ r ∈ t.rest, r.n < 18446744073709551616
def Tree.fits (t : Tree) : Prop := t.j8 Tree.Ib
theorem Tree.fits.fT {t : Tree} (h : t.fits) : t.fT := fun u hu => by
 have h1 := h u hu
 exact ⟨Nat.le_trans h1.s (by omega), Nat.le_trans h1.r (by omega), fun x hx => Nat.le_trans (h1.v x hx) (by omega), fun x hx v hv => Nat.le_trans (h1.m x hx v hv) (by omega), fun x hx v hv => Nat.le_trans (h1.vs x hx v hv) (by omega), h1.vn, fun r hr => Nat.le_trans (h1.rs r hr) (by omega), h1.rn⟩
/- Whatever comes in of a plain type is one: the pieces, and values. No condition. -/
section
variable {P : Program} {n : Nat} {t e : TypeId} {acs : List AV}
theorem fE {k : IntKind} (hu : P.underlying t = some (.int k)) (h : Ty P n t acs) : ∃ m, acs = [.int k m] ∧ (Lit.int k m).wf = true := by
 cases n with
 | zero => exact h.elim
 | succ n => unfold Ty at h; rw [hu] at h; exact h
theorem wF (hu : P.underlying t = some .bool) (h : Ty P n t acs) : ∃ b, acs = [.bool b] := by
 cases n with
 | zero => exact h.elim
 | succ n => unfold Ty at h; rw [hu] at h; exact h
theorem fD (hu : P.underlying t = some .string) (h : Ty P n t acs) : ∃ s : aw, acs = [.str s] ∧ s.length ≤ 140737488355328 := by
 cases n with
 | zero => exact h.elim
 | succ n => unfold Ty at h; rw [hu] at h; obtain ⟨s, h1, h2⟩ := h; exact ⟨s, h1, by unfold reachBytes at h2; omega⟩
theorem dY (hu : P.underlying t = some (.slice e)) (hb : 1 ≤ P.bytesOf e) (h : Ty P n t acs) : ∃ (k : Nat) (css : List (List AV)), k < n ∧ acs = [.sl (css.map (pack P e))] ∧ css.length ≤ 140737488355328 ∧ ∀ c ∈ css, Ty P k e c := by
 cases n with
 | zero => exact h.elim
 | succ n =>
  unfold Ty at h; rw [hu] at h
  obtain ⟨css, h1, h2, h3⟩ := h
  refine ⟨n, css, by omega, h1, ?_, h3⟩
  have : css.length * 1 ≤ css.length * P.bytesOf e := Nat.mul_le_mul_left _ hb
  unfold reachBytes at h2
  omega
theorem cr {fs : Array Field} (hu : P.underlying t = some (.struct fs)) (h : Ty P n t acs) : ∃ k, k < n ∧ Dc P (Ty P k) (fs.toList.map (·.type)) acs := by
 cases n with
 | zero => exact h.elim
 | succ n => unfold Ty at h; rw [hu] at h; exact ⟨n, by omega, h⟩
theorem aj {R : TypeId → List AV → Prop} {t : TypeId} {ts : List TypeId} (h : Dc P R (t :: ts) acs) : ∃ a b, acs = a ++ b ∧ R t a ∧ Dc P R ts b := by
 obtain ⟨a, b, h1, _, h3, h4⟩ := h; exact ⟨a, b, h1, h3, h4⟩
theorem eX {R : TypeId → List AV → Prop} (h : Dc P R [] acs) : acs = [] := h
theorem cR {fs : Array Field} (hu : P.underlying t = some (.struct fs)) (cs : List AV) : pack P t cs = .agg cs := by unfold pack; rw [hu]
theorem eG {α : Type} {f : α → List AV} {Q : α → Prop} : ∀ {css : List (List AV)}, (∀ c ∈ css, ∃ x : α, c = f x ∧ Q x) → ∃ xs : List α, css = xs.map f ∧ ∀ x ∈ xs, Q x
 | [], _ => ⟨[], rfl, by simp⟩
 | c :: css, h => by
  obtain ⟨x, h1, h2⟩ := h c (by simp)
  obtain ⟨xs, h3, h4⟩ := eG (css := css) fun c hc => h c (by simp [hc])
  exact ⟨x :: xs, by simp [h1, h3], by intro y hy; rcases List.mem_cons.1 hy with rfl | hy; exact h2; exact h4 y hy⟩
end
theorem dc {α : Type} {P : Program} {t : TypeId} {f : α → List AV} {g : α → AV} (h : ∀ x, pack P t (f x) = g x) (xs : List α) : (xs.map f).map (pack P t) = xs.map g := by
 rw [List.map_map]; congr 1; funext x; exact h x
theorem Dh {m : Int} (h : (Lit.int .u64 m).wf = true) : ∃ k : Nat, m = (k : Int) ∧ k < 18446744073709551616 := by
 have : 0 ≤ m ∧ m ≤ 18446744073709551615 := by simpa [Lit.wf, IntKind.min, IntKind.max, IntKind.signed, IntKind.bits] using h
 exact ⟨m.toNat, by omega, by omega⟩
abbrev TY := Ty Tryz.prog
theorem Eo (m : Int) : pack Tryz.prog 3 [.int .i64 m] = dL m := by unfold pack; rw [Tryz.underlying3]; rfl
theorem ET {n : Nat} {acs : List AV} (h : TY n 99 acs) : ∃ f : Rw, acs = f.cells ∧ f.s.length ≤ 140737488355328 ∧ f.n < 18446744073709551616 := by
 obtain ⟨k, _, h⟩ := cr Tryz.underlying99 h
 obtain ⟨a1, b1, rfl, h1, wa1⟩ := aj h; obtain ⟨s1, rfl, _⟩ := fE Tryz.underlying3 h1
 obtain ⟨a2, b2, rfl, h1, wa2⟩ := aj wa1; obtain ⟨s2, rfl, _⟩ := fE Tryz.underlying3 h1
 obtain ⟨a3, b3, rfl, h1, wa3⟩ := aj wa2; obtain ⟨s3, rfl, w3⟩ := fE Tryz.underlying62 h1
 obtain ⟨a4, b4, rfl, h1, wa4⟩ := aj wa3; obtain ⟨s4, rfl, w4⟩ := fD Tryz.underlying9 h1
 obtain rfl := eX wa4
 obtain ⟨k3, rfl, hk⟩ := Dh w3
 exact ⟨⟨s1, s2, k3, s4⟩, rfl, w4, hk⟩
theorem Em (f : Rw) : pack Tryz.prog 99 f.cells = f.av := cR Tryz.underlying99 _
theorem Ej (f : cf) : pack Tryz.prog 64 f.cells = f.av := by rw [cR Tryz.underlying64, cf.dE]
theorem C6 (f : Slot) : pack Tryz.prog 83 f.cells = f.av := by rw [cR Tryz.underlying83, Slot.dE]
theorem C5 (f : Tree) : pack Tryz.prog 45 f.cells = f.av := by rw [cR Tryz.underlying45, Tree.dE]
def cf.fits (v : cf) : Prop := v.n < 18446744073709551616 ∧ v.s.length ≤ 140737488355328 ∧ v.m.length ≤ 140737488355328 ∧ ∀ u ∈ v.m, u.fits
def Slot.fits (x : Slot) : Prop := x.cI.length ≤ 140737488355328 ∧ ∀ v ∈ x.cI, v.fits
theorem zA {n : Nat} {acs : List AV} (ih : ∀ k < n, ∀ acs, TY k 45 acs → ∃ t : Tree, acs = t.cells ∧ t.fits) (h : TY n 64 acs) : ∃ v : cf, acs = v.cells ∧ v.fits := by
 obtain ⟨k, hk, h⟩ := cr Tryz.underlying64 h
 obtain ⟨a1, b1, rfl, h1, wa1⟩ := aj h; obtain ⟨s1, rfl, w1⟩ := fE Tryz.underlying62 h1
 obtain ⟨a2, b2, rfl, h1, wa2⟩ := aj wa1; obtain ⟨s2, rfl, w2⟩ := fD Tryz.underlying9 h1
 obtain ⟨a3, b3, rfl, h1, wa3⟩ := aj wa2; obtain ⟨k3, l3, hk3, rfl, e3, h3⟩ := dY Tryz.underlying40 (by decide +kernel) h1
 obtain rfl := eX wa3
 obtain ⟨k1, rfl, hk1⟩ := Dh w1
 obtain ⟨xs, rfl, hx⟩ := eG (f := Tree.cells) (Q := Tree.fits) fun c hc => ih k3 (by omega) c (h3 c hc)
 rw [dc C5]
 exact ⟨.mk k1 s2 xs, rfl, hk1, w2, by rw [List.length_map] at e3; exact e3, hx⟩
theorem Bn {n : Nat} {acs : List AV} (ih : ∀ k < n, ∀ acs, TY k 45 acs → ∃ t : Tree, acs = t.cells ∧ t.fits) (h : TY n 83 acs) : ∃ v : Slot, acs = v.cells ∧ v.fits := by
 obtain ⟨k, hk, h⟩ := cr Tryz.underlying83 h
 obtain ⟨a1, b1, rfl, h1, wa1⟩ := aj h; obtain ⟨s1, rfl, w1⟩ := fE Tryz.underlying3 h1
 obtain ⟨a3, b3, rfl, h1, wa3⟩ := aj wa1; obtain ⟨k3, l3, hk3, rfl, e3, h3⟩ := dY Tryz.underlying81 (by decide +kernel) h1
 obtain rfl := eX wa3
 obtain ⟨xs, rfl, hx⟩ := eG (f := cf.cells) (Q := cf.fits) fun c hc => zA (n := k3) (fun j hj => ih j (by omega)) (h3 c hc)
 rw [dc Ej]
 exact ⟨.mk s1 xs, rfl, by rw [List.length_map] at e3; exact e3, hx⟩
theorem Bm : ∀ (n : Nat) (acs : List AV), TY n 45 acs → ∃ t : Tree, acs = t.cells ∧ t.fits := by
 intro n
 induction n using Nat.strongRecOn with
 | _ n ih =>
  intro acs h
  obtain ⟨k, hk, h⟩ := cr Tryz.underlying45 h
  obtain ⟨a1, b1, rfl, h1, wa1⟩ := aj h; obtain ⟨k1, l1, hk1, rfl, e1, h1⟩ := dY Tryz.underlying42 (by decide +kernel) h1
  obtain ⟨a2, b2, rfl, h2, wa2⟩ := aj wa1; obtain ⟨k2, l2, hk2, rfl, e2, h2⟩ := dY Tryz.underlying43 (by decide +kernel) h2
  obtain rfl := eX wa2
  obtain ⟨xs, rfl, hx⟩ := eG (f := Slot.cells) (Q := Slot.fits) fun c hc => Bn (n := k1) (fun j hj => ih j (by omega)) (h1 c hc)
  obtain ⟨ys, rfl, hy⟩ := eG (f := Rw.cells) (Q := fun r => r.s.length ≤ 140737488355328 ∧ r.n < 18446744073709551616) fun c hc => ET (h2 c hc)
  rw [dc C6, dc Em]
  refine ⟨.mk xs ys, rfl, Tree.j8.mk ⟨by rw [List.length_map] at e1; exact e1, by rw [List.length_map] at e2; exact e2, fun x h => (hx x h).1, fun x h v hv => ((hx x h).2 v hv).2.2.1, fun x h v hv => ((hx x h).2 v hv).2.1, fun x h v hv => ((hx x h).2 v hv).1, fun r h => (hy r h).1, fun r h => (hy r h).2⟩ fun x h v hv => ((hx x h).2 v hv).2.2.2⟩
/- Whatever comes in as a schema is one. No condition. -/
theorem EV {n : Nat} {acs : List AV} (h : TY n 77 acs) : ∃ f : ag, acs = f.cells := by
 obtain ⟨k, _, h⟩ := cr Tryz.underlying77 h
 obtain ⟨a1, b1, rfl, h1, wa1⟩ := aj h; obtain ⟨s1, rfl, _⟩ := fD Tryz.underlying9 h1
 obtain ⟨a2, b2, rfl, h1, wa2⟩ := aj wa1; obtain ⟨s2, rfl, _⟩ := fE Tryz.underlying3 h1
 obtain ⟨a3, b3, rfl, h1, wa3⟩ := aj wa2; obtain ⟨s3, rfl, _⟩ := fE Tryz.underlying3 h1
 obtain ⟨a4, b4, rfl, h1, wa4⟩ := aj wa3; obtain ⟨s4, rfl, _⟩ := fD Tryz.underlying9 h1
 obtain ⟨a5, b5, rfl, h1, wa5⟩ := aj wa4; obtain ⟨s5, rfl⟩ := wF Tryz.underlying4 h1
 obtain ⟨a6, b6, rfl, h1, wa6⟩ := aj wa5; obtain ⟨s6, rfl⟩ := wF Tryz.underlying4 h1
 obtain ⟨a7, b7, rfl, h1, wa7⟩ := aj wa6; obtain ⟨s7, rfl, _⟩ := fD Tryz.underlying9 h1
 obtain rfl := eX wa7
 exact ⟨⟨s1, s2, s3, s4, s5, s6, s7⟩, rfl⟩
theorem Ep (f : ag) : pack Tryz.prog 77 f.cells = f.av := cR Tryz.underlying77 _
theorem EU {n : Nat} {acs : List AV} (h : TY n 73 acs) : ∃ m : aU, acs = m.cells ∧ m.fields.length ≤ 140737488355328 := by
 obtain ⟨k, _, h⟩ := cr Tryz.underlying73 h
 obtain ⟨a1, b1, rfl, h1, wa1⟩ := aj h; obtain ⟨s1, rfl, _⟩ := fD Tryz.underlying9 h1
 obtain ⟨a2, b2, rfl, h1, wa2⟩ := aj wa1; obtain ⟨k2, l2, _, rfl, e2, h2⟩ := dY Tryz.underlying71 (by decide +kernel) h1
 obtain ⟨a3, b3, rfl, h1, wa3⟩ := aj wa2; obtain ⟨k3, l3, _, rfl, e3, h3⟩ := dY Tryz.underlying50 (by decide +kernel) h1
 obtain rfl := eX wa3
 obtain ⟨xs, rfl, _⟩ := eG (f := ag.cells) (Q := fun _ => True) fun c hc => (by obtain ⟨f, hf⟩ := EV (h2 c hc); exact ⟨f, hf, trivial⟩)
 obtain ⟨ys, rfl, _⟩ := eG (f := fun m : Int => [AV.int .i64 m]) (Q := fun _ => True) fun c hc => (by obtain ⟨m, hm, _⟩ := fE Tryz.underlying3 (h3 c hc); exact ⟨m, hm, trivial⟩)
 rw [dc Ep, dc Eo]
 exact ⟨⟨s1, xs, ys⟩, rfl, by simpa using e2⟩
theorem En (f : aU) : pack Tryz.prog 73 f.cells = f.av := cR Tryz.underlying73 _
theorem EP {n : Nat} {acs : List AV} (h : TY n 75 acs) : ∃ f : iy, acs = f.cells := by
 obtain ⟨k, _, h⟩ := cr Tryz.underlying75 h
 obtain ⟨a1, b1, rfl, h1, wa1⟩ := aj h; obtain ⟨s1, rfl, _⟩ := fD Tryz.underlying9 h1
 obtain ⟨a2, b2, rfl, h1, wa2⟩ := aj wa1; obtain ⟨s2, rfl, _⟩ := fE Tryz.underlying3 h1
 obtain rfl := eX wa2
 exact ⟨⟨s1, s2⟩, rfl⟩
theorem Ei (f : iy) : pack Tryz.prog 75 f.cells = f.av := cR Tryz.underlying75 _
theorem EW {n : Nat} {acs : List AV} (h : TY n 70 acs) : ∃ m : dP, acs = m.cells ∧ m.values.length ≤ 140737488355328 := by
 obtain ⟨k, _, h⟩ := cr Tryz.underlying70 h
 obtain ⟨a1, b1, rfl, h1, wa1⟩ := aj h; obtain ⟨s1, rfl, _⟩ := fD Tryz.underlying9 h1
 obtain ⟨a2, b2, rfl, h1, wa2⟩ := aj wa1; obtain ⟨k2, l2, _, rfl, e2, h2⟩ := dY Tryz.underlying68 (by decide +kernel) h1
 obtain rfl := eX wa2
 obtain ⟨xs, rfl, _⟩ := eG (f := iy.cells) (Q := fun _ => True) fun c hc => (by obtain ⟨f, hf⟩ := EP (h2 c hc); exact ⟨f, hf, trivial⟩)
 rw [dc Ei]
 exact ⟨⟨s1, xs⟩, rfl, by simpa using e2⟩
theorem Er (f : dP) : pack Tryz.prog 70 f.cells = f.av := cR Tryz.underlying70 _
theorem ES {n : Nat} {acs : List AV} (h : TY n 25 acs) : ∃ s : aM, acs = s.cells ∧ s.lens := by
 obtain ⟨k, _, h⟩ := cr Tryz.underlying25 h
 obtain ⟨a1, b1, rfl, h1, wa1⟩ := aj h; obtain ⟨k1, l1, _, rfl, e1, h1⟩ := dY Tryz.underlying22 (by decide +kernel) h1
 obtain ⟨a2, b2, rfl, h2, wa2⟩ := aj wa1; obtain ⟨k2, l2, _, rfl, e2, h2⟩ := dY Tryz.underlying23 (by decide +kernel) h2
 obtain rfl := eX wa2
 obtain ⟨xs, rfl, hx⟩ := eG (f := dP.cells) (Q := fun m => m.values.length ≤ 140737488355328) fun c hc => EW (h1 c hc)
 obtain ⟨ys, rfl, hy⟩ := eG (f := aU.cells) (Q := fun m => m.fields.length ≤ 140737488355328) fun c hc => EU (h2 c hc)
 rw [dc Er, dc En]
 exact ⟨⟨xs, ys⟩, rfl, ⟨by simpa using e1, by simpa using e2, hx, hy⟩⟩
end Go.Proofs.YtpifnegikoldmaaGreatDoor.X
