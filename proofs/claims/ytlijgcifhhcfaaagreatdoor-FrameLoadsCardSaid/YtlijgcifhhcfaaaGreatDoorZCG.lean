/- the document: a schema, sorted. -/
import Derived.Test.YtlijgcifhhcfaaaGreatDoorZCF
import Derived.Test.YtlijgcifhhcfaaaGreatDoorZCE
set_option linter.unusedVariables false
set_option linter.unusedSimpArgs false
set_option linter.unusedSectionVars false
set_option maxRecDepth 100000
namespace Go.Proofs.YtlijgcifhhcfaaaGreatDoor.X
open Go Go.RowKit Go.Proofs
theorem yP : aa Tryz.prog 126 = true := by kernel_rfl
theorem Fh : aa Tryz.prog 127 = true := by kernel_rfl
theorem fa : lk Tryz.prog 25 = some (true, 2) := by kernel_rfl
theorem iW : se Tryz.prog 113 = some (117, 2, 24) := by kernel_rfl
theorem sQ : se Tryz.prog 22 = some (115, 2, 40) := by kernel_rfl
theorem gF : se Tryz.prog 23 = some (75, 3, 64) := by kernel_rfl
theorem tV : bf Tryz.prog 117 = some [AV.str [], AV.int IntKind.i64 (0)] := by kernel_rfl
theorem Da : bf Tryz.prog 115 = some [AV.str [], AV.sl []] := by kernel_rfl
theorem xL : bf Tryz.prog 75 = some [AV.str [], AV.sl [], AV.sl []] := by kernel_rfl
def iu (s : aN) (i : Nat) : List dk := (s.enums.take i).foldl w7 []
def eP (s : aN) (i : Nat) : List aT := (s.msgs.take i).foldl kU []
structure aN.Bx (s : aN) : Prop where
 e : s.enums.length ≤ 100
 m : s.msgs.length ≤ 100
 v : ∀ x ∈ s.enums, x.values.length ≤ 100
 f : ∀ x ∈ s.msgs, x.fields.length ≤ 100
 b : ∀ x ∈ s.msgs, x.aj.length ≤ 100
theorem aN.Bx.vi {s : aN} (h : s.Bx) {i : Nat} (hi : i < s.enums.length) : s.enums[i].values.length ≤ 100 := h.v _ (List.getElem_mem hi)
theorem aN.Bx.fi {s : aN} (h : s.Bx) {i : Nat} (hi : i < s.msgs.length) : s.msgs[i].fields.length ≤ 100 := h.f _ (List.getElem_mem hi)
theorem aN.Bx.bi {s : aN} (h : s.Bx) {i : Nat} (hi : i < s.msgs.length) : s.msgs[i].aj.length ≤ 100 := h.b _ (List.getElem_mem hi)
theorem nW {α : Type} (l : List α) (k : Nat) (x : α) : (eT l k x).length = l.length + 1 := (lb l k x).length_eq
theorem mh {α β : Type} (f : List α → β → List α) (hf : ∀ acc x, (f acc x).length = acc.length + 1) : ∀ (l : List β) (acc : List α), (l.foldl f acc).length = acc.length + l.length
 | [], acc => rfl
 | b :: l, acc => by rw [List.foldl_cons, mh f hf l, hf, List.length_cons]; omega
theorem eG (s : aN) (i : Nat) : (iu s i).length ≤ s.enums.length := by
 unfold iu
 rw [mh w7 (fun acc x => nW _ _ _), List.length_take, List.length_nil]; omega
theorem bB (s : aN) (i : Nat) : (eP s i).length ≤ s.msgs.length := by
 unfold eP
 rw [mh kU (fun acc x => nW _ _ _), List.length_take, List.length_nil]; omega
theorem FG {s : aN} {i : Nat} (hi : i < s.msgs.length) : (eP s i).length = i := by
 unfold eP
 rw [mh kU (fun acc x => nW _ _ _), List.length_take, List.length_nil]; omega
theorem uk {s : aN} {i : Nat} (hi : i < s.enums.length) : iu s (i + 1) = eT (iu s i) (dm ((iu s i).map (·.name)) 0 s.enums[i].name) s.enums[i].sort := by
 have e : s.enums.take (i + 1) = s.enums.take i ++ [s.enums[i]] := by rw [List.take_add_one, List.getElem?_eq_getElem hi]; rfl
 unfold iu
 rw [e, List.foldl_append]; rfl
theorem u3 {s : aN} {i : Nat} (hi : i < s.msgs.length) : eP s (i + 1) = eT (eP s i) (if i = 0 then 0 else dm ((eP s i).map (·.name)) 1 s.msgs[i].name) s.msgs[i].sort := by
 have e : s.msgs.take (i + 1) = s.msgs.take i ++ [s.msgs[i]] := by rw [List.take_add_one, List.getElem?_eq_getElem hi]; rfl
 have h : eP s (i + 1) = kU (eP s i) s.msgs[i] := by unfold eP; rw [e, List.foldl_append]; rfl
 rw [h]
 unfold kU
 rw [FG hi]
theorem nV {α β : Type} (g : α → β) (l : List α) (k : Nat) (x : α) : (eT l k x).map g = eT (l.map g) k (g x) := by
 unfold eT
 rw [List.map_append, List.map_cons, List.map_take, List.map_drop]
theorem oV {α : Type} (f : α → AV) (l : List α) (k : Nat) (x : α) : ([] ++ (((l.map f).drop (0 : Int).toNat).take ((k : Int).toNat - (0 : Int).toNat))) ++ [f x] ++ (((l.map f).drop (k : Int).toNat).take (((l.map f).length : Int).toNat - (k : Int).toNat)) = (eT l k x).map f := by
 rw [(kv _).1, (kv _).2, nV]
 unfold eT
 rw [List.nil_append, List.append_assoc, Int.toNat_natCast]; rfl
theorem al (l : List aw) (f : Nat) (s : aw) : dm l f s ≤ l.length := by
 unfold dm
 split <;> omega
theorem fP (l : List aw) (a b : Nat) : c4 1 (((l.map AV.str).drop a).take b) = true := by
 rw [← List.map_drop, ← List.map_take]; exact rV id _
theorem okV (l : List jX) (a b : Nat) : c4 2 (((l.map jX.av).drop a).take b) = true := by
 rw [← List.map_drop, ← List.map_take]; exact bn jX.cells (fun _ => rfl) _
theorem oT (l : List dk) (a b : Nat) : c4 2 (((l.map dk.av).drop a).take b) = true := by
 rw [← List.map_drop, ← List.map_take]; exact bn dk.cells (fun _ => rfl) _
theorem oS (l : List aT) (a b : Nat) : c4 3 (((l.map aT.av).drop a).take b) = true := by
 rw [← List.map_drop, ← List.map_take]; exact bn aT.cells (fun _ => rfl) _
theorem Cu {s : aN} {i : Nat} (hi : i < s.enums.length) {k : Nat} (hk : k = dm ((iu s i).map (·.name)) 0 s.enums[i].name) : ([] ++ (((((iu s i).map (·.name)).map AV.str).drop (0 : Int).toNat).take ((k : Int).toNat - (0 : Int).toNat))) ++ [AV.str s.enums[i].name] ++ ((((iu s i).map (·.name)).map AV.str).drop (k : Int).toNat).take (((((iu s i).map (·.name)).map AV.str).length : Int).toNat - (k : Int).toNat) = ((iu s (i + 1)).map (·.name)).map AV.str := by
 rw [uk hi, nV, hk]; exact oV AV.str _ _ _
theorem JL {s : aN} {i : Nat} (hi : i < s.enums.length) {q : Nat} (hq : s.enums[i].values.length ≤ q) {k : Nat} (hk : k = dm ((iu s i).map (·.name)) 0 s.enums[i].name) : ([] ++ ((((iu s i).map dk.av).drop (0 : Int).toNat).take ((k : Int).toNat - (0 : Int).toNat))) ++ [AV.agg [.str s.enums[i].name, .sl ((bL (fun y x : jX => decide (y.num > x.num)) (s.enums[i].values.take q)).map jX.av)]] ++ (((iu s i).map dk.av).drop (k : Int).toNat).take ((((iu s i).map dk.av).length : Int).toNat - (k : Int).toNat) = (iu s (i + 1)).map dk.av := by
 rw [List.take_of_length_le hq, uk hi, hk]; exact oV dk.av _ _ s.enums[i].sort
theorem Lf {v : CV} {el esz : Nat} {t : Sv} {rest : List (aM × CV)} {a b c d : List AV} (h1 : a = b) (h2 : c = d) : ((aM.s 5, v) :: (aM.s 4, CV.sv (.ow 15 a)) :: (aM.t 15, CV.tk false el esz a) :: (aM.b 3, CV.bx [.v (.sl c), t]) :: rest) = [(aM.s 5, v), (aM.s 4, CV.sv (.ow 15 b)), (aM.t 15, CV.tk false el esz b), (aM.b 3, CV.bx [.v (.sl d), t])] ++ rest := by rw [h1, h2]; rfl
theorem u2 {s : aN} {i : Nat} (hi : i < s.msgs.length) {k : Nat} (hk : k = if i = 0 then 0 else dm ((eP s i).map (·.name)) 1 s.msgs[i].name) : ([] ++ (((((eP s i).map (·.name)).map AV.str).drop (0 : Int).toNat).take ((k : Int).toNat - (0 : Int).toNat))) ++ [AV.str s.msgs[i].name] ++ ((((eP s i).map (·.name)).map AV.str).drop (k : Int).toNat).take (((((eP s i).map (·.name)).map AV.str).length : Int).toNat - (k : Int).toNat) = ((eP s (i + 1)).map (·.name)).map AV.str := by
 rw [u3 hi, nV, ← hk]; exact oV AV.str _ _ _
theorem Bu {s : aN} {i : Nat} (hi : i < s.msgs.length) {k : Nat} (hk : k = if i = 0 then 0 else dm ((eP s i).map (·.name)) 1 s.msgs[i].name) : ([] ++ ((((eP s i).map aT.av).drop (0 : Int).toNat).take ((k : Int).toNat - (0 : Int).toNat))) ++ [s.msgs[i].sort.av] ++ (((eP s i).map aT.av).drop (k : Int).toNat).take ((((eP s i).map aT.av).length : Int).toNat - (k : Int).toNat) = (eP s (i + 1)).map aT.av := by
 rw [u3 hi, ← hk]; exact oV aT.av _ _ s.msgs[i].sort
theorem L8 {v : CV} {el esz : Nat} {t : Sv} {rest : List (aM × CV)} {a b c d : List AV} (h1 : a = b) (h2 : c = d) : ((aM.s 11, v) :: (aM.s 4, CV.sv (.ow 116 a)) :: (aM.t 116, CV.tk false el esz a) :: (aM.b 3, CV.bx [t, .v (.sl c)]) :: rest) = [(aM.s 11, v), (aM.s 4, CV.sv (.ow 116 b)), (aM.t 116, CV.tk false el esz b), (aM.b 3, CV.bx [t, .v (.sl d)])] ++ rest := by rw [h1, h2]; rfl
theorem L7 {v : CV} {n : Sv} {rest : List (aM × CV)} {a b : List AV} (h : a = b) : ((aM.s 7, v) :: (aM.b 6, CV.bx [n, .v (.sl a)]) :: rest) = [(aM.s 7, v), (aM.b 6, CV.bx [n, .v (.sl b)])] ++ rest := by rw [h]; rfl
theorem Kj {p : jX → Bool} {l : List jX} {j : Int} (hl : l.length ≤ 1000000) (h : oC p l j) (hf : 0 < j) : (l.map jX.av)[(IntKind.i64.wrap (j - 1)).toNat]? = some (.agg (JV default l j).cells) := by
 have hn := h.nn
 rw [eL (by omega) (by omega), List.getElem?_map, lA default h hf]; rfl
theorem tx (s : aN) (hs : s.Bx) : Pure Tryz.prog 85 [s.av] s.sorted.av := by
 have hsm := hs.m
 have hse := hs.e
 refine Pure.aL Tryz.func85 rfl rfl (aF rfl) fun H => (aC.seq (aC.region (aB.run II 2 rfl (aB.nil (aC.seq (aC.region (aB.run II 3 rfl (aB.nil (aC.seq (aC.region (aB.c2 rfl (bF («as» := []) (aF rfl) bO dR rfl rfl rfl (gI rfl) rfl) (aB.run II 1 rfl (aB.nil (aC.seq (aC.seq (aC.region (aB.run II 1 rfl (aB.nil (aC.blk (aC.aK (Kept.aJ [.s 5, .s 4, .t 15, .b 3, .h, .s 1, .b 1, .s 2, .b 2, .s 3] rfl (by decide) (Kept.now ?_))))))))))))))))))))))
 refine aC.aX (fun (i : Nat) => [(.s 5, .sv (.v (.int .i64 (i : Int)))), (.s 4, .sv (.ow 15 (((iu s i).map (·.name)).map AV.str))), (.t 15, .tk false 9 1 (((iu s i).map (·.name)).map AV.str)), (.b 3, .bx [.v (.sl ((iu s i).map dk.av)), .v (.sl (([] : List aT).map aT.av))])]) _ (fun (i : Nat) => True) (fun (i : Nat) => s.enums.length - i) 0 rfl trivial ?_
 rintro i hI
 refine aC.seq (aC.seq (aC.region (aB.run II 5 rfl (aB.nil (aC.cond rfl (fun hc1 => ?_) (fun hc1 => ?_))))))
 ·have hi := dD hc1
  refine aC.skip (aC.seq (aC.blk (aC.seq (aC.region (aB.run II 3 rfl (aB.c1 rfl (aH (aF rfl) dN rfl rfl (Int.natCast_nonneg _) (cF hi) rfl) (aB.run II 5 rfl (aB.nil (aC.seq (aC.seq (aC.region (aB.run II 1 rfl (aB.nil (aC.blk (aC.aK (Kept.aJ [.s 7, .b 6, .h, .s 1, .b 1, .s 2, .b 2, .s 3, .b 3, .s 4, .t 15, .s 5, .s 6] rfl (by decide) (Kept.now (aC.aX (fun (k : Nat) => [(.s 7, .sv (.v (.int .i64 (k : Int)))), (.b 6, .bx [.v (.str (s.enums[i]'hi).name), .v (.sl ((bL (fun y x : jX => decide (y.num > x.num)) ((s.enums[i]'hi).values.take k)).map jX.av))])]) _ (fun (k : Nat) => True) (fun (k : Nat) => (s.enums[i]'hi).values.length - k) 0 rfl trivial ?_))))))))))))))))))
  rintro k hK
  have hvi := hs.vi hi
  refine aC.seq (aC.seq (aC.region (aB.run II 4 rfl (aB.c1 rfl (aH (aF rfl) dN rfl rfl (Int.natCast_nonneg _) (cF hi) rfl) (aB.run II 4 rfl (aB.nil (aC.cond rfl (fun hc2 => ?_) (fun hc2 => ?_))))))))
  ·have hk := dD hc2
   refine aC.skip (aC.seq (aC.blk (aC.seq (aC.region (aB.run II 3 rfl (aB.c1 rfl (aH (aF rfl) dN rfl rfl (Int.natCast_nonneg _) (cF hi) rfl) (aB.run II 3 rfl (aB.c1 rfl (aH (aF rfl) fp rfl rfl (Int.natCast_nonneg _) (cF hk) rfl) (aB.run II 3 rfl (aB.nil (aC.seq (aC.region (aB.run II 4 rfl (aB.nil (aC.seq (aC.blk (aC.aK (Kept.aJ [.s 9, .h, .s 1, .b 1, .s 2, .b 2, .s 3, .b 3, .s 4, .t 15, .s 5, .s 6, .b 6, .s 7, .s 8, .b 8] rfl (by decide) (Kept.now (aC.aX (fun (j : Int) => [(.s 9, .sv (.v (.int .i64 j)))]) _ (fun (j : Int) => oC (fun y : jX => decide (y.num > ((s.enums[i]'hi).values[k]'hk).num)) (bL (fun y x : jX => decide (y.num > x.num)) ((s.enums[i]'hi).values.take k)) j) (fun (j : Int) => j.toNat) (((bL (fun y x : jX => decide (y.num > x.num)) ((s.enums[i]'hi).values.take k)).map jX.av).length : Int) rfl (by rw [List.length_map]; exact oC.start) ?_))))))))))))))))))))
   rintro j hJ
   have hnn := hJ.nn
   have hle := @ve _ (fun y x : jX => decide (y.num > x.num)) (s.enums[i]'hi).values k (by have := hs.vi hi; omega)
   refine aC.seq (aC.seq (aC.drawn mixed rfl (aD.run II 3 rfl (aD.tell (d := 55) rfl (fun hg3 => ?_) (fun hg3 => ?_)))))
   ·refine aD.run II 4 rfl (aD.g1 rfl (aF rfl) rfl rfl (aH (aF rfl) fp rfl rfl (by have := of_decide_eq_true hg3; rw [eL (by omega) (by omega)]; omega) (Kj (by omega) hJ (of_decide_eq_true hg3)) rfl) ?_)
    refine aD.run II 6 rfl (aD.nil (by kernel_rfl) (Kept.now (aC.cond rfl (fun hc4 => ?_) (fun hc4 => ?_))))
    ·exact aC.skip (aC.blk (aC.region (aB.run II 3 rfl (aB.kept (Kept.aJ [.s 9, .h, .s 1, .b 1, .s 2, .b 2, .s 3, .b 3, .s 4, .t 15, .s 5, .s 6, .b 6, .s 7, .s 8, .b 8] rfl (by decide) (Kept.now ⟨_, by show (IntKind.i64.wrap (j - 1)).toNat < j.toNat; have := of_decide_eq_true hg3; rw [eL (by omega) (by omega)]; omega, by rw [eL (by have := of_decide_eq_true hg3; omega) (by omega)]; exact hJ.step (of_decide_eq_true hg3) (lA default hJ (of_decide_eq_true hg3)) hc4, rfl⟩))))))
    ·refine aC.exit (aC.drawn mixed rfl (aD.c2 rfl (bF («as» := []) (aF rfl) iW tV rfl rfl rfl (gI rfl) rfl) (aD.run II 3 rfl (aD.c1 rfl (bH (aF rfl) fp rfl (fun e he => by obtain ⟨f, _, rfl⟩ := List.mem_map.1 he; rfl) rfl rfl (by omega) (by first | omega | (rw [List.length_map]; omega)) (by first | omega | (rw [List.length_map]; omega))) ?_))))
     refine aD.c3 rfl (aV (aF rfl) iW rfl rfl rfl (by first | rfl | exact okV _ _ _ | exact fP _ _ _ | exact oT _ _ _ | exact oS _ _ _) rfl (by simp only [List.length_append, List.length_map, List.length_take, List.length_drop, List.length_cons, List.length_nil]; omega) (by simp only [List.length_append, List.length_map, List.length_take, List.length_drop, List.length_cons, List.length_nil]; omega)) ?_
     refine aD.run II 2 rfl (aD.c3 rfl (aV (aF rfl) iW rfl rfl rfl (by first | rfl | exact okV _ _ _ | exact fP _ _ _ | exact oT _ _ _ | exact oS _ _ _) rfl (by simp only [List.length_append, List.length_map, List.length_take, List.length_drop, List.length_cons, List.length_nil]; omega) (by simp only [List.length_append, List.length_map, List.length_take, List.length_drop, List.length_cons, List.length_nil]; omega)) ?_)
     refine aD.run II 3 rfl (aD.c1 rfl (bH (aF rfl) fp rfl (fun e he => by obtain ⟨f, _, rfl⟩ := List.mem_map.1 he; rfl) rfl rfl (by omega) (by first | omega | (rw [List.length_map]; omega)) (by first | omega | (rw [List.length_map]; omega))) ?_)
     refine aD.c3 rfl (aV (aF rfl) iW rfl rfl rfl (by first | rfl | exact okV _ _ _ | exact fP _ _ _ | exact oT _ _ _ | exact oS _ _ _) rfl (by simp only [List.length_append, List.length_map, List.length_take, List.length_drop, List.length_cons, List.length_nil]; omega) (by simp only [List.length_append, List.length_map, List.length_take, List.length_drop, List.length_cons, List.length_nil]; omega)) ?_
     exact aD.run II 2 rfl (aD.nil (by kernel_rfl) (Kept.now (aC.region (aB.run II 3 rfl (aB.kept (Kept.aY 7 rfl (inc (by omega)) (Kept.forget 6 rfl (Kept.aJ [.s 7, .b 6, .h, .s 1, .b 1, .s 2, .b 2, .s 3, .b 3, .s 4, .t 15, .s 5, .s 6] rfl (by decide) (Kept.now ⟨k + 1, by omega, trivial, L7 (nU jX.av hk (hJ.stop (of_decide_eq_true hg3) (lA default hJ (of_decide_eq_true hg3)) hc4))⟩)))))))))
   ·refine aD.run II 11 rfl (aD.nil (by kernel_rfl) (Kept.now (aC.aZ rfl rfl (aC.exit (aC.drawn mixed rfl (aD.c2 rfl (bF («as» := []) (aF rfl) iW tV rfl rfl rfl (gI rfl) rfl) (aD.run II 3 rfl (aD.c1 rfl (bH (aF rfl) fp rfl (fun e he => by obtain ⟨f, _, rfl⟩ := List.mem_map.1 he; rfl) rfl rfl (by omega) (by first | omega | (rw [List.length_map]; omega)) (by first | omega | (rw [List.length_map]; omega))) ?_))))))))
    refine aD.c3 rfl (aV (aF rfl) iW rfl rfl rfl (by first | rfl | exact okV _ _ _ | exact fP _ _ _ | exact oT _ _ _ | exact oS _ _ _) rfl (by simp only [List.length_append, List.length_map, List.length_take, List.length_drop, List.length_cons, List.length_nil]; omega) (by simp only [List.length_append, List.length_map, List.length_take, List.length_drop, List.length_cons, List.length_nil]; omega)) ?_
    refine aD.run II 2 rfl (aD.c3 rfl (aV (aF rfl) iW rfl rfl rfl (by first | rfl | exact okV _ _ _ | exact fP _ _ _ | exact oT _ _ _ | exact oS _ _ _) rfl (by simp only [List.length_append, List.length_map, List.length_take, List.length_drop, List.length_cons, List.length_nil]; omega) (by simp only [List.length_append, List.length_map, List.length_take, List.length_drop, List.length_cons, List.length_nil]; omega)) ?_)
    refine aD.run II 3 rfl (aD.c1 rfl (bH (aF rfl) fp rfl (fun e he => by obtain ⟨f, _, rfl⟩ := List.mem_map.1 he; rfl) rfl rfl (by omega) (by first | omega | (rw [List.length_map]; omega)) (by first | omega | (rw [List.length_map]; omega))) ?_)
    refine aD.c3 rfl (aV (aF rfl) iW rfl rfl rfl (by first | rfl | exact okV _ _ _ | exact fP _ _ _ | exact oT _ _ _ | exact oS _ _ _) rfl (by simp only [List.length_append, List.length_map, List.length_take, List.length_drop, List.length_cons, List.length_nil]; omega) (by simp only [List.length_append, List.length_map, List.length_take, List.length_drop, List.length_cons, List.length_nil]; omega)) ?_
    exact aD.run II 2 rfl (aD.nil (by kernel_rfl) (Kept.now (aC.region (aB.run II 3 rfl (aB.kept (Kept.aY 7 rfl (inc (by omega)) (Kept.forget 6 rfl (Kept.aJ [.s 7, .b 6, .h, .s 1, .b 1, .s 2, .b 2, .s 3, .b 3, .s 4, .t 15, .s 5, .s 6] rfl (by decide) (Kept.now ⟨k + 1, by omega, trivial, L7 (nU jX.av hk (hJ.low (of_decide_eq_false hg3)))⟩)))))))))
  ·have hk := dE hc2
   refine aC.exit (aC.seq (aC.region (aB.run II 3 rfl (aB.c1 rfl (aG (aF rfl) yP rfl (xc ((iu s i).map (·.name)) 0 _ (by have := eG s i; rw [List.length_map]; omega))) ?_))))
   refine aB.run II 1 rfl (aB.nil (aC.seq (aC.drawn mixed rfl (aD.c2 rfl (bF («as» := []) (aF rfl) bO dR rfl rfl rfl (gI rfl) rfl) (aD.run II 2 rfl (aD.c1 rfl (bH (aF rfl) cD rfl (fun e he => by obtain ⟨f, _, rfl⟩ := List.mem_map.1 he; rfl) rfl rfl (by omega) (by first | omega | (have := al ((iu s i).map (·.name)) 0 (s.enums[i]'hi).name; simp only [List.length_map] at *; omega)) (by first | omega | (have := al ((iu s i).map (·.name)) 0 (s.enums[i]'hi).name; simp only [List.length_map] at *; omega))) ?_))))))
   refine aD.c3 rfl (aV (aF rfl) bO rfl rfl rfl (by first | rfl | exact okV _ _ _ | exact fP _ _ _ | exact oT _ _ _ | exact oS _ _ _) rfl (by have := eG s i; have := al ((iu s i).map (·.name)) 0 (s.enums[i]'hi).name; simp only [List.length_append, List.length_map, List.length_take, List.length_drop, List.length_cons, List.length_nil] at *; omega) (by have := eG s i; have := al ((iu s i).map (·.name)) 0 (s.enums[i]'hi).name; simp only [List.length_append, List.length_map, List.length_take, List.length_drop, List.length_cons, List.length_nil] at *; omega)) ?_
   refine aD.run II 3 rfl (aD.c3 rfl (aV (aF rfl) bO rfl rfl rfl (by first | rfl | exact okV _ _ _ | exact fP _ _ _ | exact oT _ _ _ | exact oS _ _ _) rfl (by have := eG s i; have := al ((iu s i).map (·.name)) 0 (s.enums[i]'hi).name; simp only [List.length_append, List.length_map, List.length_take, List.length_drop, List.length_cons, List.length_nil] at *; omega) (by have := eG s i; have := al ((iu s i).map (·.name)) 0 (s.enums[i]'hi).name; simp only [List.length_append, List.length_map, List.length_take, List.length_drop, List.length_cons, List.length_nil] at *; omega)) ?_)
   refine aD.run II 2 rfl (aD.c1 rfl (bH (aF rfl) cD rfl (fun e he => by obtain ⟨f, _, rfl⟩ := List.mem_map.1 he; rfl) rfl rfl (by omega) (by first | omega | (have := al ((iu s i).map (·.name)) 0 (s.enums[i]'hi).name; simp only [List.length_map] at *; omega)) (by first | omega | (have := al ((iu s i).map (·.name)) 0 (s.enums[i]'hi).name; simp only [List.length_map] at *; omega))) ?_)
   refine aD.c3 rfl (aV (aF rfl) bO rfl rfl rfl (by first | rfl | exact okV _ _ _ | exact fP _ _ _ | exact oT _ _ _ | exact oS _ _ _) rfl (by have := eG s i; have := al ((iu s i).map (·.name)) 0 (s.enums[i]'hi).name; simp only [List.length_append, List.length_map, List.length_take, List.length_drop, List.length_cons, List.length_nil] at *; omega) (by have := eG s i; have := al ((iu s i).map (·.name)) 0 (s.enums[i]'hi).name; simp only [List.length_append, List.length_map, List.length_take, List.length_drop, List.length_cons, List.length_nil] at *; omega)) ?_
   refine aD.run II 1 rfl (aD.nil (by kernel_rfl) (Kept.now (aC.drawn mixed rfl (aD.c2 rfl (bF («as» := []) (aF rfl) sQ Da rfl rfl rfl (gI rfl) rfl) (aD.run II 3 rfl (aD.c1 rfl (bH (aF rfl) dN rfl (fun e he => by obtain ⟨f, _, rfl⟩ := List.mem_map.1 he; rfl) rfl rfl (by omega) (by first | omega | (have := al ((iu s i).map (·.name)) 0 (s.enums[i]'hi).name; simp only [List.length_map] at *; omega)) (by first | omega | (have := al ((iu s i).map (·.name)) 0 (s.enums[i]'hi).name; simp only [List.length_map] at *; omega))) ?_))))))
   refine aD.c3 rfl (aV (aF rfl) sQ rfl rfl rfl (by first | rfl | exact okV _ _ _ | exact fP _ _ _ | exact oT _ _ _ | exact oS _ _ _) rfl (by have := eG s i; have := al ((iu s i).map (·.name)) 0 (s.enums[i]'hi).name; simp only [List.length_append, List.length_map, List.length_take, List.length_drop, List.length_cons, List.length_nil] at *; omega) (by have := eG s i; have := al ((iu s i).map (·.name)) 0 (s.enums[i]'hi).name; simp only [List.length_append, List.length_map, List.length_take, List.length_drop, List.length_cons, List.length_nil] at *; omega)) ?_
   refine aD.run II 2 rfl (aD.c3 rfl (aV (aF rfl) sQ rfl rfl rfl (by first | rfl | exact okV _ _ _ | exact fP _ _ _ | exact oT _ _ _ | exact oS _ _ _) rfl (by have := eG s i; have := al ((iu s i).map (·.name)) 0 (s.enums[i]'hi).name; simp only [List.length_append, List.length_map, List.length_take, List.length_drop, List.length_cons, List.length_nil] at *; omega) (by have := eG s i; have := al ((iu s i).map (·.name)) 0 (s.enums[i]'hi).name; simp only [List.length_append, List.length_map, List.length_take, List.length_drop, List.length_cons, List.length_nil] at *; omega)) ?_)
   refine aD.run II 3 rfl (aD.c1 rfl (bH (aF rfl) dN rfl (fun e he => by obtain ⟨f, _, rfl⟩ := List.mem_map.1 he; rfl) rfl rfl (by omega) (by first | omega | (have := al ((iu s i).map (·.name)) 0 (s.enums[i]'hi).name; simp only [List.length_map] at *; omega)) (by first | omega | (have := al ((iu s i).map (·.name)) 0 (s.enums[i]'hi).name; simp only [List.length_map] at *; omega))) ?_)
   refine aD.c3 rfl (aV (aF rfl) sQ rfl rfl rfl (by first | rfl | exact okV _ _ _ | exact fP _ _ _ | exact oT _ _ _ | exact oS _ _ _) rfl (by have := eG s i; have := al ((iu s i).map (·.name)) 0 (s.enums[i]'hi).name; simp only [List.length_append, List.length_map, List.length_take, List.length_drop, List.length_cons, List.length_nil] at *; omega) (by have := eG s i; have := al ((iu s i).map (·.name)) 0 (s.enums[i]'hi).name; simp only [List.length_append, List.length_map, List.length_take, List.length_drop, List.length_cons, List.length_nil] at *; omega)) ?_
   exact aD.run II 2 rfl (aD.nil (by kernel_rfl) (Kept.now (aC.region (aB.run II 3 rfl (aB.kept (Kept.aY 5 rfl (inc (by omega)) (Kept.forget 3 rfl (Kept.aJ [.s 5, .s 4, .t 100, .b 3, .h, .s 1, .b 1, .s 2, .b 2, .s 3] rfl (by decide) (Kept.gG 100 15 (by decide) rfl (Kept.now ⟨i + 1, by omega, trivial, Lf (Cu hi rfl) (JL hi (by omega) rfl)⟩))))))))))
 ·have hi := dE hc1
  refine aC.exit (aC.seq (aC.region (aB.c2 rfl (bF («as» := []) (aF rfl) bO dR rfl rfl rfl (gI rfl) rfl) (aB.run II 1 rfl (aB.nil (aC.seq (aC.seq (aC.region (aB.run II 1 rfl (aB.nil (aC.blk (aC.aK (Kept.aJ [.s 11, .s 4, .t 116, .b 3, .h, .s 1, .b 1, .s 2, .b 2, .s 3] rfl (by decide) (Kept.now (aC.aX (fun (q : Nat) => [(.s 11, .sv (.v (.int .i64 (q : Int)))), (.s 4, .sv (.ow 116 (((eP s q).map (·.name)).map AV.str))), (.t 116, .tk false 9 1 (((eP s q).map (·.name)).map AV.str)), (.b 3, .bx [.v (.sl ((iu s i).map dk.av)), .v (.sl ((eP s q).map aT.av))])]) _ (fun (q : Nat) => True) (fun (q : Nat) => s.msgs.length - q) 0 rfl trivial ?_)))))))))))))))
  rintro q hQ
  refine aC.seq (aC.seq (aC.region (aB.run II 5 rfl (aB.nil (aC.cond rfl (fun hc5 => ?_) (fun hc5 => ?_))))))
  ·have hq := dD hc5
   refine aC.skip (aC.seq (aC.blk (aC.seq (aC.region (aB.run II 3 rfl (aB.c1 rfl (aH (aF rfl) bM rfl rfl (Int.natCast_nonneg _) (cF hq) rfl) (aB.run II 1 rfl (aB.c1 rfl (aG (aF rfl) Fh rfl (ER _ (by have := hs.fi hq; omega) (by have := hs.bi hq; omega))) ?_))))))))
   refine aB.run II 2 rfl (aB.nil (aC.seq (aC.region (aB.run II 3 rfl (aB.c1 rfl (aG (aF rfl) yP rfl (xc ((eP s q).map (·.name)) 1 _ (by have := bB s q; rw [List.length_map]; omega))) ?_)))))
   refine aB.run II 1 rfl (aB.nil (aC.seq (aC.seq (aC.region (aB.run II 2 rfl (aB.nil (aC.cond rfl (fun hc6 => ?_) (fun hc6 => ?_))))))))
   ·refine aC.region (aB.run II 1 rfl (aB.nil (aC.seq (aC.drawn mixed rfl (aD.c2 rfl (bF («as» := []) (aF rfl) bO dR rfl rfl rfl (gI rfl) rfl) (aD.run II 2 rfl (aD.c1 rfl (bH (aF rfl) cD rfl (fun e he => by obtain ⟨f, _, rfl⟩ := List.mem_map.1 he; rfl) rfl rfl (by omega) (by first | omega | (have := bB s q; have := al ((eP s q).map (·.name)) 1 (s.msgs[q]'hq).sort.name; simp only [List.length_map] at *; omega)) (by first | omega | (have := bB s q; have := al ((eP s q).map (·.name)) 1 (s.msgs[q]'hq).sort.name; simp only [List.length_map] at *; omega))) ?_)))))))
    refine aD.c3 rfl (aV (aF rfl) bO rfl rfl rfl (by first | rfl | exact okV _ _ _ | exact fP _ _ _ | exact oT _ _ _ | exact oS _ _ _) rfl (by have := bB s q; have := al ((eP s q).map (·.name)) 1 (s.msgs[q]'hq).sort.name; simp only [List.length_append, List.length_map, List.length_take, List.length_drop, List.length_cons, List.length_nil] at *; omega) (by have := bB s q; have := al ((eP s q).map (·.name)) 1 (s.msgs[q]'hq).sort.name; simp only [List.length_append, List.length_map, List.length_take, List.length_drop, List.length_cons, List.length_nil] at *; omega)) ?_
    refine aD.run II 3 rfl (aD.c3 rfl (aV (aF rfl) bO rfl rfl rfl (by first | rfl | exact okV _ _ _ | exact fP _ _ _ | exact oT _ _ _ | exact oS _ _ _) rfl (by have := bB s q; have := al ((eP s q).map (·.name)) 1 (s.msgs[q]'hq).sort.name; simp only [List.length_append, List.length_map, List.length_take, List.length_drop, List.length_cons, List.length_nil] at *; omega) (by have := bB s q; have := al ((eP s q).map (·.name)) 1 (s.msgs[q]'hq).sort.name; simp only [List.length_append, List.length_map, List.length_take, List.length_drop, List.length_cons, List.length_nil] at *; omega)) ?_)
    refine aD.run II 2 rfl (aD.c1 rfl (bH (aF rfl) cD rfl (fun e he => by obtain ⟨f, _, rfl⟩ := List.mem_map.1 he; rfl) rfl rfl (by omega) (by first | omega | (have := bB s q; have := al ((eP s q).map (·.name)) 1 (s.msgs[q]'hq).sort.name; simp only [List.length_map] at *; omega)) (by first | omega | (have := bB s q; have := al ((eP s q).map (·.name)) 1 (s.msgs[q]'hq).sort.name; simp only [List.length_map] at *; omega))) ?_)
    refine aD.c3 rfl (aV (aF rfl) bO rfl rfl rfl (by first | rfl | exact okV _ _ _ | exact fP _ _ _ | exact oT _ _ _ | exact oS _ _ _) rfl (by have := bB s q; have := al ((eP s q).map (·.name)) 1 (s.msgs[q]'hq).sort.name; simp only [List.length_append, List.length_map, List.length_take, List.length_drop, List.length_cons, List.length_nil] at *; omega) (by have := bB s q; have := al ((eP s q).map (·.name)) 1 (s.msgs[q]'hq).sort.name; simp only [List.length_append, List.length_map, List.length_take, List.length_drop, List.length_cons, List.length_nil] at *; omega)) ?_
    refine aD.run II 1 rfl (aD.nil (by kernel_rfl) (Kept.now (aC.drawn mixed rfl (aD.c2 rfl (bF («as» := []) (aF rfl) gF xL rfl rfl rfl (gI rfl) rfl) (aD.run II 3 rfl (aD.c1 rfl (bH (aF rfl) bM rfl (fun e he => by obtain ⟨f, _, rfl⟩ := List.mem_map.1 he; rfl) rfl rfl (by omega) (by first | omega | (have := bB s q; have := al ((eP s q).map (·.name)) 1 (s.msgs[q]'hq).sort.name; simp only [List.length_map] at *; omega)) (by first | omega | (have := bB s q; have := al ((eP s q).map (·.name)) 1 (s.msgs[q]'hq).sort.name; simp only [List.length_map] at *; omega))) ?_))))))
    refine aD.c3 rfl (aV (aF rfl) gF rfl rfl rfl (by first | rfl | exact okV _ _ _ | exact fP _ _ _ | exact oT _ _ _ | exact oS _ _ _) rfl (by have := bB s q; have := al ((eP s q).map (·.name)) 1 (s.msgs[q]'hq).sort.name; simp only [List.length_append, List.length_map, List.length_take, List.length_drop, List.length_cons, List.length_nil] at *; omega) (by have := bB s q; have := al ((eP s q).map (·.name)) 1 (s.msgs[q]'hq).sort.name; simp only [List.length_append, List.length_map, List.length_take, List.length_drop, List.length_cons, List.length_nil] at *; omega)) ?_
    refine aD.run II 2 rfl (aD.c3 rfl (aV (aF rfl) gF rfl rfl rfl (by first | rfl | exact okV _ _ _ | exact fP _ _ _ | exact oT _ _ _ | exact oS _ _ _) rfl (by have := bB s q; have := al ((eP s q).map (·.name)) 1 (s.msgs[q]'hq).sort.name; simp only [List.length_append, List.length_map, List.length_take, List.length_drop, List.length_cons, List.length_nil] at *; omega) (by have := bB s q; have := al ((eP s q).map (·.name)) 1 (s.msgs[q]'hq).sort.name; simp only [List.length_append, List.length_map, List.length_take, List.length_drop, List.length_cons, List.length_nil] at *; omega)) ?_)
    refine aD.run II 3 rfl (aD.c1 rfl (bH (aF rfl) bM rfl (fun e he => by obtain ⟨f, _, rfl⟩ := List.mem_map.1 he; rfl) rfl rfl (by omega) (by first | omega | (have := bB s q; have := al ((eP s q).map (·.name)) 1 (s.msgs[q]'hq).sort.name; simp only [List.length_map] at *; omega)) (by first | omega | (have := bB s q; have := al ((eP s q).map (·.name)) 1 (s.msgs[q]'hq).sort.name; simp only [List.length_map] at *; omega))) ?_)
    refine aD.c3 rfl (aV (aF rfl) gF rfl rfl rfl (by first | rfl | exact okV _ _ _ | exact fP _ _ _ | exact oT _ _ _ | exact oS _ _ _) rfl (by have := bB s q; have := al ((eP s q).map (·.name)) 1 (s.msgs[q]'hq).sort.name; simp only [List.length_append, List.length_map, List.length_take, List.length_drop, List.length_cons, List.length_nil] at *; omega) (by have := bB s q; have := al ((eP s q).map (·.name)) 1 (s.msgs[q]'hq).sort.name; simp only [List.length_append, List.length_map, List.length_take, List.length_drop, List.length_cons, List.length_nil] at *; omega)) ?_
    exact aD.run II 2 rfl (aD.nil (by kernel_rfl) (Kept.now (aC.region (aB.run II 3 rfl (aB.kept (Kept.aY 11 rfl (inc (by omega)) (Kept.forget 3 rfl (Kept.aJ [.s 11, .s 4, .t 148, .b 3, .h, .s 1, .b 1, .s 2, .b 2, .s 3] rfl (by decide) (Kept.gG 148 116 (by decide) rfl (Kept.now ⟨q + 1, by omega, trivial, L8 (u2 (k := 0) hq (by rw [if_pos (by simpa using hc6)])) (Bu (k := 0) hq (by rw [if_pos (by simpa using hc6)]))⟩))))))))))
   ·refine aC.skip (aC.seq (aC.drawn mixed rfl (aD.c2 rfl (bF («as» := []) (aF rfl) bO dR rfl rfl rfl (gI rfl) rfl) (aD.run II 2 rfl (aD.c1 rfl (bH (aF rfl) cD rfl (fun e he => by obtain ⟨f, _, rfl⟩ := List.mem_map.1 he; rfl) rfl rfl (by omega) (by first | omega | (have := bB s q; have := al ((eP s q).map (·.name)) 1 (s.msgs[q]'hq).sort.name; simp only [List.length_map] at *; omega)) (by first | omega | (have := bB s q; have := al ((eP s q).map (·.name)) 1 (s.msgs[q]'hq).sort.name; simp only [List.length_map] at *; omega))) ?_)))))
    refine aD.c3 rfl (aV (aF rfl) bO rfl rfl rfl (by first | rfl | exact okV _ _ _ | exact fP _ _ _ | exact oT _ _ _ | exact oS _ _ _) rfl (by have := bB s q; have := al ((eP s q).map (·.name)) 1 (s.msgs[q]'hq).sort.name; simp only [List.length_append, List.length_map, List.length_take, List.length_drop, List.length_cons, List.length_nil] at *; omega) (by have := bB s q; have := al ((eP s q).map (·.name)) 1 (s.msgs[q]'hq).sort.name; simp only [List.length_append, List.length_map, List.length_take, List.length_drop, List.length_cons, List.length_nil] at *; omega)) ?_
    refine aD.run II 3 rfl (aD.c3 rfl (aV (aF rfl) bO rfl rfl rfl (by first | rfl | exact okV _ _ _ | exact fP _ _ _ | exact oT _ _ _ | exact oS _ _ _) rfl (by have := bB s q; have := al ((eP s q).map (·.name)) 1 (s.msgs[q]'hq).sort.name; simp only [List.length_append, List.length_map, List.length_take, List.length_drop, List.length_cons, List.length_nil] at *; omega) (by have := bB s q; have := al ((eP s q).map (·.name)) 1 (s.msgs[q]'hq).sort.name; simp only [List.length_append, List.length_map, List.length_take, List.length_drop, List.length_cons, List.length_nil] at *; omega)) ?_)
    refine aD.run II 2 rfl (aD.c1 rfl (bH (aF rfl) cD rfl (fun e he => by obtain ⟨f, _, rfl⟩ := List.mem_map.1 he; rfl) rfl rfl (by omega) (by first | omega | (have := bB s q; have := al ((eP s q).map (·.name)) 1 (s.msgs[q]'hq).sort.name; simp only [List.length_map] at *; omega)) (by first | omega | (have := bB s q; have := al ((eP s q).map (·.name)) 1 (s.msgs[q]'hq).sort.name; simp only [List.length_map] at *; omega))) ?_)
    refine aD.c3 rfl (aV (aF rfl) bO rfl rfl rfl (by first | rfl | exact okV _ _ _ | exact fP _ _ _ | exact oT _ _ _ | exact oS _ _ _) rfl (by have := bB s q; have := al ((eP s q).map (·.name)) 1 (s.msgs[q]'hq).sort.name; simp only [List.length_append, List.length_map, List.length_take, List.length_drop, List.length_cons, List.length_nil] at *; omega) (by have := bB s q; have := al ((eP s q).map (·.name)) 1 (s.msgs[q]'hq).sort.name; simp only [List.length_append, List.length_map, List.length_take, List.length_drop, List.length_cons, List.length_nil] at *; omega)) ?_
    refine aD.run II 1 rfl (aD.nil (by kernel_rfl) (Kept.now (aC.drawn mixed rfl (aD.c2 rfl (bF («as» := []) (aF rfl) gF xL rfl rfl rfl (gI rfl) rfl) (aD.run II 3 rfl (aD.c1 rfl (bH (aF rfl) bM rfl (fun e he => by obtain ⟨f, _, rfl⟩ := List.mem_map.1 he; rfl) rfl rfl (by omega) (by first | omega | (have := bB s q; have := al ((eP s q).map (·.name)) 1 (s.msgs[q]'hq).sort.name; simp only [List.length_map] at *; omega)) (by first | omega | (have := bB s q; have := al ((eP s q).map (·.name)) 1 (s.msgs[q]'hq).sort.name; simp only [List.length_map] at *; omega))) ?_))))))
    refine aD.c3 rfl (aV (aF rfl) gF rfl rfl rfl (by first | rfl | exact okV _ _ _ | exact fP _ _ _ | exact oT _ _ _ | exact oS _ _ _) rfl (by have := bB s q; have := al ((eP s q).map (·.name)) 1 (s.msgs[q]'hq).sort.name; simp only [List.length_append, List.length_map, List.length_take, List.length_drop, List.length_cons, List.length_nil] at *; omega) (by have := bB s q; have := al ((eP s q).map (·.name)) 1 (s.msgs[q]'hq).sort.name; simp only [List.length_append, List.length_map, List.length_take, List.length_drop, List.length_cons, List.length_nil] at *; omega)) ?_
    refine aD.run II 2 rfl (aD.c3 rfl (aV (aF rfl) gF rfl rfl rfl (by first | rfl | exact okV _ _ _ | exact fP _ _ _ | exact oT _ _ _ | exact oS _ _ _) rfl (by have := bB s q; have := al ((eP s q).map (·.name)) 1 (s.msgs[q]'hq).sort.name; simp only [List.length_append, List.length_map, List.length_take, List.length_drop, List.length_cons, List.length_nil] at *; omega) (by have := bB s q; have := al ((eP s q).map (·.name)) 1 (s.msgs[q]'hq).sort.name; simp only [List.length_append, List.length_map, List.length_take, List.length_drop, List.length_cons, List.length_nil] at *; omega)) ?_)
    refine aD.run II 3 rfl (aD.c1 rfl (bH (aF rfl) bM rfl (fun e he => by obtain ⟨f, _, rfl⟩ := List.mem_map.1 he; rfl) rfl rfl (by omega) (by first | omega | (have := bB s q; have := al ((eP s q).map (·.name)) 1 (s.msgs[q]'hq).sort.name; simp only [List.length_map] at *; omega)) (by first | omega | (have := bB s q; have := al ((eP s q).map (·.name)) 1 (s.msgs[q]'hq).sort.name; simp only [List.length_map] at *; omega))) ?_)
    refine aD.c3 rfl (aV (aF rfl) gF rfl rfl rfl (by first | rfl | exact okV _ _ _ | exact fP _ _ _ | exact oT _ _ _ | exact oS _ _ _) rfl (by have := bB s q; have := al ((eP s q).map (·.name)) 1 (s.msgs[q]'hq).sort.name; simp only [List.length_append, List.length_map, List.length_take, List.length_drop, List.length_cons, List.length_nil] at *; omega) (by have := bB s q; have := al ((eP s q).map (·.name)) 1 (s.msgs[q]'hq).sort.name; simp only [List.length_append, List.length_map, List.length_take, List.length_drop, List.length_cons, List.length_nil] at *; omega)) ?_
    exact aD.run II 2 rfl (aD.nil (by kernel_rfl) (Kept.now (aC.region (aB.run II 3 rfl (aB.kept (Kept.aY 11 rfl (inc (by omega)) (Kept.forget 3 rfl (Kept.aJ [.s 11, .s 4, .t 148, .b 3, .h, .s 1, .b 1, .s 2, .b 2, .s 3] rfl (by decide) (Kept.gG 148 116 (by decide) rfl (Kept.now ⟨q + 1, by omega, trivial, L8 (u2 hq (by rw [if_neg (by simpa using hc6)]; rfl)) (Bu hq (by rw [if_neg (by simpa using hc6)]; rfl))⟩))))))))))
  ·have hq := dE hc5
   exact aC.exit (aC.seq (aC.region (aB.run II 2 rfl (aB.nil (aC.ret ⟨.inr rfl, (aE.r1 rfl (.cell fa rfl rfl rfl rfl .nil)).cast (by have e1 : iu s i = s.enums.foldl w7 [] := (by unfold iu; rw [List.take_of_length_le hi]); have e2 : eP s q = s.msgs.foldl kU [] := (by unfold eP; rw [List.take_of_length_le hq]); rw [e1, e2]; rfl), rfl⟩)))))
open Go Go.RowKit
/- The program logic's rules: a row that is an object is lent to a call; a slot's value over it is a value for ever. No condition. -/
def gO (id : Nat) (ys : List AV) : AV → AV
 | .os i n c => if i = id ∧ n ≤ ys.length then .sl (ys.take n) else .os i n c
 | a => a
def lG (id : Nat) (ys : List AV) : AV → AV
 | .agg cs => .agg (cs.map (gO id ys))
 | a => gO id ys a
theorem py {id : Nat} {ys : List AV} {a : AV} (h : a.flat = true) : (gO id ys a).flat = true := by
 cases a <;> simp only [gO] <;> first | exact h | (split <;> rfl)
structure yl (G G' : Gh) (id blk esz : Nat) (ys : List AV) : Prop where
 le : G.le G'
 ob : G.ob id = some blk
 es : ∀ e ∈ ys, e.cells.length = esz
 kn : ∀ (j : Nat) x, (ys.flatMap AV.cells)[j]? = some x → ∃ v, G'.kn blk j = some v ∧ x.flat = true ∧ V G' v x
theorem V.gO {G G' : Gh} {id blk esz : Nat} {ys : List AV} (k : yl G G' id blk esz ys) {v : Value} {a : AV} (h : V G v a) : V G' v (gO id ys a) := by
 cases a
 case os i n c =>
  show V G' v (if i = id ∧ n ≤ ys.length then _ else _)
  split
  ·rename_i hi
   obtain ⟨rfl, hn⟩ := hi
   exact yj (xs := ys.flatMap AV.cells) h k.ob k.kn k.es (by rw [List.take_of_length_le]; rw [dA k.es]; exact Nat.le_refl _) hn
  ·exact h.mono k.le
 all_goals exact h.mono k.le
theorem V.lG {G G' : Gh} {id blk esz : Nat} {ys : List AV} (k : yl G G' id blk esz ys) {v : Value} {a : AV} (h : V G v a) : V G' v (lG id ys a) := by
 cases a
 case agg cs =>
  cases h
  rename_i vs hl hf hv
  refine .agg vs _ (by simpa using hl) (fun j c e => ?_) (fun j c e => ?_)
  ·rw [List.getElem?_map] at e
   cases hc : cs[j]? with
   | none => rw [hc] at e; cases e
   | some c0 => rw [hc] at e; cases e; exact py (hf j c0 hc)
  ·rw [List.getElem?_map] at e
   cases hc : cs[j]? with
   | none => rw [hc] at e; cases e
   | some c0 => rw [hc] at e; cases e; exact (hv j c0 hc).gO k
 all_goals exact h.gO k
def nF : AV → Bool
 | .bool _ | .int _ _ | .str _ | .nilp | .nsl | .nilf | .nili => true
 | _ => false
def nE : AV → Bool
 | .agg cs => cs.all nF
 | a => nF a
def pS : AV → Bool
 | .tup vs => vs.all nE
 | a => nE a
theorem V.nF {G G' : Gh} {v : Value} {a : AV} (hp : nF a = true) (h : V G v a) : V G' v a := by
 cases h <;> first | (cases hp; done) | constructor
theorem V.nE {G G' : Gh} {v : Value} {a : AV} (hp : nE a = true) (h : V G v a) : V G' v a := by
 cases a
 case agg cs =>
  cases h
  rename_i vs hl hf hv
  exact .agg vs cs hl hf fun j c e => (hv j c e).nF (List.all_eq_true.1 hp c (List.mem_of_getElem? e))
 all_goals exact h.nF hp
theorem V.pS {G G' : Gh} {v : Value} {a : AV} (hp : pS a = true) (h : V G v a) : V G' v a := by
 cases a
 case tup cs =>
  cases h
  rename_i vs hl hv
  exact .tup vs cs hl fun j c e => (hv j c e).nE (List.all_eq_true.1 hp c (List.mem_of_getElem? e))
 all_goals exact h.nE hp
section
variable {P : Program} {N : Nat} {s : St} {d : Nat} {ty : TypeId} {pos : String} {af : Array Edge} {g : Option (Nat × Bool)}
theorem Es {f : FuncId} {xs : Array Operand} {tys : Array TypeId} {«as» bs : List AV} {r : AV} {H : Hp} {esz : Nat} {zs : List AV} (id : Nat) (ys : List AV) (hN : d < N) (hf : aa P f = true) (hH : get s .h = some (.hp H)) (ha : lB xs.toList s = some «as») (ho : H.obj id = some (zs.map .v))
  (hes : ∀ e ∈ ys, e.cells.length = esz) (hz : zs.take (ys.length * esz) = ys.flatMap AV.cells) (hl : «as».map (lG id ys) = bs) (hp : Pure P f bs r) (hr : pS r = true) :
  ae P N ⟨some d, .call { callee := .value (.func f), args := xs, argTypes := tys }, ty, pos, af, g⟩ s (lv xs.toList ++ [.h]) [(.s d, .sv (.v r))] := by
 subst hl
 intro t hR E G L a w hr0 K Q hK
 have hH' : get t .h = some (.hp H) := by rw [hR .h (by simp)]; exact hH
 obtain ⟨cargs, hrun, hV⟩ := iI (ty := ty) (pos := pos) (af := af) (g := g) hf ha (dst := some d) E G L a w t hr0 (fun c hc => hR c (List.mem_append_left _ hc))
 obtain ⟨H1, gH, hok, hmay⟩ := hr0.heap
 rw [hH'] at gH; cases gH
 obtain ⟨blk, arr, el, p1, hh, hsz, hc, hno⟩ := hok.obj id _ ho
 let cells := arr.toList
 let G1 : Gh := G.add blk cells
 have hle1 : G.le G1 := Gh.qf (fun o u e => by rw [hno o] at e; cases e)
 have hkn1 : ew G1 w := by
  intro b o u e
  by_cases hb : b = blk
  ·subst hb
   have e2 : cells[o]? = some u := by simpa [G1, Gh.add] using e
   rw [cell_of_row w b o arr el (0, 0) hh]
   simpa [cells] using e2
  ·have e2 : G.kn b o = some u := by simpa [G1, Gh.add, hb] using e
   exact hr0.kn b o u e2
 have bj : yl G G1 id blk esz ys := ⟨hle1, p1, hes, fun j x hx => by
  rw [← hz, List.getElem?_take] at hx
  split at hx
  ·have h1 := hc j (.v x) (by rw [List.getElem?_map, hx]; rfl)
   have hj : j < arr.size := by have h1 := (List.getElem?_eq_some_iff.1 hx).1; have h2 := hsz.1; rw [List.length_map] at h2; omega
   refine ⟨arr.getD j undef, ?_, h1.1, V.mono hle1 h1.2⟩
   simp [G1, Gh.add, cells, Array.getD_eq_getD_getElem?, hj]
  ·cases hx⟩
 let H0 : Hp := ⟨H.next, fun _ => none⟩
 have hf0 : ∀ G2 w2 b, ¬ ab G2 H0 w2 b := by
  rintro G2 w2 b (⟨id, ⟨cs, h⟩, _⟩ | ⟨id, j, cs, el, esz, xs, b0, arr, t, fr, h, _⟩) <;> cases h
 have hok0 : dX G1 w H0 := ⟨fun id b e => hok.lt id b e, fun id id' b e e' ⟨_, k⟩ => (by cases k), fun id cs e => (by cases e), fun id j b hr => absurd (.inr ⟨id, j, hr⟩) (hf0 G1 w b)⟩
 have hV1 : VL G1 cargs («as».map (lG id ys)) := ⟨by rw [List.length_map]; exact hV.1, fun j y e => by
  rw [List.getElem?_map] at e
  cases hx : «as»[j]? with
  | none => rw [hx] at e; cases e
  | some x => rw [hx] at e; cases e; exact (hV.2 j x hx).lG bj⟩
 unfold Oper.wp
 rw [hrun]
 refine (hp H0 G1 w cargs ⟨(hr0.su hH').1, (hr0.su hH').2.1, fun g _ h => hf0 _ _ _ h⟩ hkn1 hok0 hV1).mono ?_
 rintro e w' ⟨v, G', rfl, hv, hx', hknG', hok', hf', hft'⟩
 have hblk : ∀ b, b < w.heap.size → w'.heap[b]? = w.heap[b]? := fun b hb => hf'.block b hb (hf0 _ _ b)
 have hst := hok.stay (w' := w') (Gh.le.refl G) rfl (fun b hb o => (hok.ab hb).2 o) (fun b hb => hblk b (hok.ab hb).1) hf'.size
 have hkn3 : ew G w' := by
  intro b o u e
  rw [World.cell?_of_block (w := w) (hblk b (hr0.wX e))]; exact hr0.kn b o u e
 have h1 := hr0.called (G' := G) hH' ⟨fun b o hb _ => rfl, fun id b e => ⟨e, rfl⟩, fun id b e => .inl ⟨id, e⟩⟩ hkn3 hst.1 ⟨hf'.os, hf'.tape, hf'.output, hf'.size, fun b hb _ => hblk b hb⟩ (fun b hb => .inr ((hst.2 b).1 hb))
 have h3 := h1.put d hN v (.v r) (hv.pS hr)
 refine hK v w' G L (h3.ext fun c => ?_)
 simp only [List.cons_append, List.nil_append, get]
 split
 ·rfl
 ·split
  ·rename_i h4; subst h4; exact hH'
  ·rfl
end
/-! ### rows, element for element -/
def bC (ys : List AV) : List Hc := (ys.flatMap AV.cells).map .v
theorem tv {esz : Nat} {ys : List AV} (h : ∀ e ∈ ys, e.cells.length = esz) : (bC ys).length = ys.length * esz := by
 unfold bC; rw [List.length_map, dA h]
theorem kG {esz : Nat} {ys : List AV} (h : ∀ e ∈ ys, e.cells.length = esz) {i j : Nat} {e : AV} (hi : ys[i]? = some e) (hj : j < esz) : (bC ys)[i * esz + j]? = (e.cells[j]?).map .v := by
 unfold bC; rw [List.getElem?_map, jQ h i j e hi hj]
theorem pb {esz : Nat} {ys : List AV} (h : c4 esz ys = true) : ∀ e ∈ ys, e.cells.length = esz := fun e he => (gk h e he).1
theorem xW : ∀ (l : List AV), mE (l.map .v) = some l
 | [] => rfl
 | a :: l => by simp only [List.map_cons, mE, Sv.av, xW l]
theorem rH {esz : Nat} : ∀ {ys : List AV} (h : ∀ e ∈ ys, e.cells.length = esz) {i : Nat} {e : AV} (_ : i < ys.length) (_ : e.cells.length = esz), (ys.set i e).flatMap AV.cells = (ys.flatMap AV.cells).take (i * esz) ++ e.cells ++ (ys.flatMap AV.cells).drop (i * esz + esz)
 | [], _, i, e, hi, _ => by simp at hi
 | y :: ys, h, 0, e, _, he => by
  have hy := h y List.mem_cons_self
  simp [List.drop_append, hy]
 | y :: ys, h, i + 1, e, hi, he => by
  have hy := h y List.mem_cons_self
  have ih := rH (fun e he => h e (List.mem_cons_of_mem _ he)) (i := i) (by simpa using hi) he
  rw [List.set_cons_succ, List.flatMap_cons, ih, List.flatMap_cons, Nat.succ_mul]
  rw [Nat.add_comm (i * esz) esz, List.take_append, List.drop_append, hy]
  rw [List.take_of_length_le (show y.cells.length ≤ esz + i * esz by omega), List.drop_eq_nil_of_le (show y.cells.length ≤ esz + i * esz + esz by omega)]
  simp only [Nat.add_sub_cancel_left, Nat.add_sub_cancel, List.append_assoc, List.nil_append]
theorem rJ {esz : Nat} {ys : List AV} (h : ∀ e ∈ ys, e.cells.length = esz) {i : Nat} {e : AV} (hi : i < ys.length) (he : e.cells.length = esz) : nk (bC ys) (i * esz) e.cells = bC (ys.set i e) := by
 unfold nk bC
 rw [rH h hi he, he, List.map_append, List.map_append, List.map_take, List.map_drop]
theorem x5 {esz : Nat} {ys : List AV} (h : ∀ e ∈ ys, e.cells.length = esz) {i f : Nat} {cs : List AV} (hi : ys[i]? = some (.agg cs)) (hf : f < esz) (av : AV) : (bC ys).set (i * esz + f) (.v av) = bC (ys.set i (.agg (cs.set f av))) := by
 have hlt := (List.getElem?_eq_some_iff.1 hi).1
 have hcs : cs.length = esz := h _ (List.mem_of_getElem? hi)
 have hle : i * esz + esz ≤ (bC ys).length := by rw [tv h, ← Nat.succ_mul]; exact Nat.mul_le_mul_right _ hlt
 have h2 : ∀ e ∈ ys.set i (.agg (cs.set f av)), e.cells.length = esz := fun e he => by
  rcases List.mem_or_eq_of_mem_set he with h3 | h3
  ·exact h e h3
  ·subst h3; simpa [AV.cells] using hcs
 rw [← rJ h hlt (by simpa [AV.cells] using hcs)]
 refine List.ext_getElem? fun j => ?_
 unfold nk
 have hl1 : ((bC ys).take (i * esz)).length = i * esz := by rw [List.length_take]; omega
 rw [List.append_assoc]
 by_cases h3 : j < i * esz
 ·rw [List.getElem?_append_left (by omega), List.getElem?_take, if_pos h3, List.getElem?_set_ne (by omega)]
 ·rw [List.getElem?_append_right (by omega), hl1]
  by_cases h4 : j < i * esz + esz
  ·rw [List.getElem?_append_left (by simp [AV.cells, hcs]; omega), List.getElem?_map]
   by_cases h5 : j = i * esz + f
   ·subst h5
    rw [List.getElem?_set_self (by omega)]
    simp only [AV.cells, Nat.add_sub_cancel_left, List.getElem?_set_self (show f < cs.length by omega)]
    rfl
   ·rw [List.getElem?_set_ne (fun e => h5 e.symm)]
    have := kG h (j := j - i * esz) hi (by omega)
    rw [show i * esz + (j - i * esz) = j by omega] at this
    rw [this]
    simp only [AV.cells]
    rw [List.getElem?_set_ne (by omega)]
  ·rw [List.getElem?_append_right (by simp [AV.cells, hcs]; omega), List.getElem?_drop, List.getElem?_set_ne (by omega)]
   congr 1
   simp [AV.cells, hcs]; omega
section
variable {P : Program} {N : Nat} {s : St} {d : Nat} {ty : TypeId} {pos : String} {af : Array Edge} {g : Option (Nat × Bool)}
theorem mV {t1 el esz by_ n : Nat} {ps : List (Nat × Operand)} {«as» zs : List AV} {H : Hp} (hN : d < N) (ht : se P t1 = some (el, esz, by_)) (hz : bf P el = some zs) (hq : jy ps s = some (dn 0 «as»)) (hn : «as».length = n) (hok : c4 esz «as» = true) (hlen : «as».length * esz ≤ 16777216) (hH : get s .h = some (.hp H)) (hd : get s (.b d) = none) :
  ae P N ⟨some d, .buildSlice t1 n ps.toArray, ty, pos, af, g⟩ s (lv (ps.map (·.2)) ++ [.h, .b d]) [(.s d, .sv (.v (.os H.next n esz))), (.h, .hp (H.new (bC «as»))), (.b d, .gone)] := Ba hN ht hz hq hn hok hlen hH hd
theorem lZ {t1 el esz by_ : Nat} {x y : Operand} {id n : Nat} {xs ys zs : List AV} {H : Hp} (hN : d < N) (ht : se P t1 = some (el, esz, by_)) (hz : bf P el = some zs) (hx : cu x s = some (.os id n esz)) (hH : get s .h = some (.hp H)) (ho : H.obj id = some (bC xs)) (hes : ∀ e ∈ xs, e.cells.length = esz) (hl : xs.length = n)
  (hy : cu y s = some (.sl ys)) (hok : c4 esz ys = true) (hd : get s (.b d) = none) (hb : (n + ys.length) * by_ ≤ 140737488355328) (h63 : n + ys.length ≤ 9223372036854775807) :
  ae P N ⟨some d, .call { callee := .builtin .append, args := #[x, y], argTypes := #[t1, t1] }, ty, pos, af, g⟩ s (rd x ++ (rd y ++ [.h, .b d]))
   [(.s d, .sv (.v (.os H.next (n + ys.length) esz))), (.h, .hp ((H.del id).new (bC (xs ++ ys)))), (.b d, .gone)] := by
 have := Eu (ty := ty) (pos := pos) (af := af) (g := g) hN ht hz hx hH ho (by rw [dA hes, hl]) hy hok hd hb h63
 rw [← List.flatMap_append] at this
 exact this
theorem Ew {t1 el esz by_ : Nat} {x y : Operand} {id n id2 n2 : Nat} {xs ys zs : List AV} {H : Hp} (hN : d < N) (ht : se P t1 = some (el, esz, by_)) (hz : bf P el = some zs) (hx : cu x s = some (.os id n esz)) (hH : get s .h = some (.hp H)) (ho : H.obj id = some (bC xs)) (hes : ∀ e ∈ xs, e.cells.length = esz) (hl : xs.length = n)
  (hy : cu y s = some (.os id2 n2 esz)) (ho2 : H.obj id2 = some (bC ys)) (hes2 : ∀ e ∈ ys, e.cells.length = esz) (hn2 : ys.length = n2) (hd : get s (.b d) = none) (hb : (n + ys.length) * by_ ≤ 140737488355328) (h63 : n + ys.length ≤ 9223372036854775807) :
  ae P N ⟨some d, .call { callee := .builtin .append, args := #[x, y], argTypes := #[t1, t1] }, ty, pos, af, g⟩ s (rd x ++ ((rd y ++ [.h]) ++ [.h, .b d]))
   [(.s d, .sv (.v (.os H.next (n + ys.length) esz))), (.h, .hp ((H.del id).new (bC (xs ++ ys)))), (.b d, .gone)] := by
 have := Bg (ty := ty) (pos := pos) (af := af) (g := g) hN ht hz hx hH ho (by rw [dA hes, hl]) hy ho2 hes2 hn2 hd hb h63
 rw [← List.flatMap_append] at this
 exact this
theorem IJ {t1 el esz by_ : Nat} {x y : Operand} {ys zs : List AV} {H : Hp} (hN : d < N) (ht : se P t1 = some (el, esz, by_)) (hz : bf P el = some zs) (hx : cu x s = some .nsl) (hH : get s .h = some (.hp H))
  (hy : cu y s = some (.sl ys)) (hok : c4 esz ys = true) (h0 : ys ≠ []) (hd : get s (.b d) = none) (hb : ys.length * by_ ≤ 140737488355328) (h63 : ys.length ≤ 9223372036854775807) :
  ae P N ⟨some d, .call { callee := .builtin .append, args := #[x, y], argTypes := #[t1, t1] }, ty, pos, af, g⟩ s (rd x ++ (rd y ++ [.h, .b d]))
   [(.s d, .sv (.v (.os H.next ys.length esz))), (.h, .hp (H.new (bC ys))), (.b d, .gone)] := Ev hN ht hz hx hH hy hok h0 hd hb h63
def fK (K : Hp) (o : AV) (esz : Nat) (xs : List AV) : Prop := (o = .nsl ∧ xs = []) ∨ ∃ id, o = .os id xs.length esz ∧ K.obj id = some (bC xs)
def jW (K : Hp) (o : AV) (cs : List Hc) : Hp := match o with | .os id _ _ => (K.del id).new cs | _ => K.new cs
theorem kK {t1 el esz by_ : Nat} {x y : Operand} {o : AV} {xs ys zs : List AV} {H : Hp} (hN : d < N) (ht : se P t1 = some (el, esz, by_)) (hz : bf P el = some zs) (hx : cu x s = some o) (hH : get s .h = some (.hp H)) (ho : fK H o esz xs) (hes : ∀ e ∈ xs, e.cells.length = esz)
  (hy : cu y s = some (.sl ys)) (hok : c4 esz ys = true) (h0 : ys ≠ []) (hd : get s (.b d) = none) (hb : (xs.length + ys.length) * by_ ≤ 140737488355328) (h63 : xs.length + ys.length ≤ 9223372036854775807) :
  ae P N ⟨some d, .call { callee := .builtin .append, args := #[x, y], argTypes := #[t1, t1] }, ty, pos, af, g⟩ s (rd x ++ (rd y ++ [.h, .b d]))
   [(.s d, .sv (.v (.os H.next (xs.length + ys.length) esz))), (.h, .hp (jW H o (bC (xs ++ ys)))), (.b d, .gone)] := by
 rcases ho with ⟨rfl, rfl⟩ | ⟨id, rfl, ho⟩
 ·have := IJ (ty := ty) (pos := pos) (af := af) (g := g) hN ht hz hx hH hy hok h0 hd (by simpa using hb) (by simpa using h63)
  simpa [jW] using this
 ·exact lZ hN ht hz hx hH ho hes rfl hy hok hd hb h63
theorem ja {t1 : TypeId} {x : Operand} {id off i n : Nat} {ys cs : List AV} {H : Hp} (hN : d < N) (hl : lk P t1 = some (true, n)) (hx : cu x s = some (.op id off)) (hH : get s .h = some (.hp H)) (ho : H.obj id = some (bC ys)) (hes : ∀ e ∈ ys, e.cells.length = n) (hoff : off = i * n) (he : ys[i]? = some (.agg cs)) :
  ae P N ⟨some d, .load t1 x, ty, pos, af, g⟩ s (rd x ++ [.h]) [(.s d, .sv (.v (.agg cs)))] := by
 subst hoff
 have hcs : cs.length = n := hes _ (List.mem_of_getElem? he)
 have hlt := (List.getElem?_eq_some_iff.1 he).1
 refine bR hN hl hx hH ho ?_
 have e : (((bC ys).map fun c => Sv.v (qn c)).drop (i * n)).take n = cs.map .v := by
  refine List.ext_getElem? fun j => ?_
  rw [List.getElem?_take]
  split
  ·rename_i hj
   rw [List.getElem?_drop, List.getElem?_map, kG hes he hj, List.getElem?_map]
   simp only [AV.cells, Option.map_map]
   rfl
  ·rename_i hj
   rw [List.getElem?_eq_none (by simp; omega)]
 simp only [vQ, e, xW, hcs, if_true]
theorem pX {t1 : TypeId} {x : Operand} {id off i f esz : Nat} {ys cs : List AV} {c : AV} {H : Hp} (hN : d < N) (hl : lk P t1 = some (false, 1)) (hx : cu x s = some (.op id off)) (hH : get s .h = some (.hp H)) (ho : H.obj id = some (bC ys)) (hes : ∀ e ∈ ys, e.cells.length = esz) (hoff : off = i * esz + f) (he : ys[i]? = some (.agg cs)) (hc : cs[f]? = some c) :
  ae P N ⟨some d, .load t1 x, ty, pos, af, g⟩ s (rd x ++ [.h]) [(.s d, .sv (.v c))] := by
 subst hoff
 have hcs : cs.length = esz := hes _ (List.mem_of_getElem? he)
 refine bR hN hl hx hH ho ?_
 have hf := (List.getElem?_eq_some_iff.1 hc).1
 simp only [vQ]
 rw [List.getElem?_drop, List.getElem?_map, Nat.add_zero, kG hes he (by omega)]
 simp only [AV.cells, hc]
 rfl
theorem lW {t1 : TypeId} {x y : Operand} {id off i n : Nat} {b : Bool} {ys cs : List AV} {H : Hp} (hl : lk P t1 = some (b, n)) (hx : cu x s = some (.op id off)) (hH : get s .h = some (.hp H)) (ho : H.obj id = some (bC ys)) (hy : cu y s = some (.agg cs)) (hes : ∀ e ∈ ys, e.cells.length = n) (hoff : off = i * n) (hi : i < ys.length) (hn : cs.length = n) :
  ae P N ⟨none, .store t1 x y, ty, pos, af, g⟩ s (rd x ++ (rd y ++ [.h])) [(.h, .hp (H.set id (bC (ys.set i (.agg cs)))))] := by
 subst hoff
 rw [← rJ (e := .agg cs) hes hi hn]
 refine s9 hl hx hH ho hy rfl hn ?_ ?_
 ·rw [tv hes, ← Nat.succ_mul]; exact Nat.mul_le_mul_right _ hi
 ·refine List.all_eq_true.2 fun x hx => ?_
  have := List.mem_of_mem_drop (List.mem_of_mem_take hx)
  obtain ⟨c, _, rfl⟩ := List.mem_map.1 this
  rfl
theorem Hv {t1 : TypeId} {x y : Operand} {id off i f esz : Nat} {b : Bool} {ys cs : List AV} {av : AV} {H : Hp} (hl : lk P t1 = some (b, 1)) (hx : cu x s = some (.op id off)) (hH : get s .h = some (.hp H)) (ho : H.obj id = some (bC ys)) (hy : cu y s = some av) (hfl : av.flat = true) (hes : ∀ e ∈ ys, e.cells.length = esz) (hoff : off = i * esz + f) (he : ys[i]? = some (.agg cs)) (hf : f < esz) :
  ae P N ⟨none, .store t1 x y, ty, pos, af, g⟩ s (rd x ++ (rd y ++ [.h])) [(.h, .hp (H.set id (bC (ys.set i (.agg (cs.set f av))))))] := by
 subst hoff
 rw [← x5 hes he hf]
 have hcs : cs.length = esz := hes _ (List.mem_of_getElem? he)
 obtain ⟨c, hc⟩ : ∃ c, cs[f]? = some c := ⟨_, List.getElem?_eq_getElem (by omega)⟩
 refine sa (old := c) hl hx hH ho hy hfl ?_
 rw [kG hes he hf]
 simp only [AV.cells, hc]
 rfl
theorem uT {f : FuncId} {xs : Array Operand} {tys : Array TypeId} {«as» bs : List AV} {r : AV} {H : Hp} {esz : Nat} (id : Nat) (ys : List AV) (hN : d < N) (hf : aa P f = true) (hH : get s .h = some (.hp H)) (ha : lB xs.toList s = some «as») (ho : H.obj id = some (bC ys))
  (hes : ∀ e ∈ ys, e.cells.length = esz) (hl : «as».map (lG id ys) = bs) (hp : Pure P f bs r) (hr : pS r = true) :
  ae P N ⟨some d, .call { callee := .value (.func f), args := xs, argTypes := tys }, ty, pos, af, g⟩ s (lv xs.toList ++ [.h]) [(.s d, .sv (.v r))] :=
 Es id ys hN hf hH ha ho hes (by rw [List.take_of_length_le]; rw [dA hes]; exact Nat.le_refl _) hl hp hr
end
theorem Rel.LQ {E : de} {N : Nat} {G : Gh} {L : Loc} {a : Act} {w : World} {s : St} (h : Rel E N G L a w s) {H : Hp} {id esz : Nat} {ys : List AV} (hH : get s .h = some (.hp H)) (ho : H.obj id = some (bC ys)) (hes : ∀ e ∈ ys, e.cells.length = esz) :
  ∃ G' blk, yl G' G' id blk esz ys ∧ Rel E N G' L a w ((.h, .hp (H.del id)) :: s) := by
 obtain ⟨H0, gH, hok, hmay⟩ := h.heap
 rw [hH] at gH; cases gH
 obtain ⟨blk, arr, el, p1, _⟩ := hok.obj id _ ho
 obtain ⟨G', hle, hr', hkn⟩ := h.KK hH ho p1
 exact ⟨G', blk, ⟨Gh.le.refl G', hle.ob _ _ p1, hes, hkn⟩, hr'⟩
def nP (id : Nat) (ys : List AV) : Sv → Sv
 | .v a => .v (gO id ys a)
 | x => x
theorem Kept.I8 {s : St} {Q : St → Prop} (k id : Nat) {ys : List AV} {cs ds : List Sv} {esz : Nat} {H : Hp} (hk : get s (.b k) = some (.bx cs)) (hH : get s .h = some (.hp H)) (ho : H.obj id = some (bC ys)) (hes : ∀ e ∈ ys, e.cells.length = esz) (hd : cs.map (nP id ys) = ds)
  (h : Kept ((.b k, .bx ds) :: (.h, .hp (H.del id)) :: s) Q) : Kept s Q := fun E N a' w ⟨G, L, hr⟩ => by
 subst hd
 obtain ⟨G', blk, hk2, hr'⟩ := hr.LQ hH ho hes
 have hkb : get ((.h, .hp (H.del id)) :: s) (.b k) = some (.bx cs) := by simpa [get] using hk
 refine h E N a' w ⟨G', L, hr'.Kf hkb (by simp) fun j x x' hx hx' => ?_⟩
 rw [List.getElem?_map, hx] at hx'
 cases hx'
 obtain ⟨blk2, o, q1, q2, q3, ⟨arr, el, e1, e2, e3⟩, q5, q6⟩ := hr'.box k _ hkb rfl
 have hf := (e3 j x hx).1
 cases x with
 | v a => exact ⟨py hf, fun v hv => V.gO hk2 hv⟩
 | _ => exact ⟨hf, fun v hv => hv⟩
theorem Kept.Bq {s : St} {Q : St → Prop} (k i : Nat) {cs : List Sv} (hk : get s (.b k) = some (.bx cs)) (hi : cs[i]? = some (.v .nsl)) (h : Kept ((.b k, .bx (cs.set i (.v (.sl [])))) :: s) Q) : Kept s Q := fun E N a w ⟨G, L, hr⟩ => by
 refine h E N a w ⟨G, L, hr.Kf hk (by simp) fun j x x' hx hx' => ?_⟩
 obtain ⟨blk2, o, q1, q2, q3, ⟨arr, el, e1, e2, e3⟩, q5, q6⟩ := hr.box k _ hk rfl
 rw [List.getElem?_set] at hx'
 split at hx'
 ·rename_i e
  subst e
  rw [hi] at hx; cases hx
  split at hx'
  ·cases hx'
   refine ⟨rfl, fun v hv => ?_⟩
   have hV : V G v .nsl := hv
   cases hV
   exact V.slE none 0
  ·cases hx'
 ·rw [hx] at hx'; cases hx'
  exact ⟨(e3 j x hx).1, fun v hv => hv⟩
def Hp.fin (H : Hp) : Prop := ∀ i, H.next ≤ i → H.obj i = none
theorem dX.fin {G : Gh} {w : World} {H : Hp} (h : dX G w H) : H.fin := fun i hi => by
 cases e : H.obj i with
 | none => rfl
 | some cs =>
  obtain ⟨blk, _, _, q1, _⟩ := h.obj i cs e
  have := (h.lt i blk q1).1; omega
theorem cc.fin {P : Program} {f : FuncId} {args : List AV} {H H' : Hp} {r : AV} (h : H.fin → cc P f args H r H') : cc P f args H r H' := fun G w cargs hg hk hH hV => h hH.fin G w cargs hg hk hH hV
def Hp.bump (H : Hp) (k : Nat) (cs : List Hc) : Hp := ⟨H.next + k + 1, fun i => if i = H.next + k then some cs else if i < H.next then H.obj i else none⟩
theorem Hp.dL {H : Hp} {k : Nat} {cs : List Hc} : (H.bump k cs).obj (H.next + k) = some cs := by simp [Hp.bump]
theorem Hp.kZ {H : Hp} {k i : Nat} {cs : List Hc} (h : i < H.next) : (H.bump k cs).obj i = H.obj i := by
 have : i ≠ H.next + k := by omega
 simp [Hp.bump, h, this]
theorem Hp.m4 {H : Hp} (h : H.fin) {cs : List Hc} : H.new cs = H.bump 0 cs := by
 simp only [Hp.new, Hp.bump, Hp.set]
 congr 1
 funext i
 by_cases h1 : i = H.next
 ·simp [h1]
 ·by_cases h2 : i < H.next
  ·simp [h1, h2]
  ·simp [h1, h2, h i (by omega)]
theorem Hp.jT {H : Hp} {k : Nat} {cs ds : List Hc} : ((H.bump k cs).del (H.next + k)).new ds = H.bump (k + 1) ds := by
 simp only [Hp.new, Hp.bump, Hp.set, Hp.del]
 congr 1
 funext i
 by_cases h1 : i = H.next + k + 1
 ·subst h1; simp [Nat.add_assoc]
 ·by_cases h2 : i = H.next + k
  ·subst h2; simp [show ¬ H.next + k = H.next + (k + 1) by omega, h1]; intro h5; omega
  ·simp [h1, h2, show ¬ i = H.next + (k + 1) by omega]
theorem Hp.vD {H : Hp} {k : Nat} {cs ds : List Hc} : (H.bump k cs).set (H.next + k) ds = H.bump k ds := by
 simp only [Hp.bump, Hp.set]
 congr 1
 funext i
 by_cases h1 : i = H.next + k
 ·simp [h1]
 ·simp [h1]
theorem Hp.mq {H : Hp} {k i : Nat} {cs : List Hc} (h : i < H.next) : ((H.bump k cs).del (H.next + k)).obj i = H.obj i := by
 have : i ≠ H.next + k := by omega
 simp [Hp.bump, Hp.del, h, this]
/- the document: fields without some, in a row of their own -/
theorem za {d n esz : Nat} {c : aM} {v : CV} {rest : List (aM × CV)} {H : Hp} {α : Type} {f : α → AV} {a : List α} {x : α} : ((c, v) :: (aM.s d, CV.sv (.v (.os (n + a.length + 1) (a.length + 1) esz))) :: (aM.h, CV.hp (H.bump (a.length + 1) (bC (a.map f ++ [f x])))) :: rest) = [(c, v), (aM.s d, CV.sv (.v (.os (n + (a ++ [x]).length) (a ++ [x]).length esz))), (aM.h, CV.hp (H.bump (a ++ [x]).length (bC ((a ++ [x]).map f))))] ++ rest := by simp [Nat.add_assoc]
theorem ra (l : List ag) : ∀ e ∈ l.map ag.av, e.cells.length = 7 := pb (bn ag.cells (fun _ => rfl) _)
theorem IY {l : List ag} {names : List aw} {i : Nat} (hi : i < l.length) (h : kS names l[i] = true) : (l.take i).filter (kS names) ++ [l[i]] = (l.take (i + 1)).filter (kS names) := by
 rw [List.take_add_one, List.getElem?_eq_getElem hi, List.filter_append]; simp [h]
theorem IZ {l : List ag} {names : List aw} {i : Nat} (hi : i < l.length) (h : kS names l[i] = false) : (l.take i).filter (kS names) = (l.take (i + 1)).filter (kS names) := by
 rw [List.take_add_one, List.getElem?_eq_getElem hi, List.filter_append]; simp [h]
theorem vv (m : aT) (names : List aw) (hl : m.fields.length ≤ 1000) (hn : names.length ≤ 9223372036854775807) (H : Hp) : cc Tryz.prog 80 [m.av, .sl (names.map .str)] H (.os (H.next + (bE m.fields names).length) (bE m.fields names).length 7) (H.bump (bE m.fields names).length (bC ((bE m.fields names).map ag.av))) := by
 refine cc.fin fun hfin => (cc.aL Tryz.func80 rfl rfl (aF rfl) (aC.seq (aC.region (aB.run II 2 rfl (aB.nil (aC.seq (aC.region (aB.c3 rfl (mV («as» := []) (aF rfl) fD ke rfl rfl rfl (gI rfl) rfl rfl) (aB.run II 1 rfl (aB.nil (aC.seq (aC.seq (aC.aK (Kept.oD rfl (Hp.m4 hfin) (Kept.now (aC.region (aB.run II 1 rfl (aB.nil (aC.blk ?_)))))))))))))))))))
 refine aC.aK (Kept.aJ [.s 6, .s 5, .h, .s 1, .s 2, .b 2] rfl (by decide) (Kept.now (aC.aX (fun ((i, a) : Nat × List ag) => [(.s 6, .sv (.v (.int .i64 (i : Int)))), (.s 5, .sv (.v (.os (H.next + a.length) a.length 7))), (.h, .hp (H.bump a.length (bC (a.map ag.av))))]) _ (fun ((i, a) : Nat × List ag) => a = (m.fields.take i).filter (kS names)) (fun ((i, a) : Nat × List ag) => m.fields.length - i) (0, []) rfl (by simp) ?_)))
 rintro ⟨i, a⟩ hI
 refine aC.seq (aC.seq (aC.region (aB.run II 5 rfl (aB.nil (aC.cond rfl (fun hc1 => ?_) (fun hc1 => ?_))))))
 ·have hi := dD hc1
  refine aC.skip (aC.seq (aC.blk (aC.seq (aC.region (aB.run II 1 rfl (aB.nil (aC.seq (aC.seq (aC.region (aB.run II 1 rfl (aB.nil (aC.blk (aC.aK (Kept.aJ [.s 8, .s 7, .h, .s 1, .s 2, .b 2, .s 5, .s 6] rfl (by decide) (Kept.now (aC.aX (fun ((k, b) : Nat × Bool) => [(.s 8, .sv (.v (.int .i64 (k : Int)))), (.s 7, .sv (.v (.bool b)))]) _ (fun ((k, b) : Nat × Bool) => b = (names.take k).any (fun n => (m.fields[i]'hi).name == n)) (fun ((k, b) : Nat × Bool) => names.length - k) (0, false) rfl (by simp) ?_))))))))))))))))
  rintro ⟨k, b⟩ hK
  refine aC.seq (aC.seq (aC.region (aB.run II 4 rfl (aB.nil (aC.cond rfl (fun hc2 => ?_) (fun hc2 => ?_))))))
  ·have hk := dD hc2
   refine aC.skip (aC.seq (aC.blk (aC.drawn mixed rfl (aD.run II 2 rfl (aD.tell (d := 24) rfl (fun hg3 => ?_) (fun hg3 => ?_))))))
   ·exact aD.run II 13 rfl (aD.nil (by kernel_rfl) (Kept.now (aC.region (aB.run II 3 rfl (aB.kept (Kept.aY 8 rfl (inc (by omega)) (Kept.aJ [.s 8, .s 7, .h, .s 1, .s 2, .b 2, .s 5, .s 6] rfl (by decide) (Kept.now ⟨(k + 1, _), by dsimp only; omega, by dsimp only; rw [rk hk, ← hK, hg3]; rfl, rfl⟩))))))))
   ·exact aD.run II 3 rfl (aD.g1 rfl (aF rfl) rfl rfl (aH (aF rfl) bT rfl rfl (Int.natCast_nonneg _) (cF hi) rfl) (aD.run II 4 rfl (aD.g1 rfl (aF rfl) rfl rfl (aH (aF rfl) cD rfl rfl (Int.natCast_nonneg _) (cF hk) rfl) (aD.run II 4 rfl (aD.nil (by kernel_rfl) (Kept.now (aC.region (aB.run II 3 rfl (aB.kept (Kept.aY 8 rfl (inc (by omega)) (Kept.aJ [.s 8, .s 7, .h, .s 1, .s 2, .b 2, .s 5, .s 6] rfl (by decide) (Kept.now ⟨(k + 1, _), by dsimp only; omega, by dsimp only; rw [rk hk, ← hK, hg3, Bool.false_or], rfl⟩))))))))))))
  ·have hk := dE hc2
   refine aC.exit (aC.seq (aC.region (aB.run II 2 rfl (aB.nil (aC.cond rfl (fun hc4 => ?_) (fun hc4 => ?_))))))
   ·refine aC.region (aB.run II 4 rfl (aB.c1 rfl (aH (aF rfl) bT rfl rfl (Int.natCast_nonneg _) (cF hi) rfl) (aB.run II 2 rfl (aB.c3 rfl (lZ (aF rfl) fD ke rfl rfl Hp.dL (ra _) (by simp) rfl rfl rfl (by have h1 := List.length_filter_le (kS names) (m.fields.take i); rw [List.length_take] at h1; have h2 : a.length = _ := congrArg List.length hI; simp only [List.length_cons, List.length_nil]; omega) (by have h1 := List.length_filter_le (kS names) (m.fields.take i); rw [List.length_take] at h1; have h2 : a.length = _ := congrArg List.length hI; simp only [List.length_cons, List.length_nil]; omega)) ?_))))
    exact aB.run II 1 rfl (aB.nil (aC.region (aB.run II 3 rfl (aB.kept (Kept.oD rfl Hp.jT (Kept.aY 6 rfl (inc (by omega)) (Kept.aJ [.s 6, .s 5, .h, .s 1, .s 2, .b 2] rfl (by decide) (Kept.now ⟨(i + 1, a ++ [(m.fields[i]'hi)]), by dsimp only; omega, by dsimp only; rw [hI]; exact IY hi (by dsimp only at hK; rw [List.take_of_length_le (by omega)] at hK; unfold kS; rw [← hK]; exact hc4), za⟩))))))))
   ·exact aC.skip (aC.region (aB.run II 3 rfl (aB.kept (Kept.oD rfl rfl (Kept.aY 6 rfl (inc (by omega)) (Kept.aJ [.s 6, .s 5, .h, .s 1, .s 2, .b 2] rfl (by decide) (Kept.now ⟨(i + 1, a), by dsimp only; omega, by dsimp only; rw [hI]; exact IZ hi (by dsimp only at hK; rw [List.take_of_length_le (by omega)] at hK; unfold kS; rw [← hK]; exact hc4), rfl⟩)))))))
 ·have hi := dE hc1
  refine aC.exit (aC.seq (aC.region (aB.run II 2 rfl (aB.nil (aC.ret ?_)))))
  have ha : a = bE m.fields names := (by rw [hI, List.take_of_length_le (by omega)]; rfl)
  subst ha
  exact ⟨.inr rfl, (aE.r1 rfl (.tmp rfl .nil)).cast rfl, rfl⟩
/- the document: a step applied -/
theorem sy : aa Tryz.prog 43 = true := by kernel_rfl
theorem Ik : aa Tryz.prog 76 = true := by kernel_rfl
theorem Ij : aa Tryz.prog 77 = true := by kernel_rfl
theorem Ii : aa Tryz.prog 79 = true := by kernel_rfl
theorem Ih : aa Tryz.prog 80 = true := by kernel_rfl
theorem Ig : aa Tryz.prog 81 = true := by kernel_rfl
theorem Ie : aa Tryz.prog 82 = true := by kernel_rfl
theorem Ic : aa Tryz.prog 83 = true := by kernel_rfl
theorem Ib : aa Tryz.prog 84 = true := by kernel_rfl
theorem C5 : aa Tryz.prog 85 = true := by kernel_rfl
theorem Ds : A3 Tryz.prog 25 = some [(0, 1), (1, 1)] := by kernel_rfl
theorem Ke : lx Tryz.prog 25 = some [.nsl, .nsl] := by kernel_rfl
def mu : Except Int aN → AV
 | .ok t => .tup [t.av, .int .i64 0]
 | .error e => .tup [.agg [.sl [], .sl []], .int .i64 e]
theorem Jy {n i : Nat} (h : decide ((i : Int) < (n : Int)) = true) : i < n := by have := of_decide_eq_true h; omega
theorem CT {n i : Nat} (h : decide ((i : Int) < (n : Int)) = false) : n ≤ i := by have := of_decide_eq_false h; omega
def aS.dg (s : aN) (x : aS) (m : aT) : aT := { m with fields := (bE m.fields x.goes).map x.changed ++ x.comes s (m.aR x.field) }
def aS.outs (s : aN) (x : aS) (at_ : Nat) (m : aT) : aN := (⟨s.enums, x.msgs s at_ (x.dg s m) (m.aR x.field).ref⟩ : aN).sorted
theorem yc {s : aN} {x : aS} (h : s.gC ≠ 0 ∨ x.right = false) : s.apply x = .error 1 := by unfold aN.apply; rw [if_pos h]
theorem GG {s : aN} {x : aS} (h1 : s.gC = 0) (h2 : x.right = true) (h : s.bJ x.msg < 0) : s.apply x = .error 5 := by unfold aN.apply; rw [if_neg (by simp [h1, h2]), if_pos h]
theorem GF {s : aN} {x : aS} (h1 : s.gC = 0) (h2 : x.right = true) {i : Nat} {m : aT} (h3 : s.bJ x.msg = (i : Int)) (h4 : s.msgs[i]? = some m) :
  s.apply x = if x.bu.all m.eU = false then .error 5 else if x.asked s m = false then .error 7 else if x.there s { m with fields := bE m.fields x.goes } (x.comes s (m.aR x.field)) = true then .error 6 else if (x.outs s i m).gC ≠ 0 then .error (x.outs s i m).gC else .ok (x.outs s i m) := by
 unfold aN.apply
 rw [if_neg (by simp [h1, h2]), if_neg (by rw [h3]; omega)]
 have hg : s.msgs.getD i jz = m := by rw [List.getD_eq_getElem?_getD, h4]; rfl
 simp only [h3, Int.toNat_natCast, hg]
 rfl
theorem Bt {s : aN} {n : aw} (h : ¬ s.bJ n < 0) : ∃ (i : Nat) (m : aT), s.bJ n = (i : Int) ∧ s.msgs[i]? = some m := by
 obtain ⟨i, hi, e, hn⟩ := ks _ _ h
 exact ⟨i, s.msgs[i], e, List.getElem?_eq_getElem hi⟩
theorem ml {m : aT} {n : aw} : m.eU n = decide (0 ≤ m.cn n) := by
 rcases ao (fun f : ag => f.name == n) m.fields 0 with ⟨q1, q2⟩ | ⟨i, hi, q1, q2, q3⟩
 ·have h4 : m.eU n = false := List.any_eq_false.2 (fun f hf => by have := List.find?_eq_none.1 q2 f hf; simpa using this)
  have e : m.cn n = -1 := q1
  rw [h4, e]; rfl
 ·have e : m.cn n = ((0 + i : Nat) : Int) := q1
  have h4 : m.eU n = true := List.any_eq_true.2 ⟨_, List.getElem_mem hi, q3⟩
  rw [h4, e]; simp
theorem Br {m : aT} {x : aS} {i : Nat} (hi : i < x.bu.length) (h : m.cn x.bu[i] < 0) : x.bu.all m.eU = false :=
 List.all_eq_false.2 ⟨_, List.getElem_mem hi, by rw [ml]; simp; omega⟩
theorem nK {m : aT} {x : aS} {i : Nat} (hi : x.bu.length ≤ i) (h : ∀ k (hk : k < x.bu.length), k < i → 0 ≤ m.cn x.bu[k]) : x.bu.all m.eU = true :=
 List.all_eq_true.2 fun n hn => by
  obtain ⟨k, hk, rfl⟩ := List.getElem_of_mem hn
  rw [ml]; simpa using h k hk (by omega)
def oG (x : aS) (l : List ag) (j : Nat) : List ag := (l.take j).map x.changed ++ l.drop j
theorem xz {x : aS} {l : List ag} {j : Nat} : (oG x l j).length = l.length := by unfold oG; simp; omega
theorem FI {x : aS} {l : List ag} {j : Nat} (hj : j < l.length) : ((oG x l j).map ag.av)[j]? = some (.agg l[j].cells) := by
 unfold oG
 have h1 : ((l.take j).map x.changed).length = j := by simp; omega
 rw [List.getElem?_map, List.getElem?_append_right (by omega), h1, Nat.sub_self, List.getElem?_drop, Nat.add_zero, List.getElem?_eq_getElem hj]; rfl
theorem FH {x : aS} {l : List ag} {j : Nat} (hj : j < l.length) : ((oG x l j).map ag.av).set j (.agg (x.changed l[j]).cells) = (oG x l (j + 1)).map ag.av := by
 have h1 : ((l.take j).map x.changed).length = j := by simp; omega
 unfold oG
 have e : (.agg (x.changed l[j]).cells : AV) = (x.changed l[j]).av := rfl
 rw [e, ← List.map_set, List.set_append_right _ _ (by omega), h1, Nat.sub_self, List.drop_eq_getElem_cons hj, List.set_cons_zero, List.take_add_one, List.getElem?_eq_getElem hj]
 simp only [Option.toList, List.map_append, List.append_assoc, List.map_cons, List.map_nil, List.cons_append, List.nil_append]
theorem FJ {x : aS} {l : List ag} {j : Nat} (hj : l.length ≤ j) : oG x l j = l.map x.changed := by
 unfold oG; rw [List.take_of_length_le hj, List.drop_eq_nil_of_le hj, List.append_nil]
theorem LC {x : aS} {l : List ag} {j k : Nat} {v : CV} {rest : List (aM × CV)} {H : Hp} (hj : j < l.length) : ((aM.s 14, v) :: (aM.h, CV.hp (H.bump k (bC (((oG x l j).map ag.av).set j (.agg (x.changed l[j]).cells))))) :: rest) = [(aM.s 14, v), (aM.h, CV.hp (H.bump k (bC ((oG x l (j + 1)).map ag.av))))] ++ rest := by rw [FH hj]; rfl
theorem wR {id k : Nat} {R l : List ag} {m : aT} {s : aN} {x : aS} (hk : k = R.length) : [s.av, AV.agg [.str m.name, .os id k 7, .sl (m.aj.map jj)], x.av, .sl (l.map ag.av)].map (lG id (R.map ag.av)) = [s.av, ({ m with fields := R } : aT).av, x.av, .sl (l.map ag.av)] := by
 subst hk
 have e : (R.map ag.av).take R.length = R.map ag.av := List.take_of_length_le (by simp)
 simp [lG, gO, aN.av, aN.cells, aT.av, aT.cells, aS.av, aS.cells, e]
theorem KH {id n : Nat} {R : List ag} {m : aT} (hn : n = R.length) : [Sv.v (.str m.name), .v (.os id n 7), .v (.sl (m.aj.map jj))].map (nP id (R.map ag.av)) = [Sv.v (.str m.name), .v (.sl (R.map ag.av)), .v (.sl (m.aj.map jj))] := by
 subst hn
 have e : (R.map ag.av).take R.length = R.map ag.av := List.take_of_length_le (by simp)
 simp [nP, gO, e]
def D4 (x : aS) (at_ : Nat) (r : aT) (ref : aw) : aT × Nat → Option aT := fun (m, i) => if i = at_ then some r else if x.kind = 7 ∧ m.name = ref then none else some m
def cP (s : aN) (x : aS) (at_ : Nat) (r : aT) (ref : aw) (i : Nat) : List aT := (s.msgs.zipIdx.take i).filterMap (D4 x at_ r ref)
theorem dY {s : aN} {x : aS} {at_ : Nat} {r : aT} {ref : aw} {i : Nat} : (cP s x at_ r ref i).length ≤ s.msgs.length := by
 unfold cP
 refine Nat.le_trans (List.length_filterMap_le _ _) ?_
 rw [List.length_take, List.length_zipIdx]; omega
theorem nt {s : aN} {x : aS} {at_ : Nat} {r : aT} {ref : aw} {i : Nat} (hi : i < s.msgs.length) : cP s x at_ r ref (i + 1) = cP s x at_ r ref i ++ (D4 x at_ r ref (s.msgs[i], i)).toList := by
 unfold cP
 rw [List.take_add_one, List.filterMap_append]
 have : s.msgs.zipIdx[i]? = some (s.msgs[i], i) := by simp [List.getElem?_zipIdx, hi]
 rw [this]
 cases h : D4 x at_ r ref (s.msgs[i], i) <;> simp [h]
theorem pn {s : aN} {x : aS} {at_ : Nat} {m : aT} {i : Nat} (hi : s.msgs.length ≤ i) (h4 : s.msgs[at_]? = some m) : x.msgs s at_ (x.dg s m) (m.aR x.field).ref = cP s x at_ (x.dg s m) (m.aR x.field).ref i ++ (if x.kind = 6 then [{ jz with name := x.dest, fields := [m.aR x.field] }] else []) := by
 unfold aS.msgs cP
 have hg : s.msgs.getD at_ jz = m := by rw [List.getD_eq_getElem?_getD, h4]; rfl
 rw [hg, List.take_of_length_le (by simpa using hi)]
 rfl
theorem LB {s : aN} {x : aS} {at_ : Nat} {r : aT} {ref : aw} {i el esz : Nat} {v : CV} {w : Sv} {rest : List (aM × CV)} {t : Nat} {a : AV} (hi : i < s.msgs.length) {r' : aT} (ha : a = r'.av) (h : D4 x at_ r ref (s.msgs[i], i) = some r') :
  ((aM.s 16, v) :: (aM.b 15, CV.bx [w, .ow t ((cP s x at_ r ref i).map aT.av ++ [a])]) :: (aM.t t, CV.tk false el esz ((cP s x at_ r ref i).map aT.av ++ [a])) :: rest) = [(aM.s 16, v), (aM.b 15, CV.bx [w, .ow t ((cP s x at_ r ref (i + 1)).map aT.av)]), (aM.t t, CV.tk false el esz ((cP s x at_ r ref (i + 1)).map aT.av))] ++ rest := by
 rw [nt hi, h, ha]; simp
theorem Le {s : aN} {x : aS} {at_ : Nat} {r : aT} {ref : aw} {i el esz : Nat} {v : CV} {w : Sv} {rest : List (aM × CV)} {t : Nat} (hi : i < s.msgs.length) (h : D4 x at_ r ref (s.msgs[i], i) = none) :
  ((aM.s 16, v) :: (aM.b 15, CV.bx [w, .ow t ((cP s x at_ r ref i).map aT.av)]) :: (aM.t t, CV.tk false el esz ((cP s x at_ r ref i).map aT.av)) :: rest) = [(aM.s 16, v), (aM.b 15, CV.bx [w, .ow t ((cP s x at_ r ref (i + 1)).map aT.av)]), (aM.t t, CV.tk false el esz ((cP s x at_ r ref (i + 1)).map aT.av))] ++ rest := by
 rw [nt hi, h]; simp
theorem kx {s : aN} {f : ag} {x : aS} : (x.comes s f).length ≤ 2 := by
 unfold aS.comes
 repeat' split
 all_goals simp
theorem zn {s : aN} {x : aS} {m : aT} (h : m.fields.length ≤ 10) : (x.dg s m).fields.length ≤ 12 := by
 have h1 := List.length_filter_le (fun f : ag => !(x.goes.any fun n => f.name == n)) m.fields
 have h2 := @kx s (m.aR x.field) x
 show ((bE m.fields x.goes).map x.changed ++ x.comes s (m.aR x.field)).length ≤ 12
 unfold bE
 rw [List.length_append, List.length_map]; omega
theorem pU {s : aN} (hs : s.sm) {x : aS} {at_ : Nat} {m : aT} {ref : aw} (hm : m ∈ s.msgs) {l : List aT} (hl : l.length ≤ 1) (hf : ∀ y ∈ l, y.fields.length ≤ 1 ∧ y.aj = []) {i : Nat} : (⟨s.enums, cP s x at_ (x.dg s m) ref i ++ l⟩ : aN).Bx := by
 have hmem : ∀ y ∈ cP s x at_ (x.dg s m) ref i, y = x.dg s m ∨ y ∈ s.msgs := by
  intro y hy
  obtain ⟨⟨z, k⟩, hz, he⟩ := List.mem_filterMap.1 hy
  simp only [D4] at he
  split at he
  ·cases he; exact .inl rfl
  ·split at he
   ·cases he
   ·cases he
    have := List.mem_of_mem_take hz
    exact .inr (List.fst_mem_of_mem_zipIdx this)
 have hlen : (cP s x at_ (x.dg s m) ref i).length ≤ 6 := by
  unfold cP
  refine Nat.le_trans (List.length_filterMap_le _ _) ?_
  rw [List.length_take, List.length_zipIdx]; have := hs.m; omega
 refine ⟨by have := hs.e; show s.enums.length ≤ 100; omega, by show (cP s x at_ (x.dg s m) ref i ++ l).length ≤ 100; rw [List.length_append]; omega, fun y hy => by have := hs.v y hy; omega, fun y hy => ?_, fun y hy => ?_⟩
 ·rcases List.mem_append.1 hy with h | h
  ·rcases hmem y h with rfl | h2
   ·have := zn (s := s) (x := x) (hs.f m hm); omega
   ·have := hs.f y h2; omega
  ·have := (hf y h).1; omega
 ·rcases List.mem_append.1 hy with h | h
  ·rcases hmem y h with rfl | h2
   ·have := hs.b m hm; show m.aj.length ≤ 100; omega
   ·have := hs.b y h2; omega
  ·rw [(hf y h).2]; decide
theorem oW {α : Type} (l : List α) (k : Nat) (x : α) : (eT l k x).length = l.length + 1 := by unfold eT; simp; omega
theorem ot (s : aN) : s.sorted.enums.length = s.enums.length ∧ s.sorted.msgs.length = s.msgs.length := by
 have h1 : ∀ (l acc : List dk), (l.foldl w7 acc).length = acc.length + l.length := by
  intro l
  induction l with
  | nil => intro acc; simp
  | cons a l ih => intro acc; rw [List.foldl_cons, ih]; unfold w7; rw [oW]; simp; omega
 have h2 : ∀ (l acc : List aT), (l.foldl kU acc).length = acc.length + l.length := by
  intro l
  induction l with
  | nil => intro acc; simp
  | cons a l ih => intro acc; rw [List.foldl_cons, ih]; unfold kU; rw [oW]; simp; omega
 exact ⟨by show (s.enums.foldl w7 []).length = _; rw [h1]; simp, by show (s.msgs.foldl kU []).length = _; rw [h2]; simp⟩
theorem yA {s : aN} (h : s.Bx) : s.sorted.dW := ⟨by have := h.e; rw [(ot s).1]; omega, by have := h.m; rw [(ot s).2]; omega⟩
theorem CQ {x : aS} : x.goes.length ≤ 2 := by
 unfold aS.goes
 repeat' split
 all_goals simp
theorem rQ {s : aN} (hs : s.sm) {x : aS} {at_ : Nat} {m : aT} {ref : aw} (hm : m ∈ s.msgs) {i : Nat} : (⟨s.enums, cP s x at_ (x.dg s m) ref i⟩ : aN).Bx := by
 have := pU hs (x := x) (at_ := at_) (ref := ref) (i := i) hm (l := []) (by simp) (by simp)
 rwa [List.append_nil] at this
theorem zL (E : List dk) (l k : List aT) (h : (⟨E, l ++ k⟩ : aN).Bx) : Pure Tryz.prog 85 [.agg [.sl (E.map dk.av), .sl (l.map aT.av ++ k.map aT.av)]] (⟨E, l ++ k⟩ : aN).sorted.av := by
 rw [← List.map_append]; exact tx _ h
theorem G4 {s : aN} {x : aS} {at_ : Nat} {m : aT} {i : Nat} (hi : s.msgs.length ≤ i) (h4 : s.msgs[at_]? = some m) (hk : x.kind = 6) : x.outs s at_ m = (⟨s.enums, cP s x at_ (x.dg s m) (m.aR x.field).ref i ++ [{ jz with name := x.dest, fields := [m.aR x.field] }]⟩ : aN).sorted := by
 unfold aS.outs; rw [pn hi h4, if_pos hk]
theorem GZ {s : aN} {x : aS} {at_ : Nat} {m : aT} {i : Nat} (hi : s.msgs.length ≤ i) (h4 : s.msgs[at_]? = some m) (hk : x.kind ≠ 6) : x.outs s at_ m = (⟨s.enums, cP s x at_ (x.dg s m) (m.aR x.field).ref i⟩ : aN).sorted := by
 unfold aS.outs; rw [pn hi h4, if_neg hk, List.append_nil]
theorem zl {x : aS} (h : x.names.length ≤ 1000) : x.bu.length ≤ 1000 := by
 unfold aS.bu
 repeat' split
 all_goals first | exact h | simp
theorem JP {s : aN} {m : aT} {x : aS} (h : x.asked s m = true) (hk : x.kind = 7) : s.boxed m (m.aR x.field) = true := by
 unfold aS.asked at h
 rw [hk] at h
 exact h
def ai (D : Nat → Prop) (l : List AV) : Prop := ∀ x ∈ l, bG D x
theorem ai.nil {D : Nat → Prop} : ai D [] := fun x hx => by cases hx
theorem ai.cons {D : Nat → Prop} {a : AV} {l : List AV} (h : bG D a) (t : ai D l) : ai D (a :: l) := fun x hx => by
 rcases List.mem_cons.1 hx with rfl | hx
 ·exact h
 ·exact t x hx
theorem ai.map {D : Nat → Prop} {α : Type} {f : α → AV} {l : List α} (h : ∀ x ∈ l, bG D (f x)) : ai D (l.map f) := fun x hx => by
 obtain ⟨y, hy, rfl⟩ := List.mem_map.1 hx
 exact h y hy
theorem ag.ops {D : Nat → Prop} (f : ag) : bG D f.av := .agg _ (ai.cons (.str _) (ai.cons (.int _ _) (ai.cons (.int _ _) (ai.cons (.str _) (ai.cons (.bool _) (ai.cons (.bool _) (ai.cons (.str _) ai.nil)))))))
theorem aT.ops {D : Nat → Prop} (m : aT) : bG D m.av := .agg _ (ai.cons (.str _) (ai.cons (.sl _ (ai.map fun f _ => f.ops)) (ai.cons (.sl _ (ai.map fun n _ => .int _ n)) ai.nil)))
theorem jX.ops {D : Nat → Prop} (v : jX) : bG D v.av := .agg _ (ai.cons (.str _) (ai.cons (.int _ _) ai.nil))
theorem dk.ops {D : Nat → Prop} (e : dk) : bG D e.av := .agg _ (ai.cons (.str _) (ai.cons (.sl _ (ai.map fun f _ => f.ops)) ai.nil))
theorem aN.ops {D : Nat → Prop} (s : aN) : bG D s.av := .agg _ (ai.cons (.sl _ (ai.map fun f _ => f.ops)) (ai.cons (.sl _ (ai.map fun f _ => f.ops)) ai.nil))
theorem AX {D : Nat → Prop} (e : Except Int aN) : bG D (mu e) := by
 cases e with
 | ok t => exact .tup _ (ai.cons t.ops (ai.cons (.int _ _) ai.nil))
 | error e => exact .tup _ (ai.cons (.agg _ (ai.cons (.sl _ ai.nil) (ai.cons (.sl _ ai.nil) ai.nil))) (ai.cons (.int _ _) ai.nil))
theorem xf (s : aN) (x : aS) (hs : s.dW) (hx : x.dW) (hn : x.names.length ≤ 1000) : Pure Tryz.prog 44 [s.av, x.av] (mu (s.apply x)) := by
 refine fun H => cc.fin fun hfin => (cc.je Tryz.func44 rfl rfl (aF rfl) (AX _) (aC.seq (aC.region (aB.run II 4 rfl (aB.nil (aC.cI [.h, .s 2, .b 2, .s 3, .b 3, .s 4, .b 4] (fun (_ : Unit) => []) (fun (_ : Unit) => s.gC = 0 ∧ x.right = true) rfl ?_ ?_))))))
 ·refine aC.seq (aC.region (aB.run II 1 rfl (aB.c1 rfl (aG (aF rfl) sy rfl (xe s hs)) (aB.run II 2 rfl (aB.tell (d := 21) rfl (fun hg1 => ?_) (fun hg1 => ?_))))))
  ·exact aB.run II 4 rfl (aB.nil (aC.az rfl rfl (aC.seq (aC.region (aB.run II 3 rfl (aB.nil (aC.ret ⟨.inr rfl, (aE.r2 rfl (.cell fa rfl rfl rfl rfl (.tmp rfl .nil))).cast (congrArg mu (yc (.inl (by simpa using hg1))).symm), H, rfl, Nat.le_refl _, fun _ _ => rfl⟩)))))))
  ·refine aB.run II 1 rfl (aB.g1 rfl (aF rfl) rfl rfl (aG (aF rfl) Ik rfl (EK x hx)) (aB.run II 2 rfl (aB.nil (aC.cond rfl (fun hc2 => ?_) (fun hc2 => ?_)))))
   ·exact aC.seq (aC.region (aB.run II 3 rfl (aB.nil (aC.ret ⟨.inr rfl, (aE.r2 rfl (.cell fa rfl rfl rfl rfl (.tmp rfl .nil))).cast (congrArg mu (yc (.inr (by simpa using hc2))).symm), H, rfl, Nat.le_refl _, fun _ _ => rfl⟩))))
   ·exact aC.aK (Kept.aJ [.h, .s 2, .b 2, .s 3, .b 3, .s 4, .b 4] rfl (by decide) (Kept.now (aC.skip (⟨(), ⟨by simpa using hg1, by simpa using hc2⟩, rfl⟩))))
 ·rintro _ hF3
  have hok := aN.ga hF3.1
  have hsm := hok.sm
  refine aC.seq (aC.region (aB.run II 3 rfl (aB.c1 rfl (aG (aF rfl) kY rfl (iY s x.msg (by have := hs.m; omega))) ?_)))
  refine aB.run II 1 rfl (aB.nil (aC.cI [.h, .s 2, .b 2, .s 3, .b 3, .s 4, .b 4, .s 6] (fun (_ : Unit) => []) (fun (_ : Unit) => ¬ s.bJ x.msg < 0) rfl ?_ ?_))
  ·refine aC.seq (aC.region (aB.run II 2 rfl (aB.nil (aC.cond rfl (fun hc3 => ?_) (fun hc3 => ?_)))))
   ·exact aC.seq (aC.region (aB.run II 3 rfl (aB.nil (aC.ret ⟨.inr rfl, (aE.r2 rfl (.cell fa rfl rfl rfl rfl (.tmp rfl .nil))).cast (congrArg mu (GG hF3.1 hF3.2 (of_decide_eq_true hc3)).symm), H, rfl, Nat.le_refl _, fun _ _ => rfl⟩))))
   ·exact aC.aK (Kept.aJ [.h, .s 2, .b 2, .s 3, .b 3, .s 4, .b 4, .s 6] rfl (by decide) (Kept.now (aC.skip ⟨(), of_decide_eq_false hc3, rfl⟩)))
  ·rintro _ hF6
   obtain ⟨i0, m, h0, hm0⟩ := Bt (s := s) (n := x.msg) (by omega)
   have hmm : m ∈ s.msgs := List.mem_of_getElem? hm0
   have hmf := hsm.f m hmm
   have hmb := hsm.b m hmm
   have hap := GF hF3.1 hF3.2 h0 hm0
   refine aC.seq (aC.region (aB.run II 3 rfl (aB.c1 rfl (aH (aF rfl) bM rfl rfl (by omega) (by rw [h0, Int.toNat_natCast, List.getElem?_map, hm0]; rfl) rfl) ?_)))
   refine aB.run II 3 rfl (aB.nil (aC.seq (aC.region (aB.run II 1 rfl (aB.c1 rfl (aG (aF rfl) Ij rfl (EO _)) (aB.run II 1 rfl (aB.nil (aC.seq (aC.seq (aC.region (aB.run II 1 rfl (aB.nil (aC.blk (aC.aK (Kept.aJ [.s 9, .h, .s 2, .b 2, .s 3, .b 3, .s 4, .b 4, .s 6, .s 7, .b 7, .s 8] rfl (by decide) (Kept.now (aC.aX (fun (i : Nat) => [(.s 9, .sv (.v (.int .i64 (i : Int))))]) _ (fun (i : Nat) => ∀ k (hk : k < x.bu.length), k < i → 0 ≤ m.cn x.bu[k]) (fun (i : Nat) => x.bu.length - i) 0 rfl (by intro k _ h; omega) ?_)))))))))))))))))
   rintro i hI
   have hnl : x.bu.length ≤ 1000 := zl hn
   refine aC.seq (aC.seq (aC.region (aB.run II 4 rfl (aB.nil (aC.cond rfl (fun hc4 => ?_) (fun hc4 => ?_))))))
   ·have hi := dD hc4
    refine aC.skip (aC.seq (aC.blk (aC.seq (aC.drawn mixed rfl (aD.run II 3 rfl (aD.c1 rfl (aH (aF rfl) cD rfl rfl (Int.natCast_nonneg _) (cF hi) rfl) (aD.run II 1 rfl (aD.c1 rfl (aG (aF rfl) qO rfl (jH m _ (by omega))) (aD.run II 1 rfl (aD.nil (by kernel_rfl) (Kept.now (aC.cond rfl (fun hc5 => ?_) (fun hc5 => ?_)))))))))))))
    ·exact aC.seq (aC.region (aB.run II 3 rfl (aB.nil (aC.ret ⟨.inr rfl, (aE.r2 rfl (.cell fa rfl rfl rfl rfl (.tmp rfl .nil))).cast (by rw [hap, if_pos (Br hi (of_decide_eq_true hc5))]; rfl), H, rfl, Nat.le_refl _, fun _ _ => rfl⟩))))
    ·exact aC.skip (aC.region (aB.run II 3 rfl (aB.kept (Kept.aY 9 rfl (inc (by omega)) (Kept.aJ [.s 9, .h, .s 2, .b 2, .s 3, .b 3, .s 4, .b 4, .s 6, .s 7, .b 7, .s 8] rfl (by decide) (Kept.now ⟨i + 1, by omega, fun k hk h => by rcases Nat.lt_or_ge k i with q | q; exact hI k hk q; have e : k = i := (by omega); subst e; exact Int.not_lt.1 (of_decide_eq_false hc5), rfl⟩))))))
   ·have hi := dE hc4
    refine aC.exit (aC.seq (aC.seq (aC.region (aB.run II 3 rfl (aB.c1 rfl (aG (aF rfl) Ii rfl (E1 s m x hsm (by omega) (nK hi hI) hn)) (aB.run II 1 rfl (aB.nil (aC.cond rfl (fun hc6 => ?_) (fun hc6 => ?_)))))))))
    ·exact aC.seq (aC.region (aB.run II 3 rfl (aB.nil (aC.ret ⟨.inr rfl, (aE.r2 rfl (.cell fa rfl rfl rfl rfl (.tmp rfl .nil))).cast (by rw [hap, if_neg (by rw [nK hi hI]; decide), if_pos (by simpa using hc6)]; rfl), H, rfl, Nat.le_refl _, fun _ _ => rfl⟩))))
    ·refine aC.skip (aC.seq (aC.region (aB.run II 3 rfl (aB.nil (aC.cI [.h, .s 2, .b 2, .s 3, .b 3, .s 4, .b 4, .s 6, .s 7, .b 7] (fun (_ : Unit) => [(.s 10, .sv (.lp 10 0)), (.b 10, .bx [.v (.str (m.aR x.field).name), .v (.int .i64 (m.aR x.field).num), .v (.int .i64 (m.aR x.field).ty), .v (.str (m.aR x.field).ref), .v (.bool (m.aR x.field).rep), .v (.bool (m.aR x.field).loose), .v (.str (m.aR x.field).one)])]) (fun (_ : Unit) => True) rfl ?_ ?_)))))
     ·refine aC.seq (aC.region (aB.run II 3 rfl (aB.c1 rfl (aG (aF rfl) qO rfl (jH m _ (by omega))) (aB.run II 1 rfl (aB.nil (aC.seq (aC.region (aB.run II 2 rfl (aB.nil (aC.cond rfl (fun hc7 => ?_) (fun hc7 => ?_)))))))))))
      ·exact aC.region (aB.run II 3 rfl (aB.c1 rfl (aH (aF rfl) bT rfl rfl (of_decide_eq_true hc7) (ij (of_decide_eq_true hc7)) rfl) (aB.run II 2 rfl (aB.kept (Kept.aJ [.s 10, .b 10, .h, .s 2, .b 2, .s 3, .b 3, .s 4, .b 4, .s 6, .s 7, .b 7] rfl (by decide) (Kept.now ⟨(), trivial, rfl⟩))))))
      ·exact aC.aK (Kept.aJ [.s 10, .b 10, .h, .s 2, .b 2, .s 3, .b 3, .s 4, .b 4, .s 6, .s 7, .b 7] rfl (by decide) (Kept.now (aC.skip ⟨(), trivial, by rw [qT (of_decide_eq_false hc7)]; rfl⟩)))
     ·rintro _ hF19
      have hna := nK hi hI
      have hask : x.asked s m = true := (by simpa using hc6)
      refine aC.seq (aC.region (aB.run II 3 rfl (aB.nil (aC.seq (aC.drawn mixed rfl (aD.run II 2 rfl (aD.c1 rfl (aG (aF rfl) Ig rfl (HO _)) (aD.c2 rfl (cO (aF rfl) Ih rfl rfl (vv m x.goes (by omega) (by have : x.goes.length ≤ 2 := CQ; omega) H)) ?_))))))))
      refine aD.run II 2 rfl (aD.nil (by kernel_rfl) (Kept.now (aC.seq (aC.region (aB.run II 3 rfl (aB.c1 rfl (aG (aF rfl) Ie rfl (EY s _ x m hsm (fun h => JP (by simpa using hc6) h))) (aB.run II 1 rfl (aB.nil (aC.seq (aC.seq (aC.region (aB.run II 4 rfl (aB.c1 rfl (uT (H.next + (bE m.fields x.goes).length) ((bE m.fields x.goes).map ag.av) (aF rfl) Ic rfl rfl Hp.dL (ra _) (wR rfl) (ED s ({ m with fields := (bE m.fields x.goes) } : aT) x (x.comes s (m.aR x.field)) hsm (by have hwl : (bE m.fields x.goes).length ≤ 10 := Nat.le_trans (List.length_filter_le _ _) hmf; show (bE m.fields x.goes).length ≤ 100; omega) (by show m.aj.length ≤ 100; omega) (by have := @kx s (m.aR x.field) x; omega)) rfl) ?_)))))))))))))
      refine aB.nil (aC.cond rfl (fun hc8 => ?_) (fun hc8 => ?_))
      ·exact aC.seq (aC.region (aB.run II 3 rfl (aB.nil (aC.ret ⟨.inr rfl, (aE.r2 rfl (.cell fa rfl rfl rfl rfl (.tmp rfl .nil))).cast (by rw [hap, if_neg (by rw [hna]; decide), if_neg (by rw [hask]; decide), if_pos hc8]; rfl), _, rfl, (by show H.next ≤ H.next + _ + 1; omega), fun i hi => Hp.kZ hi⟩))))
      ·refine aC.skip (aC.seq (aC.seq (aC.region (aB.run II 1 rfl (aB.nil (aC.blk (aC.aK (Kept.aJ [.s 14, .h, .s 2, .b 2, .s 3, .b 3, .s 4, .b 4, .s 6, .s 10, .b 10, .s 12, .b 12, .s 13] rfl (by decide) (Kept.now (aC.aX (fun (j : Nat) => [(.s 14, .sv (.v (.int .i64 (j : Int)))), (.h, .hp (H.bump (bE m.fields x.goes).length (bC ((oG x (bE m.fields x.goes) j).map ag.av))))]) _ (fun (j : Nat) => True) (fun (j : Nat) => (bE m.fields x.goes).length - j) 0 rfl trivial ?_))))))))))
       rintro j hJ
       have hwl : (bE m.fields x.goes).length ≤ 10 := Nat.le_trans (List.length_filter_le _ _) hmf
       refine aC.seq (aC.seq (aC.region (aB.run II 5 rfl (aB.nil (aC.cond rfl (fun hc9 => ?_) (fun hc9 => ?_))))))
       ·have hj := Jy hc9
        refine aC.skip (aC.seq (aC.blk (aC.drawn mixed rfl (aD.run II 6 rfl (aD.c1 rfl (bV (aF rfl) bT rfl rfl (Int.natCast_nonneg _) (by omega)) (aD.c1 rfl (ja (aF rfl) kN rfl rfl Hp.dL (ra _) rfl (FI hj)) (aD.run II 1 rfl (aD.c1 rfl (aG (aF rfl) Ib rfl (zZ _ x (by omega))) (aD.c1 rfl (bV (aF rfl) bT rfl rfl (Int.natCast_nonneg _) (by omega)) (aD.c1 rfl (lW kN rfl rfl Hp.dL rfl (ra _) rfl (by rw [List.length_map, xz]; exact hj) rfl) ?_))))))))))
        exact aD.nil (by kernel_rfl) (Kept.now (aC.region (aB.run II 3 rfl (aB.kept (Kept.oD rfl Hp.vD (Kept.aY 14 rfl (inc (by omega)) (Kept.aJ [.s 14, .h, .s 2, .b 2, .s 3, .b 3, .s 4, .b 4, .s 6, .s 10, .b 10, .s 12, .b 12, .s 13] rfl (by decide) (Kept.now ⟨j + 1, by omega, trivial, LC hj⟩))))))))
       ·have hj := CT hc9
        refine aC.exit (aC.seq (aC.region (aB.run II 3 rfl (aB.c3 rfl (lZ (aF rfl) fD ke rfl rfl Hp.dL (ra _) (by rw [List.length_map, xz]) rfl (bn ag.cells (fun _ => rfl) _) rfl (by have hwl : (bE m.fields x.goes).length ≤ 10 := Nat.le_trans (List.length_filter_le _ _) hmf; have := @kx s (m.aR x.field) x; rw [List.length_map]; omega) (by have hwl : (bE m.fields x.goes).length ≤ 10 := Nat.le_trans (List.length_filter_le _ _) hmf; have := @kx s (m.aR x.field) x; rw [List.length_map]; omega)) ?_))))
        refine aB.run II 2 rfl (aB.kept (Kept.oD rfl (show _ = H.bump ((bE m.fields x.goes).length + 1) (bC ((x.dg s m).fields.map ag.av)) from (by rw [Hp.jT, FJ hj, ← List.map_append]; rfl)) (Kept.I8 12 (H.next + ((bE m.fields x.goes).length + 1)) rfl rfl Hp.dL (ra _) (KH (by show _ = ((bE m.fields x.goes).map x.changed ++ x.comes s (m.aR x.field)).length; simp)) (Kept.now ?_))))
        refine aC.seq (aC.region (aB.run II 2 rfl (aB.c1 rfl (fm (aF rfl) Ds Ke rfl rfl) (aB.run II 2 rfl (aB.kept (Kept.ph 15 1 150 75 3 rfl rfl rfl rfl (by decide) (Kept.now (aC.seq (aC.seq (aC.region (aB.run II 1 rfl (aB.nil (aC.blk (aC.aK (Kept.aJ [.s 16, .b 15, .t 150, .h, .s 2, .b 2, .s 3, .b 3, .s 4, .b 4, .s 6, .s 10, .b 10, .s 12, .b 12, .s 15] rfl (by decide) (Kept.now (aC.aX (fun (i : Nat) => [(.s 16, .sv (.v (.int .i64 (i : Int)))), (.b 15, .bx [.v (.sl (s.enums.map dk.av)), .ow 150 ((cP s x i0 (x.dg s m) (m.aR x.field).ref i).map aT.av)]), (.t 150, .tk false 75 3 ((cP s x i0 (x.dg s m) (m.aR x.field).ref i).map aT.av))]) _ (fun (i : Nat) => True) (fun (i : Nat) => s.msgs.length - i) 0 rfl trivial ?_)))))))))))))))))
        rintro i hI3
        have h6 := hsm.m
        refine aC.seq (aC.seq (aC.region (aB.run II 5 rfl (aB.nil (aC.cond rfl (fun hc10 => ?_) (fun hc10 => ?_))))))
        ·have hi := dD hc10
         refine aC.skip (aC.seq (aC.blk (aC.seq (aC.region (aB.run II 3 rfl (aB.nil (aC.cond rfl (fun hc11 => ?_) (fun hc11 => ?_))))))))
         ·refine aC.region (aB.run II 4 rfl (aB.c3 rfl (aV (aF rfl) gF rfl rfl rfl rfl rfl (by have := @dY s x i0 (x.dg s m) (m.aR x.field).ref i; have := hsm.m; simp only [List.length_map, List.length_cons, List.length_nil]; omega) (by have := @dY s x i0 (x.dg s m) (m.aR x.field).ref i; have := hsm.m; simp only [List.length_map, List.length_cons, List.length_nil]; omega)) ?_))
          exact aB.run II 2 rfl (aB.nil (aC.region (aB.run II 3 rfl (aB.kept (Kept.aY 16 rfl (inc (by omega)) (Kept.aJ [.s 16, .b 15, .t 129, .h, .s 2, .b 2, .s 3, .b 3, .s 4, .b 4, .s 6, .s 10, .b 10, .s 12, .b 12, .s 15] rfl (by decide) (Kept.gG 129 150 (by decide) rfl (Kept.now ⟨i + 1, by omega, trivial, LB hi (r' := x.dg s m) rfl (by simp only [D4]; rw [if_pos (by have := of_decide_eq_true hc11; omega)])⟩))))))))
         ·refine aC.seq (aC.drawn mixed rfl (aD.run II 4 rfl (aD.tell (d := 134) rfl (fun hg12 => ?_) (fun hg12 => ?_))))
          ·refine aD.run II 10 rfl (aD.nil (by kernel_rfl) (Kept.now (aC.az rfl rfl (aC.drawn mixed rfl (aD.run II 5 rfl (aD.c1 rfl (aH (aF rfl) bM rfl rfl (Int.natCast_nonneg _) (cF hi) rfl) (aD.run II 2 rfl (aD.c3 rfl (aV (aF rfl) gF rfl rfl rfl rfl rfl (by have := @dY s x i0 (x.dg s m) (m.aR x.field).ref i; have := hsm.m; simp only [List.length_map, List.length_cons, List.length_nil]; omega) (by have := @dY s x i0 (x.dg s m) (m.aR x.field).ref i; have := hsm.m; simp only [List.length_map, List.length_cons, List.length_nil]; omega)) ?_))))))))
           exact aD.run II 2 rfl (aD.nil (by kernel_rfl) (Kept.now (aC.region (aB.run II 3 rfl (aB.kept (Kept.aY 16 rfl (inc (by omega)) (Kept.aJ [.s 16, .b 15, .t 153, .h, .s 2, .b 2, .s 3, .b 3, .s 4, .b 4, .s 6, .s 10, .b 10, .s 12, .b 12, .s 15] rfl (by decide) (Kept.gG 153 150 (by decide) rfl (Kept.now ⟨i + 1, by omega, trivial, LB hi (r' := s.msgs[i]) rfl (by simp only [D4]; rw [if_neg (by have := of_decide_eq_false hc11; omega), if_neg (by have : x.kind ≠ 7 := (by simpa using hg12); exact fun h => this h.1)])⟩)))))))))
          ·refine aD.run II 3 rfl (aD.g1 rfl (aF rfl) rfl rfl (aH (aF rfl) bM rfl rfl (Int.natCast_nonneg _) (cF hi) rfl) (aD.run II 6 rfl (aD.nil (by kernel_rfl) (Kept.now (aC.cond rfl (fun hc13 => ?_) (fun hc13 => ?_))))))
           ·refine aC.drawn mixed rfl (aD.run II 5 rfl (aD.c1 rfl (aH (aF rfl) bM rfl rfl (Int.natCast_nonneg _) (cF hi) rfl) (aD.run II 2 rfl (aD.c3 rfl (aV (aF rfl) gF rfl rfl rfl rfl rfl (by have := @dY s x i0 (x.dg s m) (m.aR x.field).ref i; have := hsm.m; simp only [List.length_map, List.length_cons, List.length_nil]; omega) (by have := @dY s x i0 (x.dg s m) (m.aR x.field).ref i; have := hsm.m; simp only [List.length_map, List.length_cons, List.length_nil]; omega)) ?_))))
            exact aD.run II 2 rfl (aD.nil (by kernel_rfl) (Kept.now (aC.region (aB.run II 3 rfl (aB.kept (Kept.aY 16 rfl (inc (by omega)) (Kept.aJ [.s 16, .b 15, .t 153, .h, .s 2, .b 2, .s 3, .b 3, .s 4, .b 4, .s 6, .s 10, .b 10, .s 12, .b 12, .s 15] rfl (by decide) (Kept.gG 153 150 (by decide) rfl (Kept.now ⟨i + 1, by omega, trivial, LB hi (r' := s.msgs[i]) rfl (by simp only [D4]; rw [if_neg (by have := of_decide_eq_false hc11; omega), if_neg (by have : s.msgs[i].name ≠ (m.aR x.field).ref := (by simpa using hc13); exact fun h => this h.2)])⟩)))))))))
           ·exact aC.skip (aC.region (aB.run II 3 rfl (aB.kept (Kept.aY 16 rfl (inc (by omega)) (Kept.aJ [.s 16, .b 15, .t 150, .h, .s 2, .b 2, .s 3, .b 3, .s 4, .b 4, .s 6, .s 10, .b 10, .s 12, .b 12, .s 15] rfl (by decide) (Kept.now (⟨i + 1, by omega, trivial, Le hi (by simp only [D4]; rw [if_neg (by have := of_decide_eq_false hc11; omega), if_pos ⟨by simpa using hg12, by simpa using hc13⟩])⟩)))))))
        ·have hi := dE hc10
         refine aC.exit (aC.seq (aC.seq (aC.region (aB.run II 3 rfl (aB.nil (aC.cond rfl (fun hc14 => ?_) (fun hc14 => ?_)))))))
         ·refine aC.region (aB.run II 8 rfl (aB.c3 rfl (aV (aF rfl) gF rfl rfl rfl rfl rfl (by have := @dY s x i0 (x.dg s m) (m.aR x.field).ref i; have := hsm.m; simp only [List.length_map, List.length_cons, List.length_nil]; omega) (by have := @dY s x i0 (x.dg s m) (m.aR x.field).ref i; have := hsm.m; simp only [List.length_map, List.length_cons, List.length_nil]; omega)) ?_))
          refine aB.run II 2 rfl (aB.nil (aC.seq (aC.region (aB.run II 1 rfl (aB.c1 rfl (aG (aF rfl) C5 rfl (zL s.enums _ [{ jz with name := x.dest, fields := [m.aR x.field] }] (pU hsm hmm (by simp) (by simp [jz])))) (aB.run II 1 rfl (aB.nil (aC.seq (aC.seq (aC.region (aB.run II 1 rfl (aB.c1 rfl (aG (aF rfl) sy rfl (xe _ (yA (pU hsm hmm (by simp) (by simp [jz]))))) (aB.run II 1 rfl (aB.nil (aC.seq (aC.region (aB.run II 2 rfl (aB.nil ?_))))))))))))))))))
          refine aC.cond rfl (fun hc15 => ?_) (fun hc15 => ?_)
          ·exact aC.seq (aC.region (aB.run II 4 rfl (aB.nil (aC.ret ⟨.inr rfl, (aE.r2 rfl (.cell fa rfl rfl rfl rfl (.tmp rfl .nil))).cast (by rw [hap, if_neg (by rw [hna]; decide), if_neg (by rw [hask]; decide), if_neg (by simpa using hc8), G4 hi hm0 (by simpa using hc14), if_pos (by simpa using hc15)]; rfl), _, rfl, (by show H.next ≤ H.next + _ + 1; omega), fun i hi => Hp.mq hi⟩))))
          ·exact aC.skip (aC.seq (aC.region (aB.run II 3 rfl (aB.nil (aC.ret ⟨.inr rfl, (aE.r2 rfl (.cell fa rfl rfl rfl rfl (.tmp rfl .nil))).cast (by rw [hap, if_neg (by rw [hna]; decide), if_neg (by rw [hask]; decide), if_neg (by simpa using hc8), G4 hi hm0 (by simpa using hc14), if_neg (by simpa using hc15)]; rfl), _, rfl, (by show H.next ≤ H.next + _ + 1; omega), fun i hi => Hp.mq hi⟩)))))
         ·refine aC.skip (aC.seq (aC.region (aB.run II 1 rfl (aB.c1 rfl (aG (aF rfl) C5 rfl (tx ⟨s.enums, (cP s x i0 (x.dg s m) (m.aR x.field).ref i)⟩ (rQ hsm hmm))) (aB.run II 1 rfl (aB.nil (aC.seq (aC.seq (aC.region (aB.run II 1 rfl (aB.c1 rfl (aG (aF rfl) sy rfl (xe _ (yA (rQ hsm hmm)))) (aB.run II 1 rfl (aB.nil (aC.seq (aC.region (aB.run II 2 rfl (aB.nil (aC.cond rfl (fun hc16 => ?_) (fun hc16 => ?_)))))))))))))))))))
          ·exact aC.seq (aC.region (aB.run II 4 rfl (aB.nil (aC.ret ⟨.inr rfl, (aE.r2 rfl (.cell fa rfl rfl rfl rfl (.tmp rfl .nil))).cast (by rw [hap, if_neg (by rw [hna]; decide), if_neg (by rw [hask]; decide), if_neg (by simpa using hc8), GZ hi hm0 (by simpa using hc14), if_pos (by simpa using hc16)]; rfl), _, rfl, (by show H.next ≤ H.next + _ + 1; omega), fun i hi => Hp.mq hi⟩))))
          ·exact aC.skip (aC.seq (aC.region (aB.run II 3 rfl (aB.nil (aC.ret ⟨.inr rfl, (aE.r2 rfl (.cell fa rfl rfl rfl rfl (.tmp rfl .nil))).cast (by rw [hap, if_neg (by rw [hna]; decide), if_neg (by rw [hask]; decide), if_neg (by simpa using hc8), GZ hi hm0 (by simpa using hc14), if_neg (by simpa using hc16)]; rfl), _, rfl, (by show H.next ≤ H.next + _ + 1; omega), fun i hi => Hp.mq hi⟩)))))
/- the document: all schemas of a migration -/
theorem Ce : aa Tryz.prog 44 = true := by kernel_rfl
theorem kV : ie Tryz.prog 26 = some 12 := by kernel_rfl
theorem CO : ie Tryz.prog 89 = some 2 := by kernel_rfl
theorem vk : se Tryz.prog 89 = some (25, 2, 48) := by kernel_rfl
theorem D6 : bf Tryz.prog 25 = some [AV.sl [], AV.sl []] := by kernel_rfl
def k8 : List aS → aN → Nat → Nat
 | [], _, i => i
 | x :: l, s, i => match s.apply x with
  | .ok t => k8 l t (i + 1)
  | .error _ => i
def tN (s : aN) (l : List aS) : Nat := if s.gC ≠ 0 then 0 else if 16 < l.length then 0 else k8 l s 0
def KS (n : Nat) : Except Int (List aN) → AV
 | .ok L => .tup [.sl (L.map aN.av), .int .i64 n, .int .i64 0]
 | .error e => .tup [.sl [], .int .i64 n, .int .i64 e]
structure lu (s : aN) (l : List aS) (i : Nat) (a : List aN) : Prop where
 len : a.length = i + 1
 all : ∃ t, a[i]? = some t ∧ t.dW ∧ aN.eA (l.drop i) t a = aN.eA l s [s] ∧ k8 (l.drop i) t i = k8 l s 0
theorem lu.start {s : aN} {l : List aS} (h : s.dW) : lu s l 0 [s] := ⟨rfl, s, rfl, h, rfl, rfl⟩
theorem lu.lt {s : aN} {l : List aS} {i : Nat} {a : List aN} (I : lu s l i a) : i < a.length := by rw [I.len]; omega
theorem lu.at {s : aN} {l : List aS} {i : Nat} {a : List aN} (I : lu s l i a) : (a[i]'I.lt).dW ∧ aN.eA (l.drop i) (a[i]'I.lt) a = aN.eA l s [s] ∧ k8 (l.drop i) (a[i]'I.lt) i = k8 l s 0 := by
 obtain ⟨t, h1, h2, h3, h4⟩ := I.all
 rw [List.getElem?_eq_getElem I.lt] at h1
 cases h1
 exact ⟨h2, h3, h4⟩
theorem AY {s t : aN} {x : aS} (h : s.apply x = .ok t) : t.dW := by
 obtain ⟨m, at_, A⟩ := jn h
 have := A.Bl.sm
 exact ⟨by have := this.e; omega, by have := this.m; omega⟩
theorem lu.step {s : aN} {l : List aS} {i : Nat} {a : List aN} (I : lu s l i a) (hi : i < l.length) {t : aN} (h : (a[i]'I.lt).apply l[i] = .ok t) : lu s l (i + 1) (a ++ [t]) := by
 obtain ⟨h2, h3, h4⟩ := I.at
 refine ⟨by simp [I.len], t, by rw [List.getElem?_append_right (by rw [I.len]; omega), I.len]; simp, AY h, ?_, ?_⟩
 ·rw [← h3, List.drop_eq_getElem_cons hi]; simp only [aN.eA, h]
 ·rw [← h4, List.drop_eq_getElem_cons hi]; simp only [k8, h]
theorem lu.bad {s : aN} {l : List aS} {i : Nat} {a : List aN} (I : lu s l i a) (hi : i < l.length) {e : Int} (h : (a[i]'I.lt).apply l[i] = .error e) : aN.eA l s [s] = .error e ∧ k8 l s 0 = i := by
 obtain ⟨h2, h3, h4⟩ := I.at
 rw [List.drop_eq_getElem_cons hi] at h3 h4
 simp only [aN.eA, k8, h] at h3 h4
 exact ⟨h3.symm, h4.symm⟩
theorem lu.done {s : aN} {l : List aS} {i : Nat} {a : List aN} (I : lu s l i a) (hi : l.length ≤ i) (hle : i ≤ l.length) : aN.eA l s [s] = .ok a ∧ k8 l s 0 = l.length := by
 obtain ⟨h2, h3, h4⟩ := I.at
 rw [List.drop_eq_nil_of_le hi] at h3 h4
 exact ⟨h3.symm, by rw [← h4]; show i = _; omega⟩
theorem wB {s t : aN} {x : aS} (hs : s.dW) (hx : x.dW) (hn : x.names.length ≤ 1000) (h : s.apply x = .ok t) : Pure Tryz.prog 44 [s.av, x.av] (.tup [t.av, .int .i64 0]) := by
 have := xf s x hs hx hn
 rw [h] at this; exact this
theorem wC {s : aN} {x : aS} {e : Int} (hs : s.dW) (hx : x.dW) (hn : x.names.length ≤ 1000) (h : s.apply x = .error e) : Pure Tryz.prog 44 [s.av, x.av] (.tup [.agg [.sl [], .sl []], .int .i64 e]) := by
 have := xf s x hs hx hn
 rw [h] at this; exact this
theorem qa {s : aN} {x : aS} {e : Int} (h : s.apply x = .error e) : e ≠ 0 := by
 unfold aN.apply at h
 split at h
 ·cases h; decide
 ·split at h
  ·cases h; decide
  ·dsimp only at h
   split at h
   ·cases h; decide
   ·split at h
    ·cases h; decide
    ·split at h
     ·cases h; decide
     ·split at h
      ·rename_i hc
       cases h; exact hc
      ·cases h
theorem Ge {s : aN} {l : List aS} (h : s.gC ≠ 0) : s.all l = .error s.gC ∧ tN s l = 0 := by unfold aN.all tN; rw [if_pos h, if_pos h]; exact ⟨rfl, rfl⟩
theorem Gd {s : aN} {l : List aS} (h : s.gC = 0) (h2 : 16 < l.length) : s.all l = .error 4 ∧ tN s l = 0 := by unfold aN.all tN; simp [h, h2]
theorem ye {s : aN} {l : List aS} (h : s.gC = 0) (h2 : ¬ 16 < l.length) : s.all l = aN.eA l s [s] ∧ tN s l = k8 l s 0 := by unfold aN.all tN; simp [h, h2]
theorem LY {v : CV} {rest : List (aM × CV)} {el esz t : Nat} {a : List aN} {b : AV} {c : aN} (h : b = c.av) : ((aM.s 9, v) :: (aM.s 8, CV.sv (.ow t (a.map aN.av ++ [b]))) :: (aM.t t, CV.tk false el esz (a.map aN.av ++ [b])) :: rest) = [(aM.s 9, v), (aM.s 8, CV.sv (.ow t ((a ++ [c]).map aN.av))), (aM.t t, CV.tk false el esz ((a ++ [c]).map aN.av))] ++ rest := by rw [h, List.map_append]; rfl
theorem GV (s : aN) (l : List aS) (hs : s.dW) (hb : ∀ x ∈ l, x.dW ∧ x.names.length ≤ 1000) (hl : l.length ≤ 9223372036854775807) : Pure Tryz.prog 26 [s.av, .sl (l.map aS.av)] (KS (tN s l) (s.all l)) := by
 refine Pure.aL Tryz.func26 rfl rfl (aF rfl) fun H => (aC.seq (aC.region (aB.run II 4 rfl (aB.nil (aC.seq (aC.seq (aC.region (aB.run II 1 rfl (aB.c1 rfl (aG (aF rfl) sy rfl (xe s hs)) (aB.run II 1 rfl (aB.nil (aC.seq (aC.region (aB.run II 2 rfl (aB.nil (aC.cond rfl (fun hc1 => ?_) (fun hc1 => ?_)))))))))))))))))
 ·exact aC.seq (aC.region (aB.run II 4 rfl (aB.nil (aC.ret ⟨.inr rfl, (aE.r3 rfl (.tmp rfl (.tmp rfl (.tmp rfl .nil)))).cast (by rw [(Ge (by simpa using hc1)).1, (Ge (by simpa using hc1)).2]; rfl), rfl⟩))))
 ·refine aC.skip (aC.seq (aC.seq (aC.region (aB.run II 3 rfl (aB.nil (aC.cond rfl (fun hc2 => ?_) (fun hc2 => ?_)))))))
  ·exact aC.seq (aC.region (aB.run II 3 rfl (aB.nil (aC.ret ⟨.inr rfl, (aE.r3 rfl (.tmp rfl (.tmp rfl (.tmp rfl .nil)))).cast (by rw [(Gd (by simpa using hc1) (by have := of_decide_eq_true hc2; rw [List.length_map] at this; omega)).1, (Gd (by simpa using hc1) (by have := of_decide_eq_true hc2; rw [List.length_map] at this; omega)).2]; rfl), rfl⟩))))
  ·refine aC.skip (aC.seq (aC.region (aB.run II 1 rfl (aB.c2 rfl (bF («as» := [_]) (aF rfl) vk D6 rfl rfl rfl (gI rfl) rfl) (aB.run II 1 rfl (aB.nil (aC.seq (aC.seq (aC.region (aB.run II 1 rfl (aB.nil (aC.blk (aC.aK (Kept.aJ [.s 9, .s 8, .t 21, .h, .s 1] rfl (by decide) (Kept.now (aC.aX (fun ((i, a) : Nat × List aN) => [(.s 9, .sv (.v (.int .i64 (i : Int)))), (.s 8, .sv (.ow 21 (a.map aN.av))), (.t 21, .tk false 25 2 (a.map aN.av))]) _ (fun ((i, a) : Nat × List aN) => lu s l i a ∧ i ≤ l.length) (fun ((i, a) : Nat × List aN) => l.length - i) (0, [s]) rfl ⟨lu.start hs, Nat.zero_le _⟩ ?_))))))))))))))))
   rintro ⟨i, a⟩ hI
   dsimp only at hI
   have h16 : l.length ≤ 16 := (by have := of_decide_eq_false hc2; rw [List.length_map] at this; omega)
   refine aC.seq (aC.seq (aC.region (aB.run II 4 rfl (aB.nil (aC.cond rfl (fun hc3 => ?_) (fun hc3 => ?_))))))
   ·have hi := dD hc3
    refine aC.skip (aC.seq (aC.blk (aC.seq (aC.drawn mixed rfl (aD.run II 2 rfl (aD.c1 rfl (aH (aF rfl) CO rfl rfl (Int.natCast_nonneg _) (cU (fun _ => rfl) hI.1.lt) rfl) (aD.run II 3 rfl (aD.c1 rfl (aH (aF rfl) kV rfl rfl (Int.natCast_nonneg _) (cF hi) rfl) (aD.run II 1 rfl ?_)))))))))
    cases hp1 : (a[i]'hI.1.lt).apply (l[i]'hi) with
    | ok x1 => 
     refine aD.c1 rfl (aG (aF rfl) Ce rfl (wB hI.1.at.1 (hb _ (List.getElem_mem hi)).1 (hb _ (List.getElem_mem hi)).2 hp1)) (aD.run II 6 rfl (aD.nil (by kernel_rfl) (Kept.now (aC.seq (aC.seq (aC.region (aB.run II 2 rfl (aB.nil (aC.cond rfl (fun hc4 => ?_) (fun hc4 => ?_))))))))))
     ·exact aC.seq (aC.region (aB.run II 5 rfl (aB.nil (aC.ret ⟨.inr rfl, (aE.r3 rfl (.tmp rfl (.tmp rfl (.tmp rfl .nil)))).cast (absurd hc4 (by decide)), rfl⟩))))
     ·refine aC.skip (aC.region (aB.run II 3 rfl (aB.c3 rfl (aV (aF rfl) vk rfl rfl rfl rfl rfl (by have := hI.1.len; simp only [List.length_map, List.length_cons, List.length_nil]; omega) (by have := hI.1.len; simp only [List.length_map, List.length_cons, List.length_nil]; omega)) ?_)))
      exact aB.run II 1 rfl (aB.nil (aC.region (aB.run II 3 rfl (aB.kept (Kept.aY 9 rfl (inc (by omega)) (Kept.aJ [.s 9, .s 8, .t 47, .h, .s 1] rfl (by decide) (Kept.gG 47 21 (by decide) rfl (Kept.now (⟨(i + 1, a ++ [x1]), by dsimp only; omega, ⟨hI.1.step hi hp1, by omega⟩, LY rfl⟩)))))))))
    | error e1 => 
     refine aD.c1 rfl (aG (aF rfl) Ce rfl (wC hI.1.at.1 (hb _ (List.getElem_mem hi)).1 (hb _ (List.getElem_mem hi)).2 hp1)) (aD.run II 6 rfl (aD.nil (by kernel_rfl) (Kept.now (aC.seq (aC.seq (aC.region (aB.run II 2 rfl (aB.nil (aC.cond rfl (fun hc5 => ?_) (fun hc5 => ?_))))))))))
     ·exact aC.seq (aC.region (aB.run II 5 rfl (aB.nil (aC.ret ⟨.inr rfl, (aE.r3 rfl (.tmp rfl (.tmp rfl (.tmp rfl .nil)))).cast (by rw [(ye (by simpa using hc1) (by omega)).1, (ye (by simpa using hc1) (by omega)).2, (hI.1.bad hi hp1).1, (hI.1.bad hi hp1).2]; rfl), rfl⟩))))
     ·refine aC.skip (aC.region (aB.run II 3 rfl (aB.c3 rfl (aV (aF rfl) vk rfl rfl rfl rfl rfl (by have := hI.1.len; simp only [List.length_map, List.length_cons, List.length_nil]; omega) (by have := hI.1.len; simp only [List.length_map, List.length_cons, List.length_nil]; omega)) ?_)))
      exact aB.run II 1 rfl (aB.nil (aC.region (aB.run II 3 rfl (aB.kept (Kept.aY 9 rfl (inc (by omega)) (Kept.aJ [.s 9, .s 8, .t 47, .h, .s 1] rfl (by decide) (Kept.gG 47 21 (by decide) rfl (Kept.now (absurd (by simpa using hc5) (qa hp1))))))))))
   ·have hi := dE hc3
    exact aC.exit (aC.seq (aC.region (aB.run II 6 rfl (aB.nil (aC.ret ⟨.inr rfl, (aE.r3 rfl (.tmp rfl (.tmp rfl (.tmp rfl .nil)))).cast (by rw [(ye (by simpa using hc1) (by omega)).1, (ye (by simpa using hc1) (by omega)).2, (hI.1.done hi hI.2).1, (hI.1.done hi hI.2).2, List.length_map]; rfl), rfl⟩)))))
/- the document: ports, and numbers, of a part -/
theorem yL : aa Tryz.prog 160 = true := by kernel_rfl
theorem c9 : ie Tryz.prog 44 = some 9 := by kernel_rfl
theorem iF : lk Tryz.prog 96 = some (true, 9) := by kernel_rfl
theorem dZ : se Tryz.prog 44 = some (96, 9, 88) := by kernel_rfl
theorem gS : bf Tryz.prog 96 = some [AV.str [], AV.int IntKind.i64 (0), AV.int IntKind.i64 (0), AV.str [], AV.bool false, AV.bool false, AV.str [], AV.int IntKind.i64 (0), AV.int IntKind.i64 (0)] := by kernel_rfl
theorem sU (l : List Port) : ∀ e ∈ l.map Port.av, e.cells.length = 9 := pb (bn Port.cells (fun _ => rfl) _)
def zj (name : aw) (x : Port) : Bool := !(x.f.name == name)
theorem BS {l : List Port} {n : aw} {i : Nat} (hi : i < l.length) (h : zj n l[i] = true) : ((l.take i).filter (zj n)).map Port.av ++ [l[i].av] = ((l.take (i + 1)).filter (zj n)).map Port.av := by
 rw [List.take_add_one, List.getElem?_eq_getElem hi, List.filter_append]; simp [h]
theorem BT {l : List Port} {n : aw} {i : Nat} (hi : i < l.length) (h : zj n l[i] = false) : ((l.take i).filter (zj n)).map Port.av = ((l.take (i + 1)).filter (zj n)).map Port.av := by
 rw [List.take_add_one, List.getElem?_eq_getElem hi, List.filter_append]; simp [h]
theorem JS (l : List Port) (a b : Nat) : c4 9 (((l.map Port.av).drop a).take b) = true := by
 rw [← List.map_drop, ← List.map_take]; exact bn Port.cells (fun _ => rfl) _
theorem sq {α : Type} (f : α → AV) {p : α → Bool} {l : List α} {x : α} {j : Int} (hj : j.toNat = l.length - cV p l) :
  ([] ++ (((l.map f).drop (0 : Int).toNat).take (j.toNat - (0 : Int).toNat))) ++ [f x] ++ (((l.map f).drop j.toNat).take (((l.map f).length : Int).toNat - j.toNat)) = (c6 p x l).map f := by
 rw [(kv _).1, (kv _).2]
 unfold c6 eT
 rw [← hj, List.map_append, List.map_cons, List.map_take, List.map_drop, List.nil_append, List.append_assoc]; rfl
theorem Kk {p : Port → Bool} {l : List Port} {j : Int} (hl : l.length ≤ 1000000) (h : oC p l j) (hf : 0 < j) : (l.map Port.av)[(IntKind.i64.wrap (j - 1)).toNat]? = some (.agg (JV hZ l j).cells) := by
 have hn := h.nn
 rw [eL (by omega) (by omega), List.getElem?_map, lA hZ h hf]; rfl
theorem dj (l : List Port) (x : Port) : (ba l x).length = l.length + 1 := by unfold ba c6; rw [oW]
theorem bN (l : List Port) (n : aw) : (aW l n).length ≤ l.length := List.length_filter_le _ _
theorem mP (l : List Port) (name : aw) (hl : l.length ≤ 1000) : Pure Tryz.prog 39 [.sl (l.map Port.av), .str name] (.int .i64 (bg l name)) := by
 refine Pure.aL Tryz.func39 rfl rfl (aF rfl) fun H => (aC.seq (aC.region (aB.run II 1 rfl (aB.nil (aC.seq (aC.seq (aC.region (aB.run II 1 rfl (aB.nil (aC.blk (aC.aK (Kept.aJ [.s 5, .h, .s 0, .s 1] rfl (by decide) (Kept.now (aC.aX (fun (i : Nat) => [(.s 5, .sv (.v (.int .i64 (i : Int))))]) _ (fun (i : Nat) => bS (fun x : Port => x.f.name == name) (l.drop i) i = bg l name) (fun (i : Nat) => l.length - i) 0 rfl (by simp [bg]) ?_))))))))))))))
 rintro i hI
 refine aC.seq (aC.seq (aC.region (aB.run II 4 rfl (aB.nil (aC.cond rfl (fun hc1 => ?_) (fun hc1 => ?_))))))
 ·have hi := dD hc1
  have hS := cQ (p := (fun x : Port => x.f.name == name)) hi
  refine aC.skip (aC.seq (aC.blk (aC.seq (aC.region (aB.run II 2 rfl (aB.c1 rfl (aH (aF rfl) c9 rfl rfl (Int.natCast_nonneg _) (cF hi) rfl) (aB.run II 5 rfl (aB.nil (aC.cond rfl (fun hc2 => ?_) (fun hc2 => ?_))))))))))
  ·exact aC.seq (aC.region (aB.run II 2 rfl (aB.nil (aC.ret ⟨.inr rfl, (aE.r1 rfl (.tmp rfl .nil)).cast (congrArg (AV.int .i64) (by grind [bg])), rfl⟩))))
  ·exact aC.skip (aC.region (aB.run II 3 rfl (aB.kept (Kept.aY 5 rfl (inc (by omega)) (Kept.aJ [.s 5, .h, .s 0, .s 1] rfl (by decide) (Kept.now ⟨i + 1, by omega, by grind, rfl⟩))))))
 ·have hi := dE hc1
  have hS := dd (p := (fun x : Port => x.f.name == name)) hi
  exact aC.exit (aC.seq (aC.region (aB.run II 1 rfl (aB.nil (aC.ret ⟨.inr rfl, (aE.r1 rfl (.tmp rfl .nil)).cast (congrArg (AV.int .i64) (by grind [bg])), rfl⟩)))))
theorem gx (l : List Port) (n : aw) (hl : l.length ≤ 1000) : Pure Tryz.prog 63 [.sl (l.map Port.av), .str n] (.sl ((aW l n).map Port.av)) := by
 refine Pure.aL Tryz.func63 rfl rfl (aF rfl) fun H => (aC.seq (aC.region (aB.run II 1 rfl (aB.nil (aC.seq (aC.region (aB.c2 rfl (bF («as» := []) (aF rfl) dZ gS rfl rfl rfl (gI rfl) rfl) (aB.run II 1 rfl (aB.nil (aC.seq (aC.seq (aC.region (aB.run II 1 rfl (aB.nil (aC.blk (aC.aK (Kept.aJ [.s 6, .s 5, .t 7, .h, .s 0, .s 1] rfl (by decide) (Kept.now (aC.aX (fun ((i, a) : Nat × List AV) => [(.s 6, .sv (.v (.int .i64 (i : Int)))), (.s 5, .sv (.ow 7 a)), (.t 7, .tk false 96 9 a)]) _ (fun ((i, a) : Nat × List AV) => a = ((l.take i).filter (zj n)).map Port.av) (fun ((i, a) : Nat × List AV) => l.length - i) (0, []) rfl (by simp) ?_)))))))))))))))))))
 rintro ⟨i, a⟩ hI
 refine aC.seq (aC.seq (aC.region (aB.run II 4 rfl (aB.nil (aC.cond rfl (fun hc1 => ?_) (fun hc1 => ?_))))))
 ·have hi := dD hc1
  refine aC.skip (aC.seq (aC.blk (aC.seq (aC.region (aB.run II 2 rfl (aB.c1 rfl (aH (aF rfl) c9 rfl rfl (Int.natCast_nonneg _) (cF hi) rfl) (aB.run II 5 rfl (aB.nil (aC.cond rfl (fun hc2 => ?_) (fun hc2 => ?_))))))))))
  ·refine aC.region (aB.run II 3 rfl (aB.c1 rfl (aH (aF rfl) c9 rfl rfl (Int.natCast_nonneg _) (cF hi) rfl) (aB.run II 2 rfl (aB.c3 rfl (aV (aF rfl) dZ rfl rfl rfl rfl rfl (by rw [hI]; simp only [List.length_map, List.length_cons, List.length_nil]; have h1 := List.length_filter_le (zj n) (l.take i); rw [List.length_take] at h1; omega) (by rw [hI]; simp only [List.length_map, List.length_cons, List.length_nil]; have h1 := List.length_filter_le (zj n) (l.take i); rw [List.length_take] at h1; omega)) ?_))))
   exact aB.run II 1 rfl (aB.nil (aC.region (aB.run II 3 rfl (aB.kept (Kept.aY 6 rfl (inc (by omega)) (Kept.aJ [.s 6, .s 5, .t 28, .h, .s 0, .s 1] rfl (by decide) (Kept.gG 28 7 (by decide) rfl (Kept.now ⟨(i + 1, _), by dsimp only; omega, by dsimp only; rw [hI]; first | exact BS hi (by simp_all [zj]) | exact BT hi (by simp_all [zj]), rfl⟩))))))))
  ·exact aC.skip (aC.region (aB.run II 3 rfl (aB.kept (Kept.aY 6 rfl (inc (by omega)) (Kept.aJ [.s 6, .s 5, .t 7, .h, .s 0, .s 1] rfl (by decide) (Kept.now ⟨(i + 1, _), by dsimp only; omega, by dsimp only; rw [hI]; first | exact BS hi (by simp_all [zj]) | exact BT hi (by simp_all [zj]), rfl⟩))))))
 ·have hi := dE hc1
  exact aC.exit (aC.seq (aC.region (aB.run II 2 rfl (aB.nil (aC.ret ⟨.inr rfl, (aE.r1 rfl (.tmp rfl .nil)).cast (congrArg AV.sl (by rw [hI, List.take_of_length_le (by omega)]; rfl)), rfl⟩)))))
theorem gY (l : List Port) (x : Port) (hl : l.length ≤ 1000) : Pure Tryz.prog 61 [.sl (l.map Port.av), x.av] (.sl ((ba l x).map Port.av)) := by
 refine Pure.aL Tryz.func61 rfl rfl (aF rfl) fun H => (aC.seq (aC.region (aB.run II 2 rfl (aB.nil (aC.seq (aC.region (aB.run II 3 rfl (aB.nil (aC.seq (aC.blk (aC.aK (Kept.aJ [.s 5, .h, .s 0, .s 3, .b 3] rfl (by decide) (Kept.now (aC.aX (fun (j : Int) => [(.s 5, .sv (.v (.int .i64 j)))]) _ (fun (j : Int) => oC (fun y : Port => decide (y.f.num > x.f.num)) l j) (fun (j : Int) => j.toNat) ((l.map Port.av).length : Int) rfl (by rw [List.length_map]; exact oC.start) ?_))))))))))))))
 rintro j hJ
 have hnn := hJ.nn
 refine aC.seq (aC.seq (aC.drawn mixed rfl (aD.run II 3 rfl (aD.tell (d := 10) rfl (fun hg1 => ?_) (fun hg1 => ?_)))))
 ·refine aD.run II 3 rfl (aD.g1 rfl (aF rfl) rfl rfl (aH (aF rfl) c9 rfl rfl (by have := of_decide_eq_true hg1; rw [eL (by omega) (by omega)]; omega) (Kk (by omega) hJ (of_decide_eq_true hg1)) rfl) ?_)
  refine aD.run II 8 rfl (aD.nil (by kernel_rfl) (Kept.now (aC.cond rfl (fun hc2 => ?_) (fun hc2 => ?_))))
  ·exact aC.skip (aC.blk (aC.region (aB.run II 3 rfl (aB.kept (Kept.aJ [.s 5, .h, .s 0, .s 3, .b 3] rfl (by decide) (Kept.now ⟨_, by show (IntKind.i64.wrap (j - 1)).toNat < j.toNat; have := of_decide_eq_true hg1; rw [eL (by omega) (by omega)]; omega, by rw [eL (by have := of_decide_eq_true hg1; omega) (by omega)]; exact hJ.step (of_decide_eq_true hg1) (lA hZ hJ (of_decide_eq_true hg1)) hc2, rfl⟩))))))
  ·refine aC.exit (aC.seq (aC.drawn mixed rfl (aD.c2 rfl (bF («as» := []) (aF rfl) dZ gS rfl rfl rfl (gI rfl) rfl) (aD.run II 2 rfl (aD.c1 rfl (bH (aF rfl) c9 rfl (fun e he => by obtain ⟨f, _, rfl⟩ := List.mem_map.1 he; rfl) rfl rfl (by omega) (by first | omega | (rw [List.length_map]; omega)) (by first | omega | (rw [List.length_map]; omega))) ?_)))))
   refine aD.c3 rfl (aV (aF rfl) dZ rfl rfl rfl (by first | rfl | exact JS _ _ _) rfl (by simp only [List.length_append, List.length_map, List.length_take, List.length_drop, List.length_cons, List.length_nil]; omega) (by simp only [List.length_append, List.length_map, List.length_take, List.length_drop, List.length_cons, List.length_nil]; omega)) ?_
   refine aD.run II 2 rfl (aD.c3 rfl (aV (aF rfl) dZ rfl rfl rfl (by first | rfl | exact JS _ _ _) rfl (by simp only [List.length_append, List.length_map, List.length_take, List.length_drop, List.length_cons, List.length_nil]; omega) (by simp only [List.length_append, List.length_map, List.length_take, List.length_drop, List.length_cons, List.length_nil]; omega)) ?_)
   refine aD.run II 2 rfl (aD.c1 rfl (bH (aF rfl) c9 rfl (fun e he => by obtain ⟨f, _, rfl⟩ := List.mem_map.1 he; rfl) rfl rfl (by omega) (by first | omega | (rw [List.length_map]; omega)) (by first | omega | (rw [List.length_map]; omega))) ?_)
   refine aD.c3 rfl (aV (aF rfl) dZ rfl rfl rfl (by first | rfl | exact JS _ _ _) rfl (by simp only [List.length_append, List.length_map, List.length_take, List.length_drop, List.length_cons, List.length_nil]; omega) (by simp only [List.length_append, List.length_map, List.length_take, List.length_drop, List.length_cons, List.length_nil]; omega)) ?_
   exact aD.run II 1 rfl (aD.nil (by kernel_rfl) (Kept.now (aC.ret ⟨.inr rfl, (aE.r1 rfl (.tmp rfl .nil)).cast (congrArg AV.sl (sq Port.av (hJ.stop (of_decide_eq_true hg1) (lA hZ hJ (of_decide_eq_true hg1)) hc2))), rfl⟩)))
 ·refine aD.run II 12 rfl (aD.nil (by kernel_rfl) (Kept.now (aC.aZ rfl rfl (aC.exit (aC.seq (aC.drawn mixed rfl (aD.c2 rfl (bF («as» := []) (aF rfl) dZ gS rfl rfl rfl (gI rfl) rfl) (aD.run II 2 rfl (aD.c1 rfl (bH (aF rfl) c9 rfl (fun e he => by obtain ⟨f, _, rfl⟩ := List.mem_map.1 he; rfl) rfl rfl (by omega) (by first | omega | (rw [List.length_map]; omega)) (by first | omega | (rw [List.length_map]; omega))) ?_)))))))))
  refine aD.c3 rfl (aV (aF rfl) dZ rfl rfl rfl (by first | rfl | exact JS _ _ _) rfl (by simp only [List.length_append, List.length_map, List.length_take, List.length_drop, List.length_cons, List.length_nil]; omega) (by simp only [List.length_append, List.length_map, List.length_take, List.length_drop, List.length_cons, List.length_nil]; omega)) ?_
  refine aD.run II 2 rfl (aD.c3 rfl (aV (aF rfl) dZ rfl rfl rfl (by first | rfl | exact JS _ _ _) rfl (by simp only [List.length_append, List.length_map, List.length_take, List.length_drop, List.length_cons, List.length_nil]; omega) (by simp only [List.length_append, List.length_map, List.length_take, List.length_drop, List.length_cons, List.length_nil]; omega)) ?_)
  refine aD.run II 2 rfl (aD.c1 rfl (bH (aF rfl) c9 rfl (fun e he => by obtain ⟨f, _, rfl⟩ := List.mem_map.1 he; rfl) rfl rfl (by omega) (by first | omega | (rw [List.length_map]; omega)) (by first | omega | (rw [List.length_map]; omega))) ?_)
  refine aD.c3 rfl (aV (aF rfl) dZ rfl rfl rfl (by first | rfl | exact JS _ _ _) rfl (by simp only [List.length_append, List.length_map, List.length_take, List.length_drop, List.length_cons, List.length_nil]; omega) (by simp only [List.length_append, List.length_map, List.length_take, List.length_drop, List.length_cons, List.length_nil]; omega)) ?_
  exact aD.run II 1 rfl (aD.nil (by kernel_rfl) (Kept.now (aC.ret ⟨.inr rfl, (aE.r1 rfl (.tmp rfl .nil)).cast (congrArg AV.sl (sq Port.av (hJ.low (of_decide_eq_false hg1)))), rfl⟩)))
theorem mQ (n : aw) (num ty reg : Int) : Pure Tryz.prog 62 [.str n, .int .i64 num, .int .i64 ty, .int .i64 reg] (dB n num ty reg).av := by
 exact Pure.aL Tryz.func62 rfl rfl (aF rfl) fun H => (aC.seq (aC.region (aB.run II 1 rfl (aB.nil (aC.seq (aC.region (aB.run II 7 rfl (aB.nil (aC.ret ⟨.inr rfl, (aE.r1 rfl (.cell iF rfl rfl rfl rfl .nil)).cast rfl, rfl⟩)))))))))
theorem BC (t : Int) : Pure Tryz.prog 160 [.int .i64 t] (.tup [.int .i64 (iU t).1, .int .u64 ((iU t).2 : Int), .bool (cK t)]) := by
 refine Pure.aL Tryz.func160 rfl rfl (aF rfl) fun H => (aC.seq (aC.region (aB.run II 3 rfl (aB.nil (aC.seq (aC.seq (aC.region (aB.run II 1 rfl (aB.c1 rfl (aG (aF rfl) tE rfl (pK _)) (aB.run II 1 rfl (aB.nil (aC.cond rfl (fun hc1 => ?_) (fun hc1 => ?_)))))))))))))
 ·exact aC.seq (aC.region (aB.run II 3 rfl (aB.nil (aC.ret ⟨.inr rfl, (aE.r3 rfl (.tmp rfl (.tmp rfl (.tmp rfl .nil)))).cast (by simp_all [iU]), rfl⟩))))
 ·refine aC.skip (aC.seq (aC.seq (aC.region (aB.run II 1 rfl (aB.c1 rfl (aG (aF rfl) oY rfl (oO _)) (aB.run II 1 rfl (aB.tell (d := 10) rfl (fun hg2 => ?_) (fun hg2 => ?_))))))))
  ·refine aB.run II 1 rfl (aB.g1 rfl (aF rfl) rfl rfl (aG (aF rfl) oZ rfl (oN _)) (aB.run II 1 rfl (aB.nil (aC.cond rfl (fun hc3 => ?_) (fun hc3 => ?_)))))
   ·exact aC.seq (aC.region (aB.run II 3 rfl (aB.nil (aC.ret ⟨.inr rfl, (aE.r3 rfl (.tmp rfl (.tmp rfl (.tmp rfl .nil)))).cast (by simp_all [iU]), rfl⟩))))
   ·refine aC.skip (aC.seq (aC.seq (aC.region (aB.run II 1 rfl (aB.c1 rfl (aG (aF rfl) oY rfl (oO _)) (aB.nil (aC.cond rfl (fun hc4 => ?_) (fun hc4 => ?_))))))))
    ·exact aC.seq (aC.region (aB.run II 3 rfl (aB.nil (aC.ret ⟨.inr rfl, (aE.r3 rfl (.tmp rfl (.tmp rfl (.tmp rfl .nil)))).cast (by simp_all [iU]), rfl⟩))))
    ·refine aC.skip (aC.seq (aC.seq (aC.region (aB.run II 1 rfl (aB.c1 rfl (aG (aF rfl) oZ rfl (oN _)) (aB.nil (aC.cond rfl (fun hc5 => ?_) (fun hc5 => ?_))))))))
     ·exact aC.seq (aC.region (aB.run II 3 rfl (aB.nil (aC.ret ⟨.inr rfl, (aE.r3 rfl (.tmp rfl (.tmp rfl (.tmp rfl .nil)))).cast (by simp_all [iU]), rfl⟩))))
     ·exact aC.skip (aC.seq (aC.region (aB.run II 3 rfl (aB.nil (aC.ret ⟨.inr rfl, (aE.r3 rfl (.tmp rfl (.tmp rfl (.tmp rfl .nil)))).cast (by simp_all [iU]), rfl⟩)))))
  ·refine aB.run II 3 rfl (aB.nil (aC.aZ rfl rfl (aC.skip (aC.seq (aC.seq (aC.region (aB.run II 1 rfl (aB.c1 rfl (aG (aF rfl) oY rfl (oO _)) (aB.nil (aC.cond rfl (fun hc6 => ?_) (fun hc6 => ?_)))))))))))
   ·exact aC.seq (aC.region (aB.run II 3 rfl (aB.nil (aC.ret ⟨.inr rfl, (aE.r3 rfl (.tmp rfl (.tmp rfl (.tmp rfl .nil)))).cast (by simp_all [iU]), rfl⟩))))
   ·refine aC.skip (aC.seq (aC.seq (aC.region (aB.run II 1 rfl (aB.c1 rfl (aG (aF rfl) oZ rfl (oN _)) (aB.nil (aC.cond rfl (fun hc7 => ?_) (fun hc7 => ?_))))))))
    ·exact aC.seq (aC.region (aB.run II 3 rfl (aB.nil (aC.ret ⟨.inr rfl, (aE.r3 rfl (.tmp rfl (.tmp rfl (.tmp rfl .nil)))).cast (by simp_all [iU]), rfl⟩))))
    ·exact aC.skip (aC.seq (aC.region (aB.run II 3 rfl (aB.nil (aC.ret ⟨.inr rfl, (aE.r3 rfl (.tmp rfl (.tmp rfl (.tmp rfl .nil)))).cast (by simp_all [iU]), rfl⟩)))))
theorem HJ (a b : Int) : Pure Tryz.prog 102 [.int .i64 a, .int .i64 b] (.tup [.int .i64 (pq a b).1, .int .u64 ((pq a b).2 : Int)]) := by
 refine Pure.aL Tryz.func102 rfl rfl (aF rfl) fun H => (aC.seq (aC.region (aB.run II 2 rfl (aB.nil (aC.seq (aC.region (aB.run II 1 rfl (aB.c1 rfl (aG (aF rfl) yL rfl (BC _)) (aB.run II 7 rfl (aB.nil (aC.seq (aC.region (aB.run II 1 rfl (aB.c1 rfl (aG (aF rfl) yL rfl (BC _)) (aB.run II 7 rfl (aB.nil (aC.seq (aC.region ?_))))))))))))))))))
 exact aB.run II 2 rfl (aB.c1 rfl (Ep (aF rfl) rfl rfl) (aB.run II 2 rfl (aB.c1 rfl (Eo (aF rfl) rfl rfl) (aB.run II 2 rfl (aB.nil (aC.ret ⟨.inr rfl, (aE.r2 rfl (.tmp rfl (.tmp rfl .nil))).cast (by unfold pq; simp; try omega), rfl⟩))))))
/- the document: all numbers that a part had -/
theorem fJ : lk Tryz.prog 48 = some (true, 7) := by kernel_rfl
def dx (p : ak) (o : AV) : AV := .agg [.str p.name, .sl (p.ins.map Port.av), o, .sl (p.outs.map Port.av), .int .i64 p.aI, .sl (p.ever.map jj), .bool p.born]
def uj (p : ak) (i : Nat) : List Int := (p.outs.take i).foldl (fun l x => e8 l x.f.num) p.ever
theorem jS {p : ak} {i : Nat} (hi : i < p.outs.length) : uj p (i + 1) = e8 (uj p i) p.outs[i].f.num := by
 unfold uj
 rw [List.take_add_one, List.getElem?_eq_getElem hi, List.foldl_append]; rfl
theorem ub {l : List Int} {n : Int} : (e8 l n).length ≤ l.length + 1 := by
 unfold e8
 dsimp only
 split
 ·omega
 ·rw [oW]; omega
theorem o5 (p : ak) (i : Nat) : (uj p i).length ≤ p.ever.length + p.outs.length := by
 have h : ∀ (l : List Port) (a : List Int), (l.foldl (fun l x => e8 l x.f.num) a).length ≤ a.length + l.length := by
  intro l
  induction l with
  | nil => intro a; simp
  | cons x l ih =>
   intro a
   rw [List.foldl_cons]
   have := ih (e8 a x.f.num)
   have := @ub a x.f.num
   rw [List.length_cons]; omega
 have := h (p.outs.take i) p.ever
 rw [List.length_take] at this
 unfold uj; omega
theorem ic {l : List Int} {n : Int} {j : Int} (hj : j.toNat = l.length - cV (fun y => decide (y ≥ n)) l) (h : l[j.toNat]? ≠ some n) :
  ([] ++ (((l.map jj).drop (0 : Int).toNat).take (j.toNat - (0 : Int).toNat))) ++ [AV.int .i64 n] ++ (((l.map jj).drop j.toNat).take (((l.map jj).length : Int).toNat - j.toNat)) = (e8 l n).map jj := by
 have e : e8 l n = c6 (fun y => decide (y ≥ n)) n l := by
  unfold e8 c6
  dsimp only
  rw [if_neg (by rw [← hj]; exact h)]
 rw [e]
 exact sq jj hj
theorem qH {l : List Int} {n : Int} {j : Int} (hj : j.toNat = l.length - cV (fun y => decide (y ≥ n)) l) (h : l[j.toNat]? = some n) : e8 l n = l := by
 unfold e8
 dsimp only
 rw [if_pos (by rw [← hj]; exact h)]
theorem JU {v : CV} {rest : List (aM × CV)} {el esz t : Nat} {a b : List AV} (h : a = b) : ((aM.s 4, v) :: (aM.s 3, CV.sv (.ow t a)) :: (aM.t t, CV.tk false el esz a) :: rest) = [(aM.s 4, v), (aM.s 3, CV.sv (.ow t b)), (aM.t t, CV.tk false el esz b)] ++ rest := by rw [h]; rfl
theorem Cr {l : List Int} {j : Int} (h0 : 0 ≤ j) (h : (j == ((l.map jj).length : Int)) = true) {n : Int} : l[j.toNat]? ≠ some n := by
 have := eq_of_beq h
 rw [List.length_map] at this
 rw [List.getElem?_eq_none (by omega)]; simp
theorem rf {l : List Int} {j : Int} (h0 : 0 ≤ j) (h1 : j ≤ (l.length : Int)) (h : (j == ((l.map jj).length : Int)) = false) : l[j.toNat]? = some (l.getD j.toNat 0) := by
 have : j ≠ ((l.map jj).length : Int) := fun e => by rw [e] at h; simp at h
 rw [List.length_map] at this
 rw [List.getD_eq_getElem?_getD, List.getElem?_eq_getElem (show j.toNat < l.length by omega)]; rfl
theorem wA (p : ak) (o : AV) (ho : p.outs.length ≤ 1000) (he : p.ever.length ≤ 100000) : Pure Tryz.prog 41 [dx p o] (dx (cR p) o) := by
 refine Pure.aL Tryz.func41 rfl rfl (aF rfl) fun H => (aC.seq (aC.region (aB.run II 2 rfl (aB.nil (aC.seq (aC.region (aB.c2 rfl (bF («as» := []) (aF rfl) bc fj rfl rfl rfl (gI rfl) rfl) (aB.run II 2 rfl (aB.c3 rfl (aV (aF rfl) bc rfl rfl rfl (by first | rfl | exact oF _ _ _ | exact cZ .i64 id _) rfl (by simp only [List.length_append, List.length_map, List.length_take, List.length_drop, List.length_cons, List.length_nil]; omega) (by simp only [List.length_append, List.length_map, List.length_take, List.length_drop, List.length_cons, List.length_nil]; omega)) ?_)))))))))
 refine aB.run II 1 rfl (aB.nil (aC.seq (aC.seq (aC.region (aB.run II 1 rfl (aB.nil (aC.blk (aC.aK (Kept.aJ [.s 4, .s 3, .t 10, .h, .s 1, .b 1, .s 2, .b 2] rfl (by decide) (Kept.now (aC.aX (fun (i : Nat) => [(.s 4, .sv (.v (.int .i64 (i : Int)))), (.s 3, .sv (.ow 10 ((uj p i).map jj))), (.t 10, .tk false 3 1 ((uj p i).map jj))]) _ (fun (i : Nat) => True) (fun (i : Nat) => p.outs.length - i) 0 rfl trivial ?_)))))))))))
 rintro i hI
 have hEl := o5 p i
 refine aC.seq (aC.seq (aC.region (aB.run II 5 rfl (aB.nil (aC.cond rfl (fun hc1 => ?_) (fun hc1 => ?_))))))
 ·have hi := dD hc1
  refine aC.skip (aC.seq (aC.blk (aC.seq (aC.region (aB.run II 3 rfl (aB.c1 rfl (aH (aF rfl) c9 rfl rfl (Int.natCast_nonneg _) (cF hi) rfl) (aB.run II 4 rfl (aB.nil (aC.seq (aC.region (aB.run II 3 rfl (aB.nil (aC.seq (aC.blk (aC.aK (Kept.aJ [.s 6, .h, .s 1, .b 1, .s 2, .b 2, .s 3, .t 10, .s 4, .s 5] rfl (by decide) (Kept.now (aC.aX (fun (j : Int) => [(.s 6, .sv (.v (.int .i64 j)))]) _ (fun (j : Int) => oC (fun y : Int => decide (y ≥ (p.outs[i]'hi).f.num)) (uj p i) j) (fun (j : Int) => j.toNat) (((uj p i).map jj).length : Int) rfl (by rw [List.length_map]; exact oC.start) ?_))))))))))))))))))
  rintro j hJ
  have hnn := hJ.nn
  refine aC.seq (aC.seq (aC.region (aB.run II 3 rfl (aB.tell (d := 29) rfl (fun hg2 => ?_) (fun hg2 => ?_)))))
  ·refine aB.run II 3 rfl (aB.g1 rfl (aF rfl) rfl rfl (aH (aF rfl) cm rfl rfl (by have := of_decide_eq_true hg2; rw [eL (by omega) (by omega)]; omega) (J5 (by omega) hJ (of_decide_eq_true hg2)) rfl) ?_)
   refine aB.run II 4 rfl (aB.nil (aC.cond rfl (fun hc3 => ?_) (fun hc3 => ?_)))
   ·exact aC.skip (aC.blk (aC.region (aB.run II 3 rfl (aB.kept (Kept.aJ [.s 6, .h, .s 1, .b 1, .s 2, .b 2, .s 3, .t 10, .s 4, .s 5] rfl (by decide) (Kept.now ⟨_, by show (IntKind.i64.wrap (j - 1)).toNat < j.toNat; have := of_decide_eq_true hg2; rw [eL (by omega) (by omega)]; omega, by rw [eL (by have := of_decide_eq_true hg2; omega) (by omega)]; exact hJ.step (of_decide_eq_true hg2) (lA 0 hJ (of_decide_eq_true hg2)) hc3, rfl⟩))))))
   ·refine aC.exit (aC.seq (aC.region (aB.run II 5 rfl (aB.tell (d := 44) rfl (fun hg4 => ?_) (fun hg4 => ?_)))))
    ·refine aB.run II 7 rfl (aB.nil (aC.az rfl rfl (aC.drawn mixed rfl (aD.c2 rfl (bF («as» := []) (aF rfl) bc fj rfl rfl rfl (gI rfl) rfl) (aD.run II 2 rfl (aD.c1 rfl (bH (aF rfl) cm rfl (fun e he => by obtain ⟨f, _, rfl⟩ := List.mem_map.1 he; rfl) rfl rfl (by omega) (by first | omega | (rw [List.length_map]; omega)) (by first | omega | (rw [List.length_map]; omega))) ?_))))))
     refine aD.c3 rfl (aV (aF rfl) bc rfl rfl rfl (by first | rfl | exact oF _ _ _ | exact cZ .i64 id _) rfl (by simp only [List.length_append, List.length_map, List.length_take, List.length_drop, List.length_cons, List.length_nil]; omega) (by simp only [List.length_append, List.length_map, List.length_take, List.length_drop, List.length_cons, List.length_nil]; omega)) ?_
     refine aD.run II 2 rfl (aD.c3 rfl (aV (aF rfl) bc rfl rfl rfl (by first | rfl | exact oF _ _ _ | exact cZ .i64 id _) rfl (by simp only [List.length_append, List.length_map, List.length_take, List.length_drop, List.length_cons, List.length_nil]; omega) (by simp only [List.length_append, List.length_map, List.length_take, List.length_drop, List.length_cons, List.length_nil]; omega)) ?_)
     refine aD.run II 2 rfl (aD.c1 rfl (bH (aF rfl) cm rfl (fun e he => by obtain ⟨f, _, rfl⟩ := List.mem_map.1 he; rfl) rfl rfl (by omega) (by first | omega | (rw [List.length_map]; omega)) (by first | omega | (rw [List.length_map]; omega))) ?_)
     refine aD.c3 rfl (aV (aF rfl) bc rfl rfl rfl (by first | rfl | exact oF _ _ _ | exact cZ .i64 id _) rfl (by simp only [List.length_append, List.length_map, List.length_take, List.length_drop, List.length_cons, List.length_nil]; omega) (by simp only [List.length_append, List.length_map, List.length_take, List.length_drop, List.length_cons, List.length_nil]; omega)) ?_
     exact aD.run II 1 rfl (aD.nil (by kernel_rfl) (Kept.now (aC.region (aB.run II 3 rfl (aB.kept (Kept.aY 4 rfl (inc (by omega)) (Kept.aJ [.s 4, .s 3, .t 63, .h, .s 1, .b 1, .s 2, .b 2] rfl (by decide) (Kept.gG 63 10 (by decide) rfl (Kept.now ⟨i + 1, by omega, trivial, JU (by rw [jS hi]; exact ic (hJ.stop (of_decide_eq_true hg2) (lA 0 hJ (of_decide_eq_true hg2)) hc3) (Cr hnn.1 hg4))⟩)))))))))
    ·refine aB.run II 2 rfl (aB.g1 rfl (aF rfl) rfl rfl (aH (aF rfl) cm rfl rfl hnn.1 (by rw [List.getElem?_map, rf hnn.1 hnn.2 hg4]; rfl) rfl) ?_)
     refine aB.run II 4 rfl (aB.nil (aC.cond rfl (fun hc5 => ?_) (fun hc5 => ?_)))
     ·refine aC.drawn mixed rfl (aD.c2 rfl (bF («as» := []) (aF rfl) bc fj rfl rfl rfl (gI rfl) rfl) (aD.run II 2 rfl (aD.c1 rfl (bH (aF rfl) cm rfl (fun e he => by obtain ⟨f, _, rfl⟩ := List.mem_map.1 he; rfl) rfl rfl (by omega) (by first | omega | (rw [List.length_map]; omega)) (by first | omega | (rw [List.length_map]; omega))) ?_)))
      refine aD.c3 rfl (aV (aF rfl) bc rfl rfl rfl (by first | rfl | exact oF _ _ _ | exact cZ .i64 id _) rfl (by simp only [List.length_append, List.length_map, List.length_take, List.length_drop, List.length_cons, List.length_nil]; omega) (by simp only [List.length_append, List.length_map, List.length_take, List.length_drop, List.length_cons, List.length_nil]; omega)) ?_
      refine aD.run II 2 rfl (aD.c3 rfl (aV (aF rfl) bc rfl rfl rfl (by first | rfl | exact oF _ _ _ | exact cZ .i64 id _) rfl (by simp only [List.length_append, List.length_map, List.length_take, List.length_drop, List.length_cons, List.length_nil]; omega) (by simp only [List.length_append, List.length_map, List.length_take, List.length_drop, List.length_cons, List.length_nil]; omega)) ?_)
      refine aD.run II 2 rfl (aD.c1 rfl (bH (aF rfl) cm rfl (fun e he => by obtain ⟨f, _, rfl⟩ := List.mem_map.1 he; rfl) rfl rfl (by omega) (by first | omega | (rw [List.length_map]; omega)) (by first | omega | (rw [List.length_map]; omega))) ?_)
      refine aD.c3 rfl (aV (aF rfl) bc rfl rfl rfl (by first | rfl | exact oF _ _ _ | exact cZ .i64 id _) rfl (by simp only [List.length_append, List.length_map, List.length_take, List.length_drop, List.length_cons, List.length_nil]; omega) (by simp only [List.length_append, List.length_map, List.length_take, List.length_drop, List.length_cons, List.length_nil]; omega)) ?_
      exact aD.run II 1 rfl (aD.nil (by kernel_rfl) (Kept.now (aC.region (aB.run II 3 rfl (aB.kept (Kept.aY 4 rfl (inc (by omega)) (Kept.aJ [.s 4, .s 3, .t 63, .h, .s 1, .b 1, .s 2, .b 2] rfl (by decide) (Kept.gG 63 10 (by decide) rfl (Kept.now ⟨i + 1, by omega, trivial, JU (by rw [jS hi]; exact ic (hJ.stop (of_decide_eq_true hg2) (lA 0 hJ (of_decide_eq_true hg2)) hc3) (by rw [rf hnn.1 hnn.2 hg4]; intro e; have := Option.some.inj e; simp_all))⟩)))))))))
     ·exact aC.skip (aC.region (aB.run II 3 rfl (aB.kept (Kept.aY 4 rfl (inc (by omega)) (Kept.aJ [.s 4, .s 3, .t 10, .h, .s 1, .b 1, .s 2, .b 2] rfl (by decide) (Kept.now ⟨i + 1, by omega, trivial, JU (by rw [jS hi, qH (hJ.stop (of_decide_eq_true hg2) (lA 0 hJ (of_decide_eq_true hg2)) hc3) (by rw [rf hnn.1 hnn.2 hg4]; simp_all)])⟩))))))
  ·refine aB.run II 8 rfl (aB.nil (aC.aZ rfl rfl (aC.exit (aC.seq (aC.region (aB.run II 5 rfl (aB.tell (d := 44) rfl (fun hg6 => ?_) (fun hg6 => ?_))))))))
   ·refine aB.run II 7 rfl (aB.nil (aC.az rfl rfl (aC.drawn mixed rfl (aD.c2 rfl (bF («as» := []) (aF rfl) bc fj rfl rfl rfl (gI rfl) rfl) (aD.run II 2 rfl (aD.c1 rfl (bH (aF rfl) cm rfl (fun e he => by obtain ⟨f, _, rfl⟩ := List.mem_map.1 he; rfl) rfl rfl (by omega) (by first | omega | (rw [List.length_map]; omega)) (by first | omega | (rw [List.length_map]; omega))) ?_))))))
    refine aD.c3 rfl (aV (aF rfl) bc rfl rfl rfl (by first | rfl | exact oF _ _ _ | exact cZ .i64 id _) rfl (by simp only [List.length_append, List.length_map, List.length_take, List.length_drop, List.length_cons, List.length_nil]; omega) (by simp only [List.length_append, List.length_map, List.length_take, List.length_drop, List.length_cons, List.length_nil]; omega)) ?_
    refine aD.run II 2 rfl (aD.c3 rfl (aV (aF rfl) bc rfl rfl rfl (by first | rfl | exact oF _ _ _ | exact cZ .i64 id _) rfl (by simp only [List.length_append, List.length_map, List.length_take, List.length_drop, List.length_cons, List.length_nil]; omega) (by simp only [List.length_append, List.length_map, List.length_take, List.length_drop, List.length_cons, List.length_nil]; omega)) ?_)
    refine aD.run II 2 rfl (aD.c1 rfl (bH (aF rfl) cm rfl (fun e he => by obtain ⟨f, _, rfl⟩ := List.mem_map.1 he; rfl) rfl rfl (by omega) (by first | omega | (rw [List.length_map]; omega)) (by first | omega | (rw [List.length_map]; omega))) ?_)
    refine aD.c3 rfl (aV (aF rfl) bc rfl rfl rfl (by first | rfl | exact oF _ _ _ | exact cZ .i64 id _) rfl (by simp only [List.length_append, List.length_map, List.length_take, List.length_drop, List.length_cons, List.length_nil]; omega) (by simp only [List.length_append, List.length_map, List.length_take, List.length_drop, List.length_cons, List.length_nil]; omega)) ?_
    exact aD.run II 1 rfl (aD.nil (by kernel_rfl) (Kept.now (aC.region (aB.run II 3 rfl (aB.kept (Kept.aY 4 rfl (inc (by omega)) (Kept.aJ [.s 4, .s 3, .t 63, .h, .s 1, .b 1, .s 2, .b 2] rfl (by decide) (Kept.gG 63 10 (by decide) rfl (Kept.now ⟨i + 1, by omega, trivial, JU (by rw [jS hi]; exact ic (hJ.low (of_decide_eq_false hg2)) (Cr hnn.1 hg6))⟩)))))))))
   ·refine aB.run II 2 rfl (aB.g1 rfl (aF rfl) rfl rfl (aH (aF rfl) cm rfl rfl hnn.1 (by rw [List.getElem?_map, rf hnn.1 hnn.2 hg6]; rfl) rfl) ?_)
    refine aB.run II 4 rfl (aB.nil (aC.cond rfl (fun hc7 => ?_) (fun hc7 => ?_)))
    ·refine aC.drawn mixed rfl (aD.c2 rfl (bF («as» := []) (aF rfl) bc fj rfl rfl rfl (gI rfl) rfl) (aD.run II 2 rfl (aD.c1 rfl (bH (aF rfl) cm rfl (fun e he => by obtain ⟨f, _, rfl⟩ := List.mem_map.1 he; rfl) rfl rfl (by omega) (by first | omega | (rw [List.length_map]; omega)) (by first | omega | (rw [List.length_map]; omega))) ?_)))
     refine aD.c3 rfl (aV (aF rfl) bc rfl rfl rfl (by first | rfl | exact oF _ _ _ | exact cZ .i64 id _) rfl (by simp only [List.length_append, List.length_map, List.length_take, List.length_drop, List.length_cons, List.length_nil]; omega) (by simp only [List.length_append, List.length_map, List.length_take, List.length_drop, List.length_cons, List.length_nil]; omega)) ?_
     refine aD.run II 2 rfl (aD.c3 rfl (aV (aF rfl) bc rfl rfl rfl (by first | rfl | exact oF _ _ _ | exact cZ .i64 id _) rfl (by simp only [List.length_append, List.length_map, List.length_take, List.length_drop, List.length_cons, List.length_nil]; omega) (by simp only [List.length_append, List.length_map, List.length_take, List.length_drop, List.length_cons, List.length_nil]; omega)) ?_)
     refine aD.run II 2 rfl (aD.c1 rfl (bH (aF rfl) cm rfl (fun e he => by obtain ⟨f, _, rfl⟩ := List.mem_map.1 he; rfl) rfl rfl (by omega) (by first | omega | (rw [List.length_map]; omega)) (by first | omega | (rw [List.length_map]; omega))) ?_)
     refine aD.c3 rfl (aV (aF rfl) bc rfl rfl rfl (by first | rfl | exact oF _ _ _ | exact cZ .i64 id _) rfl (by simp only [List.length_append, List.length_map, List.length_take, List.length_drop, List.length_cons, List.length_nil]; omega) (by simp only [List.length_append, List.length_map, List.length_take, List.length_drop, List.length_cons, List.length_nil]; omega)) ?_
     exact aD.run II 1 rfl (aD.nil (by kernel_rfl) (Kept.now (aC.region (aB.run II 3 rfl (aB.kept (Kept.aY 4 rfl (inc (by omega)) (Kept.aJ [.s 4, .s 3, .t 63, .h, .s 1, .b 1, .s 2, .b 2] rfl (by decide) (Kept.gG 63 10 (by decide) rfl (Kept.now ⟨i + 1, by omega, trivial, JU (by rw [jS hi]; exact ic (hJ.low (of_decide_eq_false hg2)) (by rw [rf hnn.1 hnn.2 hg6]; intro e; have := Option.some.inj e; simp_all))⟩)))))))))
    ·exact aC.skip (aC.region (aB.run II 3 rfl (aB.kept (Kept.aY 4 rfl (inc (by omega)) (Kept.aJ [.s 4, .s 3, .t 10, .h, .s 1, .b 1, .s 2, .b 2] rfl (by decide) (Kept.now ⟨i + 1, by omega, trivial, JU (by rw [jS hi, qH (hJ.low (of_decide_eq_false hg2)) (by rw [rf hnn.1 hnn.2 hg6]; simp_all)])⟩))))))
 ·have hi := dE hc1
  exact aC.exit (aC.seq (aC.region (aB.run II 3 rfl (aB.nil (aC.seq (aC.region (aB.run II 2 rfl (aB.nil (aC.ret ⟨.inr rfl, (aE.r1 rfl (.cell fJ rfl rfl rfl rfl .nil)).cast (by have e : uj p i = (cR p).ever := (by unfold uj; rw [List.take_of_length_le hi]; rfl); rw [e]; rfl), rfl⟩)))))))))
/- the document: the parts of a schema -/
theorem wh : aa Tryz.prog 41 = true := by kernel_rfl
theorem pB : se Tryz.prog 35 = some (48, 7, 128) := by kernel_rfl
theorem xZ : A3 Tryz.prog 48 = some [(0, 1), (1, 1), (2, 1), (3, 1), (4, 1), (5, 1), (6, 1)] := by kernel_rfl
theorem ly : bf Tryz.prog 48 = some [AV.str [], AV.sl [], AV.sl [], AV.sl [], AV.int IntKind.i64 (0), AV.sl [], AV.bool false] := by kernel_rfl
theorem JY : lx Tryz.prog 48 = some [.str [], .nsl, .nsl, .nsl, .int .i64 0, .nsl, .bool false] := by kernel_rfl
def jr (p : ak) : AV := dx p .nsl
theorem xg (l : List ak) : ∀ e ∈ l.map jr, e.cells.length = 7 := fun e he => by
 obtain ⟨p, _, rfl⟩ := List.mem_map.1 he; rfl
def dP (s : aN) (m : aT) (k : Nat) : List Port := (m.fields.zipIdx.take k).map fun (f, k) => j8 s f k
theorem uI {s : aN} {m : aT} {k : Nat} : (dP s m k).length ≤ m.fields.length := by unfold dP; simp; omega
theorem sT {s : aN} {m : aT} {k : Nat} (hk : k < m.fields.length) : dP s m (k + 1) = dP s m k ++ [j8 s m.fields[k] k] := by
 unfold dP
 have : m.fields.zipIdx[k]? = some (m.fields[k], k) := by simp [List.getElem?_zipIdx, hk]
 rw [List.take_add_one, this, List.map_append]; rfl
theorem uJ {s : aN} {m : aT} {k : Nat} (hk : m.fields.length ≤ k) : dP s m k = bU s m := by
 unfold dP bU; rw [List.take_of_length_le (by simpa using hk)]
def kJ (s : aN) (m : aT) : ak := { cr with name := m.name, ins := bU s m, outs := bU s m, aI := m.fields.length }
def D5 (s : aN) (i : Nat) : List ak := (s.msgs.take i).map fun m => cR (kJ s m)
theorem DF {s : aN} {i : Nat} (hi : i < s.msgs.length) : D5 s (i + 1) = D5 s i ++ [cR (kJ s s.msgs[i])] := by
 unfold D5; rw [List.take_add_one, List.getElem?_eq_getElem hi, List.map_append]; rfl
theorem GC {s : aN} {i : Nat} (hi : s.msgs.length ≤ i) : D5 s i = bm s := by
 unfold D5; rw [List.take_of_length_le hi]; rfl
theorem GB {s : aN} {i : Nat} (hi : i ≤ s.msgs.length) : (D5 s i).length = i := by unfold D5; simp; omega
theorem Lp {s : aN} {i n : Nat} {v : CV} {rest : List (aM × CV)} {H : Hp} (hi : i < s.msgs.length) {a : AV} (ha : a = jr (cR (kJ s s.msgs[i]))) : ((aM.s 4, v) :: (aM.s 3, CV.sv (.v (.os n (i + 1) 7))) :: (aM.h, CV.hp (H.bump (i + 1) (bC ((D5 s i).map jr ++ [a])))) :: rest) = [(aM.s 4, v), (aM.s 3, CV.sv (.v (.os n (i + 1) 7))), (aM.h, CV.hp (H.bump (i + 1) (bC ((D5 s (i + 1)).map jr))))] ++ rest := by rw [DF hi, ha, List.map_append]; rfl
theorem Ln {v : CV} {a b c d e f : Sv} {rest : List (aM × CV)} {el esz t : Nat} {s : aN} {m : aT} {k : Nat} (hk : k < m.fields.length) {x : AV} (hx : x = (j8 s m.fields[k] k).av) : ((aM.s 7, v) :: (aM.b 6, CV.bx [a, .ow t ((dP s m k).map Port.av ++ [x]), b, c, d, e, f]) :: (aM.t t, CV.tk false el esz ((dP s m k).map Port.av ++ [x])) :: rest) = [(aM.s 7, v), (aM.b 6, CV.bx [a, .ow t ((dP s m (k + 1)).map Port.av), b, c, d, e, f]), (aM.t t, CV.tk false el esz ((dP s m (k + 1)).map Port.av))] ++ rest := by
 rw [sT hk, hx, List.map_append]; rfl
theorem E0 (s : aN) (hs : s.sm) (H : Hp) : cc Tryz.prog 38 [s.av] H (.os (H.next + s.msgs.length) s.msgs.length 7) (H.bump s.msgs.length (bC ((bm s).map jr))) := by
 have hsm := hs.m
 refine cc.fin fun hfin => (cc.aL Tryz.func38 rfl rfl (aF rfl) (aC.seq (aC.region (aB.run II 2 rfl (aB.nil (aC.seq (aC.region (aB.c3 rfl (mV («as» := []) (aF rfl) pB ly rfl rfl rfl (gI rfl) rfl rfl) (aB.run II 1 rfl (aB.nil (aC.seq (aC.seq (aC.aK (Kept.oD rfl (Hp.m4 hfin) (Kept.now (aC.region (aB.run II 1 rfl (aB.nil (aC.blk ?_)))))))))))))))))))
 refine aC.aK (Kept.aJ [.s 4, .s 3, .h, .s 1, .b 1] rfl (by decide) (Kept.now (aC.aX (fun (i : Nat) => [(.s 4, .sv (.v (.int .i64 (i : Int)))), (.s 3, .sv (.v (.os (H.next + i) i 7))), (.h, .hp (H.bump i (bC ((D5 s i).map jr))))]) _ (fun (i : Nat) => i ≤ s.msgs.length) (fun (i : Nat) => s.msgs.length - i) 0 rfl (Nat.zero_le _) ?_)))
 rintro i hI
 refine aC.seq (aC.seq (aC.region (aB.run II 5 rfl (aB.nil (aC.cond rfl (fun hc1 => ?_) (fun hc1 => ?_))))))
 ·have hi := dD hc1
  refine aC.skip (aC.seq (aC.blk (aC.seq (aC.region (aB.run II 3 rfl (aB.c1 rfl (aH (aF rfl) bM rfl rfl (Int.natCast_nonneg _) (cF hi) rfl) (aB.run II 3 rfl (aB.nil (aC.seq (aC.region (aB.run II 5 rfl (aB.c1 rfl (fm (aF rfl) xZ JY rfl rfl) (aB.run II 2 rfl (aB.kept (Kept.ph 6 1 160 96 9 rfl rfl rfl rfl (by decide) (Kept.Bq 6 3 rfl rfl (Kept.Bq 6 5 rfl rfl (Kept.now (aC.seq (aC.seq (aC.region (aB.run II 1 rfl (aB.nil (aC.blk ?_))))))))))))))))))))))))
  refine aC.aK (Kept.aJ [.s 7, .b 6, .t 160, .h, .s 1, .b 1, .s 3, .s 4, .s 5, .b 5, .s 6] rfl (by decide) (Kept.now (aC.aX (fun (k : Nat) => [(.s 7, .sv (.v (.int .i64 (k : Int)))), (.b 6, .bx [.v (.str (s.msgs[i]'hi).name), .ow 160 ((dP s (s.msgs[i]'hi) k).map Port.av), .v .nsl, .v (.sl []), .v (.int .i64 (((s.msgs[i]'hi).fields.map ag.av).length : Int)), .v (.sl []), .v (.bool false)]), (.t 160, .tk false 96 9 ((dP s (s.msgs[i]'hi) k).map Port.av))]) _ (fun (k : Nat) => True) (fun (k : Nat) => (s.msgs[i]'hi).fields.length - k) 0 rfl trivial ?_)))
  rintro k hK
  have hpl := @uI s (s.msgs[i]'hi) k
  have hfi := hs.f _ (List.getElem_mem hi)
  refine aC.seq (aC.seq (aC.region (aB.run II 5 rfl (aB.nil (aC.cond rfl (fun hc2 => ?_) (fun hc2 => ?_))))))
  ·have hk := dD hc2
   refine aC.skip (aC.seq (aC.blk (aC.seq (aC.region (aB.run II 3 rfl (aB.c1 rfl (aH (aF rfl) bT rfl rfl (Int.natCast_nonneg _) (cF hk) rfl) (aB.run II 5 rfl (aB.nil (aC.cI [.h, .s 1, .b 1, .s 3, .s 4, .s 5, .b 5, .s 6, .b 6, .t 160, .s 7] (fun (_ : Unit) => [(.s 8, .sv (.lp 8 0)), (.b 8, .bx [.v (.str ((s.msgs[i]'hi).fields[k]'hk).name), .v (.int .i64 ((s.msgs[i]'hi).fields[k]'hk).num), .v (.int .i64 ((s.msgs[i]'hi).fields[k]'hk).ty), .v (.str ((s.msgs[i]'hi).fields[k]'hk).ref), .v (.bool ((s.msgs[i]'hi).fields[k]'hk).rep), .v (.bool ((s.msgs[i]'hi).fields[k]'hk).loose), .v (.str ((s.msgs[i]'hi).fields[k]'hk).one), .v (.int .i64 (k : Int)), .v (.int .i64 (j8 s ((s.msgs[i]'hi).fields[k]'hk) k).part)])]) (fun (_ : Unit) => True) rfl ?_ ?_)))))))))
   ·refine aC.seq (aC.region (aB.run II 4 rfl (aB.nil (aC.cond rfl (fun hc3 => ?_) (fun hc3 => ?_)))))
    ·exact aC.region (aB.run II 4 rfl (aB.c1 rfl (aG (aF rfl) kY rfl (iY s _ (by omega))) (aB.run II 2 rfl (aB.kept (Kept.aJ [.s 8, .b 8, .h, .s 1, .b 1, .s 3, .s 4, .s 5, .b 5, .s 6, .b 6, .t 160, .s 7] rfl (by decide) (Kept.now ⟨(), trivial, by unfold j8; rw [if_pos (by simpa using hc3)]; rfl⟩))))))
    ·exact aC.aK (Kept.aJ [.s 8, .b 8, .h, .s 1, .b 1, .s 3, .s 4, .s 5, .b 5, .s 6, .b 6, .t 160, .s 7] rfl (by decide) (Kept.now (aC.skip ⟨(), trivial, by unfold j8; rw [if_neg (by simpa using hc3)]; rfl⟩)))
   ·rintro _ hF13
    refine aC.region (aB.run II 4 rfl (aB.c3 rfl (aV (aF rfl) dZ rfl rfl rfl rfl rfl (by rw [List.length_map]; simp only [List.length_cons, List.length_nil]; omega) (by rw [List.length_map]; simp only [List.length_cons, List.length_nil]; omega)) ?_))
    exact aB.run II 2 rfl (aB.nil (aC.region (aB.run II 3 rfl (aB.kept (Kept.aY 7 rfl (inc (by omega)) (Kept.aJ [.s 7, .b 6, .t 56, .h, .s 1, .b 1, .s 3, .s 4, .s 5, .b 5, .s 6] rfl (by decide) (Kept.gG 56 160 (by decide) rfl (Kept.now ⟨k + 1, by omega, trivial, Ln hk rfl⟩))))))))
  ·have hk := dE hc2
   refine aC.exit (aC.seq (aC.region (aB.c2 rfl (bF («as» := []) (aF rfl) dZ gS rfl rfl rfl (gI rfl) rfl) (aB.run II 2 rfl (aB.c3 rfl (aV (aF rfl) dZ rfl rfl rfl (bn Port.cells (fun _ => rfl) _) rfl (by rw [List.length_map]; simp only [List.length_nil]; omega) (by rw [List.length_map]; simp only [List.length_nil]; omega)) ?_)))))
   refine aB.run II 2 rfl (aB.nil (aC.region (aB.run II 2 rfl (aB.c1 rfl (aG (aF rfl) wh rfl (wA ({ cr with name := (s.msgs[i]'hi).name, ins := (dP s (s.msgs[i]'hi) k), outs := (dP s (s.msgs[i]'hi) k), aI := (((s.msgs[i]'hi).fields.map ag.av).length : Int) } : ak) .nsl (by show (dP s (s.msgs[i]'hi) k).length ≤ 1000; omega) (by show ([] : List Int).length ≤ 100000; decide))) ?_))))
   refine aB.run II 1 rfl (aB.c3 rfl (lZ (aF rfl) pB ly rfl rfl Hp.dL (xg _) (by rw [List.length_map, GB hI]) rfl rfl rfl (by simp only [List.length_cons, List.length_nil]; omega) (by simp only [List.length_cons, List.length_nil]; omega)) ?_)
   exact aB.run II 1 rfl (aB.nil (aC.region (aB.run II 3 rfl (aB.kept (Kept.oD rfl Hp.jT (Kept.aY 4 rfl (inc (by omega)) (Kept.aJ [.s 4, .s 3, .h, .s 1, .b 1] rfl (by decide) (Kept.now ⟨i + 1, by omega, by omega, Lp hi (by rw [uJ hk, List.length_map]; rfl)⟩))))))))
 ·have hi := dE hc1
  refine aC.exit (aC.seq (aC.region (aB.run II 2 rfl (aB.nil (aC.ret ?_)))))
  have hil : i = s.msgs.length := (by omega)
  subst hil
  rw [GC (Nat.le_refl _)]
  exact ⟨.inr rfl, (aE.r1 rfl (.tmp rfl .nil)).cast rfl, rfl⟩
end Go.Proofs.YtlijgcifhhcfaaaGreatDoor.X
