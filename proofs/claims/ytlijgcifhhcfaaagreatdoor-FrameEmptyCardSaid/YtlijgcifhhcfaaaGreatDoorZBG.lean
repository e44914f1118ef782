/- the document: a schema, sorted. -/
import Derived.Test.YtlijgcifhhcfaaaGreatDoorZBF
import Derived.Test.YtlijgcifhhcfaaaGreatDoorZBE
set_option linter.unusedVariables false
set_option linter.unusedSimpArgs false
set_option linter.unusedSectionVars false
set_option maxRecDepth 100000
namespace Go.Proofs.YtlijgcifhhcfaaaGreatDoor.X
open Go Go.RowKit Go.Proofs
theorem xH : ab Tryz.prog 126 = true := by kernel_rfl
theorem E1 : ab Tryz.prog 127 = true := by kernel_rfl
theorem fE : lk Tryz.prog 25 = some (true, 2) := by kernel_rfl
theorem gu : se Tryz.prog 113 = some (117, 2, 24) := by kernel_rfl
theorem rI : se Tryz.prog 22 = some (115, 2, 40) := by kernel_rfl
theorem fa : se Tryz.prog 23 = some (75, 3, 64) := by kernel_rfl
theorem sP : bf Tryz.prog 117 = some [AV.str [], AV.int IntKind.i64 (0)] := by kernel_rfl
theorem C1 : bf Tryz.prog 115 = some [AV.str [], AV.sl []] := by kernel_rfl
theorem vu : bf Tryz.prog 75 = some [AV.str [], AV.sl [], AV.sl []] := by kernel_rfl
def iJ (s : aN) (i : Nat) : List dU := (s.enums.take i).foldl vS []
def eE (s : aN) (i : Nat) : List aT := (s.msgs.take i).foldl js []
structure aN.Aw (s : aN) : Prop where
 e : s.enums.length ≤ 100
 m : s.msgs.length ≤ 100
 v : ∀ x ∈ s.enums, x.values.length ≤ 100
 f : ∀ x ∈ s.msgs, x.fields.length ≤ 100
 b : ∀ x ∈ s.msgs, x.ai.length ≤ 100
theorem aN.Aw.vi {s : aN} (h : s.Aw) {i : Nat} (hi : i < s.enums.length) : s.enums[i].values.length ≤ 100 := h.v _ (List.getElem_mem hi)
theorem aN.Aw.fi {s : aN} (h : s.Aw) {i : Nat} (hi : i < s.msgs.length) : s.msgs[i].fields.length ≤ 100 := h.f _ (List.getElem_mem hi)
theorem aN.Aw.bi {s : aN} (h : s.Aw) {i : Nat} (hi : i < s.msgs.length) : s.msgs[i].ai.length ≤ 100 := h.b _ (List.getElem_mem hi)
theorem mg {α : Type} (l : List α) (k : Nat) (x : α) : (eH l k x).length = l.length + 1 := (ky l k x).length_eq
theorem mF {α β : Type} (f : List α → β → List α) (hf : ∀ acc x, (f acc x).length = acc.length + 1) : ∀ (l : List β) (acc : List α), (l.foldl f acc).length = acc.length + l.length
 | [], acc => rfl
 | b :: l, acc => by rw [List.foldl_cons, mF f hf l, hf, List.length_cons]; omega
theorem du (s : aN) (i : Nat) : (iJ s i).length ≤ s.enums.length := by
 unfold iJ
 rw [mF vS (fun acc x => mg _ _ _), List.length_take, List.length_nil]; omega
theorem aw (s : aN) (i : Nat) : (eE s i).length ≤ s.msgs.length := by
 unfold eE
 rw [mF js (fun acc x => mg _ _ _), List.length_take, List.length_nil]; omega
theorem Ds {s : aN} {i : Nat} (hi : i < s.msgs.length) : (eE s i).length = i := by
 unfold eE
 rw [mF js (fun acc x => mg _ _ _), List.length_take, List.length_nil]; omega
theorem tn {s : aN} {i : Nat} (hi : i < s.enums.length) : iJ s (i + 1) = eH (iJ s i) (dW ((iJ s i).map (·.name)) 0 s.enums[i].name) s.enums[i].sort := by
 have e : s.enums.take (i + 1) = s.enums.take i ++ [s.enums[i]] := by rw [List.take_add_one, List.getElem?_eq_getElem hi]; rfl
 unfold iJ
 rw [e, List.foldl_append]; rfl
theorem tT {s : aN} {i : Nat} (hi : i < s.msgs.length) : eE s (i + 1) = eH (eE s i) (if i = 0 then 0 else dW ((eE s i).map (·.name)) 1 s.msgs[i].name) s.msgs[i].sort := by
 have e : s.msgs.take (i + 1) = s.msgs.take i ++ [s.msgs[i]] := by rw [List.take_add_one, List.getElem?_eq_getElem hi]; rfl
 have h : eE s (i + 1) = js (eE s i) s.msgs[i] := by unfold eE; rw [e, List.foldl_append]; rfl
 rw [h]
 unfold js
 rw [Ds hi]
theorem mf {α β : Type} (g : α → β) (l : List α) (k : Nat) (x : α) : (eH l k x).map g = eH (l.map g) k (g x) := by
 unfold eH
 rw [List.map_append, List.map_cons, List.map_take, List.map_drop]
theorem nf {α : Type} (f : α → AV) (l : List α) (k : Nat) (x : α) : ([] ++ (((l.map f).drop (0 : Int).toNat).take ((k : Int).toNat - (0 : Int).toNat))) ++ [f x] ++ (((l.map f).drop (k : Int).toNat).take (((l.map f).length : Int).toNat - (k : Int).toNat)) = (eH l k x).map f := by
 rw [(kS _).1, (kS _).2, mf]
 unfold eH
 rw [List.nil_append, List.append_assoc, Int.toNat_natCast]; rfl
theorem ak (l : List au) (f : Nat) (s : au) : dW l f s ≤ l.length := by
 unfold dW
 split <;> omega
theorem fD (l : List au) (a b : Nat) : cQ 1 (((l.map AV.str).drop a).take b) = true := by
 rw [← List.map_drop, ← List.map_take]; exact qf id _
theorem okV (l : List iu) (a b : Nat) : cQ 2 (((l.map iu.av).drop a).take b) = true := by
 rw [← List.map_drop, ← List.map_take]; exact bw iu.cells (fun _ => rfl) _
theorem nb (l : List dU) (a b : Nat) : cQ 2 (((l.map dU.av).drop a).take b) = true := by
 rw [← List.map_drop, ← List.map_take]; exact bw dU.cells (fun _ => rfl) _
theorem na (l : List aT) (a b : Nat) : cQ 3 (((l.map aT.av).drop a).take b) = true := by
 rw [← List.map_drop, ← List.map_take]; exact bw aT.cells (fun _ => rfl) _
theorem Bn {s : aN} {i : Nat} (hi : i < s.enums.length) {k : Nat} (hk : k = dW ((iJ s i).map (·.name)) 0 s.enums[i].name) : ([] ++ (((((iJ s i).map (·.name)).map AV.str).drop (0 : Int).toNat).take ((k : Int).toNat - (0 : Int).toNat))) ++ [AV.str s.enums[i].name] ++ ((((iJ s i).map (·.name)).map AV.str).drop (k : Int).toNat).take (((((iJ s i).map (·.name)).map AV.str).length : Int).toNat - (k : Int).toNat) = ((iJ s (i + 1)).map (·.name)).map AV.str := by
 rw [tn hi, mf, hk]; exact nf AV.str _ _ _
theorem Hu {s : aN} {i : Nat} (hi : i < s.enums.length) {q : Nat} (hq : s.enums[i].values.length ≤ q) {k : Nat} (hk : k = dW ((iJ s i).map (·.name)) 0 s.enums[i].name) : ([] ++ ((((iJ s i).map dU.av).drop (0 : Int).toNat).take ((k : Int).toNat - (0 : Int).toNat))) ++ [AV.agg [.str s.enums[i].name, .sl ((bI (fun y x : iu => decide (y.num > x.num)) (s.enums[i].values.take q)).map iu.av)]] ++ (((iJ s i).map dU.av).drop (k : Int).toNat).take ((((iJ s i).map dU.av).length : Int).toNat - (k : Int).toNat) = (iJ s (i + 1)).map dU.av := by
 rw [List.take_of_length_le hq, tn hi, hk]; exact nf dU.av _ _ s.enums[i].sort
theorem KM {v : CV} {el esz : Nat} {t : Sv} {rest : List (aM × CV)} {a b c d : List AV} (h1 : a = b) (h2 : c = d) : ((aM.s 5, v) :: (aM.s 4, CV.sv (.ow 15 a)) :: (aM.t 15, CV.tk false el esz a) :: (aM.b 3, CV.bx [.v (.sl c), t]) :: rest) = [(aM.s 5, v), (aM.s 4, CV.sv (.ow 15 b)), (aM.t 15, CV.tk false el esz b), (aM.b 3, CV.bx [.v (.sl d), t])] ++ rest := by rw [h1, h2]; rfl
theorem tS {s : aN} {i : Nat} (hi : i < s.msgs.length) {k : Nat} (hk : k = if i = 0 then 0 else dW ((eE s i).map (·.name)) 1 s.msgs[i].name) : ([] ++ (((((eE s i).map (·.name)).map AV.str).drop (0 : Int).toNat).take ((k : Int).toNat - (0 : Int).toNat))) ++ [AV.str s.msgs[i].name] ++ ((((eE s i).map (·.name)).map AV.str).drop (k : Int).toNat).take (((((eE s i).map (·.name)).map AV.str).length : Int).toNat - (k : Int).toNat) = ((eE s (i + 1)).map (·.name)).map AV.str := by
 rw [tT hi, mf, ← hk]; exact nf AV.str _ _ _
theorem As {s : aN} {i : Nat} (hi : i < s.msgs.length) {k : Nat} (hk : k = if i = 0 then 0 else dW ((eE s i).map (·.name)) 1 s.msgs[i].name) : ([] ++ ((((eE s i).map aT.av).drop (0 : Int).toNat).take ((k : Int).toNat - (0 : Int).toNat))) ++ [s.msgs[i].sort.av] ++ (((eE s i).map aT.av).drop (k : Int).toNat).take ((((eE s i).map aT.av).length : Int).toNat - (k : Int).toNat) = (eE s (i + 1)).map aT.av := by
 rw [tT hi, ← hk]; exact nf aT.av _ _ s.msgs[i].sort
theorem KE {v : CV} {el esz : Nat} {t : Sv} {rest : List (aM × CV)} {a b c d : List AV} (h1 : a = b) (h2 : c = d) : ((aM.s 11, v) :: (aM.s 4, CV.sv (.ow 116 a)) :: (aM.t 116, CV.tk false el esz a) :: (aM.b 3, CV.bx [t, .v (.sl c)]) :: rest) = [(aM.s 11, v), (aM.s 4, CV.sv (.ow 116 b)), (aM.t 116, CV.tk false el esz b), (aM.b 3, CV.bx [t, .v (.sl d)])] ++ rest := by rw [h1, h2]; rfl
theorem KD {v : CV} {n : Sv} {rest : List (aM × CV)} {a b : List AV} (h : a = b) : ((aM.s 7, v) :: (aM.b 6, CV.bx [n, .v (.sl a)]) :: rest) = [(aM.s 7, v), (aM.b 6, CV.bx [n, .v (.sl b)])] ++ rest := by rw [h]; rfl
theorem JX {p : iu → Bool} {l : List iu} {j : Int} (hl : l.length ≤ 1000000) (h : nQ p l j) (hf : 0 < j) : (l.map iu.av)[(IntKind.i64.wrap (j - 1)).toNat]? = some (.agg (ID default l j).cells) := by
 have hn := h.nn
 rw [eF (by omega) (by omega), List.getElem?_map, kW default h hf]; rfl
theorem sf (s : aN) (hs : s.Aw) : Pure Tryz.prog 85 [s.av] s.sorted.av := by
 have hsm := hs.m
 have hse := hs.e
 refine Pure.aL Tryz.func85 rfl rfl (aF rfl) fun H => (aC.seq (aC.region (aB.run II 2 rfl (aB.nil (aC.seq (aC.region (aB.run II 3 rfl (aB.nil (aC.seq (aC.region (aB.c2 rfl (bD («as» := []) (aF rfl) bM cz rfl rfl rfl (fh rfl) rfl) (aB.run II 1 rfl (aB.nil (aC.seq (aC.seq (aC.region (aB.run II 1 rfl (aB.nil (aC.blk (aC.aK (Kept.aI [.s 5, .s 4, .t 15, .b 3, .h, .s 1, .b 1, .s 2, .b 2, .s 3] rfl (by decide) (Kept.now ?_))))))))))))))))))))))
 refine aC.aX (fun (i : Nat) => [(.s 5, .sv (.v (.int .i64 (i : Int)))), (.s 4, .sv (.ow 15 (((iJ s i).map (·.name)).map AV.str))), (.t 15, .tk false 9 1 (((iJ s i).map (·.name)).map AV.str)), (.b 3, .bx [.v (.sl ((iJ s i).map dU.av)), .v (.sl (([] : List aT).map aT.av))])]) _ (fun (i : Nat) => True) (fun (i : Nat) => s.enums.length - i) 0 rfl trivial ?_
 rintro i hI
 refine aC.seq (aC.seq (aC.region (aB.run II 5 rfl (aB.nil (aC.cond rfl (fun hc1 => ?_) (fun hc1 => ?_))))))
 ·have hi := ch hc1
  refine aC.skip (aC.seq (aC.blk (aC.seq (aC.region (aB.run II 3 rfl (aB.c1 rfl (aH (aF rfl) cp rfl rfl (Int.natCast_nonneg _) (bz hi) rfl) (aB.run II 5 rfl (aB.nil (aC.seq (aC.seq (aC.region (aB.run II 1 rfl (aB.nil (aC.blk (aC.aK (Kept.aI [.s 7, .b 6, .h, .s 1, .b 1, .s 2, .b 2, .s 3, .b 3, .s 4, .t 15, .s 5, .s 6] rfl (by decide) (Kept.now (aC.aX (fun (k : Nat) => [(.s 7, .sv (.v (.int .i64 (k : Int)))), (.b 6, .bx [.v (.str (s.enums[i]'hi).name), .v (.sl ((bI (fun y x : iu => decide (y.num > x.num)) ((s.enums[i]'hi).values.take k)).map iu.av))])]) _ (fun (k : Nat) => True) (fun (k : Nat) => (s.enums[i]'hi).values.length - k) 0 rfl trivial ?_))))))))))))))))))
  rintro k hK
  have hvi := hs.vi hi
  refine aC.seq (aC.seq (aC.region (aB.run II 4 rfl (aB.c1 rfl (aH (aF rfl) cp rfl rfl (Int.natCast_nonneg _) (bz hi) rfl) (aB.run II 4 rfl (aB.nil (aC.cond rfl (fun hc2 => ?_) (fun hc2 => ?_))))))))
  ·have hk := ch hc2
   refine aC.skip (aC.seq (aC.blk (aC.seq (aC.region (aB.run II 3 rfl (aB.c1 rfl (aH (aF rfl) cp rfl rfl (Int.natCast_nonneg _) (bz hi) rfl) (aB.run II 3 rfl (aB.c1 rfl (aH (aF rfl) fO rfl rfl (Int.natCast_nonneg _) (bz hk) rfl) (aB.run II 3 rfl (aB.nil (aC.seq (aC.region (aB.run II 4 rfl (aB.nil (aC.seq (aC.blk (aC.aK (Kept.aI [.s 9, .h, .s 1, .b 1, .s 2, .b 2, .s 3, .b 3, .s 4, .t 15, .s 5, .s 6, .b 6, .s 7, .s 8, .b 8] rfl (by decide) (Kept.now (aC.aX (fun (j : Int) => [(.s 9, .sv (.v (.int .i64 j)))]) _ (fun (j : Int) => nQ (fun y : iu => decide (y.num > ((s.enums[i]'hi).values[k]'hk).num)) (bI (fun y x : iu => decide (y.num > x.num)) ((s.enums[i]'hi).values.take k)) j) (fun (j : Int) => j.toNat) (((bI (fun y x : iu => decide (y.num > x.num)) ((s.enums[i]'hi).values.take k)).map iu.av).length : Int) rfl (by rw [List.length_map]; exact nQ.start) ?_))))))))))))))))))))
   rintro j hJ
   have hnn := hJ.nn
   have hle := @u5 _ (fun y x : iu => decide (y.num > x.num)) (s.enums[i]'hi).values k (by have := hs.vi hi; omega)
   refine aC.seq (aC.seq (aC.drawn mixed rfl (aD.run II 3 rfl (aD.tell (d := 55) rfl (fun hg3 => ?_) (fun hg3 => ?_)))))
   ·refine aD.run II 4 rfl (aD.g1 rfl (aF rfl) rfl rfl (aH (aF rfl) fO rfl rfl (by have := of_decide_eq_true hg3; rw [eF (by omega) (by omega)]; omega) (JX (by omega) hJ (of_decide_eq_true hg3)) rfl) ?_)
    refine aD.run II 6 rfl (aD.nil (by kernel_rfl) (Kept.now (aC.cond rfl (fun hc4 => ?_) (fun hc4 => ?_))))
    ·exact aC.skip (aC.blk (aC.region (aB.run II 3 rfl (aB.kept (Kept.aI [.s 9, .h, .s 1, .b 1, .s 2, .b 2, .s 3, .b 3, .s 4, .t 15, .s 5, .s 6, .b 6, .s 7, .s 8, .b 8] rfl (by decide) (Kept.now ⟨_, by show (IntKind.i64.wrap (j - 1)).toNat < j.toNat; have := of_decide_eq_true hg3; rw [eF (by omega) (by omega)]; omega, by rw [eF (by have := of_decide_eq_true hg3; omega) (by omega)]; exact hJ.step (of_decide_eq_true hg3) (kW default hJ (of_decide_eq_true hg3)) hc4, rfl⟩))))))
    ·refine aC.exit (aC.drawn mixed rfl (aD.c2 rfl (bD («as» := []) (aF rfl) gu sP rfl rfl rfl (fh rfl) rfl) (aD.run II 3 rfl (aD.c1 rfl (bE (aF rfl) fO rfl (fun e he => by obtain ⟨f, _, rfl⟩ := List.mem_map.1 he; rfl) rfl rfl (by omega) (by first | omega | (rw [List.length_map]; omega)) (by first | omega | (rw [List.length_map]; omega))) ?_))))
     refine aD.c3 rfl (aW (aF rfl) gu rfl rfl rfl (by first | rfl | exact okV _ _ _ | exact fD _ _ _ | exact nb _ _ _ | exact na _ _ _) rfl (by simp only [List.length_append, List.length_map, List.length_take, List.length_drop, List.length_cons, List.length_nil]; omega) (by simp only [List.length_append, List.length_map, List.length_take, List.length_drop, List.length_cons, List.length_nil]; omega)) ?_
     refine aD.run II 2 rfl (aD.c3 rfl (aW (aF rfl) gu rfl rfl rfl (by first | rfl | exact okV _ _ _ | exact fD _ _ _ | exact nb _ _ _ | exact na _ _ _) rfl (by simp only [List.length_append, List.length_map, List.length_take, List.length_drop, List.length_cons, List.length_nil]; omega) (by simp only [List.length_append, List.length_map, List.length_take, List.length_drop, List.length_cons, List.length_nil]; omega)) ?_)
     refine aD.run II 3 rfl (aD.c1 rfl (bE (aF rfl) fO rfl (fun e he => by obtain ⟨f, _, rfl⟩ := List.mem_map.1 he; rfl) rfl rfl (by omega) (by first | omega | (rw [List.length_map]; omega)) (by first | omega | (rw [List.length_map]; omega))) ?_)
     refine aD.c3 rfl (aW (aF rfl) gu rfl rfl rfl (by first | rfl | exact okV _ _ _ | exact fD _ _ _ | exact nb _ _ _ | exact na _ _ _) rfl (by simp only [List.length_append, List.length_map, List.length_take, List.length_drop, List.length_cons, List.length_nil]; omega) (by simp only [List.length_append, List.length_map, List.length_take, List.length_drop, List.length_cons, List.length_nil]; omega)) ?_
     exact aD.run II 2 rfl (aD.nil (by kernel_rfl) (Kept.now (aC.region (aB.run II 3 rfl (aB.kept (Kept.aY 7 rfl (inc (by omega)) (Kept.forget 6 rfl (Kept.aI [.s 7, .b 6, .h, .s 1, .b 1, .s 2, .b 2, .s 3, .b 3, .s 4, .t 15, .s 5, .s 6] rfl (by decide) (Kept.now ⟨k + 1, by omega, trivial, KD (me iu.av hk (hJ.stop (of_decide_eq_true hg3) (kW default hJ (of_decide_eq_true hg3)) hc4))⟩)))))))))
   ·refine aD.run II 11 rfl (aD.nil (by kernel_rfl) (Kept.now (aC.aZ rfl rfl (aC.exit (aC.drawn mixed rfl (aD.c2 rfl (bD («as» := []) (aF rfl) gu sP rfl rfl rfl (fh rfl) rfl) (aD.run II 3 rfl (aD.c1 rfl (bE (aF rfl) fO rfl (fun e he => by obtain ⟨f, _, rfl⟩ := List.mem_map.1 he; rfl) rfl rfl (by omega) (by first | omega | (rw [List.length_map]; omega)) (by first | omega | (rw [List.length_map]; omega))) ?_))))))))
    refine aD.c3 rfl (aW (aF rfl) gu rfl rfl rfl (by first | rfl | exact okV _ _ _ | exact fD _ _ _ | exact nb _ _ _ | exact na _ _ _) rfl (by simp only [List.length_append, List.length_map, List.length_take, List.length_drop, List.length_cons, List.length_nil]; omega) (by simp only [List.length_append, List.length_map, List.length_take, List.length_drop, List.length_cons, List.length_nil]; omega)) ?_
    refine aD.run II 2 rfl (aD.c3 rfl (aW (aF rfl) gu rfl rfl rfl (by first | rfl | exact okV _ _ _ | exact fD _ _ _ | exact nb _ _ _ | exact na _ _ _) rfl (by simp only [List.length_append, List.length_map, List.length_take, List.length_drop, List.length_cons, List.length_nil]; omega) (by simp only [List.length_append, List.length_map, List.length_take, List.length_drop, List.length_cons, List.length_nil]; omega)) ?_)
    refine aD.run II 3 rfl (aD.c1 rfl (bE (aF rfl) fO rfl (fun e he => by obtain ⟨f, _, rfl⟩ := List.mem_map.1 he; rfl) rfl rfl (by omega) (by first | omega | (rw [List.length_map]; omega)) (by first | omega | (rw [List.length_map]; omega))) ?_)
    refine aD.c3 rfl (aW (aF rfl) gu rfl rfl rfl (by first | rfl | exact okV _ _ _ | exact fD _ _ _ | exact nb _ _ _ | exact na _ _ _) rfl (by simp only [List.length_append, List.length_map, List.length_take, List.length_drop, List.length_cons, List.length_nil]; omega) (by simp only [List.length_append, List.length_map, List.length_take, List.length_drop, List.length_cons, List.length_nil]; omega)) ?_
    exact aD.run II 2 rfl (aD.nil (by kernel_rfl) (Kept.now (aC.region (aB.run II 3 rfl (aB.kept (Kept.aY 7 rfl (inc (by omega)) (Kept.forget 6 rfl (Kept.aI [.s 7, .b 6, .h, .s 1, .b 1, .s 2, .b 2, .s 3, .b 3, .s 4, .t 15, .s 5, .s 6] rfl (by decide) (Kept.now ⟨k + 1, by omega, trivial, KD (me iu.av hk (hJ.low (of_decide_eq_false hg3)))⟩)))))))))
  ·have hk := cj hc2
   refine aC.exit (aC.seq (aC.region (aB.run II 3 rfl (aB.c1 rfl (aG (aF rfl) xH rfl (wP ((iJ s i).map (·.name)) 0 _ (by have := du s i; rw [List.length_map]; omega))) ?_))))
   refine aB.run II 1 rfl (aB.nil (aC.seq (aC.drawn mixed rfl (aD.c2 rfl (bD («as» := []) (aF rfl) bM cz rfl rfl rfl (fh rfl) rfl) (aD.run II 2 rfl (aD.c1 rfl (bE (aF rfl) cC rfl (fun e he => by obtain ⟨f, _, rfl⟩ := List.mem_map.1 he; rfl) rfl rfl (by omega) (by first | omega | (have := ak ((iJ s i).map (·.name)) 0 (s.enums[i]'hi).name; simp only [List.length_map] at *; omega)) (by first | omega | (have := ak ((iJ s i).map (·.name)) 0 (s.enums[i]'hi).name; simp only [List.length_map] at *; omega))) ?_))))))
   refine aD.c3 rfl (aW (aF rfl) bM rfl rfl rfl (by first | rfl | exact okV _ _ _ | exact fD _ _ _ | exact nb _ _ _ | exact na _ _ _) rfl (by have := du s i; have := ak ((iJ s i).map (·.name)) 0 (s.enums[i]'hi).name; simp only [List.length_append, List.length_map, List.length_take, List.length_drop, List.length_cons, List.length_nil] at *; omega) (by have := du s i; have := ak ((iJ s i).map (·.name)) 0 (s.enums[i]'hi).name; simp only [List.length_append, List.length_map, List.length_take, List.length_drop, List.length_cons, List.length_nil] at *; omega)) ?_
   refine aD.run II 3 rfl (aD.c3 rfl (aW (aF rfl) bM rfl rfl rfl (by first | rfl | exact okV _ _ _ | exact fD _ _ _ | exact nb _ _ _ | exact na _ _ _) rfl (by have := du s i; have := ak ((iJ s i).map (·.name)) 0 (s.enums[i]'hi).name; simp only [List.length_append, List.length_map, List.length_take, List.length_drop, List.length_cons, List.length_nil] at *; omega) (by have := du s i; have := ak ((iJ s i).map (·.name)) 0 (s.enums[i]'hi).name; simp only [List.length_append, List.length_map, List.length_take, List.length_drop, List.length_cons, List.length_nil] at *; omega)) ?_)
   refine aD.run II 2 rfl (aD.c1 rfl (bE (aF rfl) cC rfl (fun e he => by obtain ⟨f, _, rfl⟩ := List.mem_map.1 he; rfl) rfl rfl (by omega) (by first | omega | (have := ak ((iJ s i).map (·.name)) 0 (s.enums[i]'hi).name; simp only [List.length_map] at *; omega)) (by first | omega | (have := ak ((iJ s i).map (·.name)) 0 (s.enums[i]'hi).name; simp only [List.length_map] at *; omega))) ?_)
   refine aD.c3 rfl (aW (aF rfl) bM rfl rfl rfl (by first | rfl | exact okV _ _ _ | exact fD _ _ _ | exact nb _ _ _ | exact na _ _ _) rfl (by have := du s i; have := ak ((iJ s i).map (·.name)) 0 (s.enums[i]'hi).name; simp only [List.length_append, List.length_map, List.length_take, List.length_drop, List.length_cons, List.length_nil] at *; omega) (by have := du s i; have := ak ((iJ s i).map (·.name)) 0 (s.enums[i]'hi).name; simp only [List.length_append, List.length_map, List.length_take, List.length_drop, List.length_cons, List.length_nil] at *; omega)) ?_
   refine aD.run II 1 rfl (aD.nil (by kernel_rfl) (Kept.now (aC.drawn mixed rfl (aD.c2 rfl (bD («as» := []) (aF rfl) rI C1 rfl rfl rfl (fh rfl) rfl) (aD.run II 3 rfl (aD.c1 rfl (bE (aF rfl) cp rfl (fun e he => by obtain ⟨f, _, rfl⟩ := List.mem_map.1 he; rfl) rfl rfl (by omega) (by first | omega | (have := ak ((iJ s i).map (·.name)) 0 (s.enums[i]'hi).name; simp only [List.length_map] at *; omega)) (by first | omega | (have := ak ((iJ s i).map (·.name)) 0 (s.enums[i]'hi).name; simp only [List.length_map] at *; omega))) ?_))))))
   refine aD.c3 rfl (aW (aF rfl) rI rfl rfl rfl (by first | rfl | exact okV _ _ _ | exact fD _ _ _ | exact nb _ _ _ | exact na _ _ _) rfl (by have := du s i; have := ak ((iJ s i).map (·.name)) 0 (s.enums[i]'hi).name; simp only [List.length_append, List.length_map, List.length_take, List.length_drop, List.length_cons, List.length_nil] at *; omega) (by have := du s i; have := ak ((iJ s i).map (·.name)) 0 (s.enums[i]'hi).name; simp only [List.length_append, List.length_map, List.length_take, List.length_drop, List.length_cons, List.length_nil] at *; omega)) ?_
   refine aD.run II 2 rfl (aD.c3 rfl (aW (aF rfl) rI rfl rfl rfl (by first | rfl | exact okV _ _ _ | exact fD _ _ _ | exact nb _ _ _ | exact na _ _ _) rfl (by have := du s i; have := ak ((iJ s i).map (·.name)) 0 (s.enums[i]'hi).name; simp only [List.length_append, List.length_map, List.length_take, List.length_drop, List.length_cons, List.length_nil] at *; omega) (by have := du s i; have := ak ((iJ s i).map (·.name)) 0 (s.enums[i]'hi).name; simp only [List.length_append, List.length_map, List.length_take, List.length_drop, List.length_cons, List.length_nil] at *; omega)) ?_)
   refine aD.run II 3 rfl (aD.c1 rfl (bE (aF rfl) cp rfl (fun e he => by obtain ⟨f, _, rfl⟩ := List.mem_map.1 he; rfl) rfl rfl (by omega) (by first | omega | (have := ak ((iJ s i).map (·.name)) 0 (s.enums[i]'hi).name; simp only [List.length_map] at *; omega)) (by first | omega | (have := ak ((iJ s i).map (·.name)) 0 (s.enums[i]'hi).name; simp only [List.length_map] at *; omega))) ?_)
   refine aD.c3 rfl (aW (aF rfl) rI rfl rfl rfl (by first | rfl | exact okV _ _ _ | exact fD _ _ _ | exact nb _ _ _ | exact na _ _ _) rfl (by have := du s i; have := ak ((iJ s i).map (·.name)) 0 (s.enums[i]'hi).name; simp only [List.length_append, List.length_map, List.length_take, List.length_drop, List.length_cons, List.length_nil] at *; omega) (by have := du s i; have := ak ((iJ s i).map (·.name)) 0 (s.enums[i]'hi).name; simp only [List.length_append, List.length_map, List.length_take, List.length_drop, List.length_cons, List.length_nil] at *; omega)) ?_
   exact aD.run II 2 rfl (aD.nil (by kernel_rfl) (Kept.now (aC.region (aB.run II 3 rfl (aB.kept (Kept.aY 5 rfl (inc (by omega)) (Kept.forget 3 rfl (Kept.aI [.s 5, .s 4, .t 100, .b 3, .h, .s 1, .b 1, .s 2, .b 2, .s 3] rfl (by decide) (Kept.gB 100 15 (by decide) rfl (Kept.now ⟨i + 1, by omega, trivial, KM (Bn hi rfl) (Hu hi (by omega) rfl)⟩))))))))))
 ·have hi := cj hc1
  refine aC.exit (aC.seq (aC.region (aB.c2 rfl (bD («as» := []) (aF rfl) bM cz rfl rfl rfl (fh rfl) rfl) (aB.run II 1 rfl (aB.nil (aC.seq (aC.seq (aC.region (aB.run II 1 rfl (aB.nil (aC.blk (aC.aK (Kept.aI [.s 11, .s 4, .t 116, .b 3, .h, .s 1, .b 1, .s 2, .b 2, .s 3] rfl (by decide) (Kept.now (aC.aX (fun (q : Nat) => [(.s 11, .sv (.v (.int .i64 (q : Int)))), (.s 4, .sv (.ow 116 (((eE s q).map (·.name)).map AV.str))), (.t 116, .tk false 9 1 (((eE s q).map (·.name)).map AV.str)), (.b 3, .bx [.v (.sl ((iJ s i).map dU.av)), .v (.sl ((eE s q).map aT.av))])]) _ (fun (q : Nat) => True) (fun (q : Nat) => s.msgs.length - q) 0 rfl trivial ?_)))))))))))))))
  rintro q hQ
  refine aC.seq (aC.seq (aC.region (aB.run II 5 rfl (aB.nil (aC.cond rfl (fun hc5 => ?_) (fun hc5 => ?_))))))
  ·have hq := ch hc5
   refine aC.skip (aC.seq (aC.blk (aC.seq (aC.region (aB.run II 3 rfl (aB.c1 rfl (aH (aF rfl) bQ rfl rfl (Int.natCast_nonneg _) (bz hq) rfl) (aB.run II 1 rfl (aB.c1 rfl (aG (aF rfl) E1 rfl (DE _ (by have := hs.fi hq; omega) (by have := hs.bi hq; omega))) ?_))))))))
   refine aB.run II 2 rfl (aB.nil (aC.seq (aC.region (aB.run II 3 rfl (aB.c1 rfl (aG (aF rfl) xH rfl (wP ((eE s q).map (·.name)) 1 _ (by have := aw s q; rw [List.length_map]; omega))) ?_)))))
   refine aB.run II 1 rfl (aB.nil (aC.seq (aC.seq (aC.region (aB.run II 2 rfl (aB.nil (aC.cond rfl (fun hc6 => ?_) (fun hc6 => ?_))))))))
   ·refine aC.region (aB.run II 1 rfl (aB.nil (aC.seq (aC.drawn mixed rfl (aD.c2 rfl (bD («as» := []) (aF rfl) bM cz rfl rfl rfl (fh rfl) rfl) (aD.run II 2 rfl (aD.c1 rfl (bE (aF rfl) cC rfl (fun e he => by obtain ⟨f, _, rfl⟩ := List.mem_map.1 he; rfl) rfl rfl (by omega) (by first | omega | (have := aw s q; have := ak ((eE s q).map (·.name)) 1 (s.msgs[q]'hq).sort.name; simp only [List.length_map] at *; omega)) (by first | omega | (have := aw s q; have := ak ((eE s q).map (·.name)) 1 (s.msgs[q]'hq).sort.name; simp only [List.length_map] at *; omega))) ?_)))))))
    refine aD.c3 rfl (aW (aF rfl) bM rfl rfl rfl (by first | rfl | exact okV _ _ _ | exact fD _ _ _ | exact nb _ _ _ | exact na _ _ _) rfl (by have := aw s q; have := ak ((eE s q).map (·.name)) 1 (s.msgs[q]'hq).sort.name; simp only [List.length_append, List.length_map, List.length_take, List.length_drop, List.length_cons, List.length_nil] at *; omega) (by have := aw s q; have := ak ((eE s q).map (·.name)) 1 (s.msgs[q]'hq).sort.name; simp only [List.length_append, List.length_map, List.length_take, List.length_drop, List.length_cons, List.length_nil] at *; omega)) ?_
    refine aD.run II 3 rfl (aD.c3 rfl (aW (aF rfl) bM rfl rfl rfl (by first | rfl | exact okV _ _ _ | exact fD _ _ _ | exact nb _ _ _ | exact na _ _ _) rfl (by have := aw s q; have := ak ((eE s q).map (·.name)) 1 (s.msgs[q]'hq).sort.name; simp only [List.length_append, List.length_map, List.length_take, List.length_drop, List.length_cons, List.length_nil] at *; omega) (by have := aw s q; have := ak ((eE s q).map (·.name)) 1 (s.msgs[q]'hq).sort.name; simp only [List.length_append, List.length_map, List.length_take, List.length_drop, List.length_cons, List.length_nil] at *; omega)) ?_)
    refine aD.run II 2 rfl (aD.c1 rfl (bE (aF rfl) cC rfl (fun e he => by obtain ⟨f, _, rfl⟩ := List.mem_map.1 he; rfl) rfl rfl (by omega) (by first | omega | (have := aw s q; have := ak ((eE s q).map (·.name)) 1 (s.msgs[q]'hq).sort.name; simp only [List.length_map] at *; omega)) (by first | omega | (have := aw s q; have := ak ((eE s q).map (·.name)) 1 (s.msgs[q]'hq).sort.name; simp only [List.length_map] at *; omega))) ?_)
    refine aD.c3 rfl (aW (aF rfl) bM rfl rfl rfl (by first | rfl | exact okV _ _ _ | exact fD _ _ _ | exact nb _ _ _ | exact na _ _ _) rfl (by have := aw s q; have := ak ((eE s q).map (·.name)) 1 (s.msgs[q]'hq).sort.name; simp only [List.length_append, List.length_map, List.length_take, List.length_drop, List.length_cons, List.length_nil] at *; omega) (by have := aw s q; have := ak ((eE s q).map (·.name)) 1 (s.msgs[q]'hq).sort.name; simp only [List.length_append, List.length_map, List.length_take, List.length_drop, List.length_cons, List.length_nil] at *; omega)) ?_
    refine aD.run II 1 rfl (aD.nil (by kernel_rfl) (Kept.now (aC.drawn mixed rfl (aD.c2 rfl (bD («as» := []) (aF rfl) fa vu rfl rfl rfl (fh rfl) rfl) (aD.run II 3 rfl (aD.c1 rfl (bE (aF rfl) bQ rfl (fun e he => by obtain ⟨f, _, rfl⟩ := List.mem_map.1 he; rfl) rfl rfl (by omega) (by first | omega | (have := aw s q; have := ak ((eE s q).map (·.name)) 1 (s.msgs[q]'hq).sort.name; simp only [List.length_map] at *; omega)) (by first | omega | (have := aw s q; have := ak ((eE s q).map (·.name)) 1 (s.msgs[q]'hq).sort.name; simp only [List.length_map] at *; omega))) ?_))))))
    refine aD.c3 rfl (aW (aF rfl) fa rfl rfl rfl (by first | rfl | exact okV _ _ _ | exact fD _ _ _ | exact nb _ _ _ | exact na _ _ _) rfl (by have := aw s q; have := ak ((eE s q).map (·.name)) 1 (s.msgs[q]'hq).sort.name; simp only [List.length_append, List.length_map, List.length_take, List.length_drop, List.length_cons, List.length_nil] at *; omega) (by have := aw s q; have := ak ((eE s q).map (·.name)) 1 (s.msgs[q]'hq).sort.name; simp only [List.length_append, List.length_map, List.length_take, List.length_drop, List.length_cons, List.length_nil] at *; omega)) ?_
    refine aD.run II 2 rfl (aD.c3 rfl (aW (aF rfl) fa rfl rfl rfl (by first | rfl | exact okV _ _ _ | exact fD _ _ _ | exact nb _ _ _ | exact na _ _ _) rfl (by have := aw s q; have := ak ((eE s q).map (·.name)) 1 (s.msgs[q]'hq).sort.name; simp only [List.length_append, List.length_map, List.length_take, List.length_drop, List.length_cons, List.length_nil] at *; omega) (by have := aw s q; have := ak ((eE s q).map (·.name)) 1 (s.msgs[q]'hq).sort.name; simp only [List.length_append, List.length_map, List.length_take, List.length_drop, List.length_cons, List.length_nil] at *; omega)) ?_)
    refine aD.run II 3 rfl (aD.c1 rfl (bE (aF rfl) bQ rfl (fun e he => by obtain ⟨f, _, rfl⟩ := List.mem_map.1 he; rfl) rfl rfl (by omega) (by first | omega | (have := aw s q; have := ak ((eE s q).map (·.name)) 1 (s.msgs[q]'hq).sort.name; simp only [List.length_map] at *; omega)) (by first | omega | (have := aw s q; have := ak ((eE s q).map (·.name)) 1 (s.msgs[q]'hq).sort.name; simp only [List.length_map] at *; omega))) ?_)
    refine aD.c3 rfl (aW (aF rfl) fa rfl rfl rfl (by first | rfl | exact okV _ _ _ | exact fD _ _ _ | exact nb _ _ _ | exact na _ _ _) rfl (by have := aw s q; have := ak ((eE s q).map (·.name)) 1 (s.msgs[q]'hq).sort.name; simp only [List.length_append, List.length_map, List.length_take, List.length_drop, List.length_cons, List.length_nil] at *; omega) (by have := aw s q; have := ak ((eE s q).map (·.name)) 1 (s.msgs[q]'hq).sort.name; simp only [List.length_append, List.length_map, List.length_take, List.length_drop, List.length_cons, List.length_nil] at *; omega)) ?_
    exact aD.run II 2 rfl (aD.nil (by kernel_rfl) (Kept.now (aC.region (aB.run II 3 rfl (aB.kept (Kept.aY 11 rfl (inc (by omega)) (Kept.forget 3 rfl (Kept.aI [.s 11, .s 4, .t 148, .b 3, .h, .s 1, .b 1, .s 2, .b 2, .s 3] rfl (by decide) (Kept.gB 148 116 (by decide) rfl (Kept.now ⟨q + 1, by omega, trivial, KE (tS (k := 0) hq (by rw [if_pos (by simpa using hc6)])) (As (k := 0) hq (by rw [if_pos (by simpa using hc6)]))⟩))))))))))
   ·refine aC.skip (aC.seq (aC.drawn mixed rfl (aD.c2 rfl (bD («as» := []) (aF rfl) bM cz rfl rfl rfl (fh rfl) rfl) (aD.run II 2 rfl (aD.c1 rfl (bE (aF rfl) cC rfl (fun e he => by obtain ⟨f, _, rfl⟩ := List.mem_map.1 he; rfl) rfl rfl (by omega) (by first | omega | (have := aw s q; have := ak ((eE s q).map (·.name)) 1 (s.msgs[q]'hq).sort.name; simp only [List.length_map] at *; omega)) (by first | omega | (have := aw s q; have := ak ((eE s q).map (·.name)) 1 (s.msgs[q]'hq).sort.name; simp only [List.length_map] at *; omega))) ?_)))))
    refine aD.c3 rfl (aW (aF rfl) bM rfl rfl rfl (by first | rfl | exact okV _ _ _ | exact fD _ _ _ | exact nb _ _ _ | exact na _ _ _) rfl (by have := aw s q; have := ak ((eE s q).map (·.name)) 1 (s.msgs[q]'hq).sort.name; simp only [List.length_append, List.length_map, List.length_take, List.length_drop, List.length_cons, List.length_nil] at *; omega) (by have := aw s q; have := ak ((eE s q).map (·.name)) 1 (s.msgs[q]'hq).sort.name; simp only [List.length_append, List.length_map, List.length_take, List.length_drop, List.length_cons, List.length_nil] at *; omega)) ?_
    refine aD.run II 3 rfl (aD.c3 rfl (aW (aF rfl) bM rfl rfl rfl (by first | rfl | exact okV _ _ _ | exact fD _ _ _ | exact nb _ _ _ | exact na _ _ _) rfl (by have := aw s q; have := ak ((eE s q).map (·.name)) 1 (s.msgs[q]'hq).sort.name; simp only [List.length_append, List.length_map, List.length_take, List.length_drop, List.length_cons, List.length_nil] at *; omega) (by have := aw s q; have := ak ((eE s q).map (·.name)) 1 (s.msgs[q]'hq).sort.name; simp only [List.length_append, List.length_map, List.length_take, List.length_drop, List.length_cons, List.length_nil] at *; omega)) ?_)
    refine aD.run II 2 rfl (aD.c1 rfl (bE (aF rfl) cC rfl (fun e he => by obtain ⟨f, _, rfl⟩ := List.mem_map.1 he; rfl) rfl rfl (by omega) (by first | omega | (have := aw s q; have := ak ((eE s q).map (·.name)) 1 (s.msgs[q]'hq).sort.name; simp only [List.length_map] at *; omega)) (by first | omega | (have := aw s q; have := ak ((eE s q).map (·.name)) 1 (s.msgs[q]'hq).sort.name; simp only [List.length_map] at *; omega))) ?_)
    refine aD.c3 rfl (aW (aF rfl) bM rfl rfl rfl (by first | rfl | exact okV _ _ _ | exact fD _ _ _ | exact nb _ _ _ | exact na _ _ _) rfl (by have := aw s q; have := ak ((eE s q).map (·.name)) 1 (s.msgs[q]'hq).sort.name; simp only [List.length_append, List.length_map, List.length_take, List.length_drop, List.length_cons, List.length_nil] at *; omega) (by have := aw s q; have := ak ((eE s q).map (·.name)) 1 (s.msgs[q]'hq).sort.name; simp only [List.length_append, List.length_map, List.length_take, List.length_drop, List.length_cons, List.length_nil] at *; omega)) ?_
    refine aD.run II 1 rfl (aD.nil (by kernel_rfl) (Kept.now (aC.drawn mixed rfl (aD.c2 rfl (bD («as» := []) (aF rfl) fa vu rfl rfl rfl (fh rfl) rfl) (aD.run II 3 rfl (aD.c1 rfl (bE (aF rfl) bQ rfl (fun e he => by obtain ⟨f, _, rfl⟩ := List.mem_map.1 he; rfl) rfl rfl (by omega) (by first | omega | (have := aw s q; have := ak ((eE s q).map (·.name)) 1 (s.msgs[q]'hq).sort.name; simp only [List.length_map] at *; omega)) (by first | omega | (have := aw s q; have := ak ((eE s q).map (·.name)) 1 (s.msgs[q]'hq).sort.name; simp only [List.length_map] at *; omega))) ?_))))))
    refine aD.c3 rfl (aW (aF rfl) fa rfl rfl rfl (by first | rfl | exact okV _ _ _ | exact fD _ _ _ | exact nb _ _ _ | exact na _ _ _) rfl (by have := aw s q; have := ak ((eE s q).map (·.name)) 1 (s.msgs[q]'hq).sort.name; simp only [List.length_append, List.length_map, List.length_take, List.length_drop, List.length_cons, List.length_nil] at *; omega) (by have := aw s q; have := ak ((eE s q).map (·.name)) 1 (s.msgs[q]'hq).sort.name; simp only [List.length_append, List.length_map, List.length_take, List.length_drop, List.length_cons, List.length_nil] at *; omega)) ?_
    refine aD.run II 2 rfl (aD.c3 rfl (aW (aF rfl) fa rfl rfl rfl (by first | rfl | exact okV _ _ _ | exact fD _ _ _ | exact nb _ _ _ | exact na _ _ _) rfl (by have := aw s q; have := ak ((eE s q).map (·.name)) 1 (s.msgs[q]'hq).sort.name; simp only [List.length_append, List.length_map, List.length_take, List.length_drop, List.length_cons, List.length_nil] at *; omega) (by have := aw s q; have := ak ((eE s q).map (·.name)) 1 (s.msgs[q]'hq).sort.name; simp only [List.length_append, List.length_map, List.length_take, List.length_drop, List.length_cons, List.length_nil] at *; omega)) ?_)
    refine aD.run II 3 rfl (aD.c1 rfl (bE (aF rfl) bQ rfl (fun e he => by obtain ⟨f, _, rfl⟩ := List.mem_map.1 he; rfl) rfl rfl (by omega) (by first | omega | (have := aw s q; have := ak ((eE s q).map (·.name)) 1 (s.msgs[q]'hq).sort.name; simp only [List.length_map] at *; omega)) (by first | omega | (have := aw s q; have := ak ((eE s q).map (·.name)) 1 (s.msgs[q]'hq).sort.name; simp only [List.length_map] at *; omega))) ?_)
    refine aD.c3 rfl (aW (aF rfl) fa rfl rfl rfl (by first | rfl | exact okV _ _ _ | exact fD _ _ _ | exact nb _ _ _ | exact na _ _ _) rfl (by have := aw s q; have := ak ((eE s q).map (·.name)) 1 (s.msgs[q]'hq).sort.name; simp only [List.length_append, List.length_map, List.length_take, List.length_drop, List.length_cons, List.length_nil] at *; omega) (by have := aw s q; have := ak ((eE s q).map (·.name)) 1 (s.msgs[q]'hq).sort.name; simp only [List.length_append, List.length_map, List.length_take, List.length_drop, List.length_cons, List.length_nil] at *; omega)) ?_
    exact aD.run II 2 rfl (aD.nil (by kernel_rfl) (Kept.now (aC.region (aB.run II 3 rfl (aB.kept (Kept.aY 11 rfl (inc (by omega)) (Kept.forget 3 rfl (Kept.aI [.s 11, .s 4, .t 148, .b 3, .h, .s 1, .b 1, .s 2, .b 2, .s 3] rfl (by decide) (Kept.gB 148 116 (by decide) rfl (Kept.now ⟨q + 1, by omega, trivial, KE (tS hq (by rw [if_neg (by simpa using hc6)]; rfl)) (As hq (by rw [if_neg (by simpa using hc6)]; rfl))⟩))))))))))
  ·have hq := cj hc5
   exact aC.exit (aC.seq (aC.region (aB.run II 2 rfl (aB.nil (aC.ret ⟨.inr rfl, (aE.r1 rfl (.cell fE rfl rfl rfl rfl .nil)).cast (by have e1 : iJ s i = s.enums.foldl vS [] := (by unfold iJ; rw [List.take_of_length_le hi]); have e2 : eE s q = s.msgs.foldl js [] := (by unfold eE; rw [List.take_of_length_le hq]); rw [e1, e2]; rfl), rfl⟩)))))
open Go Go.RowKit
/- The program logic's rules: a row that is an object is lent to a call; a slot's value over it is a value for ever. No condition. -/
def fg (id : Nat) (ys : List AV) : AV → AV
 | .os i n c => if i = id ∧ n ≤ ys.length then .sl (ys.take n) else .os i n c
 | a => a
def k7 (id : Nat) (ys : List AV) : AV → AV
 | .agg cs => .agg (cs.map (fg id ys))
 | a => fg id ys a
theorem pE {id : Nat} {ys : List AV} {a : AV} (h : a.flat = true) : (fg id ys a).flat = true := by
 cases a <;> simp only [fg] <;> first | exact h | (split <;> rfl)
structure xe (G G' : Gh) (id blk esz : Nat) (ys : List AV) : Prop where
 le : G.le G'
 ob : G.ob id = some blk
 es : ∀ e ∈ ys, e.cells.length = esz
 kn : ∀ (j : Nat) x, (ys.flatMap AV.cells)[j]? = some x → ∃ v, G'.kn blk j = some v ∧ x.flat = true ∧ V G' v x
theorem V.fg {G G' : Gh} {id blk esz : Nat} {ys : List AV} (k : xe G G' id blk esz ys) {v : Value} {a : AV} (h : V G v a) : V G' v (fg id ys a) := by
 cases a
 case os i n c =>
  show V G' v (if i = id ∧ n ≤ ys.length then _ else _)
  split
  ·rename_i hi
   obtain ⟨rfl, hn⟩ := hi
   exact xc (xs := ys.flatMap AV.cells) h k.ob k.kn k.es (by rw [List.take_of_length_le]; rw [ca k.es]; exact Nat.le_refl _) hn
  ·exact h.mono k.le
 all_goals exact h.mono k.le
theorem V.k7 {G G' : Gh} {id blk esz : Nat} {ys : List AV} (k : xe G G' id blk esz ys) {v : Value} {a : AV} (h : V G v a) : V G' v (k7 id ys a) := by
 cases a
 case agg cs =>
  cases h
  rename_i vs hl hf hv
  refine .agg vs _ (by simpa using hl) (fun j c e => ?_) (fun j c e => ?_)
  ·rw [List.getElem?_map] at e
   cases hc : cs[j]? with
   | none => rw [hc] at e; cases e
   | some c0 => rw [hc] at e; cases e; exact pE (hf j c0 hc)
  ·rw [List.getElem?_map] at e
   cases hc : cs[j]? with
   | none => rw [hc] at e; cases e
   | some c0 => rw [hc] at e; cases e; exact (hv j c0 hc).fg k
 all_goals exact h.fg k
def mX : AV → Bool
 | .bool _ | .int _ _ | .str _ | .nilp | .nsl | .nilf | .nili => true
 | _ => false
def mW : AV → Bool
 | .agg cs => cs.all mX
 | a => mX a
def o4 : AV → Bool
 | .tup vs => vs.all mW
 | a => mW a
theorem V.mX {G G' : Gh} {v : Value} {a : AV} (hp : mX a = true) (h : V G v a) : V G' v a := by
 cases h <;> first | (cases hp; done) | constructor
theorem V.mW {G G' : Gh} {v : Value} {a : AV} (hp : mW a = true) (h : V G v a) : V G' v a := by
 cases a
 case agg cs =>
  cases h
  rename_i vs hl hf hv
  exact .agg vs cs hl hf fun j c e => (hv j c e).mX (List.all_eq_true.1 hp c (List.mem_of_getElem? e))
 all_goals exact h.mX hp
theorem V.o4 {G G' : Gh} {v : Value} {a : AV} (hp : o4 a = true) (h : V G v a) : V G' v a := by
 cases a
 case tup cs =>
  cases h
  rename_i vs hl hv
  exact .tup vs cs hl fun j c e => (hv j c e).mW (List.all_eq_true.1 hp c (List.mem_of_getElem? e))
 all_goals exact h.mW hp
section
variable {P : Program} {N : Nat} {s : St} {d : Nat} {ty : TypeId} {pos : String} {af : Array Edge} {g : Option (Nat × Bool)}
theorem Dc {f : FuncId} {xs : Array Operand} {tys : Array TypeId} {«as» bs : List AV} {r : AV} {H : Hp} {esz : Nat} {zs : List AV} (id : Nat) (ys : List AV) (hN : d < N) (hf : ab P f = true) (hH : get s .h = some (.hp H)) (ha : kX xs.toList s = some «as») (ho : H.obj id = some (zs.map .v))
  (hes : ∀ e ∈ ys, e.cells.length = esz) (hz : zs.take (ys.length * esz) = ys.flatMap AV.cells) (hl : «as».map (k7 id ys) = bs) (hp : Pure P f bs r) (hr : o4 r = true) :
  aa P N ⟨some d, .call { callee := .value (.func f), args := xs, argTypes := tys }, ty, pos, af, g⟩ s (lJ xs.toList ++ [.h]) [(.s d, .sv (.v r))] := by
 subst hl
 intro t hR E G L a w hr0 K Q hK
 have hH' : get t .h = some (.hp H) := by rw [hR .h (by simp)]; exact hH
 obtain ⟨cargs, hrun, hV⟩ := gY (ty := ty) (pos := pos) (af := af) (g := g) hf ha (dst := some d) E G L a w t hr0 (fun c hc => hR c (List.mem_append_left _ hc))
 obtain ⟨H1, gH, hok, hmay⟩ := hr0.heap
 rw [hH'] at gH; cases gH
 obtain ⟨blk, arr, el, p1, hh, hsz, hc, hno⟩ := hok.obj id _ ho
 let cells := arr.toList
 let G1 : Gh := G.add blk cells
 have hle1 : G.le G1 := Gh.pq (fun o u e => by rw [hno o] at e; cases e)
 have hkn1 : eV G1 w := by
  intro b o u e
  by_cases hb : b = blk
  ·subst hb
   have e2 : cells[o]? = some u := by simpa [G1, Gh.add] using e
   rw [cell_of_row w b o arr el (0, 0) hh]
   simpa [cells] using e2
  ·have e2 : G.kn b o = some u := by simpa [G1, Gh.add, hb] using e
   exact hr0.kn b o u e2
 have cB : xe G G1 id blk esz ys := ⟨hle1, p1, hes, fun j x hx => by
  rw [← hz, List.getElem?_take] at hx
  split at hx
  ·have h1 := hc j (.v x) (by rw [List.getElem?_map, hx]; rfl)
   have hj : j < arr.size := by have h1 := (List.getElem?_eq_some_iff.1 hx).1; have h2 := hsz.1; rw [List.length_map] at h2; omega
   refine ⟨arr.getD j undef, ?_, h1.1, V.mono hle1 h1.2⟩
   simp [G1, Gh.add, cells, Array.getD_eq_getD_getElem?, hj]
  ·cases hx⟩
 let H0 : Hp := ⟨H.next, fun _ => none⟩
 have hf0 : ∀ G2 w2 b, ¬ ae G2 H0 w2 b := by
  rintro G2 w2 b (⟨id, ⟨cs, h⟩, _⟩ | ⟨id, j, cs, el, esz, xs, b0, arr, t, fr, h, _⟩) <;> cases h
 have hok0 : dE G1 w H0 := ⟨fun id b e => hok.lt id b e, fun id id' b e e' ⟨_, k⟩ => (by cases k), fun id cs e => (by cases e), fun id j b hr => absurd (.inr ⟨id, j, hr⟩) (hf0 G1 w b)⟩
 have hV1 : VL G1 cargs («as».map (k7 id ys)) := ⟨by rw [List.length_map]; exact hV.1, fun j y e => by
  rw [List.getElem?_map] at e
  cases hx : «as»[j]? with
  | none => rw [hx] at e; cases e
  | some x => rw [hx] at e; cases e; exact (hV.2 j x hx).k7 cB⟩
 unfold Oper.wp
 rw [hrun]
 refine (hp H0 G1 w cargs ⟨(hr0.ri hH').1, (hr0.ri hH').2.1, fun g _ h => hf0 _ _ _ h⟩ hkn1 hok0 hV1).mono ?_
 rintro e w' ⟨v, G', rfl, hv, hx', hknG', hok', hf', hft'⟩
 have hblk : ∀ b, b < w.heap.size → w'.heap[b]? = w.heap[b]? := fun b hb => hf'.block b hb (hf0 _ _ b)
 have hst := hok.stay (w' := w') (Gh.le.refl G) rfl (fun b hb o => (hok.ae hb).2 o) (fun b hb => hblk b (hok.ae hb).1) hf'.size
 have hkn3 : eV G w' := by
  intro b o u e
  rw [World.cell?_of_block (w := w) (hblk b (hr0.vO e))]; exact hr0.kn b o u e
 have h1 := hr0.called (G' := G) hH' ⟨fun b o hb _ => rfl, fun id b e => ⟨e, rfl⟩, fun id b e => .inl ⟨id, e⟩⟩ hkn3 hst.1 ⟨hf'.os, hf'.tape, hf'.output, hf'.size, fun b hb _ => hblk b hb⟩ (fun b hb => .inr ((hst.2 b).1 hb))
 have h3 := h1.put d hN v (.v r) (hv.o4 hr)
 refine hK v w' G L (h3.ext fun c => ?_)
 simp only [List.cons_append, List.nil_append, get]
 split
 ·rfl
 ·split
  ·rename_i h4; subst h4; exact hH'
  ·rfl
end
/-! ### rows, element for element -/
def az (ys : List AV) : List Hc := (ys.flatMap AV.cells).map .v
theorem sc {esz : Nat} {ys : List AV} (h : ∀ e ∈ ys, e.cells.length = esz) : (az ys).length = ys.length * esz := by
 unfold az; rw [List.length_map, ca h]
theorem jd {esz : Nat} {ys : List AV} (h : ∀ e ∈ ys, e.cells.length = esz) {i j : Nat} {e : AV} (hi : ys[i]? = some e) (hj : j < esz) : (az ys)[i * esz + j]? = (e.cells[j]?).map .v := by
 unfold az; rw [List.getElem?_map, ic h i j e hi hj]
theorem oj {esz : Nat} {ys : List AV} (h : cQ esz ys = true) : ∀ e ∈ ys, e.cells.length = esz := fun e he => (gD h e he).1
theorem wE : ∀ (l : List AV), lP (l.map .v) = some l
 | [] => rfl
 | a :: l => by simp only [List.map_cons, lP, Sv.av, wE l]
theorem qU {esz : Nat} : ∀ {ys : List AV} (h : ∀ e ∈ ys, e.cells.length = esz) {i : Nat} {e : AV} (_ : i < ys.length) (_ : e.cells.length = esz), (ys.set i e).flatMap AV.cells = (ys.flatMap AV.cells).take (i * esz) ++ e.cells ++ (ys.flatMap AV.cells).drop (i * esz + esz)
 | [], _, i, e, hi, _ => by simp at hi
 | y :: ys, h, 0, e, _, he => by
  have hy := h y List.mem_cons_self
  simp [List.drop_append, hy]
 | y :: ys, h, i + 1, e, hi, he => by
  have hy := h y List.mem_cons_self
  have ih := qU (fun e he => h e (List.mem_cons_of_mem _ he)) (i := i) (by simpa using hi) he
  rw [List.set_cons_succ, List.flatMap_cons, ih, List.flatMap_cons, Nat.succ_mul]
  rw [Nat.add_comm (i * esz) esz, List.take_append, List.drop_append, hy]
  rw [List.take_of_length_le (show y.cells.length ≤ esz + i * esz by omega), List.drop_eq_nil_of_le (show y.cells.length ≤ esz + i * esz + esz by omega)]
  simp only [Nat.add_sub_cancel_left, Nat.add_sub_cancel, List.append_assoc, List.nil_append]
theorem qW {esz : Nat} {ys : List AV} (h : ∀ e ∈ ys, e.cells.length = esz) {i : Nat} {e : AV} (hi : i < ys.length) (he : e.cells.length = esz) : nC (az ys) (i * esz) e.cells = az (ys.set i e) := by
 unfold nC az
 rw [qU h hi he, he, List.map_append, List.map_append, List.map_take, List.map_drop]
theorem wJ {esz : Nat} {ys : List AV} (h : ∀ e ∈ ys, e.cells.length = esz) {i f : Nat} {cs : List AV} (hi : ys[i]? = some (.agg cs)) (hf : f < esz) (av : AV) : (az ys).set (i * esz + f) (.v av) = az (ys.set i (.agg (cs.set f av))) := by
 have hlt := (List.getElem?_eq_some_iff.1 hi).1
 have hcs : cs.length = esz := h _ (List.mem_of_getElem? hi)
 have hle : i * esz + esz ≤ (az ys).length := by rw [sc h, ← Nat.succ_mul]; exact Nat.mul_le_mul_right _ hlt
 have h2 : ∀ e ∈ ys.set i (.agg (cs.set f av)), e.cells.length = esz := fun e he => by
  rcases List.mem_or_eq_of_mem_set he with h3 | h3
  ·exact h e h3
  ·subst h3; simpa [AV.cells] using hcs
 rw [← qW h hlt (by simpa [AV.cells] using hcs)]
 refine List.ext_getElem? fun j => ?_
 unfold nC
 have hl1 : ((az ys).take (i * esz)).length = i * esz := by rw [List.length_take]; omega
 rw [List.append_assoc]
 by_cases h3 : j < i * esz
 ·rw [List.getElem?_append_left (by omega), List.getElem?_take, if_pos h3, List.getElem?_set_ne (by omega)]
 ·rw [List.getElem?_append_right (by omega), hl1]
  by_cases h4 : j < i * esz + esz
  ·rw [List.getElem?_append_left (by simp [AV.cells, hcs]; omega), List.getElem?_map]
   by_cases h5 : j = i * esz + f
   ·subst h5
    rw [List.getElem?_set_self (by omega)]
    simp only [AV.cells, Nat.add_sub_cancel_left, List.getElem?_set_self (show f < cs.length by omega)]
    rfl
   ·rw [List.getElem?_set_ne (fun e => h5 e.symm)]
    have := jd h (j := j - i * esz) hi (by omega)
    rw [show i * esz + (j - i * esz) = j by omega] at this
    rw [this]
    simp only [AV.cells]
    rw [List.getElem?_set_ne (by omega)]
  ·rw [List.getElem?_append_right (by simp [AV.cells, hcs]; omega), List.getElem?_drop, List.getElem?_set_ne (by omega)]
   congr 1
   simp [AV.cells, hcs]; omega
section
variable {P : Program} {N : Nat} {s : St} {d : Nat} {ty : TypeId} {pos : String} {af : Array Edge} {g : Option (Nat × Bool)}
theorem lg {t1 el esz by_ n : Nat} {ps : List (Nat × Operand)} {«as» zs : List AV} {H : Hp} (hN : d < N) (ht : se P t1 = some (el, esz, by_)) (hz : bf P el = some zs) (hq : j8 ps s = some (dY 0 «as»)) (hn : «as».length = n) (hok : cQ esz «as» = true) (hlen : «as».length * esz ≤ 16777216) (hH : get s .h = some (.hp H)) (hd : get s (.b d) = none) :
  aa P N ⟨some d, .buildSlice t1 n ps.toArray, ty, pos, af, g⟩ s (lJ (ps.map (·.2)) ++ [.h, .b d]) [(.s d, .sv (.v (.os H.next n esz))), (.h, .hp (H.new (az «as»))), (.b d, .gone)] := A7 hN ht hz hq hn hok hlen hH hd
theorem kr {t1 el esz by_ : Nat} {x y : Operand} {id n : Nat} {xs ys zs : List AV} {H : Hp} (hN : d < N) (ht : se P t1 = some (el, esz, by_)) (hz : bf P el = some zs) (hx : cW x s = some (.os id n esz)) (hH : get s .h = some (.hp H)) (ho : H.obj id = some (az xs)) (hes : ∀ e ∈ xs, e.cells.length = esz) (hl : xs.length = n)
  (hy : cW y s = some (.sl ys)) (hok : cQ esz ys = true) (hd : get s (.b d) = none) (hb : (n + ys.length) * by_ ≤ 140737488355328) (h63 : n + ys.length ≤ 9223372036854775807) :
  aa P N ⟨some d, .call { callee := .builtin .append, args := #[x, y], argTypes := #[t1, t1] }, ty, pos, af, g⟩ s (rd x ++ (rd y ++ [.h, .b d]))
   [(.s d, .sv (.v (.os H.next (n + ys.length) esz))), (.h, .hp ((H.del id).new (az (xs ++ ys)))), (.b d, .gone)] := by
 have := De (ty := ty) (pos := pos) (af := af) (g := g) hN ht hz hx hH ho (by rw [ca hes, hl]) hy hok hd hb h63
 rw [← List.flatMap_append] at this
 exact this
theorem Dg {t1 el esz by_ : Nat} {x y : Operand} {id n id2 n2 : Nat} {xs ys zs : List AV} {H : Hp} (hN : d < N) (ht : se P t1 = some (el, esz, by_)) (hz : bf P el = some zs) (hx : cW x s = some (.os id n esz)) (hH : get s .h = some (.hp H)) (ho : H.obj id = some (az xs)) (hes : ∀ e ∈ xs, e.cells.length = esz) (hl : xs.length = n)
  (hy : cW y s = some (.os id2 n2 esz)) (ho2 : H.obj id2 = some (az ys)) (hes2 : ∀ e ∈ ys, e.cells.length = esz) (hn2 : ys.length = n2) (hd : get s (.b d) = none) (hb : (n + ys.length) * by_ ≤ 140737488355328) (h63 : n + ys.length ≤ 9223372036854775807) :
  aa P N ⟨some d, .call { callee := .builtin .append, args := #[x, y], argTypes := #[t1, t1] }, ty, pos, af, g⟩ s (rd x ++ ((rd y ++ [.h]) ++ [.h, .b d]))
   [(.s d, .sv (.v (.os H.next (n + ys.length) esz))), (.h, .hp ((H.del id).new (az (xs ++ ys)))), (.b d, .gone)] := by
 have := Af (ty := ty) (pos := pos) (af := af) (g := g) hN ht hz hx hH ho (by rw [ca hes, hl]) hy ho2 hes2 hn2 hd hb h63
 rw [← List.flatMap_append] at this
 exact this
theorem Gm {t1 el esz by_ : Nat} {x y : Operand} {ys zs : List AV} {H : Hp} (hN : d < N) (ht : se P t1 = some (el, esz, by_)) (hz : bf P el = some zs) (hx : cW x s = some .nsl) (hH : get s .h = some (.hp H))
  (hy : cW y s = some (.sl ys)) (hok : cQ esz ys = true) (h0 : ys ≠ []) (hd : get s (.b d) = none) (hb : ys.length * by_ ≤ 140737488355328) (h63 : ys.length ≤ 9223372036854775807) :
  aa P N ⟨some d, .call { callee := .builtin .append, args := #[x, y], argTypes := #[t1, t1] }, ty, pos, af, g⟩ s (rd x ++ (rd y ++ [.h, .b d]))
   [(.s d, .sv (.v (.os H.next ys.length esz))), (.h, .hp (H.new (az ys))), (.b d, .gone)] := Df hN ht hz hx hH hy hok h0 hd hb h63
def eh (K : Hp) (o : AV) (esz : Nat) (xs : List AV) : Prop := (o = .nsl ∧ xs = []) ∨ ∃ id, o = .os id xs.length esz ∧ K.obj id = some (az xs)
def ir (K : Hp) (o : AV) (cs : List Hc) : Hp := match o with | .os id _ _ => (K.del id).new cs | _ => K.new cs
theorem jh {t1 el esz by_ : Nat} {x y : Operand} {o : AV} {xs ys zs : List AV} {H : Hp} (hN : d < N) (ht : se P t1 = some (el, esz, by_)) (hz : bf P el = some zs) (hx : cW x s = some o) (hH : get s .h = some (.hp H)) (ho : eh H o esz xs) (hes : ∀ e ∈ xs, e.cells.length = esz)
  (hy : cW y s = some (.sl ys)) (hok : cQ esz ys = true) (h0 : ys ≠ []) (hd : get s (.b d) = none) (hb : (xs.length + ys.length) * by_ ≤ 140737488355328) (h63 : xs.length + ys.length ≤ 9223372036854775807) :
  aa P N ⟨some d, .call { callee := .builtin .append, args := #[x, y], argTypes := #[t1, t1] }, ty, pos, af, g⟩ s (rd x ++ (rd y ++ [.h, .b d]))
   [(.s d, .sv (.v (.os H.next (xs.length + ys.length) esz))), (.h, .hp (ir H o (az (xs ++ ys)))), (.b d, .gone)] := by
 rcases ho with ⟨rfl, rfl⟩ | ⟨id, rfl, ho⟩
 ·have := Gm (ty := ty) (pos := pos) (af := af) (g := g) hN ht hz hx hH hy hok h0 hd (by simpa using hb) (by simpa using h63)
  simpa [ir] using this
 ·exact kr hN ht hz hx hH ho hes rfl hy hok hd hb h63
theorem jH {t1 : TypeId} {x : Operand} {id off i n : Nat} {ys cs : List AV} {H : Hp} (hN : d < N) (hl : lk P t1 = some (true, n)) (hx : cW x s = some (.op id off)) (hH : get s .h = some (.hp H)) (ho : H.obj id = some (az ys)) (hes : ∀ e ∈ ys, e.cells.length = n) (hoff : off = i * n) (he : ys[i]? = some (.agg cs)) :
  aa P N ⟨some d, .load t1 x, ty, pos, af, g⟩ s (rd x ++ [.h]) [(.s d, .sv (.v (.agg cs)))] := by
 subst hoff
 have hcs : cs.length = n := hes _ (List.mem_of_getElem? he)
 have hlt := (List.getElem?_eq_some_iff.1 he).1
 refine bJ hN hl hx hH ho ?_
 have e : (((az ys).map fun c => Sv.v (qC c)).drop (i * n)).take n = cs.map .v := by
  refine List.ext_getElem? fun j => ?_
  rw [List.getElem?_take]
  split
  ·rename_i hj
   rw [List.getElem?_drop, List.getElem?_map, jd hes he hj, List.getElem?_map]
   simp only [AV.cells, Option.map_map]
   rfl
  ·rename_i hj
   rw [List.getElem?_eq_none (by simp; omega)]
 simp only [uR, e, wE, hcs, if_true]
theorem o8 {t1 : TypeId} {x : Operand} {id off i f esz : Nat} {ys cs : List AV} {c : AV} {H : Hp} (hN : d < N) (hl : lk P t1 = some (false, 1)) (hx : cW x s = some (.op id off)) (hH : get s .h = some (.hp H)) (ho : H.obj id = some (az ys)) (hes : ∀ e ∈ ys, e.cells.length = esz) (hoff : off = i * esz + f) (he : ys[i]? = some (.agg cs)) (hc : cs[f]? = some c) :
  aa P N ⟨some d, .load t1 x, ty, pos, af, g⟩ s (rd x ++ [.h]) [(.s d, .sv (.v c))] := by
 subst hoff
 have hcs : cs.length = esz := hes _ (List.mem_of_getElem? he)
 refine bJ hN hl hx hH ho ?_
 have hf := (List.getElem?_eq_some_iff.1 hc).1
 simp only [uR]
 rw [List.getElem?_drop, List.getElem?_map, Nat.add_zero, jd hes he (by omega)]
 simp only [AV.cells, hc]
 rfl
theorem kk {t1 : TypeId} {x y : Operand} {id off i n : Nat} {b : Bool} {ys cs : List AV} {H : Hp} (hl : lk P t1 = some (b, n)) (hx : cW x s = some (.op id off)) (hH : get s .h = some (.hp H)) (ho : H.obj id = some (az ys)) (hy : cW y s = some (.agg cs)) (hes : ∀ e ∈ ys, e.cells.length = n) (hoff : off = i * n) (hi : i < ys.length) (hn : cs.length = n) :
  aa P N ⟨none, .store t1 x y, ty, pos, af, g⟩ s (rd x ++ (rd y ++ [.h])) [(.h, .hp (H.set id (az (ys.set i (.agg cs)))))] := by
 subst hoff
 rw [← qW (e := .agg cs) hes hi hn]
 refine rV hl hx hH ho hy rfl hn ?_ ?_
 ·rw [sc hes, ← Nat.succ_mul]; exact Nat.mul_le_mul_right _ hi
 ·refine List.all_eq_true.2 fun x hx => ?_
  have := List.mem_of_mem_drop (List.mem_of_mem_take hx)
  obtain ⟨c, _, rfl⟩ := List.mem_map.1 this
  rfl
theorem G9 {t1 : TypeId} {x y : Operand} {id off i f esz : Nat} {b : Bool} {ys cs : List AV} {av : AV} {H : Hp} (hl : lk P t1 = some (b, 1)) (hx : cW x s = some (.op id off)) (hH : get s .h = some (.hp H)) (ho : H.obj id = some (az ys)) (hy : cW y s = some av) (hfl : av.flat = true) (hes : ∀ e ∈ ys, e.cells.length = esz) (hoff : off = i * esz + f) (he : ys[i]? = some (.agg cs)) (hf : f < esz) :
  aa P N ⟨none, .store t1 x y, ty, pos, af, g⟩ s (rd x ++ (rd y ++ [.h])) [(.h, .hp (H.set id (az (ys.set i (.agg (cs.set f av))))))] := by
 subst hoff
 rw [← wJ hes he hf]
 have hcs : cs.length = esz := hes _ (List.mem_of_getElem? he)
 obtain ⟨c, hc⟩ : ∃ c, cs[f]? = some c := ⟨_, List.getElem?_eq_getElem (by omega)⟩
 refine rW (old := c) hl hx hH ho hy hfl ?_
 rw [jd hes he hf]
 simp only [AV.cells, hc]
 rfl
theorem tH {f : FuncId} {xs : Array Operand} {tys : Array TypeId} {«as» bs : List AV} {r : AV} {H : Hp} {esz : Nat} (id : Nat) (ys : List AV) (hN : d < N) (hf : ab P f = true) (hH : get s .h = some (.hp H)) (ha : kX xs.toList s = some «as») (ho : H.obj id = some (az ys))
  (hes : ∀ e ∈ ys, e.cells.length = esz) (hl : «as».map (k7 id ys) = bs) (hp : Pure P f bs r) (hr : o4 r = true) :
  aa P N ⟨some d, .call { callee := .value (.func f), args := xs, argTypes := tys }, ty, pos, af, g⟩ s (lJ xs.toList ++ [.h]) [(.s d, .sv (.v r))] :=
 Dc id ys hN hf hH ha ho hes (by rw [List.take_of_length_le]; rw [ca hes]; exact Nat.le_refl _) hl hp hr
end
theorem Rel.Jq {E : dQ} {N : Nat} {G : Gh} {L : Loc} {a : Act} {w : World} {s : St} (h : Rel E N G L a w s) {H : Hp} {id esz : Nat} {ys : List AV} (hH : get s .h = some (.hp H)) (ho : H.obj id = some (az ys)) (hes : ∀ e ∈ ys, e.cells.length = esz) :
  ∃ G' blk, xe G' G' id blk esz ys ∧ Rel E N G' L a w ((.h, .hp (H.del id)) :: s) := by
 obtain ⟨H0, gH, hok, hmay⟩ := h.heap
 rw [hH] at gH; cases gH
 obtain ⟨blk, arr, el, p1, _⟩ := hok.obj id _ ho
 obtain ⟨G', hle, hr', hkn⟩ := h.Iw hH ho p1
 exact ⟨G', blk, ⟨Gh.le.refl G', hle.ob _ _ p1, hes, hkn⟩, hr'⟩
def m8 (id : Nat) (ys : List AV) : Sv → Sv
 | .v a => .v (fg id ys a)
 | x => x
theorem Kept.HJ {s : St} {Q : St → Prop} (k id : Nat) {ys : List AV} {cs ds : List Sv} {esz : Nat} {H : Hp} (hk : get s (.b k) = some (.bx cs)) (hH : get s .h = some (.hp H)) (ho : H.obj id = some (az ys)) (hes : ∀ e ∈ ys, e.cells.length = esz) (hd : cs.map (m8 id ys) = ds)
  (h : Kept ((.b k, .bx ds) :: (.h, .hp (H.del id)) :: s) Q) : Kept s Q := fun E N a' w ⟨G, L, hr⟩ => by
 subst hd
 obtain ⟨G', blk, hk2, hr'⟩ := hr.Jq hH ho hes
 have hkb : get ((.h, .hp (H.del id)) :: s) (.b k) = some (.bx cs) := by simpa [get] using hk
 refine h E N a' w ⟨G', L, hr'.JS hkb (by simp) fun j x x' hx hx' => ?_⟩
 rw [List.getElem?_map, hx] at hx'
 cases hx'
 obtain ⟨blk2, o, q1, q2, q3, ⟨arr, el, e1, e2, e3⟩, q5, q6⟩ := hr'.box k _ hkb rfl
 have hf := (e3 j x hx).1
 cases x with
 | v a => exact ⟨pE hf, fun v hv => V.fg hk2 hv⟩
 | _ => exact ⟨hf, fun v hv => hv⟩
theorem Kept.Ao {s : St} {Q : St → Prop} (k i : Nat) {cs : List Sv} (hk : get s (.b k) = some (.bx cs)) (hi : cs[i]? = some (.v .nsl)) (h : Kept ((.b k, .bx (cs.set i (.v (.sl [])))) :: s) Q) : Kept s Q := fun E N a w ⟨G, L, hr⟩ => by
 refine h E N a w ⟨G, L, hr.JS hk (by simp) fun j x x' hx hx' => ?_⟩
 obtain ⟨blk2, o, q1, q2, q3, ⟨arr, el, e1, e2, e3⟩, q5, q6⟩ := hr.box k _ hk rfl
 rw [List.getElem?_set] at hx'
 split at hx'
 ·rename_i e
  subst e
  rw [hi] at hx; cases hx
  split at hx'
  ·cases hx'
   refine ⟨rfl, fun v hv => ?_⟩
   have hV : V G v .nsl := hv
   cases hV
   exact V.slE none 0
  ·cases hx'
 ·rw [hx] at hx'; cases hx'
  exact ⟨(e3 j x hx).1, fun v hv => hv⟩
def Hp.fin (H : Hp) : Prop := ∀ i, H.next ≤ i → H.obj i = none
theorem dE.fin {G : Gh} {w : World} {H : Hp} (h : dE G w H) : H.fin := fun i hi => by
 cases e : H.obj i with
 | none => rfl
 | some cs =>
  obtain ⟨blk, _, _, q1, _⟩ := h.obj i cs e
  have := (h.lt i blk q1).1; omega
theorem cT.fin {P : Program} {f : FuncId} {args : List AV} {H H' : Hp} {r : AV} (h : H.fin → cT P f args H r H') : cT P f args H r H' := fun G w cargs hg hk hH hV => h hH.fin G w cargs hg hk hH hV
def Hp.bump (H : Hp) (k : Nat) (cs : List Hc) : Hp := ⟨H.next + k + 1, fun i => if i = H.next + k then some cs else if i < H.next then H.obj i else none⟩
theorem Hp.cm {H : Hp} {k : Nat} {cs : List Hc} : (H.bump k cs).obj (H.next + k) = some cs := by simp [Hp.bump]
theorem Hp.jx {H : Hp} {k i : Nat} {cs : List Hc} (h : i < H.next) : (H.bump k cs).obj i = H.obj i := by
 have : i ≠ H.next + k := by omega
 simp [Hp.bump, h, this]
theorem Hp.lu {H : Hp} (h : H.fin) {cs : List Hc} : H.new cs = H.bump 0 cs := by
 simp only [Hp.new, Hp.bump, Hp.set]
 congr 1
 funext i
 by_cases h1 : i = H.next
 ·simp [h1]
 ·by_cases h2 : i < H.next
  ·simp [h1, h2]
  ·simp [h1, h2, h i (by omega)]
theorem Hp.il {H : Hp} {k : Nat} {cs ds : List Hc} : ((H.bump k cs).del (H.next + k)).new ds = H.bump (k + 1) ds := by
 simp only [Hp.new, Hp.bump, Hp.set, Hp.del]
 congr 1
 funext i
 by_cases h1 : i = H.next + k + 1
 ·subst h1; simp [Nat.add_assoc]
 ·by_cases h2 : i = H.next + k
  ·subst h2; simp [show ¬ H.next + k = H.next + (k + 1) by omega, h1]; intro h5; omega
  ·simp [h1, h2, show ¬ i = H.next + (k + 1) by omega]
theorem Hp.uF {H : Hp} {k : Nat} {cs ds : List Hc} : (H.bump k cs).set (H.next + k) ds = H.bump k ds := by
 simp only [Hp.bump, Hp.set]
 congr 1
 funext i
 by_cases h1 : i = H.next + k
 ·simp [h1]
 ·simp [h1]
theorem Hp.mL {H : Hp} {k i : Nat} {cs : List Hc} (h : i < H.next) : ((H.bump k cs).del (H.next + k)).obj i = H.obj i := by
 have : i ≠ H.next + k := by omega
 simp [Hp.bump, Hp.del, h, this]
/- the document: fields without some, in a row of their own -/
theorem yV {d n esz : Nat} {c : aM} {v : CV} {rest : List (aM × CV)} {H : Hp} {α : Type} {f : α → AV} {a : List α} {x : α} : ((c, v) :: (aM.s d, CV.sv (.v (.os (n + a.length + 1) (a.length + 1) esz))) :: (aM.h, CV.hp (H.bump (a.length + 1) (az (a.map f ++ [f x])))) :: rest) = [(c, v), (aM.s d, CV.sv (.v (.os (n + (a ++ [x]).length) (a ++ [x]).length esz))), (aM.h, CV.hp (H.bump (a ++ [x]).length (az ((a ++ [x]).map f))))] ++ rest := by simp [Nat.add_assoc]
theorem qk (l : List ah) : ∀ e ∈ l.map ah.av, e.cells.length = 7 := oj (bw ah.cells (fun _ => rfl) _)
theorem HB {l : List ah} {names : List au} {i : Nat} (hi : i < l.length) (h : jq names l[i] = true) : (l.take i).filter (jq names) ++ [l[i]] = (l.take (i + 1)).filter (jq names) := by
 rw [List.take_add_one, List.getElem?_eq_getElem hi, List.filter_append]; simp [h]
theorem HC {l : List ah} {names : List au} {i : Nat} (hi : i < l.length) (h : jq names l[i] = false) : (l.take i).filter (jq names) = (l.take (i + 1)).filter (jq names) := by
 rw [List.take_add_one, List.getElem?_eq_getElem hi, List.filter_append]; simp [h]
theorem uj (m : aT) (names : List au) (hl : m.fields.length ≤ 1000) (hn : names.length ≤ 9223372036854775807) (H : Hp) : cT Tryz.prog 80 [m.av, .sl (names.map .str)] H (.os (H.next + (bB m.fields names).length) (bB m.fields names).length 7) (H.bump (bB m.fields names).length (az ((bB m.fields names).map ah.av))) := by
 refine cT.fin fun hfin => (cT.aL Tryz.func80 rfl rfl (aF rfl) (aC.seq (aC.region (aB.run II 2 rfl (aB.nil (aC.seq (aC.region (aB.c3 rfl (lg («as» := []) (aF rfl) eZ kE rfl rfl rfl (fh rfl) rfl rfl) (aB.run II 1 rfl (aB.nil (aC.seq (aC.seq (aC.aK (Kept.nR rfl (Hp.lu hfin) (Kept.now (aC.region (aB.run II 1 rfl (aB.nil (aC.blk ?_)))))))))))))))))))
 refine aC.aK (Kept.aI [.s 6, .s 5, .h, .s 1, .s 2, .b 2] rfl (by decide) (Kept.now (aC.aX (fun ((i, a) : Nat × List ah) => [(.s 6, .sv (.v (.int .i64 (i : Int)))), (.s 5, .sv (.v (.os (H.next + a.length) a.length 7))), (.h, .hp (H.bump a.length (az (a.map ah.av))))]) _ (fun ((i, a) : Nat × List ah) => a = (m.fields.take i).filter (jq names)) (fun ((i, a) : Nat × List ah) => m.fields.length - i) (0, []) rfl (by simp) ?_)))
 rintro ⟨i, a⟩ hI
 refine aC.seq (aC.seq (aC.region (aB.run II 5 rfl (aB.nil (aC.cond rfl (fun hc1 => ?_) (fun hc1 => ?_))))))
 ·have hi := ch hc1
  refine aC.skip (aC.seq (aC.blk (aC.seq (aC.region (aB.run II 1 rfl (aB.nil (aC.seq (aC.seq (aC.region (aB.run II 1 rfl (aB.nil (aC.blk (aC.aK (Kept.aI [.s 8, .s 7, .h, .s 1, .s 2, .b 2, .s 5, .s 6] rfl (by decide) (Kept.now (aC.aX (fun ((k, b) : Nat × Bool) => [(.s 8, .sv (.v (.int .i64 (k : Int)))), (.s 7, .sv (.v (.bool b)))]) _ (fun ((k, b) : Nat × Bool) => b = (names.take k).any (fun n => (m.fields[i]'hi).name == n)) (fun ((k, b) : Nat × Bool) => names.length - k) (0, false) rfl (by simp) ?_))))))))))))))))
  rintro ⟨k, b⟩ hK
  refine aC.seq (aC.seq (aC.region (aB.run II 4 rfl (aB.nil (aC.cond rfl (fun hc2 => ?_) (fun hc2 => ?_))))))
  ·have hk := ch hc2
   refine aC.skip (aC.seq (aC.blk (aC.drawn mixed rfl (aD.run II 2 rfl (aD.tell (d := 24) rfl (fun hg3 => ?_) (fun hg3 => ?_))))))
   ·exact aD.run II 13 rfl (aD.nil (by kernel_rfl) (Kept.now (aC.region (aB.run II 3 rfl (aB.kept (Kept.aY 8 rfl (inc (by omega)) (Kept.aI [.s 8, .s 7, .h, .s 1, .s 2, .b 2, .s 5, .s 6] rfl (by decide) (Kept.now ⟨(k + 1, _), by dsimp only; omega, by dsimp only; rw [qp hk, ← hK, hg3]; rfl, rfl⟩))))))))
   ·exact aD.run II 3 rfl (aD.g1 rfl (aF rfl) rfl rfl (aH (aF rfl) bR rfl rfl (Int.natCast_nonneg _) (bz hi) rfl) (aD.run II 4 rfl (aD.g1 rfl (aF rfl) rfl rfl (aH (aF rfl) cC rfl rfl (Int.natCast_nonneg _) (bz hk) rfl) (aD.run II 4 rfl (aD.nil (by kernel_rfl) (Kept.now (aC.region (aB.run II 3 rfl (aB.kept (Kept.aY 8 rfl (inc (by omega)) (Kept.aI [.s 8, .s 7, .h, .s 1, .s 2, .b 2, .s 5, .s 6] rfl (by decide) (Kept.now ⟨(k + 1, _), by dsimp only; omega, by dsimp only; rw [qp hk, ← hK, hg3, Bool.false_or], rfl⟩))))))))))))
  ·have hk := cj hc2
   refine aC.exit (aC.seq (aC.region (aB.run II 2 rfl (aB.nil (aC.cond rfl (fun hc4 => ?_) (fun hc4 => ?_))))))
   ·refine aC.region (aB.run II 4 rfl (aB.c1 rfl (aH (aF rfl) bR rfl rfl (Int.natCast_nonneg _) (bz hi) rfl) (aB.run II 2 rfl (aB.c3 rfl (kr (aF rfl) eZ kE rfl rfl Hp.cm (qk _) (by simp) rfl rfl rfl (by have h1 := List.length_filter_le (jq names) (m.fields.take i); rw [List.length_take] at h1; have h2 : a.length = _ := congrArg List.length hI; simp only [List.length_cons, List.length_nil]; omega) (by have h1 := List.length_filter_le (jq names) (m.fields.take i); rw [List.length_take] at h1; have h2 : a.length = _ := congrArg List.length hI; simp only [List.length_cons, List.length_nil]; omega)) ?_))))
    exact aB.run II 1 rfl (aB.nil (aC.region (aB.run II 3 rfl (aB.kept (Kept.nR rfl Hp.il (Kept.aY 6 rfl (inc (by omega)) (Kept.aI [.s 6, .s 5, .h, .s 1, .s 2, .b 2] rfl (by decide) (Kept.now ⟨(i + 1, a ++ [(m.fields[i]'hi)]), by dsimp only; omega, by dsimp only; rw [hI]; exact HB hi (by dsimp only at hK; rw [List.take_of_length_le (by omega)] at hK; unfold jq; rw [← hK]; exact hc4), yV⟩))))))))
   ·exact aC.skip (aC.region (aB.run II 3 rfl (aB.kept (Kept.nR rfl rfl (Kept.aY 6 rfl (inc (by omega)) (Kept.aI [.s 6, .s 5, .h, .s 1, .s 2, .b 2] rfl (by decide) (Kept.now ⟨(i + 1, a), by dsimp only; omega, by dsimp only; rw [hI]; exact HC hi (by dsimp only at hK; rw [List.take_of_length_le (by omega)] at hK; unfold jq; rw [← hK]; exact hc4), rfl⟩)))))))
 ·have hi := cj hc1
  refine aC.exit (aC.seq (aC.region (aB.run II 2 rfl (aB.nil (aC.ret ?_)))))
  have ha : a = bB m.fields names := (by rw [hI, List.take_of_length_le (by omega)]; rfl)
  subst ha
  exact ⟨.inr rfl, (aE.r1 rfl (.tmp rfl .nil)).cast rfl, rfl⟩
/- the document: a step applied -/
theorem rm : ab Tryz.prog 43 = true := by kernel_rfl
theorem HT : ab Tryz.prog 76 = true := by kernel_rfl
theorem HS : ab Tryz.prog 77 = true := by kernel_rfl
theorem HR : ab Tryz.prog 79 = true := by kernel_rfl
theorem HQ : ab Tryz.prog 80 = true := by kernel_rfl
theorem HP : ab Tryz.prog 81 = true := by kernel_rfl
theorem HO : ab Tryz.prog 82 = true := by kernel_rfl
theorem HN : ab Tryz.prog 83 = true := by kernel_rfl
theorem HM : ab Tryz.prog 84 = true := by kernel_rfl
theorem B0 : ab Tryz.prog 85 = true := by kernel_rfl
theorem Ci : zk Tryz.prog 25 = some [(0, 1), (1, 1)] := by kernel_rfl
theorem JR : mx Tryz.prog 25 = some [.nsl, .nsl] := by kernel_rfl
def mN : Except Int aN → AV
 | .ok t => .tup [t.av, .int .i64 0]
 | .error e => .tup [.agg [.sl [], .sl []], .int .i64 e]
theorem Il {n i : Nat} (h : decide ((i : Int) < (n : Int)) = true) : i < n := by have := of_decide_eq_true h; omega
theorem BO {n i : Nat} (h : decide ((i : Int) < (n : Int)) = false) : n ≤ i := by have := of_decide_eq_false h; omega
def aS.dR (s : aN) (x : aS) (m : aT) : aT := { m with fields := (bB m.fields x.goes).map x.changed ++ x.comes s (m.aQ x.field) }
def aS.outs (s : aN) (x : aS) (at_ : Nat) (m : aT) : aN := (⟨s.enums, x.msgs s at_ (x.dR s m) (m.aQ x.field).ref⟩ : aN).sorted
theorem xX {s : aN} {x : aS} (h : s.fb ≠ 0 ∨ x.right = false) : s.apply x = .error 1 := by unfold aN.apply; rw [if_pos h]
theorem Ek {s : aN} {x : aS} (h1 : s.fb = 0) (h2 : x.right = true) (h : s.bH x.msg < 0) : s.apply x = .error 5 := by unfold aN.apply; rw [if_neg (by simp [h1, h2]), if_pos h]
theorem Ej {s : aN} {x : aS} (h1 : s.fb = 0) (h2 : x.right = true) {i : Nat} {m : aT} (h3 : s.bH x.msg = (i : Int)) (h4 : s.msgs[i]? = some m) :
  s.apply x = if x.bn.all m.eI = false then .error 5 else if x.asked s m = false then .error 7 else if x.there s { m with fields := bB m.fields x.goes } (x.comes s (m.aQ x.field)) = true then .error 6 else if (x.outs s i m).fb ≠ 0 then .error (x.outs s i m).fb else .ok (x.outs s i m) := by
 unfold aN.apply
 rw [if_neg (by simp [h1, h2]), if_neg (by rw [h3]; omega)]
 have hg : s.msgs.getD i j9 = m := by rw [List.getD_eq_getElem?_getD, h4]; rfl
 simp only [h3, Int.toNat_natCast, hg]
 rfl
theorem Ar {s : aN} {n : au} (h : ¬ s.bH n < 0) : ∃ (i : Nat) (m : aT), s.bH n = (i : Int) ∧ s.msgs[i]? = some m := by
 obtain ⟨i, hi, e, hn⟩ := kQ _ _ h
 exact ⟨i, s.msgs[i], e, List.getElem?_eq_getElem hi⟩
theorem mI {m : aT} {n : au} : m.eI n = decide (0 ≤ m.cZ n) := by
 rcases an (fun f : ah => f.name == n) m.fields 0 with ⟨q1, q2⟩ | ⟨i, hi, q1, q2, q3⟩
 ·have h4 : m.eI n = false := List.any_eq_false.2 (fun f hf => by have := List.find?_eq_none.1 q2 f hf; simpa using this)
  have e : m.cZ n = -1 := q1
  rw [h4, e]; rfl
 ·have e : m.cZ n = ((0 + i : Nat) : Int) := q1
  have h4 : m.eI n = true := List.any_eq_true.2 ⟨_, List.getElem_mem hi, q3⟩
  rw [h4, e]; simp
theorem Ap {m : aT} {x : aS} {i : Nat} (hi : i < x.bn.length) (h : m.cZ x.bn[i] < 0) : x.bn.all m.eI = false :=
 List.all_eq_false.2 ⟨_, List.getElem_mem hi, by rw [mI]; simp; omega⟩
theorem m0 {m : aT} {x : aS} {i : Nat} (hi : x.bn.length ≤ i) (h : ∀ k (hk : k < x.bn.length), k < i → 0 ≤ m.cZ x.bn[k]) : x.bn.all m.eI = true :=
 List.all_eq_true.2 fun n hn => by
  obtain ⟨k, hk, rfl⟩ := List.getElem_of_mem hn
  rw [mI]; simpa using h k hk (by omega)
def nV (x : aS) (l : List ah) (j : Nat) : List ah := (l.take j).map x.changed ++ l.drop j
theorem wk {x : aS} {l : List ah} {j : Nat} : (nV x l j).length = l.length := by unfold nV; simp; omega
theorem Du {x : aS} {l : List ah} {j : Nat} (hj : j < l.length) : ((nV x l j).map ah.av)[j]? = some (.agg l[j].cells) := by
 unfold nV
 have h1 : ((l.take j).map x.changed).length = j := by simp; omega
 rw [List.getElem?_map, List.getElem?_append_right (by omega), h1, Nat.sub_self, List.getElem?_drop, Nat.add_zero, List.getElem?_eq_getElem hj]; rfl
theorem Dt {x : aS} {l : List ah} {j : Nat} (hj : j < l.length) : ((nV x l j).map ah.av).set j (.agg (x.changed l[j]).cells) = (nV x l (j + 1)).map ah.av := by
 have h1 : ((l.take j).map x.changed).length = j := by simp; omega
 unfold nV
 have e : (.agg (x.changed l[j]).cells : AV) = (x.changed l[j]).av := rfl
 rw [e, ← List.map_set, List.set_append_right _ _ (by omega), h1, Nat.sub_self, List.drop_eq_getElem_cons hj, List.set_cons_zero, List.take_add_one, List.getElem?_eq_getElem hj]
 simp only [Option.toList, List.map_append, List.append_assoc, List.map_cons, List.map_nil, List.cons_append, List.nil_append]
theorem Dv {x : aS} {l : List ah} {j : Nat} (hj : l.length ≤ j) : nV x l j = l.map x.changed := by
 unfold nV; rw [List.take_of_length_le hj, List.drop_eq_nil_of_le hj, List.append_nil]
theorem Jg {x : aS} {l : List ah} {j k : Nat} {v : CV} {rest : List (aM × CV)} {H : Hp} (hj : j < l.length) : ((aM.s 14, v) :: (aM.h, CV.hp (H.bump k (az (((nV x l j).map ah.av).set j (.agg (x.changed l[j]).cells))))) :: rest) = [(aM.s 14, v), (aM.h, CV.hp (H.bump k (az ((nV x l (j + 1)).map ah.av))))] ++ rest := by rw [Dt hj]; rfl
theorem vI {id k : Nat} {R l : List ah} {m : aT} {s : aN} {x : aS} (hk : k = R.length) : [s.av, AV.agg [.str m.name, .os id k 7, .sl (m.ai.map jQ)], x.av, .sl (l.map ah.av)].map (k7 id (R.map ah.av)) = [s.av, ({ m with fields := R } : aT).av, x.av, .sl (l.map ah.av)] := by
 subst hk
 have e : (R.map ah.av).take R.length = R.map ah.av := List.take_of_length_le (by simp)
 simp [k7, fg, aN.av, aN.cells, aT.av, aT.cells, aS.av, aS.cells, e]
theorem Iu {id n : Nat} {R : List ah} {m : aT} (hn : n = R.length) : [Sv.v (.str m.name), .v (.os id n 7), .v (.sl (m.ai.map jQ))].map (m8 id (R.map ah.av)) = [Sv.v (.str m.name), .v (.sl (R.map ah.av)), .v (.sl (m.ai.map jQ))] := by
 subst hn
 have e : (R.map ah.av).take R.length = R.map ah.av := List.take_of_length_le (by simp)
 simp [m8, fg, e]
def CT (x : aS) (at_ : Nat) (r : aT) (ref : au) : aT × Nat → Option aT := fun (m, i) => if i = at_ then some r else if x.kind = 7 ∧ m.name = ref then none else some m
def cL (s : aN) (x : aS) (at_ : Nat) (r : aT) (ref : au) (i : Nat) : List aT := (s.msgs.zipIdx.take i).filterMap (CT x at_ r ref)
theorem dH {s : aN} {x : aS} {at_ : Nat} {r : aT} {ref : au} {i : Nat} : (cL s x at_ r ref i).length ≤ s.msgs.length := by
 unfold cL
 refine Nat.le_trans (List.length_filterMap_le _ _) ?_
 rw [List.length_take, List.length_zipIdx]; omega
theorem nI {s : aN} {x : aS} {at_ : Nat} {r : aT} {ref : au} {i : Nat} (hi : i < s.msgs.length) : cL s x at_ r ref (i + 1) = cL s x at_ r ref i ++ (CT x at_ r ref (s.msgs[i], i)).toList := by
 unfold cL
 rw [List.take_add_one, List.filterMap_append]
 have : s.msgs.zipIdx[i]? = some (s.msgs[i], i) := by simp [List.getElem?_zipIdx, hi]
 rw [this]
 cases h : CT x at_ r ref (s.msgs[i], i) <;> simp [h]
theorem oy {s : aN} {x : aS} {at_ : Nat} {m : aT} {i : Nat} (hi : s.msgs.length ≤ i) (h4 : s.msgs[at_]? = some m) : x.msgs s at_ (x.dR s m) (m.aQ x.field).ref = cL s x at_ (x.dR s m) (m.aQ x.field).ref i ++ (if x.kind = 6 then [{ j9 with name := x.dest, fields := [m.aQ x.field] }] else []) := by
 unfold aS.msgs cL
 have hg : s.msgs.getD at_ j9 = m := by rw [List.getD_eq_getElem?_getD, h4]; rfl
 rw [hg, List.take_of_length_le (by simpa using hi)]
 rfl
theorem Jf {s : aN} {x : aS} {at_ : Nat} {r : aT} {ref : au} {i el esz : Nat} {v : CV} {w : Sv} {rest : List (aM × CV)} {t : Nat} {a : AV} (hi : i < s.msgs.length) {r' : aT} (ha : a = r'.av) (h : CT x at_ r ref (s.msgs[i], i) = some r') :
  ((aM.s 16, v) :: (aM.b 15, CV.bx [w, .ow t ((cL s x at_ r ref i).map aT.av ++ [a])]) :: (aM.t t, CV.tk false el esz ((cL s x at_ r ref i).map aT.av ++ [a])) :: rest) = [(aM.s 16, v), (aM.b 15, CV.bx [w, .ow t ((cL s x at_ r ref (i + 1)).map aT.av)]), (aM.t t, CV.tk false el esz ((cL s x at_ r ref (i + 1)).map aT.av))] ++ rest := by
 rw [nI hi, h, ha]; simp
theorem KL {s : aN} {x : aS} {at_ : Nat} {r : aT} {ref : au} {i el esz : Nat} {v : CV} {w : Sv} {rest : List (aM × CV)} {t : Nat} (hi : i < s.msgs.length) (h : CT x at_ r ref (s.msgs[i], i) = none) :
  ((aM.s 16, v) :: (aM.b 15, CV.bx [w, .ow t ((cL s x at_ r ref i).map aT.av)]) :: (aM.t t, CV.tk false el esz ((cL s x at_ r ref i).map aT.av)) :: rest) = [(aM.s 16, v), (aM.b 15, CV.bx [w, .ow t ((cL s x at_ r ref (i + 1)).map aT.av)]), (aM.t t, CV.tk false el esz ((cL s x at_ r ref (i + 1)).map aT.av))] ++ rest := by
 rw [nI hi, h]; simp
theorem kT {s : aN} {f : ah} {x : aS} : (x.comes s f).length ≤ 2 := by
 unfold aS.comes
 repeat' split
 all_goals simp
theorem yd {s : aN} {x : aS} {m : aT} (h : m.fields.length ≤ 10) : (x.dR s m).fields.length ≤ 12 := by
 have h1 := List.length_filter_le (fun f : ah => !(x.goes.any fun n => f.name == n)) m.fields
 have h2 := @kT s (m.aQ x.field) x
 show ((bB m.fields x.goes).map x.changed ++ x.comes s (m.aQ x.field)).length ≤ 12
 unfold bB
 rw [List.length_append, List.length_map]; omega
theorem o6 {s : aN} (hs : s.sm) {x : aS} {at_ : Nat} {m : aT} {ref : au} (hm : m ∈ s.msgs) {l : List aT} (hl : l.length ≤ 1) (hf : ∀ y ∈ l, y.fields.length ≤ 1 ∧ y.ai = []) {i : Nat} : (⟨s.enums, cL s x at_ (x.dR s m) ref i ++ l⟩ : aN).Aw := by
 have hmem : ∀ y ∈ cL s x at_ (x.dR s m) ref i, y = x.dR s m ∨ y ∈ s.msgs := by
  intro y hy
  obtain ⟨⟨z, k⟩, hz, he⟩ := List.mem_filterMap.1 hy
  simp only [CT] at he
  split at he
  ·cases he; exact .inl rfl
  ·split at he
   ·cases he
   ·cases he
    have := List.mem_of_mem_take hz
    exact .inr (List.fst_mem_of_mem_zipIdx this)
 have hlen : (cL s x at_ (x.dR s m) ref i).length ≤ 6 := by
  unfold cL
  refine Nat.le_trans (List.length_filterMap_le _ _) ?_
  rw [List.length_take, List.length_zipIdx]; have := hs.m; omega
 refine ⟨by have := hs.e; show s.enums.length ≤ 100; omega, by show (cL s x at_ (x.dR s m) ref i ++ l).length ≤ 100; rw [List.length_append]; omega, fun y hy => by have := hs.v y hy; omega, fun y hy => ?_, fun y hy => ?_⟩
 ·rcases List.mem_append.1 hy with h | h
  ·rcases hmem y h with rfl | h2
   ·have := yd (s := s) (x := x) (hs.f m hm); omega
   ·have := hs.f y h2; omega
  ·have := (hf y h).1; omega
 ·rcases List.mem_append.1 hy with h | h
  ·rcases hmem y h with rfl | h2
   ·have := hs.b m hm; show m.ai.length ≤ 100; omega
   ·have := hs.b y h2; omega
  ·rw [(hf y h).2]; decide
theorem ng {α : Type} (l : List α) (k : Nat) (x : α) : (eH l k x).length = l.length + 1 := by unfold eH; simp; omega
theorem oF (s : aN) : s.sorted.enums.length = s.enums.length ∧ s.sorted.msgs.length = s.msgs.length := by
 have h1 : ∀ (l acc : List dU), (l.foldl vS acc).length = acc.length + l.length := by
  intro l
  induction l with
  | nil => intro acc; simp
  | cons a l ih => intro acc; rw [List.foldl_cons, ih]; unfold vS; rw [ng]; simp; omega
 have h2 : ∀ (l acc : List aT), (l.foldl js acc).length = acc.length + l.length := by
  intro l
  induction l with
  | nil => intro acc; simp
  | cons a l ih => intro acc; rw [List.foldl_cons, ih]; unfold js; rw [ng]; simp; omega
 exact ⟨by show (s.enums.foldl vS []).length = _; rw [h1]; simp, by show (s.msgs.foldl js []).length = _; rw [h2]; simp⟩
theorem wm {s : aN} (h : s.Aw) : s.sorted.dj := ⟨by have := h.e; rw [(oF s).1]; omega, by have := h.m; rw [(oF s).2]; omega⟩
theorem BN {x : aS} : x.goes.length ≤ 2 := by
 unfold aS.goes
 repeat' split
 all_goals simp
theorem qc {s : aN} (hs : s.sm) {x : aS} {at_ : Nat} {m : aT} {ref : au} (hm : m ∈ s.msgs) {i : Nat} : (⟨s.enums, cL s x at_ (x.dR s m) ref i⟩ : aN).Aw := by
 have := o6 hs (x := x) (at_ := at_) (ref := ref) (i := i) hm (l := []) (by simp) (by simp)
 rwa [List.append_nil] at this
theorem yD (E : List dU) (l k : List aT) (h : (⟨E, l ++ k⟩ : aN).Aw) : Pure Tryz.prog 85 [.agg [.sl (E.map dU.av), .sl (l.map aT.av ++ k.map aT.av)]] (⟨E, l ++ k⟩ : aN).sorted.av := by
 rw [← List.map_append]; exact sf _ h
theorem FD {s : aN} {x : aS} {at_ : Nat} {m : aT} {i : Nat} (hi : s.msgs.length ≤ i) (h4 : s.msgs[at_]? = some m) (hk : x.kind = 6) : x.outs s at_ m = (⟨s.enums, cL s x at_ (x.dR s m) (m.aQ x.field).ref i ++ [{ j9 with name := x.dest, fields := [m.aQ x.field] }]⟩ : aN).sorted := by
 unfold aS.outs; rw [oy hi h4, if_pos hk]
theorem FC {s : aN} {x : aS} {at_ : Nat} {m : aT} {i : Nat} (hi : s.msgs.length ≤ i) (h4 : s.msgs[at_]? = some m) (hk : x.kind ≠ 6) : x.outs s at_ m = (⟨s.enums, cL s x at_ (x.dR s m) (m.aQ x.field).ref i⟩ : aN).sorted := by
 unfold aS.outs; rw [oy hi h4, if_neg hk, List.append_nil]
theorem yb {x : aS} (h : x.names.length ≤ 1000) : x.bn.length ≤ 1000 := by
 unfold aS.bn
 repeat' split
 all_goals first | exact h | simp
theorem Hy {s : aN} {m : aT} {x : aS} (h : x.asked s m = true) (hk : x.kind = 7) : s.boxed m (m.aQ x.field) = true := by
 unfold aS.asked at h
 rw [hk] at h
 exact h
def ag (D : Nat → Prop) (l : List AV) : Prop := ∀ x ∈ l, bC D x
theorem ag.nil {D : Nat → Prop} : ag D [] := fun x hx => by cases hx
theorem ag.cons {D : Nat → Prop} {a : AV} {l : List AV} (h : bC D a) (t : ag D l) : ag D (a :: l) := fun x hx => by
 rcases List.mem_cons.1 hx with rfl | hx
 ·exact h
 ·exact t x hx
theorem ag.map {D : Nat → Prop} {α : Type} {f : α → AV} {l : List α} (h : ∀ x ∈ l, bC D (f x)) : ag D (l.map f) := fun x hx => by
 obtain ⟨y, hy, rfl⟩ := List.mem_map.1 hx
 exact h y hy
theorem ah.ops {D : Nat → Prop} (f : ah) : bC D f.av := .agg _ (ag.cons (.str _) (ag.cons (.int _ _) (ag.cons (.int _ _) (ag.cons (.str _) (ag.cons (.bool _) (ag.cons (.bool _) (ag.cons (.str _) ag.nil)))))))
theorem aT.ops {D : Nat → Prop} (m : aT) : bC D m.av := .agg _ (ag.cons (.str _) (ag.cons (.sl _ (ag.map fun f _ => f.ops)) (ag.cons (.sl _ (ag.map fun n _ => .int _ n)) ag.nil)))
theorem iu.ops {D : Nat → Prop} (v : iu) : bC D v.av := .agg _ (ag.cons (.str _) (ag.cons (.int _ _) ag.nil))
theorem dU.ops {D : Nat → Prop} (e : dU) : bC D e.av := .agg _ (ag.cons (.str _) (ag.cons (.sl _ (ag.map fun f _ => f.ops)) ag.nil))
theorem aN.ops {D : Nat → Prop} (s : aN) : bC D s.av := .agg _ (ag.cons (.sl _ (ag.map fun f _ => f.ops)) (ag.cons (.sl _ (ag.map fun f _ => f.ops)) ag.nil))
theorem zO {D : Nat → Prop} (e : Except Int aN) : bC D (mN e) := by
 cases e with
 | ok t => exact .tup _ (ag.cons t.ops (ag.cons (.int _ _) ag.nil))
 | error e => exact .tup _ (ag.cons (.agg _ (ag.cons (.sl _ ag.nil) (ag.cons (.sl _ ag.nil) ag.nil))) (ag.cons (.int _ _) ag.nil))
theorem wT (s : aN) (x : aS) (hs : s.dj) (hx : x.dj) (hn : x.names.length ≤ 1000) : Pure Tryz.prog 44 [s.av, x.av] (mN (s.apply x)) := by
 refine fun H => cT.fin fun hfin => (cT.kM Tryz.func44 rfl rfl (aF rfl) (zO _) (aC.seq (aC.region (aB.run II 4 rfl (aB.nil (aC.cE [.h, .s 2, .b 2, .s 3, .b 3, .s 4, .b 4] (fun (_ : Unit) => []) (fun (_ : Unit) => s.fb = 0 ∧ x.right = true) rfl ?_ ?_))))))
 ·refine aC.seq (aC.region (aB.run II 1 rfl (aB.c1 rfl (aG (aF rfl) rm rfl (wS s hs)) (aB.run II 2 rfl (aB.tell (d := 21) rfl (fun hg1 => ?_) (fun hg1 => ?_))))))
  ·exact aB.run II 4 rfl (aB.nil (aC.ar rfl rfl (aC.seq (aC.region (aB.run II 3 rfl (aB.nil (aC.ret ⟨.inr rfl, (aE.r2 rfl (.cell fE rfl rfl rfl rfl (.tmp rfl .nil))).cast (congrArg mN (xX (.inl (by simpa using hg1))).symm), H, rfl, Nat.le_refl _, fun _ _ => rfl⟩)))))))
  ·refine aB.run II 1 rfl (aB.g1 rfl (aF rfl) rfl rfl (aG (aF rfl) HT rfl (Cy x hx)) (aB.run II 2 rfl (aB.nil (aC.cond rfl (fun hc2 => ?_) (fun hc2 => ?_)))))
   ·exact aC.seq (aC.region (aB.run II 3 rfl (aB.nil (aC.ret ⟨.inr rfl, (aE.r2 rfl (.cell fE rfl rfl rfl rfl (.tmp rfl .nil))).cast (congrArg mN (xX (.inr (by simpa using hc2))).symm), H, rfl, Nat.le_refl _, fun _ _ => rfl⟩))))
   ·exact aC.aK (Kept.aI [.h, .s 2, .b 2, .s 3, .b 3, .s 4, .b 4] rfl (by decide) (Kept.now (aC.skip (⟨(), ⟨by simpa using hg1, by simpa using hc2⟩, rfl⟩))))
 ·rintro _ hF3
  have hok := aN.jL hF3.1
  have hsm := hok.sm
  refine aC.seq (aC.region (aB.run II 3 rfl (aB.c1 rfl (aG (aF rfl) jw rfl (gw s x.msg (by have := hs.m; omega))) ?_)))
  refine aB.run II 1 rfl (aB.nil (aC.cE [.h, .s 2, .b 2, .s 3, .b 3, .s 4, .b 4, .s 6] (fun (_ : Unit) => []) (fun (_ : Unit) => ¬ s.bH x.msg < 0) rfl ?_ ?_))
  ·refine aC.seq (aC.region (aB.run II 2 rfl (aB.nil (aC.cond rfl (fun hc3 => ?_) (fun hc3 => ?_)))))
   ·exact aC.seq (aC.region (aB.run II 3 rfl (aB.nil (aC.ret ⟨.inr rfl, (aE.r2 rfl (.cell fE rfl rfl rfl rfl (.tmp rfl .nil))).cast (congrArg mN (Ek hF3.1 hF3.2 (of_decide_eq_true hc3)).symm), H, rfl, Nat.le_refl _, fun _ _ => rfl⟩))))
   ·exact aC.aK (Kept.aI [.h, .s 2, .b 2, .s 3, .b 3, .s 4, .b 4, .s 6] rfl (by decide) (Kept.now (aC.skip ⟨(), of_decide_eq_false hc3, rfl⟩)))
  ·rintro _ hF6
   obtain ⟨i0, m, h0, hm0⟩ := Ar (s := s) (n := x.msg) (by omega)
   have hmm : m ∈ s.msgs := List.mem_of_getElem? hm0
   have hmf := hsm.f m hmm
   have hmb := hsm.b m hmm
   have hap := Ej hF3.1 hF3.2 h0 hm0
   refine aC.seq (aC.region (aB.run II 3 rfl (aB.c1 rfl (aH (aF rfl) bQ rfl rfl (by omega) (by rw [h0, Int.toNat_natCast, List.getElem?_map, hm0]; rfl) rfl) ?_)))
   refine aB.run II 3 rfl (aB.nil (aC.seq (aC.region (aB.run II 1 rfl (aB.c1 rfl (aG (aF rfl) HS rfl (DC _)) (aB.run II 1 rfl (aB.nil (aC.seq (aC.seq (aC.region (aB.run II 1 rfl (aB.nil (aC.blk (aC.aK (Kept.aI [.s 9, .h, .s 2, .b 2, .s 3, .b 3, .s 4, .b 4, .s 6, .s 7, .b 7, .s 8] rfl (by decide) (Kept.now (aC.aX (fun (i : Nat) => [(.s 9, .sv (.v (.int .i64 (i : Int))))]) _ (fun (i : Nat) => ∀ k (hk : k < x.bn.length), k < i → 0 ≤ m.cZ x.bn[k]) (fun (i : Nat) => x.bn.length - i) 0 rfl (by intro k _ h; omega) ?_)))))))))))))))))
   rintro i hI
   have hnl : x.bn.length ≤ 1000 := yb hn
   refine aC.seq (aC.seq (aC.region (aB.run II 4 rfl (aB.nil (aC.cond rfl (fun hc4 => ?_) (fun hc4 => ?_))))))
   ·have hi := ch hc4
    refine aC.skip (aC.seq (aC.blk (aC.seq (aC.drawn mixed rfl (aD.run II 3 rfl (aD.c1 rfl (aH (aF rfl) cC rfl rfl (Int.natCast_nonneg _) (bz hi) rfl) (aD.run II 1 rfl (aD.c1 rfl (aG (aF rfl) pT rfl (iQ m _ (by omega))) (aD.run II 1 rfl (aD.nil (by kernel_rfl) (Kept.now (aC.cond rfl (fun hc5 => ?_) (fun hc5 => ?_)))))))))))))
    ·exact aC.seq (aC.region (aB.run II 3 rfl (aB.nil (aC.ret ⟨.inr rfl, (aE.r2 rfl (.cell fE rfl rfl rfl rfl (.tmp rfl .nil))).cast (by rw [hap, if_pos (Ap hi (of_decide_eq_true hc5))]; rfl), H, rfl, Nat.le_refl _, fun _ _ => rfl⟩))))
    ·exact aC.skip (aC.region (aB.run II 3 rfl (aB.kept (Kept.aY 9 rfl (inc (by omega)) (Kept.aI [.s 9, .h, .s 2, .b 2, .s 3, .b 3, .s 4, .b 4, .s 6, .s 7, .b 7, .s 8] rfl (by decide) (Kept.now ⟨i + 1, by omega, fun k hk h => by rcases Nat.lt_or_ge k i with q | q; exact hI k hk q; have e : k = i := (by omega); subst e; exact Int.not_lt.1 (of_decide_eq_false hc5), rfl⟩))))))
   ·have hi := cj hc4
    refine aC.exit (aC.seq (aC.seq (aC.region (aB.run II 3 rfl (aB.c1 rfl (aG (aF rfl) HR rfl (DM s m x hsm (by omega) (m0 hi hI) hn)) (aB.run II 1 rfl (aB.nil (aC.cond rfl (fun hc6 => ?_) (fun hc6 => ?_)))))))))
    ·exact aC.seq (aC.region (aB.run II 3 rfl (aB.nil (aC.ret ⟨.inr rfl, (aE.r2 rfl (.cell fE rfl rfl rfl rfl (.tmp rfl .nil))).cast (by rw [hap, if_neg (by rw [m0 hi hI]; decide), if_pos (by simpa using hc6)]; rfl), H, rfl, Nat.le_refl _, fun _ _ => rfl⟩))))
    ·refine aC.skip (aC.seq (aC.region (aB.run II 3 rfl (aB.nil (aC.cE [.h, .s 2, .b 2, .s 3, .b 3, .s 4, .b 4, .s 6, .s 7, .b 7] (fun (_ : Unit) => [(.s 10, .sv (.lp 10 0)), (.b 10, .bx [.v (.str (m.aQ x.field).name), .v (.int .i64 (m.aQ x.field).num), .v (.int .i64 (m.aQ x.field).ty), .v (.str (m.aQ x.field).ref), .v (.bool (m.aQ x.field).rep), .v (.bool (m.aQ x.field).loose), .v (.str (m.aQ x.field).one)])]) (fun (_ : Unit) => True) rfl ?_ ?_)))))
     ·refine aC.seq (aC.region (aB.run II 3 rfl (aB.c1 rfl (aG (aF rfl) pT rfl (iQ m _ (by omega))) (aB.run II 1 rfl (aB.nil (aC.seq (aC.region (aB.run II 2 rfl (aB.nil (aC.cond rfl (fun hc7 => ?_) (fun hc7 => ?_)))))))))))
      ·exact aC.region (aB.run II 3 rfl (aB.c1 rfl (aH (aF rfl) bR rfl rfl (of_decide_eq_true hc7) (iB (of_decide_eq_true hc7)) rfl) (aB.run II 2 rfl (aB.kept (Kept.aI [.s 10, .b 10, .h, .s 2, .b 2, .s 3, .b 3, .s 4, .b 4, .s 6, .s 7, .b 7] rfl (by decide) (Kept.now ⟨(), trivial, rfl⟩))))))
      ·exact aC.aK (Kept.aI [.s 10, .b 10, .h, .s 2, .b 2, .s 3, .b 3, .s 4, .b 4, .s 6, .s 7, .b 7] rfl (by decide) (Kept.now (aC.skip ⟨(), trivial, by rw [pY (of_decide_eq_false hc7)]; rfl⟩)))
     ·rintro _ hF19
      have hna := m0 hi hI
      have hask : x.asked s m = true := (by simpa using hc6)
      refine aC.seq (aC.region (aB.run II 3 rfl (aB.nil (aC.seq (aC.drawn mixed rfl (aD.run II 2 rfl (aD.c1 rfl (aG (aF rfl) HP rfl (Fu _)) (aD.c2 rfl (cK (aF rfl) HQ rfl rfl (uj m x.goes (by omega) (by have : x.goes.length ≤ 2 := BN; omega) H)) ?_))))))))
      refine aD.run II 2 rfl (aD.nil (by kernel_rfl) (Kept.now (aC.seq (aC.region (aB.run II 3 rfl (aB.c1 rfl (aG (aF rfl) HO rfl (DJ s _ x m hsm (fun h => Hy (by simpa using hc6) h))) (aB.run II 1 rfl (aB.nil (aC.seq (aC.seq (aC.region (aB.run II 4 rfl (aB.c1 rfl (tH (H.next + (bB m.fields x.goes).length) ((bB m.fields x.goes).map ah.av) (aF rfl) HN rfl rfl Hp.cm (qk _) (vI rfl) (Cs s ({ m with fields := (bB m.fields x.goes) } : aT) x (x.comes s (m.aQ x.field)) hsm (by have hwl : (bB m.fields x.goes).length ≤ 10 := Nat.le_trans (List.length_filter_le _ _) hmf; show (bB m.fields x.goes).length ≤ 100; omega) (by show m.ai.length ≤ 100; omega) (by have := @kT s (m.aQ x.field) x; omega)) rfl) ?_)))))))))))))
      refine aB.nil (aC.cond rfl (fun hc8 => ?_) (fun hc8 => ?_))
      ·exact aC.seq (aC.region (aB.run II 3 rfl (aB.nil (aC.ret ⟨.inr rfl, (aE.r2 rfl (.cell fE rfl rfl rfl rfl (.tmp rfl .nil))).cast (by rw [hap, if_neg (by rw [hna]; decide), if_neg (by rw [hask]; decide), if_pos hc8]; rfl), _, rfl, (by show H.next ≤ H.next + _ + 1; omega), fun i hi => Hp.jx hi⟩))))
      ·refine aC.skip (aC.seq (aC.seq (aC.region (aB.run II 1 rfl (aB.nil (aC.blk (aC.aK (Kept.aI [.s 14, .h, .s 2, .b 2, .s 3, .b 3, .s 4, .b 4, .s 6, .s 10, .b 10, .s 12, .b 12, .s 13] rfl (by decide) (Kept.now (aC.aX (fun (j : Nat) => [(.s 14, .sv (.v (.int .i64 (j : Int)))), (.h, .hp (H.bump (bB m.fields x.goes).length (az ((nV x (bB m.fields x.goes) j).map ah.av))))]) _ (fun (j : Nat) => True) (fun (j : Nat) => (bB m.fields x.goes).length - j) 0 rfl trivial ?_))))))))))
       rintro j hJ
       have hwl : (bB m.fields x.goes).length ≤ 10 := Nat.le_trans (List.length_filter_le _ _) hmf
       refine aC.seq (aC.seq (aC.region (aB.run II 5 rfl (aB.nil (aC.cond rfl (fun hc9 => ?_) (fun hc9 => ?_))))))
       ·have hj := Il hc9
        refine aC.skip (aC.seq (aC.blk (aC.drawn mixed rfl (aD.run II 6 rfl (aD.c1 rfl (bU (aF rfl) bR rfl rfl (Int.natCast_nonneg _) (by omega)) (aD.c1 rfl (jH (aF rfl) jj rfl rfl Hp.cm (qk _) rfl (Du hj)) (aD.run II 1 rfl (aD.c1 rfl (aG (aF rfl) HM rfl (yQ _ x (by omega))) (aD.c1 rfl (bU (aF rfl) bR rfl rfl (Int.natCast_nonneg _) (by omega)) (aD.c1 rfl (kk jj rfl rfl Hp.cm rfl (qk _) rfl (by rw [List.length_map, wk]; exact hj) rfl) ?_))))))))))
        exact aD.nil (by kernel_rfl) (Kept.now (aC.region (aB.run II 3 rfl (aB.kept (Kept.nR rfl Hp.uF (Kept.aY 14 rfl (inc (by omega)) (Kept.aI [.s 14, .h, .s 2, .b 2, .s 3, .b 3, .s 4, .b 4, .s 6, .s 10, .b 10, .s 12, .b 12, .s 13] rfl (by decide) (Kept.now ⟨j + 1, by omega, trivial, Jg hj⟩))))))))
       ·have hj := BO hc9
        refine aC.exit (aC.seq (aC.region (aB.run II 3 rfl (aB.c3 rfl (kr (aF rfl) eZ kE rfl rfl Hp.cm (qk _) (by rw [List.length_map, wk]) rfl (bw ah.cells (fun _ => rfl) _) rfl (by have hwl : (bB m.fields x.goes).length ≤ 10 := Nat.le_trans (List.length_filter_le _ _) hmf; have := @kT s (m.aQ x.field) x; rw [List.length_map]; omega) (by have hwl : (bB m.fields x.goes).length ≤ 10 := Nat.le_trans (List.length_filter_le _ _) hmf; have := @kT s (m.aQ x.field) x; rw [List.length_map]; omega)) ?_))))
        refine aB.run II 2 rfl (aB.kept (Kept.nR rfl (show _ = H.bump ((bB m.fields x.goes).length + 1) (az ((x.dR s m).fields.map ah.av)) from (by rw [Hp.il, Dv hj, ← List.map_append]; rfl)) (Kept.HJ 12 (H.next + ((bB m.fields x.goes).length + 1)) rfl rfl Hp.cm (qk _) (Iu (by show _ = ((bB m.fields x.goes).map x.changed ++ x.comes s (m.aQ x.field)).length; simp)) (Kept.now ?_))))
        refine aC.seq (aC.region (aB.run II 2 rfl (aB.c1 rfl (jI (aF rfl) Ci JR rfl rfl) (aB.run II 2 rfl (aB.kept (Kept.wc 15 1 150 75 3 rfl rfl rfl rfl (by decide) (Kept.now (aC.seq (aC.seq (aC.region (aB.run II 1 rfl (aB.nil (aC.blk (aC.aK (Kept.aI [.s 16, .b 15, .t 150, .h, .s 2, .b 2, .s 3, .b 3, .s 4, .b 4, .s 6, .s 10, .b 10, .s 12, .b 12, .s 15] rfl (by decide) (Kept.now (aC.aX (fun (i : Nat) => [(.s 16, .sv (.v (.int .i64 (i : Int)))), (.b 15, .bx [.v (.sl (s.enums.map dU.av)), .ow 150 ((cL s x i0 (x.dR s m) (m.aQ x.field).ref i).map aT.av)]), (.t 150, .tk false 75 3 ((cL s x i0 (x.dR s m) (m.aQ x.field).ref i).map aT.av))]) _ (fun (i : Nat) => True) (fun (i : Nat) => s.msgs.length - i) 0 rfl trivial ?_)))))))))))))))))
        rintro i hI3
        have h6 := hsm.m
        refine aC.seq (aC.seq (aC.region (aB.run II 5 rfl (aB.nil (aC.cond rfl (fun hc10 => ?_) (fun hc10 => ?_))))))
        ·have hi := ch hc10
         refine aC.skip (aC.seq (aC.blk (aC.seq (aC.region (aB.run II 3 rfl (aB.nil (aC.cond rfl (fun hc11 => ?_) (fun hc11 => ?_))))))))
         ·refine aC.region (aB.run II 4 rfl (aB.c3 rfl (aW (aF rfl) fa rfl rfl rfl rfl rfl (by have := @dH s x i0 (x.dR s m) (m.aQ x.field).ref i; have := hsm.m; simp only [List.length_map, List.length_cons, List.length_nil]; omega) (by have := @dH s x i0 (x.dR s m) (m.aQ x.field).ref i; have := hsm.m; simp only [List.length_map, List.length_cons, List.length_nil]; omega)) ?_))
          exact aB.run II 2 rfl (aB.nil (aC.region (aB.run II 3 rfl (aB.kept (Kept.aY 16 rfl (inc (by omega)) (Kept.aI [.s 16, .b 15, .t 129, .h, .s 2, .b 2, .s 3, .b 3, .s 4, .b 4, .s 6, .s 10, .b 10, .s 12, .b 12, .s 15] rfl (by decide) (Kept.gB 129 150 (by decide) rfl (Kept.now ⟨i + 1, by omega, trivial, Jf hi (r' := x.dR s m) rfl (by simp only [CT]; rw [if_pos (by have := of_decide_eq_true hc11; omega)])⟩))))))))
         ·refine aC.seq (aC.drawn mixed rfl (aD.run II 4 rfl (aD.tell (d := 134) rfl (fun hg12 => ?_) (fun hg12 => ?_))))
          ·refine aD.run II 10 rfl (aD.nil (by kernel_rfl) (Kept.now (aC.ar rfl rfl (aC.drawn mixed rfl (aD.run II 5 rfl (aD.c1 rfl (aH (aF rfl) bQ rfl rfl (Int.natCast_nonneg _) (bz hi) rfl) (aD.run II 2 rfl (aD.c3 rfl (aW (aF rfl) fa rfl rfl rfl rfl rfl (by have := @dH s x i0 (x.dR s m) (m.aQ x.field).ref i; have := hsm.m; simp only [List.length_map, List.length_cons, List.length_nil]; omega) (by have := @dH s x i0 (x.dR s m) (m.aQ x.field).ref i; have := hsm.m; simp only [List.length_map, List.length_cons, List.length_nil]; omega)) ?_))))))))
           exact aD.run II 2 rfl (aD.nil (by kernel_rfl) (Kept.now (aC.region (aB.run II 3 rfl (aB.kept (Kept.aY 16 rfl (inc (by omega)) (Kept.aI [.s 16, .b 15, .t 153, .h, .s 2, .b 2, .s 3, .b 3, .s 4, .b 4, .s 6, .s 10, .b 10, .s 12, .b 12, .s 15] rfl (by decide) (Kept.gB 153 150 (by decide) rfl (Kept.now ⟨i + 1, by omega, trivial, Jf hi (r' := s.msgs[i]) rfl (by simp only [CT]; rw [if_neg (by have := of_decide_eq_false hc11; omega), if_neg (by have : x.kind ≠ 7 := (by simpa using hg12); exact fun h => this h.1)])⟩)))))))))
          ·refine aD.run II 3 rfl (aD.g1 rfl (aF rfl) rfl rfl (aH (aF rfl) bQ rfl rfl (Int.natCast_nonneg _) (bz hi) rfl) (aD.run II 6 rfl (aD.nil (by kernel_rfl) (Kept.now (aC.cond rfl (fun hc13 => ?_) (fun hc13 => ?_))))))
           ·refine aC.drawn mixed rfl (aD.run II 5 rfl (aD.c1 rfl (aH (aF rfl) bQ rfl rfl (Int.natCast_nonneg _) (bz hi) rfl) (aD.run II 2 rfl (aD.c3 rfl (aW (aF rfl) fa rfl rfl rfl rfl rfl (by have := @dH s x i0 (x.dR s m) (m.aQ x.field).ref i; have := hsm.m; simp only [List.length_map, List.length_cons, List.length_nil]; omega) (by have := @dH s x i0 (x.dR s m) (m.aQ x.field).ref i; have := hsm.m; simp only [List.length_map, List.length_cons, List.length_nil]; omega)) ?_))))
            exact aD.run II 2 rfl (aD.nil (by kernel_rfl) (Kept.now (aC.region (aB.run II 3 rfl (aB.kept (Kept.aY 16 rfl (inc (by omega)) (Kept.aI [.s 16, .b 15, .t 153, .h, .s 2, .b 2, .s 3, .b 3, .s 4, .b 4, .s 6, .s 10, .b 10, .s 12, .b 12, .s 15] rfl (by decide) (Kept.gB 153 150 (by decide) rfl (Kept.now ⟨i + 1, by omega, trivial, Jf hi (r' := s.msgs[i]) rfl (by simp only [CT]; rw [if_neg (by have := of_decide_eq_false hc11; omega), if_neg (by have : s.msgs[i].name ≠ (m.aQ x.field).ref := (by simpa using hc13); exact fun h => this h.2)])⟩)))))))))
           ·exact aC.skip (aC.region (aB.run II 3 rfl (aB.kept (Kept.aY 16 rfl (inc (by omega)) (Kept.aI [.s 16, .b 15, .t 150, .h, .s 2, .b 2, .s 3, .b 3, .s 4, .b 4, .s 6, .s 10, .b 10, .s 12, .b 12, .s 15] rfl (by decide) (Kept.now (⟨i + 1, by omega, trivial, KL hi (by simp only [CT]; rw [if_neg (by have := of_decide_eq_false hc11; omega), if_pos ⟨by simpa using hg12, by simpa using hc13⟩])⟩)))))))
        ·have hi := cj hc10
         refine aC.exit (aC.seq (aC.seq (aC.region (aB.run II 3 rfl (aB.nil (aC.cond rfl (fun hc14 => ?_) (fun hc14 => ?_)))))))
         ·refine aC.region (aB.run II 8 rfl (aB.c3 rfl (aW (aF rfl) fa rfl rfl rfl rfl rfl (by have := @dH s x i0 (x.dR s m) (m.aQ x.field).ref i; have := hsm.m; simp only [List.length_map, List.length_cons, List.length_nil]; omega) (by have := @dH s x i0 (x.dR s m) (m.aQ x.field).ref i; have := hsm.m; simp only [List.length_map, List.length_cons, List.length_nil]; omega)) ?_))
          refine aB.run II 2 rfl (aB.nil (aC.seq (aC.region (aB.run II 1 rfl (aB.c1 rfl (aG (aF rfl) B0 rfl (yD s.enums _ [{ j9 with name := x.dest, fields := [m.aQ x.field] }] (o6 hsm hmm (by simp) (by simp [j9])))) (aB.run II 1 rfl (aB.nil (aC.seq (aC.seq (aC.region (aB.run II 1 rfl (aB.c1 rfl (aG (aF rfl) rm rfl (wS _ (wm (o6 hsm hmm (by simp) (by simp [j9]))))) (aB.run II 1 rfl (aB.nil (aC.seq (aC.region (aB.run II 2 rfl (aB.nil ?_))))))))))))))))))
          refine aC.cond rfl (fun hc15 => ?_) (fun hc15 => ?_)
          ·exact aC.seq (aC.region (aB.run II 4 rfl (aB.nil (aC.ret ⟨.inr rfl, (aE.r2 rfl (.cell fE rfl rfl rfl rfl (.tmp rfl .nil))).cast (by rw [hap, if_neg (by rw [hna]; decide), if_neg (by rw [hask]; decide), if_neg (by simpa using hc8), FD hi hm0 (by simpa using hc14), if_pos (by simpa using hc15)]; rfl), _, rfl, (by show H.next ≤ H.next + _ + 1; omega), fun i hi => Hp.mL hi⟩))))
          ·exact aC.skip (aC.seq (aC.region (aB.run II 3 rfl (aB.nil (aC.ret ⟨.inr rfl, (aE.r2 rfl (.cell fE rfl rfl rfl rfl (.tmp rfl .nil))).cast (by rw [hap, if_neg (by rw [hna]; decide), if_neg (by rw [hask]; decide), if_neg (by simpa using hc8), FD hi hm0 (by simpa using hc14), if_neg (by simpa using hc15)]; rfl), _, rfl, (by show H.next ≤ H.next + _ + 1; omega), fun i hi => Hp.mL hi⟩)))))
         ·refine aC.skip (aC.seq (aC.region (aB.run II 1 rfl (aB.c1 rfl (aG (aF rfl) B0 rfl (sf ⟨s.enums, (cL s x i0 (x.dR s m) (m.aQ x.field).ref i)⟩ (qc hsm hmm))) (aB.run II 1 rfl (aB.nil (aC.seq (aC.seq (aC.region (aB.run II 1 rfl (aB.c1 rfl (aG (aF rfl) rm rfl (wS _ (wm (qc hsm hmm)))) (aB.run II 1 rfl (aB.nil (aC.seq (aC.region (aB.run II 2 rfl (aB.nil (aC.cond rfl (fun hc16 => ?_) (fun hc16 => ?_)))))))))))))))))))
          ·exact aC.seq (aC.region (aB.run II 4 rfl (aB.nil (aC.ret ⟨.inr rfl, (aE.r2 rfl (.cell fE rfl rfl rfl rfl (.tmp rfl .nil))).cast (by rw [hap, if_neg (by rw [hna]; decide), if_neg (by rw [hask]; decide), if_neg (by simpa using hc8), FC hi hm0 (by simpa using hc14), if_pos (by simpa using hc16)]; rfl), _, rfl, (by show H.next ≤ H.next + _ + 1; omega), fun i hi => Hp.mL hi⟩))))
          ·exact aC.skip (aC.seq (aC.region (aB.run II 3 rfl (aB.nil (aC.ret ⟨.inr rfl, (aE.r2 rfl (.cell fE rfl rfl rfl rfl (.tmp rfl .nil))).cast (by rw [hap, if_neg (by rw [hna]; decide), if_neg (by rw [hask]; decide), if_neg (by simpa using hc8), FC hi hm0 (by simpa using hc14), if_neg (by simpa using hc16)]; rfl), _, rfl, (by show H.next ≤ H.next + _ + 1; omega), fun i hi => Hp.mL hi⟩)))))
/- the document: all schemas of a migration -/
theorem B9 : ab Tryz.prog 44 = true := by kernel_rfl
theorem jt : ie Tryz.prog 26 = some 12 := by kernel_rfl
theorem BL : ie Tryz.prog 89 = some 2 := by kernel_rfl
theorem ub : se Tryz.prog 89 = some (25, 2, 48) := by kernel_rfl
theorem CW : bf Tryz.prog 25 = some [AV.sl [], AV.sl []] := by kernel_rfl
def kA : List aS → aN → Nat → Nat
 | [], _, i => i
 | x :: l, s, i => match s.apply x with
  | .ok t => kA l t (i + 1)
  | .error _ => i
def sJ (s : aN) (l : List aS) : Nat := if s.fb ≠ 0 then 0 else if 16 < l.length then 0 else kA l s 0
def JE (n : Nat) : Except Int (List aN) → AV
 | .ok L => .tup [.sl (L.map aN.av), .int .i64 n, .int .i64 0]
 | .error e => .tup [.sl [], .int .i64 n, .int .i64 e]
structure lI (s : aN) (l : List aS) (i : Nat) (a : List aN) : Prop where
 len : a.length = i + 1
 all : ∃ t, a[i]? = some t ∧ t.dj ∧ aN.eK (l.drop i) t a = aN.eK l s [s] ∧ kA (l.drop i) t i = kA l s 0
theorem lI.start {s : aN} {l : List aS} (h : s.dj) : lI s l 0 [s] := ⟨rfl, s, rfl, h, rfl, rfl⟩
theorem lI.lt {s : aN} {l : List aS} {i : Nat} {a : List aN} (I : lI s l i a) : i < a.length := by rw [I.len]; omega
theorem lI.at {s : aN} {l : List aS} {i : Nat} {a : List aN} (I : lI s l i a) : (a[i]'I.lt).dj ∧ aN.eK (l.drop i) (a[i]'I.lt) a = aN.eK l s [s] ∧ kA (l.drop i) (a[i]'I.lt) i = kA l s 0 := by
 obtain ⟨t, h1, h2, h3, h4⟩ := I.all
 rw [List.getElem?_eq_getElem I.lt] at h1
 cases h1
 exact ⟨h2, h3, h4⟩
theorem zP {s t : aN} {x : aS} (h : s.apply x = .ok t) : t.dj := by
 obtain ⟨m, at_, A⟩ := jV h
 have := A.Dk.sm
 exact ⟨by have := this.e; omega, by have := this.m; omega⟩
theorem lI.step {s : aN} {l : List aS} {i : Nat} {a : List aN} (I : lI s l i a) (hi : i < l.length) {t : aN} (h : (a[i]'I.lt).apply l[i] = .ok t) : lI s l (i + 1) (a ++ [t]) := by
 obtain ⟨h2, h3, h4⟩ := I.at
 refine ⟨by simp [I.len], t, by rw [List.getElem?_append_right (by rw [I.len]; omega), I.len]; simp, zP h, ?_, ?_⟩
 ·rw [← h3, List.drop_eq_getElem_cons hi]; simp only [aN.eK, h]
 ·rw [← h4, List.drop_eq_getElem_cons hi]; simp only [kA, h]
theorem lI.bad {s : aN} {l : List aS} {i : Nat} {a : List aN} (I : lI s l i a) (hi : i < l.length) {e : Int} (h : (a[i]'I.lt).apply l[i] = .error e) : aN.eK l s [s] = .error e ∧ kA l s 0 = i := by
 obtain ⟨h2, h3, h4⟩ := I.at
 rw [List.drop_eq_getElem_cons hi] at h3 h4
 simp only [aN.eK, kA, h] at h3 h4
 exact ⟨h3.symm, h4.symm⟩
theorem lI.done {s : aN} {l : List aS} {i : Nat} {a : List aN} (I : lI s l i a) (hi : l.length ≤ i) (hle : i ≤ l.length) : aN.eK l s [s] = .ok a ∧ kA l s 0 = l.length := by
 obtain ⟨h2, h3, h4⟩ := I.at
 rw [List.drop_eq_nil_of_le hi] at h3 h4
 exact ⟨h3.symm, by rw [← h4]; show i = _; omega⟩
theorem ur {s t : aN} {x : aS} (hs : s.dj) (hx : x.dj) (hn : x.names.length ≤ 1000) (h : s.apply x = .ok t) : Pure Tryz.prog 44 [s.av, x.av] (.tup [t.av, .int .i64 0]) := by
 have := wT s x hs hx hn
 rw [h] at this; exact this
theorem uu {s : aN} {x : aS} {e : Int} (hs : s.dj) (hx : x.dj) (hn : x.names.length ≤ 1000) (h : s.apply x = .error e) : Pure Tryz.prog 44 [s.av, x.av] (.tup [.agg [.sl [], .sl []], .int .i64 e]) := by
 have := wT s x hs hx hn
 rw [h] at this; exact this
theorem ph {s : aN} {x : aS} {e : Int} (h : s.apply x = .error e) : e ≠ 0 := by
 unfold aN.apply at h
 split at h
 ·cases h; decide
 ·split at h
  ·cases h; decide
  ·dsimp only at h
   split at h
   ·cases h; decide
   ·split at h
    ·cases h; decide
    ·split at h
     ·cases h; decide
     ·split at h
      ·rename_i hc
       cases h; exact hc
      ·cases h
theorem FO {s : aN} {l : List aS} (h : s.fb ≠ 0) : s.all l = .error s.fb ∧ sJ s l = 0 := by unfold aN.all sJ; rw [if_pos h, if_pos h]; exact ⟨rfl, rfl⟩
theorem FN {s : aN} {l : List aS} (h : s.fb = 0) (h2 : 16 < l.length) : s.all l = .error 4 ∧ sJ s l = 0 := by unfold aN.all sJ; simp [h, h2]
theorem xZ {s : aN} {l : List aS} (h : s.fb = 0) (h2 : ¬ 16 < l.length) : s.all l = aN.eK l s [s] ∧ sJ s l = kA l s 0 := by unfold aN.all sJ; simp [h, h2]
theorem Jx {v : CV} {rest : List (aM × CV)} {el esz t : Nat} {a : List aN} {b : AV} {c : aN} (h : b = c.av) : ((aM.s 9, v) :: (aM.s 8, CV.sv (.ow t (a.map aN.av ++ [b]))) :: (aM.t t, CV.tk false el esz (a.map aN.av ++ [b])) :: rest) = [(aM.s 9, v), (aM.s 8, CV.sv (.ow t ((a ++ [c]).map aN.av))), (aM.t t, CV.tk false el esz ((a ++ [c]).map aN.av))] ++ rest := by rw [h, List.map_append]; rfl
theorem Ey (s : aN) (l : List aS) (hs : s.dj) (hb : ∀ x ∈ l, x.dj ∧ x.names.length ≤ 1000) (hl : l.length ≤ 9223372036854775807) : Pure Tryz.prog 26 [s.av, .sl (l.map aS.av)] (JE (sJ s l) (s.all l)) := by
 refine Pure.aL Tryz.func26 rfl rfl (aF rfl) fun H => (aC.seq (aC.region (aB.run II 4 rfl (aB.nil (aC.seq (aC.seq (aC.region (aB.run II 1 rfl (aB.c1 rfl (aG (aF rfl) rm rfl (wS s hs)) (aB.run II 1 rfl (aB.nil (aC.seq (aC.region (aB.run II 2 rfl (aB.nil (aC.cond rfl (fun hc1 => ?_) (fun hc1 => ?_)))))))))))))))))
 ·exact aC.seq (aC.region (aB.run II 4 rfl (aB.nil (aC.ret ⟨.inr rfl, (aE.r3 rfl (.tmp rfl (.tmp rfl (.tmp rfl .nil)))).cast (by rw [(FO (by simpa using hc1)).1, (FO (by simpa using hc1)).2]; rfl), rfl⟩))))
 ·refine aC.skip (aC.seq (aC.seq (aC.region (aB.run II 3 rfl (aB.nil (aC.cond rfl (fun hc2 => ?_) (fun hc2 => ?_)))))))
  ·exact aC.seq (aC.region (aB.run II 3 rfl (aB.nil (aC.ret ⟨.inr rfl, (aE.r3 rfl (.tmp rfl (.tmp rfl (.tmp rfl .nil)))).cast (by rw [(FN (by simpa using hc1) (by have := of_decide_eq_true hc2; rw [List.length_map] at this; omega)).1, (FN (by simpa using hc1) (by have := of_decide_eq_true hc2; rw [List.length_map] at this; omega)).2]; rfl), rfl⟩))))
  ·refine aC.skip (aC.seq (aC.region (aB.run II 1 rfl (aB.c2 rfl (bD («as» := [_]) (aF rfl) ub CW rfl rfl rfl (fh rfl) rfl) (aB.run II 1 rfl (aB.nil (aC.seq (aC.seq (aC.region (aB.run II 1 rfl (aB.nil (aC.blk (aC.aK (Kept.aI [.s 9, .s 8, .t 21, .h, .s 1] rfl (by decide) (Kept.now (aC.aX (fun ((i, a) : Nat × List aN) => [(.s 9, .sv (.v (.int .i64 (i : Int)))), (.s 8, .sv (.ow 21 (a.map aN.av))), (.t 21, .tk false 25 2 (a.map aN.av))]) _ (fun ((i, a) : Nat × List aN) => lI s l i a ∧ i ≤ l.length) (fun ((i, a) : Nat × List aN) => l.length - i) (0, [s]) rfl ⟨lI.start hs, Nat.zero_le _⟩ ?_))))))))))))))))
   rintro ⟨i, a⟩ hI
   dsimp only at hI
   have h16 : l.length ≤ 16 := (by have := of_decide_eq_false hc2; rw [List.length_map] at this; omega)
   refine aC.seq (aC.seq (aC.region (aB.run II 4 rfl (aB.nil (aC.cond rfl (fun hc3 => ?_) (fun hc3 => ?_))))))
   ·have hi := ch hc3
    refine aC.skip (aC.seq (aC.blk (aC.seq (aC.drawn mixed rfl (aD.run II 2 rfl (aD.c1 rfl (aH (aF rfl) BL rfl rfl (Int.natCast_nonneg _) (dF (fun _ => rfl) hI.1.lt) rfl) (aD.run II 3 rfl (aD.c1 rfl (aH (aF rfl) jt rfl rfl (Int.natCast_nonneg _) (bz hi) rfl) (aD.run II 1 rfl ?_)))))))))
    cases hp1 : (a[i]'hI.1.lt).apply (l[i]'hi) with
    | ok x1 => 
     refine aD.c1 rfl (aG (aF rfl) B9 rfl (ur hI.1.at.1 (hb _ (List.getElem_mem hi)).1 (hb _ (List.getElem_mem hi)).2 hp1)) (aD.run II 6 rfl (aD.nil (by kernel_rfl) (Kept.now (aC.seq (aC.seq (aC.region (aB.run II 2 rfl (aB.nil (aC.cond rfl (fun hc4 => ?_) (fun hc4 => ?_))))))))))
     ·exact aC.seq (aC.region (aB.run II 5 rfl (aB.nil (aC.ret ⟨.inr rfl, (aE.r3 rfl (.tmp rfl (.tmp rfl (.tmp rfl .nil)))).cast (absurd hc4 (by decide)), rfl⟩))))
     ·refine aC.skip (aC.region (aB.run II 3 rfl (aB.c3 rfl (aW (aF rfl) ub rfl rfl rfl rfl rfl (by have := hI.1.len; simp only [List.length_map, List.length_cons, List.length_nil]; omega) (by have := hI.1.len; simp only [List.length_map, List.length_cons, List.length_nil]; omega)) ?_)))
      exact aB.run II 1 rfl (aB.nil (aC.region (aB.run II 3 rfl (aB.kept (Kept.aY 9 rfl (inc (by omega)) (Kept.aI [.s 9, .s 8, .t 47, .h, .s 1] rfl (by decide) (Kept.gB 47 21 (by decide) rfl (Kept.now (⟨(i + 1, a ++ [x1]), by dsimp only; omega, ⟨hI.1.step hi hp1, by omega⟩, Jx rfl⟩)))))))))
    | error e1 => 
     refine aD.c1 rfl (aG (aF rfl) B9 rfl (uu hI.1.at.1 (hb _ (List.getElem_mem hi)).1 (hb _ (List.getElem_mem hi)).2 hp1)) (aD.run II 6 rfl (aD.nil (by kernel_rfl) (Kept.now (aC.seq (aC.seq (aC.region (aB.run II 2 rfl (aB.nil (aC.cond rfl (fun hc5 => ?_) (fun hc5 => ?_))))))))))
     ·exact aC.seq (aC.region (aB.run II 5 rfl (aB.nil (aC.ret ⟨.inr rfl, (aE.r3 rfl (.tmp rfl (.tmp rfl (.tmp rfl .nil)))).cast (by rw [(xZ (by simpa using hc1) (by omega)).1, (xZ (by simpa using hc1) (by omega)).2, (hI.1.bad hi hp1).1, (hI.1.bad hi hp1).2]; rfl), rfl⟩))))
     ·refine aC.skip (aC.region (aB.run II 3 rfl (aB.c3 rfl (aW (aF rfl) ub rfl rfl rfl rfl rfl (by have := hI.1.len; simp only [List.length_map, List.length_cons, List.length_nil]; omega) (by have := hI.1.len; simp only [List.length_map, List.length_cons, List.length_nil]; omega)) ?_)))
      exact aB.run II 1 rfl (aB.nil (aC.region (aB.run II 3 rfl (aB.kept (Kept.aY 9 rfl (inc (by omega)) (Kept.aI [.s 9, .s 8, .t 47, .h, .s 1] rfl (by decide) (Kept.gB 47 21 (by decide) rfl (Kept.now (absurd (by simpa using hc5) (ph hp1))))))))))
   ·have hi := cj hc3
    exact aC.exit (aC.seq (aC.region (aB.run II 6 rfl (aB.nil (aC.ret ⟨.inr rfl, (aE.r3 rfl (.tmp rfl (.tmp rfl (.tmp rfl .nil)))).cast (by rw [(xZ (by simpa using hc1) (by omega)).1, (xZ (by simpa using hc1) (by omega)).2, (hI.1.done hi hI.2).1, (hI.1.done hi hI.2).2, List.length_map]; rfl), rfl⟩)))))
/- the document: ports, and numbers, of a part -/
theorem xD : ab Tryz.prog 160 = true := by kernel_rfl
theorem cG : ie Tryz.prog 44 = some 9 := by kernel_rfl
theorem gW : lk Tryz.prog 96 = some (true, 9) := by kernel_rfl
theorem dI : se Tryz.prog 44 = some (96, 9, 88) := by kernel_rfl
theorem fl : bf Tryz.prog 96 = some [AV.str [], AV.int IntKind.i64 (0), AV.int IntKind.i64 (0), AV.str [], AV.bool false, AV.bool false, AV.str [], AV.int IntKind.i64 (0), AV.int IntKind.i64 (0)] := by kernel_rfl
theorem rN (l : List Port) : ∀ e ∈ l.map Port.av, e.cells.length = 9 := oj (bw Port.cells (fun _ => rfl) _)
def y9 (name : au) (x : Port) : Bool := !(x.f.name == name)
theorem AK {l : List Port} {n : au} {i : Nat} (hi : i < l.length) (h : y9 n l[i] = true) : ((l.take i).filter (y9 n)).map Port.av ++ [l[i].av] = ((l.take (i + 1)).filter (y9 n)).map Port.av := by
 rw [List.take_add_one, List.getElem?_eq_getElem hi, List.filter_append]; simp [h]
theorem AL {l : List Port} {n : au} {i : Nat} (hi : i < l.length) (h : y9 n l[i] = false) : ((l.take i).filter (y9 n)).map Port.av = ((l.take (i + 1)).filter (y9 n)).map Port.av := by
 rw [List.take_add_one, List.getElem?_eq_getElem hi, List.filter_append]; simp [h]
theorem IA (l : List Port) (a b : Nat) : cQ 9 (((l.map Port.av).drop a).take b) = true := by
 rw [← List.map_drop, ← List.map_take]; exact bw Port.cells (fun _ => rfl) _
theorem rf {α : Type} (f : α → AV) {p : α → Bool} {l : List α} {x : α} {j : Int} (hj : j.toNat = l.length - cO p l) :
  ([] ++ (((l.map f).drop (0 : Int).toNat).take (j.toNat - (0 : Int).toNat))) ++ [f x] ++ (((l.map f).drop j.toNat).take (((l.map f).length : Int).toNat - j.toNat)) = (cR p x l).map f := by
 rw [(kS _).1, (kS _).2]
 unfold cR eH
 rw [← hj, List.map_append, List.map_cons, List.map_take, List.map_drop, List.nil_append, List.append_assoc]; rfl
theorem JY {p : Port → Bool} {l : List Port} {j : Int} (hl : l.length ≤ 1000000) (h : nQ p l j) (hf : 0 < j) : (l.map Port.av)[(IntKind.i64.wrap (j - 1)).toNat]? = some (.agg (ID gQ l j).cells) := by
 have hn := h.nn
 rw [eF (by omega) (by omega), List.getElem?_map, kW gQ h hf]; rfl
theorem dT (l : List Port) (x : Port) : (bY l x).length = l.length + 1 := by unfold bY cR; rw [ng]
theorem bL (l : List Port) (n : au) : (aV l n).length ≤ l.length := List.length_filter_le _ _
theorem l5 (l : List Port) (name : au) (hl : l.length ≤ 1000) : Pure Tryz.prog 39 [.sl (l.map Port.av), .str name] (.int .i64 (bg l name)) := by
 refine Pure.aL Tryz.func39 rfl rfl (aF rfl) fun H => (aC.seq (aC.region (aB.run II 1 rfl (aB.nil (aC.seq (aC.seq (aC.region (aB.run II 1 rfl (aB.nil (aC.blk (aC.aK (Kept.aI [.s 5, .h, .s 0, .s 1] rfl (by decide) (Kept.now (aC.aX (fun (i : Nat) => [(.s 5, .sv (.v (.int .i64 (i : Int))))]) _ (fun (i : Nat) => bP (fun x : Port => x.f.name == name) (l.drop i) i = bg l name) (fun (i : Nat) => l.length - i) 0 rfl (by simp [bg]) ?_))))))))))))))
 rintro i hI
 refine aC.seq (aC.seq (aC.region (aB.run II 4 rfl (aB.nil (aC.cond rfl (fun hc1 => ?_) (fun hc1 => ?_))))))
 ·have hi := ch hc1
  have hS := cM (p := (fun x : Port => x.f.name == name)) hi
  refine aC.skip (aC.seq (aC.blk (aC.seq (aC.region (aB.run II 2 rfl (aB.c1 rfl (aH (aF rfl) cG rfl rfl (Int.natCast_nonneg _) (bz hi) rfl) (aB.run II 5 rfl (aB.nil (aC.cond rfl (fun hc2 => ?_) (fun hc2 => ?_))))))))))
  ·exact aC.seq (aC.region (aB.run II 2 rfl (aB.nil (aC.ret ⟨.inr rfl, (aE.r1 rfl (.tmp rfl .nil)).cast (congrArg (AV.int .i64) (by grind [bg])), rfl⟩))))
  ·exact aC.skip (aC.region (aB.run II 3 rfl (aB.kept (Kept.aY 5 rfl (inc (by omega)) (Kept.aI [.s 5, .h, .s 0, .s 1] rfl (by decide) (Kept.now ⟨i + 1, by omega, by grind, rfl⟩))))))
 ·have hi := cj hc1
  have hS := dO (p := (fun x : Port => x.f.name == name)) hi
  exact aC.exit (aC.seq (aC.region (aB.run II 1 rfl (aB.nil (aC.ret ⟨.inr rfl, (aE.r1 rfl (.tmp rfl .nil)).cast (congrArg (AV.int .i64) (by grind [bg])), rfl⟩)))))
theorem gM (l : List Port) (n : au) (hl : l.length ≤ 1000) : Pure Tryz.prog 63 [.sl (l.map Port.av), .str n] (.sl ((aV l n).map Port.av)) := by
 refine Pure.aL Tryz.func63 rfl rfl (aF rfl) fun H => (aC.seq (aC.region (aB.run II 1 rfl (aB.nil (aC.seq (aC.region (aB.c2 rfl (bD («as» := []) (aF rfl) dI fl rfl rfl rfl (fh rfl) rfl) (aB.run II 1 rfl (aB.nil (aC.seq (aC.seq (aC.region (aB.run II 1 rfl (aB.nil (aC.blk (aC.aK (Kept.aI [.s 6, .s 5, .t 7, .h, .s 0, .s 1] rfl (by decide) (Kept.now (aC.aX (fun ((i, a) : Nat × List AV) => [(.s 6, .sv (.v (.int .i64 (i : Int)))), (.s 5, .sv (.ow 7 a)), (.t 7, .tk false 96 9 a)]) _ (fun ((i, a) : Nat × List AV) => a = ((l.take i).filter (y9 n)).map Port.av) (fun ((i, a) : Nat × List AV) => l.length - i) (0, []) rfl (by simp) ?_)))))))))))))))))))
 rintro ⟨i, a⟩ hI
 refine aC.seq (aC.seq (aC.region (aB.run II 4 rfl (aB.nil (aC.cond rfl (fun hc1 => ?_) (fun hc1 => ?_))))))
 ·have hi := ch hc1
  refine aC.skip (aC.seq (aC.blk (aC.seq (aC.region (aB.run II 2 rfl (aB.c1 rfl (aH (aF rfl) cG rfl rfl (Int.natCast_nonneg _) (bz hi) rfl) (aB.run II 5 rfl (aB.nil (aC.cond rfl (fun hc2 => ?_) (fun hc2 => ?_))))))))))
  ·refine aC.region (aB.run II 3 rfl (aB.c1 rfl (aH (aF rfl) cG rfl rfl (Int.natCast_nonneg _) (bz hi) rfl) (aB.run II 2 rfl (aB.c3 rfl (aW (aF rfl) dI rfl rfl rfl rfl rfl (by rw [hI]; simp only [List.length_map, List.length_cons, List.length_nil]; have h1 := List.length_filter_le (y9 n) (l.take i); rw [List.length_take] at h1; omega) (by rw [hI]; simp only [List.length_map, List.length_cons, List.length_nil]; have h1 := List.length_filter_le (y9 n) (l.take i); rw [List.length_take] at h1; omega)) ?_))))
   exact aB.run II 1 rfl (aB.nil (aC.region (aB.run II 3 rfl (aB.kept (Kept.aY 6 rfl (inc (by omega)) (Kept.aI [.s 6, .s 5, .t 28, .h, .s 0, .s 1] rfl (by decide) (Kept.gB 28 7 (by decide) rfl (Kept.now ⟨(i + 1, _), by dsimp only; omega, by dsimp only; rw [hI]; first | exact AK hi (by simp_all [y9]) | exact AL hi (by simp_all [y9]), rfl⟩))))))))
  ·exact aC.skip (aC.region (aB.run II 3 rfl (aB.kept (Kept.aY 6 rfl (inc (by omega)) (Kept.aI [.s 6, .s 5, .t 7, .h, .s 0, .s 1] rfl (by decide) (Kept.now ⟨(i + 1, _), by dsimp only; omega, by dsimp only; rw [hI]; first | exact AK hi (by simp_all [y9]) | exact AL hi (by simp_all [y9]), rfl⟩))))))
 ·have hi := cj hc1
  exact aC.exit (aC.seq (aC.region (aB.run II 2 rfl (aB.nil (aC.ret ⟨.inr rfl, (aE.r1 rfl (.tmp rfl .nil)).cast (congrArg AV.sl (by rw [hI, List.take_of_length_le (by omega)]; rfl)), rfl⟩)))))
theorem fv (l : List Port) (x : Port) (hl : l.length ≤ 1000) : Pure Tryz.prog 61 [.sl (l.map Port.av), x.av] (.sl ((bY l x).map Port.av)) := by
 refine Pure.aL Tryz.func61 rfl rfl (aF rfl) fun H => (aC.seq (aC.region (aB.run II 2 rfl (aB.nil (aC.seq (aC.region (aB.run II 3 rfl (aB.nil (aC.seq (aC.blk (aC.aK (Kept.aI [.s 5, .h, .s 0, .s 3, .b 3] rfl (by decide) (Kept.now (aC.aX (fun (j : Int) => [(.s 5, .sv (.v (.int .i64 j)))]) _ (fun (j : Int) => nQ (fun y : Port => decide (y.f.num > x.f.num)) l j) (fun (j : Int) => j.toNat) ((l.map Port.av).length : Int) rfl (by rw [List.length_map]; exact nQ.start) ?_))))))))))))))
 rintro j hJ
 have hnn := hJ.nn
 refine aC.seq (aC.seq (aC.drawn mixed rfl (aD.run II 3 rfl (aD.tell (d := 10) rfl (fun hg1 => ?_) (fun hg1 => ?_)))))
 ·refine aD.run II 3 rfl (aD.g1 rfl (aF rfl) rfl rfl (aH (aF rfl) cG rfl rfl (by have := of_decide_eq_true hg1; rw [eF (by omega) (by omega)]; omega) (JY (by omega) hJ (of_decide_eq_true hg1)) rfl) ?_)
  refine aD.run II 8 rfl (aD.nil (by kernel_rfl) (Kept.now (aC.cond rfl (fun hc2 => ?_) (fun hc2 => ?_))))
  ·exact aC.skip (aC.blk (aC.region (aB.run II 3 rfl (aB.kept (Kept.aI [.s 5, .h, .s 0, .s 3, .b 3] rfl (by decide) (Kept.now ⟨_, by show (IntKind.i64.wrap (j - 1)).toNat < j.toNat; have := of_decide_eq_true hg1; rw [eF (by omega) (by omega)]; omega, by rw [eF (by have := of_decide_eq_true hg1; omega) (by omega)]; exact hJ.step (of_decide_eq_true hg1) (kW gQ hJ (of_decide_eq_true hg1)) hc2, rfl⟩))))))
  ·refine aC.exit (aC.seq (aC.drawn mixed rfl (aD.c2 rfl (bD («as» := []) (aF rfl) dI fl rfl rfl rfl (fh rfl) rfl) (aD.run II 2 rfl (aD.c1 rfl (bE (aF rfl) cG rfl (fun e he => by obtain ⟨f, _, rfl⟩ := List.mem_map.1 he; rfl) rfl rfl (by omega) (by first | omega | (rw [List.length_map]; omega)) (by first | omega | (rw [List.length_map]; omega))) ?_)))))
   refine aD.c3 rfl (aW (aF rfl) dI rfl rfl rfl (by first | rfl | exact IA _ _ _) rfl (by simp only [List.length_append, List.length_map, List.length_take, List.length_drop, List.length_cons, List.length_nil]; omega) (by simp only [List.length_append, List.length_map, List.length_take, List.length_drop, List.length_cons, List.length_nil]; omega)) ?_
   refine aD.run II 2 rfl (aD.c3 rfl (aW (aF rfl) dI rfl rfl rfl (by first | rfl | exact IA _ _ _) rfl (by simp only [List.length_append, List.length_map, List.length_take, List.length_drop, List.length_cons, List.length_nil]; omega) (by simp only [List.length_append, List.length_map, List.length_take, List.length_drop, List.length_cons, List.length_nil]; omega)) ?_)
   refine aD.run II 2 rfl (aD.c1 rfl (bE (aF rfl) cG rfl (fun e he => by obtain ⟨f, _, rfl⟩ := List.mem_map.1 he; rfl) rfl rfl (by omega) (by first | omega | (rw [List.length_map]; omega)) (by first | omega | (rw [List.length_map]; omega))) ?_)
   refine aD.c3 rfl (aW (aF rfl) dI rfl rfl rfl (by first | rfl | exact IA _ _ _) rfl (by simp only [List.length_append, List.length_map, List.length_take, List.length_drop, List.length_cons, List.length_nil]; omega) (by simp only [List.length_append, List.length_map, List.length_take, List.length_drop, List.length_cons, List.length_nil]; omega)) ?_
   exact aD.run II 1 rfl (aD.nil (by kernel_rfl) (Kept.now (aC.ret ⟨.inr rfl, (aE.r1 rfl (.tmp rfl .nil)).cast (congrArg AV.sl (rf Port.av (hJ.stop (of_decide_eq_true hg1) (kW gQ hJ (of_decide_eq_true hg1)) hc2))), rfl⟩)))
 ·refine aD.run II 12 rfl (aD.nil (by kernel_rfl) (Kept.now (aC.aZ rfl rfl (aC.exit (aC.seq (aC.drawn mixed rfl (aD.c2 rfl (bD («as» := []) (aF rfl) dI fl rfl rfl rfl (fh rfl) rfl) (aD.run II 2 rfl (aD.c1 rfl (bE (aF rfl) cG rfl (fun e he => by obtain ⟨f, _, rfl⟩ := List.mem_map.1 he; rfl) rfl rfl (by omega) (by first | omega | (rw [List.length_map]; omega)) (by first | omega | (rw [List.length_map]; omega))) ?_)))))))))
  refine aD.c3 rfl (aW (aF rfl) dI rfl rfl rfl (by first | rfl | exact IA _ _ _) rfl (by simp only [List.length_append, List.length_map, List.length_take, List.length_drop, List.length_cons, List.length_nil]; omega) (by simp only [List.length_append, List.length_map, List.length_take, List.length_drop, List.length_cons, List.length_nil]; omega)) ?_
  refine aD.run II 2 rfl (aD.c3 rfl (aW (aF rfl) dI rfl rfl rfl (by first | rfl | exact IA _ _ _) rfl (by simp only [List.length_append, List.length_map, List.length_take, List.length_drop, List.length_cons, List.length_nil]; omega) (by simp only [List.length_append, List.length_map, List.length_take, List.length_drop, List.length_cons, List.length_nil]; omega)) ?_)
  refine aD.run II 2 rfl (aD.c1 rfl (bE (aF rfl) cG rfl (fun e he => by obtain ⟨f, _, rfl⟩ := List.mem_map.1 he; rfl) rfl rfl (by omega) (by first | omega | (rw [List.length_map]; omega)) (by first | omega | (rw [List.length_map]; omega))) ?_)
  refine aD.c3 rfl (aW (aF rfl) dI rfl rfl rfl (by first | rfl | exact IA _ _ _) rfl (by simp only [List.length_append, List.length_map, List.length_take, List.length_drop, List.length_cons, List.length_nil]; omega) (by simp only [List.length_append, List.length_map, List.length_take, List.length_drop, List.length_cons, List.length_nil]; omega)) ?_
  exact aD.run II 1 rfl (aD.nil (by kernel_rfl) (Kept.now (aC.ret ⟨.inr rfl, (aE.r1 rfl (.tmp rfl .nil)).cast (congrArg AV.sl (rf Port.av (hJ.low (of_decide_eq_false hg1)))), rfl⟩)))
theorem l6 (n : au) (num ty reg : Int) : Pure Tryz.prog 62 [.str n, .int .i64 num, .int .i64 ty, .int .i64 reg] (cb n num ty reg).av := by
 exact Pure.aL Tryz.func62 rfl rfl (aF rfl) fun H => (aC.seq (aC.region (aB.run II 1 rfl (aB.nil (aC.seq (aC.region (aB.run II 7 rfl (aB.nil (aC.ret ⟨.inr rfl, (aE.r1 rfl (.cell gW rfl rfl rfl rfl .nil)).cast rfl, rfl⟩)))))))))
theorem zt (t : Int) : Pure Tryz.prog 160 [.int .i64 t] (.tup [.int .i64 (gp t).1, .int .u64 ((gp t).2 : Int), .bool (cI t)]) := by
 refine Pure.aL Tryz.func160 rfl rfl (aF rfl) fun H => (aC.seq (aC.region (aB.run II 3 rfl (aB.nil (aC.seq (aC.seq (aC.region (aB.run II 1 rfl (aB.c1 rfl (aG (aF rfl) rz rfl (oQ _)) (aB.run II 1 rfl (aB.nil (aC.cond rfl (fun hc1 => ?_) (fun hc1 => ?_)))))))))))))
 ·exact aC.seq (aC.region (aB.run II 3 rfl (aB.nil (aC.ret ⟨.inr rfl, (aE.r3 rfl (.tmp rfl (.tmp rfl (.tmp rfl .nil)))).cast (by simp_all [gp]), rfl⟩))))
 ·refine aC.skip (aC.seq (aC.seq (aC.region (aB.run II 1 rfl (aB.c1 rfl (aG (aF rfl) ni rfl (n7 _)) (aB.run II 1 rfl (aB.tell (d := 10) rfl (fun hg2 => ?_) (fun hg2 => ?_))))))))
  ·refine aB.run II 1 rfl (aB.g1 rfl (aF rfl) rfl rfl (aG (aF rfl) nj rfl (n5 _)) (aB.run II 1 rfl (aB.nil (aC.cond rfl (fun hc3 => ?_) (fun hc3 => ?_)))))
   ·exact aC.seq (aC.region (aB.run II 3 rfl (aB.nil (aC.ret ⟨.inr rfl, (aE.r3 rfl (.tmp rfl (.tmp rfl (.tmp rfl .nil)))).cast (by simp_all [gp]), rfl⟩))))
   ·refine aC.skip (aC.seq (aC.seq (aC.region (aB.run II 1 rfl (aB.c1 rfl (aG (aF rfl) ni rfl (n7 _)) (aB.nil (aC.cond rfl (fun hc4 => ?_) (fun hc4 => ?_))))))))
    ·exact aC.seq (aC.region (aB.run II 3 rfl (aB.nil (aC.ret ⟨.inr rfl, (aE.r3 rfl (.tmp rfl (.tmp rfl (.tmp rfl .nil)))).cast (by simp_all [gp]), rfl⟩))))
    ·refine aC.skip (aC.seq (aC.seq (aC.region (aB.run II 1 rfl (aB.c1 rfl (aG (aF rfl) nj rfl (n5 _)) (aB.nil (aC.cond rfl (fun hc5 => ?_) (fun hc5 => ?_))))))))
     ·exact aC.seq (aC.region (aB.run II 3 rfl (aB.nil (aC.ret ⟨.inr rfl, (aE.r3 rfl (.tmp rfl (.tmp rfl (.tmp rfl .nil)))).cast (by simp_all [gp]), rfl⟩))))
     ·exact aC.skip (aC.seq (aC.region (aB.run II 3 rfl (aB.nil (aC.ret ⟨.inr rfl, (aE.r3 rfl (.tmp rfl (.tmp rfl (.tmp rfl .nil)))).cast (by simp_all [gp]), rfl⟩)))))
  ·refine aB.run II 3 rfl (aB.nil (aC.aZ rfl rfl (aC.skip (aC.seq (aC.seq (aC.region (aB.run II 1 rfl (aB.c1 rfl (aG (aF rfl) ni rfl (n7 _)) (aB.nil (aC.cond rfl (fun hc6 => ?_) (fun hc6 => ?_)))))))))))
   ·exact aC.seq (aC.region (aB.run II 3 rfl (aB.nil (aC.ret ⟨.inr rfl, (aE.r3 rfl (.tmp rfl (.tmp rfl (.tmp rfl .nil)))).cast (by simp_all [gp]), rfl⟩))))
   ·refine aC.skip (aC.seq (aC.seq (aC.region (aB.run II 1 rfl (aB.c1 rfl (aG (aF rfl) nj rfl (n5 _)) (aB.nil (aC.cond rfl (fun hc7 => ?_) (fun hc7 => ?_))))))))
    ·exact aC.seq (aC.region (aB.run II 3 rfl (aB.nil (aC.ret ⟨.inr rfl, (aE.r3 rfl (.tmp rfl (.tmp rfl (.tmp rfl .nil)))).cast (by simp_all [gp]), rfl⟩))))
    ·exact aC.skip (aC.seq (aC.region (aB.run II 3 rfl (aB.nil (aC.ret ⟨.inr rfl, (aE.r3 rfl (.tmp rfl (.tmp rfl (.tmp rfl .nil)))).cast (by simp_all [gp]), rfl⟩)))))
theorem Fo (a b : Int) : Pure Tryz.prog 102 [.int .i64 a, .int .i64 b] (.tup [.int .i64 (pA a b).1, .int .u64 ((pA a b).2 : Int)]) := by
 refine Pure.aL Tryz.func102 rfl rfl (aF rfl) fun H => (aC.seq (aC.region (aB.run II 2 rfl (aB.nil (aC.seq (aC.region (aB.run II 1 rfl (aB.c1 rfl (aG (aF rfl) xD rfl (zt _)) (aB.run II 7 rfl (aB.nil (aC.seq (aC.region (aB.run II 1 rfl (aB.c1 rfl (aG (aF rfl) xD rfl (zt _)) (aB.run II 7 rfl (aB.nil (aC.seq (aC.region ?_))))))))))))))))))
 exact aB.run II 2 rfl (aB.c1 rfl (Da (aF rfl) rfl rfl) (aB.run II 2 rfl (aB.c1 rfl (D9 (aF rfl) rfl rfl) (aB.run II 2 rfl (aB.nil (aC.ret ⟨.inr rfl, (aE.r2 rfl (.tmp rfl (.tmp rfl .nil))).cast (by unfold pA; simp; try omega), rfl⟩))))))
/- the document: all numbers that a part had -/
theorem eg : lk Tryz.prog 48 = some (true, 7) := by kernel_rfl
def dg (p : aj) (o : AV) : AV := .agg [.str p.name, .sl (p.ins.map Port.av), o, .sl (p.outs.map Port.av), .int .i64 p.aJ, .sl (p.ever.map jQ), .bool p.born]
def tj (p : aj) (i : Nat) : List Int := (p.outs.take i).foldl (fun l x => eN l x.f.num) p.ever
theorem ij {p : aj} {i : Nat} (hi : i < p.outs.length) : tj p (i + 1) = eN (tj p i) p.outs[i].f.num := by
 unfold tj
 rw [List.take_add_one, List.getElem?_eq_getElem hi, List.foldl_append]; rfl
theorem tb {l : List Int} {n : Int} : (eN l n).length ≤ l.length + 1 := by
 unfold eN
 dsimp only
 split
 ·omega
 ·rw [ng]; omega
theorem np (p : aj) (i : Nat) : (tj p i).length ≤ p.ever.length + p.outs.length := by
 have h : ∀ (l : List Port) (a : List Int), (l.foldl (fun l x => eN l x.f.num) a).length ≤ a.length + l.length := by
  intro l
  induction l with
  | nil => intro a; simp
  | cons x l ih =>
   intro a
   rw [List.foldl_cons]
   have := ih (eN a x.f.num)
   have := @tb a x.f.num
   rw [List.length_cons]; omega
 have := h (p.outs.take i) p.ever
 rw [List.length_take] at this
 unfold tj; omega
theorem hZ {l : List Int} {n : Int} {j : Int} (hj : j.toNat = l.length - cO (fun y => decide (y ≥ n)) l) (h : l[j.toNat]? ≠ some n) :
  ([] ++ (((l.map jQ).drop (0 : Int).toNat).take (j.toNat - (0 : Int).toNat))) ++ [AV.int .i64 n] ++ (((l.map jQ).drop j.toNat).take (((l.map jQ).length : Int).toNat - j.toNat)) = (eN l n).map jQ := by
 have e : eN l n = cR (fun y => decide (y ≥ n)) n l := by
  unfold eN cR
  dsimp only
  rw [if_neg (by rw [← hj]; exact h)]
 rw [e]
 exact rf jQ hj
theorem pL {l : List Int} {n : Int} {j : Int} (hj : j.toNat = l.length - cO (fun y => decide (y ≥ n)) l) (h : l[j.toNat]? = some n) : eN l n = l := by
 unfold eN
 dsimp only
 rw [if_pos (by rw [← hj]; exact h)]
theorem IC {v : CV} {rest : List (aM × CV)} {el esz t : Nat} {a b : List AV} (h : a = b) : ((aM.s 4, v) :: (aM.s 3, CV.sv (.ow t a)) :: (aM.t t, CV.tk false el esz a) :: rest) = [(aM.s 4, v), (aM.s 3, CV.sv (.ow t b)), (aM.t t, CV.tk false el esz b)] ++ rest := by rw [h]; rfl
theorem Bk {l : List Int} {j : Int} (h0 : 0 ≤ j) (h : (j == ((l.map jQ).length : Int)) = true) {n : Int} : l[j.toNat]? ≠ some n := by
 have := eq_of_beq h
 rw [List.length_map] at this
 rw [List.getElem?_eq_none (by omega)]; simp
theorem qm {l : List Int} {j : Int} (h0 : 0 ≤ j) (h1 : j ≤ (l.length : Int)) (h : (j == ((l.map jQ).length : Int)) = false) : l[j.toNat]? = some (l.getD j.toNat 0) := by
 have : j ≠ ((l.map jQ).length : Int) := fun e => by rw [e] at h; simp at h
 rw [List.length_map] at this
 rw [List.getD_eq_getElem?_getD, List.getElem?_eq_getElem (show j.toNat < l.length by omega)]; rfl
theorem uq (p : aj) (o : AV) (ho : p.outs.length ≤ 1000) (he : p.ever.length ≤ 100000) : Pure Tryz.prog 41 [dg p o] (dg (cN p) o) := by
 refine Pure.aL Tryz.func41 rfl rfl (aF rfl) fun H => (aC.seq (aC.region (aB.run II 2 rfl (aB.nil (aC.seq (aC.region (aB.c2 rfl (bD («as» := []) (aF rfl) ba fK rfl rfl rfl (fh rfl) rfl) (aB.run II 2 rfl (aB.c3 rfl (aW (aF rfl) ba rfl rfl rfl (by first | rfl | exact nT _ _ _ | exact cP .i64 id _) rfl (by simp only [List.length_append, List.length_map, List.length_take, List.length_drop, List.length_cons, List.length_nil]; omega) (by simp only [List.length_append, List.length_map, List.length_take, List.length_drop, List.length_cons, List.length_nil]; omega)) ?_)))))))))
 refine aB.run II 1 rfl (aB.nil (aC.seq (aC.seq (aC.region (aB.run II 1 rfl (aB.nil (aC.blk (aC.aK (Kept.aI [.s 4, .s 3, .t 10, .h, .s 1, .b 1, .s 2, .b 2] rfl (by decide) (Kept.now (aC.aX (fun (i : Nat) => [(.s 4, .sv (.v (.int .i64 (i : Int)))), (.s 3, .sv (.ow 10 ((tj p i).map jQ))), (.t 10, .tk false 3 1 ((tj p i).map jQ))]) _ (fun (i : Nat) => True) (fun (i : Nat) => p.outs.length - i) 0 rfl trivial ?_)))))))))))
 rintro i hI
 have hEl := np p i
 refine aC.seq (aC.seq (aC.region (aB.run II 5 rfl (aB.nil (aC.cond rfl (fun hc1 => ?_) (fun hc1 => ?_))))))
 ·have hi := ch hc1
  refine aC.skip (aC.seq (aC.blk (aC.seq (aC.region (aB.run II 3 rfl (aB.c1 rfl (aH (aF rfl) cG rfl rfl (Int.natCast_nonneg _) (bz hi) rfl) (aB.run II 4 rfl (aB.nil (aC.seq (aC.region (aB.run II 3 rfl (aB.nil (aC.seq (aC.blk (aC.aK (Kept.aI [.s 6, .h, .s 1, .b 1, .s 2, .b 2, .s 3, .t 10, .s 4, .s 5] rfl (by decide) (Kept.now (aC.aX (fun (j : Int) => [(.s 6, .sv (.v (.int .i64 j)))]) _ (fun (j : Int) => nQ (fun y : Int => decide (y ≥ (p.outs[i]'hi).f.num)) (tj p i) j) (fun (j : Int) => j.toNat) (((tj p i).map jQ).length : Int) rfl (by rw [List.length_map]; exact nQ.start) ?_))))))))))))))))))
  rintro j hJ
  have hnn := hJ.nn
  refine aC.seq (aC.seq (aC.region (aB.run II 3 rfl (aB.tell (d := 29) rfl (fun hg2 => ?_) (fun hg2 => ?_)))))
  ·refine aB.run II 3 rfl (aB.g1 rfl (aF rfl) rfl rfl (aH (aF rfl) cY rfl rfl (by have := of_decide_eq_true hg2; rw [eF (by omega) (by omega)]; omega) (IQ (by omega) hJ (of_decide_eq_true hg2)) rfl) ?_)
   refine aB.run II 4 rfl (aB.nil (aC.cond rfl (fun hc3 => ?_) (fun hc3 => ?_)))
   ·exact aC.skip (aC.blk (aC.region (aB.run II 3 rfl (aB.kept (Kept.aI [.s 6, .h, .s 1, .b 1, .s 2, .b 2, .s 3, .t 10, .s 4, .s 5] rfl (by decide) (Kept.now ⟨_, by show (IntKind.i64.wrap (j - 1)).toNat < j.toNat; have := of_decide_eq_true hg2; rw [eF (by omega) (by omega)]; omega, by rw [eF (by have := of_decide_eq_true hg2; omega) (by omega)]; exact hJ.step (of_decide_eq_true hg2) (kW 0 hJ (of_decide_eq_true hg2)) hc3, rfl⟩))))))
   ·refine aC.exit (aC.seq (aC.region (aB.run II 5 rfl (aB.tell (d := 44) rfl (fun hg4 => ?_) (fun hg4 => ?_)))))
    ·refine aB.run II 7 rfl (aB.nil (aC.ar rfl rfl (aC.drawn mixed rfl (aD.c2 rfl (bD («as» := []) (aF rfl) ba fK rfl rfl rfl (fh rfl) rfl) (aD.run II 2 rfl (aD.c1 rfl (bE (aF rfl) cY rfl (fun e he => by obtain ⟨f, _, rfl⟩ := List.mem_map.1 he; rfl) rfl rfl (by omega) (by first | omega | (rw [List.length_map]; omega)) (by first | omega | (rw [List.length_map]; omega))) ?_))))))
     refine aD.c3 rfl (aW (aF rfl) ba rfl rfl rfl (by first | rfl | exact nT _ _ _ | exact cP .i64 id _) rfl (by simp only [List.length_append, List.length_map, List.length_take, List.length_drop, List.length_cons, List.length_nil]; omega) (by simp only [List.length_append, List.length_map, List.length_take, List.length_drop, List.length_cons, List.length_nil]; omega)) ?_
     refine aD.run II 2 rfl (aD.c3 rfl (aW (aF rfl) ba rfl rfl rfl (by first | rfl | exact nT _ _ _ | exact cP .i64 id _) rfl (by simp only [List.length_append, List.length_map, List.length_take, List.length_drop, List.length_cons, List.length_nil]; omega) (by simp only [List.length_append, List.length_map, List.length_take, List.length_drop, List.length_cons, List.length_nil]; omega)) ?_)
     refine aD.run II 2 rfl (aD.c1 rfl (bE (aF rfl) cY rfl (fun e he => by obtain ⟨f, _, rfl⟩ := List.mem_map.1 he; rfl) rfl rfl (by omega) (by first | omega | (rw [List.length_map]; omega)) (by first | omega | (rw [List.length_map]; omega))) ?_)
     refine aD.c3 rfl (aW (aF rfl) ba rfl rfl rfl (by first | rfl | exact nT _ _ _ | exact cP .i64 id _) rfl (by simp only [List.length_append, List.length_map, List.length_take, List.length_drop, List.length_cons, List.length_nil]; omega) (by simp only [List.length_append, List.length_map, List.length_take, List.length_drop, List.length_cons, List.length_nil]; omega)) ?_
     exact aD.run II 1 rfl (aD.nil (by kernel_rfl) (Kept.now (aC.region (aB.run II 3 rfl (aB.kept (Kept.aY 4 rfl (inc (by omega)) (Kept.aI [.s 4, .s 3, .t 63, .h, .s 1, .b 1, .s 2, .b 2] rfl (by decide) (Kept.gB 63 10 (by decide) rfl (Kept.now ⟨i + 1, by omega, trivial, IC (by rw [ij hi]; exact hZ (hJ.stop (of_decide_eq_true hg2) (kW 0 hJ (of_decide_eq_true hg2)) hc3) (Bk hnn.1 hg4))⟩)))))))))
    ·refine aB.run II 2 rfl (aB.g1 rfl (aF rfl) rfl rfl (aH (aF rfl) cY rfl rfl hnn.1 (by rw [List.getElem?_map, qm hnn.1 hnn.2 hg4]; rfl) rfl) ?_)
     refine aB.run II 4 rfl (aB.nil (aC.cond rfl (fun hc5 => ?_) (fun hc5 => ?_)))
     ·refine aC.drawn mixed rfl (aD.c2 rfl (bD («as» := []) (aF rfl) ba fK rfl rfl rfl (fh rfl) rfl) (aD.run II 2 rfl (aD.c1 rfl (bE (aF rfl) cY rfl (fun e he => by obtain ⟨f, _, rfl⟩ := List.mem_map.1 he; rfl) rfl rfl (by omega) (by first | omega | (rw [List.length_map]; omega)) (by first | omega | (rw [List.length_map]; omega))) ?_)))
      refine aD.c3 rfl (aW (aF rfl) ba rfl rfl rfl (by first | rfl | exact nT _ _ _ | exact cP .i64 id _) rfl (by simp only [List.length_append, List.length_map, List.length_take, List.length_drop, List.length_cons, List.length_nil]; omega) (by simp only [List.length_append, List.length_map, List.length_take, List.length_drop, List.length_cons, List.length_nil]; omega)) ?_
      refine aD.run II 2 rfl (aD.c3 rfl (aW (aF rfl) ba rfl rfl rfl (by first | rfl | exact nT _ _ _ | exact cP .i64 id _) rfl (by simp only [List.length_append, List.length_map, List.length_take, List.length_drop, List.length_cons, List.length_nil]; omega) (by simp only [List.length_append, List.length_map, List.length_take, List.length_drop, List.length_cons, List.length_nil]; omega)) ?_)
      refine aD.run II 2 rfl (aD.c1 rfl (bE (aF rfl) cY rfl (fun e he => by obtain ⟨f, _, rfl⟩ := List.mem_map.1 he; rfl) rfl rfl (by omega) (by first | omega | (rw [List.length_map]; omega)) (by first | omega | (rw [List.length_map]; omega))) ?_)
      refine aD.c3 rfl (aW (aF rfl) ba rfl rfl rfl (by first | rfl | exact nT _ _ _ | exact cP .i64 id _) rfl (by simp only [List.length_append, List.length_map, List.length_take, List.length_drop, List.length_cons, List.length_nil]; omega) (by simp only [List.length_append, List.length_map, List.length_take, List.length_drop, List.length_cons, List.length_nil]; omega)) ?_
      exact aD.run II 1 rfl (aD.nil (by kernel_rfl) (Kept.now (aC.region (aB.run II 3 rfl (aB.kept (Kept.aY 4 rfl (inc (by omega)) (Kept.aI [.s 4, .s 3, .t 63, .h, .s 1, .b 1, .s 2, .b 2] rfl (by decide) (Kept.gB 63 10 (by decide) rfl (Kept.now ⟨i + 1, by omega, trivial, IC (by rw [ij hi]; exact hZ (hJ.stop (of_decide_eq_true hg2) (kW 0 hJ (of_decide_eq_true hg2)) hc3) (by rw [qm hnn.1 hnn.2 hg4]; intro e; have := Option.some.inj e; simp_all))⟩)))))))))
     ·exact aC.skip (aC.region (aB.run II 3 rfl (aB.kept (Kept.aY 4 rfl (inc (by omega)) (Kept.aI [.s 4, .s 3, .t 10, .h, .s 1, .b 1, .s 2, .b 2] rfl (by decide) (Kept.now ⟨i + 1, by omega, trivial, IC (by rw [ij hi, pL (hJ.stop (of_decide_eq_true hg2) (kW 0 hJ (of_decide_eq_true hg2)) hc3) (by rw [qm hnn.1 hnn.2 hg4]; simp_all)])⟩))))))
  ·refine aB.run II 8 rfl (aB.nil (aC.aZ rfl rfl (aC.exit (aC.seq (aC.region (aB.run II 5 rfl (aB.tell (d := 44) rfl (fun hg6 => ?_) (fun hg6 => ?_))))))))
   ·refine aB.run II 7 rfl (aB.nil (aC.ar rfl rfl (aC.drawn mixed rfl (aD.c2 rfl (bD («as» := []) (aF rfl) ba fK rfl rfl rfl (fh rfl) rfl) (aD.run II 2 rfl (aD.c1 rfl (bE (aF rfl) cY rfl (fun e he => by obtain ⟨f, _, rfl⟩ := List.mem_map.1 he; rfl) rfl rfl (by omega) (by first | omega | (rw [List.length_map]; omega)) (by first | omega | (rw [List.length_map]; omega))) ?_))))))
    refine aD.c3 rfl (aW (aF rfl) ba rfl rfl rfl (by first | rfl | exact nT _ _ _ | exact cP .i64 id _) rfl (by simp only [List.length_append, List.length_map, List.length_take, List.length_drop, List.length_cons, List.length_nil]; omega) (by simp only [List.length_append, List.length_map, List.length_take, List.length_drop, List.length_cons, List.length_nil]; omega)) ?_
    refine aD.run II 2 rfl (aD.c3 rfl (aW (aF rfl) ba rfl rfl rfl (by first | rfl | exact nT _ _ _ | exact cP .i64 id _) rfl (by simp only [List.length_append, List.length_map, List.length_take, List.length_drop, List.length_cons, List.length_nil]; omega) (by simp only [List.length_append, List.length_map, List.length_take, List.length_drop, List.length_cons, List.length_nil]; omega)) ?_)
    refine aD.run II 2 rfl (aD.c1 rfl (bE (aF rfl) cY rfl (fun e he => by obtain ⟨f, _, rfl⟩ := List.mem_map.1 he; rfl) rfl rfl (by omega) (by first | omega | (rw [List.length_map]; omega)) (by first | omega | (rw [List.length_map]; omega))) ?_)
    refine aD.c3 rfl (aW (aF rfl) ba rfl rfl rfl (by first | rfl | exact nT _ _ _ | exact cP .i64 id _) rfl (by simp only [List.length_append, List.length_map, List.length_take, List.length_drop, List.length_cons, List.length_nil]; omega) (by simp only [List.length_append, List.length_map, List.length_take, List.length_drop, List.length_cons, List.length_nil]; omega)) ?_
    exact aD.run II 1 rfl (aD.nil (by kernel_rfl) (Kept.now (aC.region (aB.run II 3 rfl (aB.kept (Kept.aY 4 rfl (inc (by omega)) (Kept.aI [.s 4, .s 3, .t 63, .h, .s 1, .b 1, .s 2, .b 2] rfl (by decide) (Kept.gB 63 10 (by decide) rfl (Kept.now ⟨i + 1, by omega, trivial, IC (by rw [ij hi]; exact hZ (hJ.low (of_decide_eq_false hg2)) (Bk hnn.1 hg6))⟩)))))))))
   ·refine aB.run II 2 rfl (aB.g1 rfl (aF rfl) rfl rfl (aH (aF rfl) cY rfl rfl hnn.1 (by rw [List.getElem?_map, qm hnn.1 hnn.2 hg6]; rfl) rfl) ?_)
    refine aB.run II 4 rfl (aB.nil (aC.cond rfl (fun hc7 => ?_) (fun hc7 => ?_)))
    ·refine aC.drawn mixed rfl (aD.c2 rfl (bD («as» := []) (aF rfl) ba fK rfl rfl rfl (fh rfl) rfl) (aD.run II 2 rfl (aD.c1 rfl (bE (aF rfl) cY rfl (fun e he => by obtain ⟨f, _, rfl⟩ := List.mem_map.1 he; rfl) rfl rfl (by omega) (by first | omega | (rw [List.length_map]; omega)) (by first | omega | (rw [List.length_map]; omega))) ?_)))
     refine aD.c3 rfl (aW (aF rfl) ba rfl rfl rfl (by first | rfl | exact nT _ _ _ | exact cP .i64 id _) rfl (by simp only [List.length_append, List.length_map, List.length_take, List.length_drop, List.length_cons, List.length_nil]; omega) (by simp only [List.length_append, List.length_map, List.length_take, List.length_drop, List.length_cons, List.length_nil]; omega)) ?_
     refine aD.run II 2 rfl (aD.c3 rfl (aW (aF rfl) ba rfl rfl rfl (by first | rfl | exact nT _ _ _ | exact cP .i64 id _) rfl (by simp only [List.length_append, List.length_map, List.length_take, List.length_drop, List.length_cons, List.length_nil]; omega) (by simp only [List.length_append, List.length_map, List.length_take, List.length_drop, List.length_cons, List.length_nil]; omega)) ?_)
     refine aD.run II 2 rfl (aD.c1 rfl (bE (aF rfl) cY rfl (fun e he => by obtain ⟨f, _, rfl⟩ := List.mem_map.1 he; rfl) rfl rfl (by omega) (by first | omega | (rw [List.length_map]; omega)) (by first | omega | (rw [List.length_map]; omega))) ?_)
     refine aD.c3 rfl (aW (aF rfl) ba rfl rfl rfl (by first | rfl | exact nT _ _ _ | exact cP .i64 id _) rfl (by simp only [List.length_append, List.length_map, List.length_take, List.length_drop, List.length_cons, List.length_nil]; omega) (by simp only [List.length_append, List.length_map, List.length_take, List.length_drop, List.length_cons, List.length_nil]; omega)) ?_
     exact aD.run II 1 rfl (aD.nil (by kernel_rfl) (Kept.now (aC.region (aB.run II 3 rfl (aB.kept (Kept.aY 4 rfl (inc (by omega)) (Kept.aI [.s 4, .s 3, .t 63, .h, .s 1, .b 1, .s 2, .b 2] rfl (by decide) (Kept.gB 63 10 (by decide) rfl (Kept.now ⟨i + 1, by omega, trivial, IC (by rw [ij hi]; exact hZ (hJ.low (of_decide_eq_false hg2)) (by rw [qm hnn.1 hnn.2 hg6]; intro e; have := Option.some.inj e; simp_all))⟩)))))))))
    ·exact aC.skip (aC.region (aB.run II 3 rfl (aB.kept (Kept.aY 4 rfl (inc (by omega)) (Kept.aI [.s 4, .s 3, .t 10, .h, .s 1, .b 1, .s 2, .b 2] rfl (by decide) (Kept.now ⟨i + 1, by omega, trivial, IC (by rw [ij hi, pL (hJ.low (of_decide_eq_false hg2)) (by rw [qm hnn.1 hnn.2 hg6]; simp_all)])⟩))))))
 ·have hi := cj hc1
  exact aC.exit (aC.seq (aC.region (aB.run II 3 rfl (aB.nil (aC.seq (aC.region (aB.run II 2 rfl (aB.nil (aC.ret ⟨.inr rfl, (aE.r1 rfl (.cell eg rfl rfl rfl rfl .nil)).cast (by have e : tj p i = (cN p).ever := (by unfold tj; rw [List.take_of_length_le hi]; rfl); rw [e]; rfl), rfl⟩)))))))))
/- the document: the parts of a schema -/
theorem v7 : ab Tryz.prog 41 = true := by kernel_rfl
theorem oK : se Tryz.prog 35 = some (48, 7, 128) := by kernel_rfl
theorem wG : zk Tryz.prog 48 = some [(0, 1), (1, 1), (2, 1), (3, 1), (4, 1), (5, 1), (6, 1)] := by kernel_rfl
theorem lK : bf Tryz.prog 48 = some [AV.str [], AV.sl [], AV.sl [], AV.sl [], AV.int IntKind.i64 (0), AV.sl [], AV.bool false] := by kernel_rfl
theorem IF : mx Tryz.prog 48 = some [.str [], .nsl, .nsl, .nsl, .int .i64 0, .nsl, .bool false] := by kernel_rfl
def jZ (p : aj) : AV := dg p .nsl
theorem wU (l : List aj) : ∀ e ∈ l.map jZ, e.cells.length = 7 := fun e he => by
 obtain ⟨p, _, rfl⟩ := List.mem_map.1 he; rfl
def cu (s : aN) (m : aT) (k : Nat) : List Port := (m.fields.zipIdx.take k).map fun (f, k) => jF s f k
theorem su {s : aN} {m : aT} {k : Nat} : (cu s m k).length ≤ m.fields.length := by unfold cu; simp; omega
theorem rM {s : aN} {m : aT} {k : Nat} (hk : k < m.fields.length) : cu s m (k + 1) = cu s m k ++ [jF s m.fields[k] k] := by
 unfold cu
 have : m.fields.zipIdx[k]? = some (m.fields[k], k) := by simp [List.getElem?_zipIdx, hk]
 rw [List.take_add_one, this, List.map_append]; rfl
theorem sw {s : aN} {m : aT} {k : Nat} (hk : m.fields.length ≤ k) : cu s m k = bb s m := by
 unfold cu bb; rw [List.take_of_length_le (by simpa using hk)]
def jg (s : aN) (m : aT) : aj := { cc with name := m.name, ins := bb s m, outs := bb s m, aJ := m.fields.length }
def CU (s : aN) (i : Nat) : List aj := (s.msgs.take i).map fun m => cN (jg s m)
theorem By {s : aN} {i : Nat} (hi : i < s.msgs.length) : CU s (i + 1) = CU s i ++ [cN (jg s s.msgs[i])] := by
 unfold CU; rw [List.take_add_one, List.getElem?_eq_getElem hi, List.map_append]; rfl
theorem Eh {s : aN} {i : Nat} (hi : s.msgs.length ≤ i) : CU s i = bk s := by
 unfold CU; rw [List.take_of_length_le hi]; rfl
theorem Eg {s : aN} {i : Nat} (hi : i ≤ s.msgs.length) : (CU s i).length = i := by unfold CU; simp; omega
theorem KW {s : aN} {i n : Nat} {v : CV} {rest : List (aM × CV)} {H : Hp} (hi : i < s.msgs.length) {a : AV} (ha : a = jZ (cN (jg s s.msgs[i]))) : ((aM.s 4, v) :: (aM.s 3, CV.sv (.v (.os n (i + 1) 7))) :: (aM.h, CV.hp (H.bump (i + 1) (az ((CU s i).map jZ ++ [a])))) :: rest) = [(aM.s 4, v), (aM.s 3, CV.sv (.v (.os n (i + 1) 7))), (aM.h, CV.hp (H.bump (i + 1) (az ((CU s (i + 1)).map jZ))))] ++ rest := by rw [By hi, ha, List.map_append]; rfl
theorem KU {v : CV} {a b c d e f : Sv} {rest : List (aM × CV)} {el esz t : Nat} {s : aN} {m : aT} {k : Nat} (hk : k < m.fields.length) {x : AV} (hx : x = (jF s m.fields[k] k).av) : ((aM.s 7, v) :: (aM.b 6, CV.bx [a, .ow t ((cu s m k).map Port.av ++ [x]), b, c, d, e, f]) :: (aM.t t, CV.tk false el esz ((cu s m k).map Port.av ++ [x])) :: rest) = [(aM.s 7, v), (aM.b 6, CV.bx [a, .ow t ((cu s m (k + 1)).map Port.av), b, c, d, e, f]), (aM.t t, CV.tk false el esz ((cu s m (k + 1)).map Port.av))] ++ rest := by
 rw [rM hk, hx, List.map_append]; rfl
theorem DL (s : aN) (hs : s.sm) (H : Hp) : cT Tryz.prog 38 [s.av] H (.os (H.next + s.msgs.length) s.msgs.length 7) (H.bump s.msgs.length (az ((bk s).map jZ))) := by
 have hsm := hs.m
 refine cT.fin fun hfin => (cT.aL Tryz.func38 rfl rfl (aF rfl) (aC.seq (aC.region (aB.run II 2 rfl (aB.nil (aC.seq (aC.region (aB.c3 rfl (lg («as» := []) (aF rfl) oK lK rfl rfl rfl (fh rfl) rfl rfl) (aB.run II 1 rfl (aB.nil (aC.seq (aC.seq (aC.aK (Kept.nR rfl (Hp.lu hfin) (Kept.now (aC.region (aB.run II 1 rfl (aB.nil (aC.blk ?_)))))))))))))))))))
 refine aC.aK (Kept.aI [.s 4, .s 3, .h, .s 1, .b 1] rfl (by decide) (Kept.now (aC.aX (fun (i : Nat) => [(.s 4, .sv (.v (.int .i64 (i : Int)))), (.s 3, .sv (.v (.os (H.next + i) i 7))), (.h, .hp (H.bump i (az ((CU s i).map jZ))))]) _ (fun (i : Nat) => i ≤ s.msgs.length) (fun (i : Nat) => s.msgs.length - i) 0 rfl (Nat.zero_le _) ?_)))
 rintro i hI
 refine aC.seq (aC.seq (aC.region (aB.run II 5 rfl (aB.nil (aC.cond rfl (fun hc1 => ?_) (fun hc1 => ?_))))))
 ·have hi := ch hc1
  refine aC.skip (aC.seq (aC.blk (aC.seq (aC.region (aB.run II 3 rfl (aB.c1 rfl (aH (aF rfl) bQ rfl rfl (Int.natCast_nonneg _) (bz hi) rfl) (aB.run II 3 rfl (aB.nil (aC.seq (aC.region (aB.run II 5 rfl (aB.c1 rfl (jI (aF rfl) wG IF rfl rfl) (aB.run II 2 rfl (aB.kept (Kept.wc 6 1 160 96 9 rfl rfl rfl rfl (by decide) (Kept.Ao 6 3 rfl rfl (Kept.Ao 6 5 rfl rfl (Kept.now (aC.seq (aC.seq (aC.region (aB.run II 1 rfl (aB.nil (aC.blk ?_))))))))))))))))))))))))
  refine aC.aK (Kept.aI [.s 7, .b 6, .t 160, .h, .s 1, .b 1, .s 3, .s 4, .s 5, .b 5, .s 6] rfl (by decide) (Kept.now (aC.aX (fun (k : Nat) => [(.s 7, .sv (.v (.int .i64 (k : Int)))), (.b 6, .bx [.v (.str (s.msgs[i]'hi).name), .ow 160 ((cu s (s.msgs[i]'hi) k).map Port.av), .v .nsl, .v (.sl []), .v (.int .i64 (((s.msgs[i]'hi).fields.map ah.av).length : Int)), .v (.sl []), .v (.bool false)]), (.t 160, .tk false 96 9 ((cu s (s.msgs[i]'hi) k).map Port.av))]) _ (fun (k : Nat) => True) (fun (k : Nat) => (s.msgs[i]'hi).fields.length - k) 0 rfl trivial ?_)))
  rintro k hK
  have hpl := @su s (s.msgs[i]'hi) k
  have hfi := hs.f _ (List.getElem_mem hi)
  refine aC.seq (aC.seq (aC.region (aB.run II 5 rfl (aB.nil (aC.cond rfl (fun hc2 => ?_) (fun hc2 => ?_))))))
  ·have hk := ch hc2
   refine aC.skip (aC.seq (aC.blk (aC.seq (aC.region (aB.run II 3 rfl (aB.c1 rfl (aH (aF rfl) bR rfl rfl (Int.natCast_nonneg _) (bz hk) rfl) (aB.run II 5 rfl (aB.nil (aC.cE [.h, .s 1, .b 1, .s 3, .s 4, .s 5, .b 5, .s 6, .b 6, .t 160, .s 7] (fun (_ : Unit) => [(.s 8, .sv (.lp 8 0)), (.b 8, .bx [.v (.str ((s.msgs[i]'hi).fields[k]'hk).name), .v (.int .i64 ((s.msgs[i]'hi).fields[k]'hk).num), .v (.int .i64 ((s.msgs[i]'hi).fields[k]'hk).ty), .v (.str ((s.msgs[i]'hi).fields[k]'hk).ref), .v (.bool ((s.msgs[i]'hi).fields[k]'hk).rep), .v (.bool ((s.msgs[i]'hi).fields[k]'hk).loose), .v (.str ((s.msgs[i]'hi).fields[k]'hk).one), .v (.int .i64 (k : Int)), .v (.int .i64 (jF s ((s.msgs[i]'hi).fields[k]'hk) k).part)])]) (fun (_ : Unit) => True) rfl ?_ ?_)))))))))
   ·refine aC.seq (aC.region (aB.run II 4 rfl (aB.nil (aC.cond rfl (fun hc3 => ?_) (fun hc3 => ?_)))))
    ·exact aC.region (aB.run II 4 rfl (aB.c1 rfl (aG (aF rfl) jw rfl (gw s _ (by omega))) (aB.run II 2 rfl (aB.kept (Kept.aI [.s 8, .b 8, .h, .s 1, .b 1, .s 3, .s 4, .s 5, .b 5, .s 6, .b 6, .t 160, .s 7] rfl (by decide) (Kept.now ⟨(), trivial, by unfold jF; rw [if_pos (by simpa using hc3)]; rfl⟩))))))
    ·exact aC.aK (Kept.aI [.s 8, .b 8, .h, .s 1, .b 1, .s 3, .s 4, .s 5, .b 5, .s 6, .b 6, .t 160, .s 7] rfl (by decide) (Kept.now (aC.skip ⟨(), trivial, by unfold jF; rw [if_neg (by simpa using hc3)]; rfl⟩)))
   ·rintro _ hF13
    refine aC.region (aB.run II 4 rfl (aB.c3 rfl (aW (aF rfl) dI rfl rfl rfl rfl rfl (by rw [List.length_map]; simp only [List.length_cons, List.length_nil]; omega) (by rw [List.length_map]; simp only [List.length_cons, List.length_nil]; omega)) ?_))
    exact aB.run II 2 rfl (aB.nil (aC.region (aB.run II 3 rfl (aB.kept (Kept.aY 7 rfl (inc (by omega)) (Kept.aI [.s 7, .b 6, .t 56, .h, .s 1, .b 1, .s 3, .s 4, .s 5, .b 5, .s 6] rfl (by decide) (Kept.gB 56 160 (by decide) rfl (Kept.now ⟨k + 1, by omega, trivial, KU hk rfl⟩))))))))
  ·have hk := cj hc2
   refine aC.exit (aC.seq (aC.region (aB.c2 rfl (bD («as» := []) (aF rfl) dI fl rfl rfl rfl (fh rfl) rfl) (aB.run II 2 rfl (aB.c3 rfl (aW (aF rfl) dI rfl rfl rfl (bw Port.cells (fun _ => rfl) _) rfl (by rw [List.length_map]; simp only [List.length_nil]; omega) (by rw [List.length_map]; simp only [List.length_nil]; omega)) ?_)))))
   refine aB.run II 2 rfl (aB.nil (aC.region (aB.run II 2 rfl (aB.c1 rfl (aG (aF rfl) v7 rfl (uq ({ cc with name := (s.msgs[i]'hi).name, ins := (cu s (s.msgs[i]'hi) k), outs := (cu s (s.msgs[i]'hi) k), aJ := (((s.msgs[i]'hi).fields.map ah.av).length : Int) } : aj) .nsl (by show (cu s (s.msgs[i]'hi) k).length ≤ 1000; omega) (by show ([] : List Int).length ≤ 100000; decide))) ?_))))
   refine aB.run II 1 rfl (aB.c3 rfl (kr (aF rfl) oK lK rfl rfl Hp.cm (wU _) (by rw [List.length_map, Eg hI]) rfl rfl rfl (by simp only [List.length_cons, List.length_nil]; omega) (by simp only [List.length_cons, List.length_nil]; omega)) ?_)
   exact aB.run II 1 rfl (aB.nil (aC.region (aB.run II 3 rfl (aB.kept (Kept.nR rfl Hp.il (Kept.aY 4 rfl (inc (by omega)) (Kept.aI [.s 4, .s 3, .h, .s 1, .b 1] rfl (by decide) (Kept.now ⟨i + 1, by omega, by omega, KW hi (by rw [sw hk, List.length_map]; rfl)⟩))))))))
 ·have hi := cj hc1
  refine aC.exit (aC.seq (aC.region (aB.run II 2 rfl (aB.nil (aC.ret ?_)))))
  have hil : i = s.msgs.length := (by omega)
  subst hil
  rw [Eh (Nat.le_refl _)]
  exact ⟨.inr rfl, (aE.r1 rfl (.tmp rfl .nil)).cast rfl, rfl⟩
end Go.Proofs.YtlijgcifhhcfaaaGreatDoor.X
