/- the document: a schema, sorted. -/
import Derived.Test.YtgmdapgedlachaaGreatDoorZFD
import Derived.Test.YtgmdapgedlachaaGreatDoorZFF
set_option linter.unusedVariables false
set_option linter.unusedSimpArgs false
set_option linter.unusedSectionVars false
set_option maxRecDepth 100000
namespace Go.Proofs.YtgmdapgedlachaaGreatDoor.X
open Go Go.RowKit Go.Proofs
theorem gb : lk Tryz.prog 25 = some (true, 2) := by kernel_rfl
theorem mb : se Tryz.prog 107 = some (111, 2, 24) := by kernel_rfl
theorem zB : se Tryz.prog 22 = some (109, 2, 40) := by kernel_rfl
theorem kA : se Tryz.prog 23 = some (73, 3, 64) := by kernel_rfl
theorem wT : cE Tryz.prog 111 = some [AV.str [], AV.int IntKind.i64 (0)] := by kernel_rfl
theorem HP : cE Tryz.prog 109 = some [AV.str [], AV.sl []] := by kernel_rfl
theorem AX : cE Tryz.prog 73 = some [AV.str [], AV.sl [], AV.sl []] := by kernel_rfl
def mR (s : aL) (i : Nat) : List eQ := (s.enums.take i).foldl zu []
def ia (s : aL) (i : Nat) : List aU := (s.msgs.take i).foldl mM []
structure aL.Fa (s : aL) : Prop where
 e : s.enums.length ≤ 100
 m : s.msgs.length ≤ 100
 v : ∀ x ∈ s.enums, x.values.length ≤ 100
 f : ∀ x ∈ s.msgs, x.fields.length ≤ 100
 b : ∀ x ∈ s.msgs, x.ai.length ≤ 100
theorem aL.Fa.vi {s : aL} (h : s.Fa) {i : Nat} (hi : i < s.enums.length) : s.enums[i].values.length ≤ 100 := h.v _ (List.getElem_mem hi)
theorem aL.Fa.fi {s : aL} (h : s.Fa) {i : Nat} (hi : i < s.msgs.length) : s.msgs[i].fields.length ≤ 100 := h.f _ (List.getElem_mem hi)
theorem aL.Fa.bi {s : aL} (h : s.Fa) {i : Nat} (hi : i < s.msgs.length) : s.msgs[i].ai.length ≤ 100 := h.b _ (List.getElem_mem hi)
theorem pe {α : Type} (l : List α) (k : Nat) (x : α) : (fS l k x).length = l.length + 1 := (nY l k x).length_eq
theorem o8 {α β : Type} (f : List α → β → List α) (hf : ∀ acc x, (f acc x).length = acc.length + 1) : ∀ (l : List β) (acc : List α), (l.foldl f acc).length = acc.length + l.length
 | [], acc => rfl
 | b :: l, acc => by rw [List.foldl_cons, o8 f hf l, hf, List.length_cons]; omega
theorem oe (s : aL) (i : Nat) : (mR s i).length ≤ s.enums.length := by
 unfold mR
 rw [o8 zu (fun acc x => pe _ _ _), List.length_take, List.length_nil]; omega
theorem cH (s : aL) (i : Nat) : (ia s i).length ≤ s.msgs.length := by
 unfold ia
 rw [o8 mM (fun acc x => pe _ _ _), List.length_take, List.length_nil]; omega
theorem JK {s : aL} {i : Nat} (hi : i < s.msgs.length) : (ia s i).length = i := by
 unfold ia
 rw [o8 mM (fun acc x => pe _ _ _), List.length_take, List.length_nil]; omega
theorem xx {s : aL} {i : Nat} (hi : i < s.enums.length) : mR s (i + 1) = fS (mR s i) (eR ((mR s i).map (·.name)) 0 s.enums[i].name) s.enums[i].sort := by
 have e : s.enums.take (i + 1) = s.enums.take i ++ [s.enums[i]] := by rw [List.take_add_one, List.getElem?_eq_getElem hi]; rfl
 unfold mR
 rw [e, List.foldl_append]; rfl
theorem xd {s : aL} {i : Nat} (hi : i < s.msgs.length) : ia s (i + 1) = fS (ia s i) (if i = 0 then 0 else eR ((ia s i).map (·.name)) 1 s.msgs[i].name) s.msgs[i].sort := by
 have e : s.msgs.take (i + 1) = s.msgs.take i ++ [s.msgs[i]] := by rw [List.take_add_one, List.getElem?_eq_getElem hi]; rfl
 have h : ia s (i + 1) = mM (ia s i) s.msgs[i] := by unfold ia; rw [e, List.foldl_append]; rfl
 rw [h]
 unfold mM
 rw [JK hi]
theorem pd {α β : Type} (g : α → β) (l : List α) (k : Nat) (x : α) : (fS l k x).map g = fS (l.map g) k (g x) := by
 unfold fS
 rw [List.map_append, List.map_cons, List.map_take, List.map_drop]
theorem qw {α : Type} (f : α → AV) (l : List α) (k : Nat) (x : α) : ([] ++ (((l.map f).drop (0 : Int).toNat).take ((k : Int).toNat - (0 : Int).toNat))) ++ [f x] ++ (((l.map f).drop (k : Int).toNat).take (((l.map f).length : Int).toNat - (k : Int).toNat)) = (fS l k x).map f := by
 rw [(mj _).1, (mj _).2, pd]
 unfold fS
 rw [List.nil_append, List.append_assoc, Int.toNat_natCast]; rfl
theorem bg (l : List aw) (f : Nat) (s : aw) : eR l f s ≤ l.length := by
 unfold eR
 split <;> omega
theorem iV (l : List aw) (a b : Nat) : cg 1 (((l.map AV.str).drop a).take b) = true := by
 rw [← List.map_drop, ← List.map_take]; exact u3 id _
theorem okV (l : List ks) (a b : Nat) : cg 2 (((l.map ks.av).drop a).take b) = true := by
 rw [← List.map_drop, ← List.map_take]; exact ba ks.cells (fun _ => rfl) _
theorem ya (l : List eQ) (a b : Nat) : cg 2 (((l.map eQ.av).drop a).take b) = true := by
 rw [← List.map_drop, ← List.map_take]; exact ba eQ.cells (fun _ => rfl) _
theorem y9 (l : List aU) (a b : Nat) : cg 3 (((l.map aU.av).drop a).take b) = true := by
 rw [← List.map_drop, ← List.map_take]; exact ba aU.cells (fun _ => rfl) _
theorem GZ {s : aL} {i : Nat} (hi : i < s.enums.length) {k : Nat} (hk : k = eR ((mR s i).map (·.name)) 0 s.enums[i].name) : ([] ++ (((((mR s i).map (·.name)).map AV.str).drop (0 : Int).toNat).take ((k : Int).toNat - (0 : Int).toNat))) ++ [AV.str s.enums[i].name] ++ ((((mR s i).map (·.name)).map AV.str).drop (k : Int).toNat).take (((((mR s i).map (·.name)).map AV.str).length : Int).toNat - (k : Int).toNat) = ((mR s (i + 1)).map (·.name)).map AV.str := by
 rw [xx hi, pd, hk]; exact qw AV.str _ _ _
theorem Md {s : aL} {i : Nat} (hi : i < s.enums.length) {q : Nat} (hq : s.enums[i].values.length ≤ q) {k : Nat} (hk : k = eR ((mR s i).map (·.name)) 0 s.enums[i].name) : ([] ++ ((((mR s i).map eQ.av).drop (0 : Int).toNat).take ((k : Int).toNat - (0 : Int).toNat))) ++ [AV.agg [.str s.enums[i].name, .sl ((bO (fun y x : ks => decide (y.num > x.num)) (s.enums[i].values.take q)).map ks.av)]] ++ (((mR s i).map eQ.av).drop (k : Int).toNat).take ((((mR s i).map eQ.av).length : Int).toNat - (k : Int).toNat) = (mR s (i + 1)).map eQ.av := by
 rw [List.take_of_length_le hq, xx hi, hk]; exact qw eQ.av _ _ s.enums[i].sort
theorem P2 {v : CV} {el esz : Nat} {t : Sv} {rest : List (aI × CV)} {a b c d : List AV} (h1 : a = b) (h2 : c = d) : ((aI.s 5, v) :: (aI.s 4, CV.sv (.ow 15 a)) :: (aI.t 15, CV.tk false el esz a) :: (aI.b 3, CV.bx [.v (.sl c), t]) :: rest) = [(aI.s 5, v), (aI.s 4, CV.sv (.ow 15 b)), (aI.t 15, CV.tk false el esz b), (aI.b 3, CV.bx [.v (.sl d), t])] ++ rest := by rw [h1, h2]; rfl
theorem xc {s : aL} {i : Nat} (hi : i < s.msgs.length) {k : Nat} (hk : k = if i = 0 then 0 else eR ((ia s i).map (·.name)) 1 s.msgs[i].name) : ([] ++ (((((ia s i).map (·.name)).map AV.str).drop (0 : Int).toNat).take ((k : Int).toNat - (0 : Int).toNat))) ++ [AV.str s.msgs[i].name] ++ ((((ia s i).map (·.name)).map AV.str).drop (k : Int).toNat).take (((((ia s i).map (·.name)).map AV.str).length : Int).toNat - (k : Int).toNat) = ((ia s (i + 1)).map (·.name)).map AV.str := by
 rw [xd hi, pd, ← hk]; exact qw AV.str _ _ _
theorem F1 {s : aL} {i : Nat} (hi : i < s.msgs.length) {k : Nat} (hk : k = if i = 0 then 0 else eR ((ia s i).map (·.name)) 1 s.msgs[i].name) : ([] ++ ((((ia s i).map aU.av).drop (0 : Int).toNat).take ((k : Int).toNat - (0 : Int).toNat))) ++ [s.msgs[i].sort.av] ++ (((ia s i).map aU.av).drop (k : Int).toNat).take ((((ia s i).map aU.av).length : Int).toNat - (k : Int).toNat) = (ia s (i + 1)).map aU.av := by
 rw [xd hi, ← hk]; exact qw aU.av _ _ s.msgs[i].sort
theorem PT {v : CV} {el esz : Nat} {t : Sv} {rest : List (aI × CV)} {a b c d : List AV} (h1 : a = b) (h2 : c = d) : ((aI.s 11, v) :: (aI.s 4, CV.sv (.ow 116 a)) :: (aI.t 116, CV.tk false el esz a) :: (aI.b 3, CV.bx [t, .v (.sl c)]) :: rest) = [(aI.s 11, v), (aI.s 4, CV.sv (.ow 116 b)), (aI.t 116, CV.tk false el esz b), (aI.b 3, CV.bx [t, .v (.sl d)])] ++ rest := by rw [h1, h2]; rfl
theorem PS {v : CV} {n : Sv} {rest : List (aI × CV)} {a b : List AV} (h : a = b) : ((aI.s 7, v) :: (aI.b 6, CV.bx [n, .v (.sl a)]) :: rest) = [(aI.s 7, v), (aI.b 6, CV.bx [n, .v (.sl b)])] ++ rest := by rw [h]; rfl
theorem OV {p : ks → Bool} {l : List ks} {j : Int} (hl : l.length ≤ 1000000) (h : qa p l j) (hf : 0 < j) : (l.map ks.av)[(IntKind.i64.wrap (j - 1)).toNat]? = some (.agg (Mo default l j).cells) := by
 have hn := h.nn
 rw [fI (by omega) (by omega), List.getElem?_map, mq default h hf]; rfl
theorem wx (s : aL) (hs : s.Fa) : Pure Tryz.prog 74 [s.av] s.sorted.av := by
 have hsm := hs.m
 have hse := hs.e
 refine Pure.gn 11 II mixed Tryz.func74 rfl rfl fun H => (aB.d2 rfl (bD («as» := []) (aH rfl) bZ dn rfl rfl rfl (gQ rfl) rfl) (aG.lp 8 [.s 5, .s 4, .t 15, .b 3, .h, .s 1, .b 1, .s 2, .b 2, .s 3] (fun (i : Nat) => [(.s 5, .sv (.v (.int .i64 (i : Int)))), (.s 4, .sv (.ow 15 (((mR s i).map (·.name)).map AV.str))), (.t 15, .tk false 9 1 (((mR s i).map (·.name)).map AV.str)), (.b 3, .bx [.v (.sl ((mR s i).map eQ.av)), .v (.sl (([] : List aU).map aU.av))])]) (fun (i : Nat) => True) (fun (i : Nat) => s.enums.length - i) 0 rfl rfl trivial ?_))
 rintro i hI
 refine aG.ci 999 3 rfl (fun hc1 => ?_) (fun hc1 => ?_)
 ·have hi := cz hc1
  refine aB.ii rfl dw rfl rfl (ca hi) rfl (aG.lq [.s 7, .b 6, .h, .s 1, .b 1, .s 2, .b 2, .s 3, .b 3, .s 4, .t 15, .s 5, .s 6] (fun (k : Nat) => [(.s 7, .sv (.v (.int .i64 (k : Int)))), (.b 6, .bx [.v (.str (s.enums[i]'hi).name), .v (.sl ((bO (fun y x : ks => decide (y.num > x.num)) ((s.enums[i]'hi).values.take k)).map ks.av))])]) (fun (k : Nat) => True) (fun (k : Nat) => (s.enums[i]'hi).values.length - k) 0 rfl rfl trivial ?_)
  rintro k hK
  have hvi := hs.vi hi
  refine aB.ii rfl dw rfl rfl (ca hi) rfl (aC (fun hc2 => ?_) (fun hc2 => ?_))
  ·have hk := cz hc2
   refine aB.ii rfl dw rfl rfl (ca hi) rfl (aB.ii rfl gz rfl rfl (ca hk) rfl (aG.lp 6 [.s 9, .h, .s 1, .b 1, .s 2, .b 2, .s 3, .b 3, .s 4, .t 15, .s 5, .s 6, .b 6, .s 7, .s 8, .b 8] (fun (j : Int) => [(.s 9, .sv (.v (.int .i64 j)))]) (fun (j : Int) => qa (fun y : ks => decide (y.num > ((s.enums[i]'hi).values[k]'hk).num)) (bO (fun y x : ks => decide (y.num > x.num)) ((s.enums[i]'hi).values.take k)) j) (fun (j : Int) => j.toNat) (((bO (fun y x : ks => decide (y.num > x.num)) ((s.enums[i]'hi).values.take k)).map ks.av).length : Int) rfl rfl (by rw [List.length_map]; exact qa.start) ?_))
   rintro j hJ
   have hnn := hJ.nn
   have hle := @yr _ (fun y x : ks => decide (y.num > x.num)) (s.enums[i]'hi).values k (by have := hs.vi hi; omega)
   refine ⟨rfl, (aF.ti 999 14 rfl (fun hg3 => ?_) (fun hg3 => ?_))⟩
   ·refine aF.n1 6 rfl (ak (aH rfl) gz rfl rfl (by have := of_decide_eq_true hg3; rw [fI (by omega) (by omega)]; omega) (OV (by omega) hJ (of_decide_eq_true hg3)) rfl) ?_
    refine ⟨by kernel_rfl, (aG.ci 999 2 rfl (fun hc4 => ?_) (fun hc4 => ?_))⟩
    ·exact .bc [.s 9, .h, .s 1, .b 1, .s 2, .b 2, .s 3, .b 3, .s 4, .t 15, .s 5, .s 6, .b 6, .s 7, .s 8, .b 8] rfl ⟨_, by show (IntKind.i64.wrap (j - 1)).toNat < j.toNat; have := of_decide_eq_true hg3; rw [fI (by omega) (by omega)]; omega, by rw [fI (by have := of_decide_eq_true hg3; omega) (by omega)]; exact hJ.step (of_decide_eq_true hg3) (mq default hJ (of_decide_eq_true hg3)) hc4, rfl⟩
    ·refine ⟨rfl, (aF.d2 rfl (bD («as» := []) (aH rfl) mb wT rfl rfl rfl (gQ rfl) rfl) (aF.d1 rfl (bJ (aH rfl) gz rfl (fun e he => by obtain ⟨f, _, rfl⟩ := List.mem_map.1 he; rfl) rfl rfl (by omega) (by first | omega | (rw [List.length_map]; omega)) (by first | omega | (rw [List.length_map]; omega))) ?_))⟩
     iterate 2 (refine aF.d3 rfl (aj (aH rfl) mb rfl rfl rfl (by first | rfl | exact okV _ _ _ | exact iV _ _ _ | exact ya _ _ _ | exact y9 _ _ _) rfl (by simp only [LL]; omega) rfl) ?_)
     refine aF.d1 rfl (bJ (aH rfl) gz rfl (fun e he => by obtain ⟨f, _, rfl⟩ := List.mem_map.1 he; rfl) rfl rfl (by omega) (by first | omega | (rw [List.length_map]; omega)) (by first | omega | (rw [List.length_map]; omega))) ?_
     refine aF.d3 rfl (aj (aH rfl) mb rfl rfl rfl (by first | rfl | exact okV _ _ _ | exact iV _ _ _ | exact ya _ _ _ | exact y9 _ _ _) rfl (by simp only [LL]; omega) rfl) ?_
     exact ⟨by kernel_rfl, (⟨Kept.c6 7 rfl (inc (by omega)) (Kept.forget 6 rfl (Kept.az [.s 7, .b 6, .h, .s 1, .b 1, .s 2, .b 2, .s 3, .b 3, .s 4, .t 15, .s 5, .s 6] rfl (by decide) (Kept.now ⟨k + 1, by omega, trivial, PS (pc ks.av hk (hJ.stop (of_decide_eq_true hg3) (mq default hJ (of_decide_eq_true hg3)) hc4))⟩)))⟩)⟩
   ·refine ⟨by kernel_rfl, (⟨rfl, (aF.d2 rfl (bD («as» := []) (aH rfl) mb wT rfl rfl rfl (gQ rfl) rfl) (aF.d1 rfl (bJ (aH rfl) gz rfl (fun e he => by obtain ⟨f, _, rfl⟩ := List.mem_map.1 he; rfl) rfl rfl (by omega) (by first | omega | (rw [List.length_map]; omega)) (by first | omega | (rw [List.length_map]; omega))) ?_))⟩)⟩
    iterate 2 (refine aF.d3 rfl (aj (aH rfl) mb rfl rfl rfl (by first | rfl | exact okV _ _ _ | exact iV _ _ _ | exact ya _ _ _ | exact y9 _ _ _) rfl (by simp only [LL]; omega) rfl) ?_)
    refine aF.d1 rfl (bJ (aH rfl) gz rfl (fun e he => by obtain ⟨f, _, rfl⟩ := List.mem_map.1 he; rfl) rfl rfl (by omega) (by first | omega | (rw [List.length_map]; omega)) (by first | omega | (rw [List.length_map]; omega))) ?_
    refine aF.d3 rfl (aj (aH rfl) mb rfl rfl rfl (by first | rfl | exact okV _ _ _ | exact iV _ _ _ | exact ya _ _ _ | exact y9 _ _ _) rfl (by simp only [LL]; omega) rfl) ?_
    exact ⟨by kernel_rfl, (⟨Kept.c6 7 rfl (inc (by omega)) (Kept.forget 6 rfl (Kept.az [.s 7, .b 6, .h, .s 1, .b 1, .s 2, .b 2, .s 3, .b 3, .s 4, .t 15, .s 5, .s 6] rfl (by decide) (Kept.now ⟨k + 1, by omega, trivial, PS (pc ks.av hk (hJ.low (of_decide_eq_false hg3)))⟩)))⟩)⟩
  ·have hk := dA hc2
   refine aB.jn 3 rfl (Fn rfl) rfl (Aj ((mR s i).map (·.name)) 0 _ (by have := oe s i; rw [List.length_map]; omega)) ?_
   refine ⟨rfl, (aF.d2 rfl (bD («as» := []) (aH rfl) bZ dn rfl rfl rfl (gQ rfl) rfl) (aF.d1 rfl (bJ (aH rfl) cY rfl (fun e he => by obtain ⟨f, _, rfl⟩ := List.mem_map.1 he; rfl) rfl rfl (by omega) (by first | omega | (have := bg ((mR s i).map (·.name)) 0 (s.enums[i]'hi).name; simp only [List.length_map] at *; omega)) (by first | omega | (have := bg ((mR s i).map (·.name)) 0 (s.enums[i]'hi).name; simp only [List.length_map] at *; omega))) ?_))⟩
   iterate 2 (refine aF.d3 rfl (aj (aH rfl) bZ rfl rfl rfl (by first | rfl | exact okV _ _ _ | exact iV _ _ _ | exact ya _ _ _ | exact y9 _ _ _) rfl (by have := oe s i; have := bg ((mR s i).map (·.name)) 0 (s.enums[i]'hi).name; simp only [List.length_append, List.length_map, List.length_take, List.length_drop, List.length_cons, List.length_nil] at *; omega) rfl) ?_)
   refine aF.d1 rfl (bJ (aH rfl) cY rfl (fun e he => by obtain ⟨f, _, rfl⟩ := List.mem_map.1 he; rfl) rfl rfl (by omega) (by first | omega | (have := bg ((mR s i).map (·.name)) 0 (s.enums[i]'hi).name; simp only [List.length_map] at *; omega)) (by first | omega | (have := bg ((mR s i).map (·.name)) 0 (s.enums[i]'hi).name; simp only [List.length_map] at *; omega))) ?_
   refine aF.n3 2 rfl (aj (aH rfl) bZ rfl rfl rfl (by first | rfl | exact okV _ _ _ | exact iV _ _ _ | exact ya _ _ _ | exact y9 _ _ _) rfl (by have := oe s i; have := bg ((mR s i).map (·.name)) 0 (s.enums[i]'hi).name; simp only [List.length_append, List.length_map, List.length_take, List.length_drop, List.length_cons, List.length_nil] at *; omega) rfl) ?_
   refine ⟨by kernel_rfl, (⟨rfl, (aF.d2 rfl (bD («as» := []) (aH rfl) zB HP rfl rfl rfl (gQ rfl) rfl) (aF.d1 rfl (bJ (aH rfl) dw rfl (fun e he => by obtain ⟨f, _, rfl⟩ := List.mem_map.1 he; rfl) rfl rfl (by omega) (by first | omega | (have := bg ((mR s i).map (·.name)) 0 (s.enums[i]'hi).name; simp only [List.length_map] at *; omega)) (by first | omega | (have := bg ((mR s i).map (·.name)) 0 (s.enums[i]'hi).name; simp only [List.length_map] at *; omega))) ?_))⟩)⟩
   iterate 2 (refine aF.d3 rfl (aj (aH rfl) zB rfl rfl rfl (by first | rfl | exact okV _ _ _ | exact iV _ _ _ | exact ya _ _ _ | exact y9 _ _ _) rfl (by have := oe s i; have := bg ((mR s i).map (·.name)) 0 (s.enums[i]'hi).name; simp only [List.length_append, List.length_map, List.length_take, List.length_drop, List.length_cons, List.length_nil] at *; omega) rfl) ?_)
   refine aF.d1 rfl (bJ (aH rfl) dw rfl (fun e he => by obtain ⟨f, _, rfl⟩ := List.mem_map.1 he; rfl) rfl rfl (by omega) (by first | omega | (have := bg ((mR s i).map (·.name)) 0 (s.enums[i]'hi).name; simp only [List.length_map] at *; omega)) (by first | omega | (have := bg ((mR s i).map (·.name)) 0 (s.enums[i]'hi).name; simp only [List.length_map] at *; omega))) ?_
   refine aF.d3 rfl (aj (aH rfl) zB rfl rfl rfl (by first | rfl | exact okV _ _ _ | exact iV _ _ _ | exact ya _ _ _ | exact y9 _ _ _) rfl (by have := oe s i; have := bg ((mR s i).map (·.name)) 0 (s.enums[i]'hi).name; simp only [List.length_append, List.length_map, List.length_take, List.length_drop, List.length_cons, List.length_nil] at *; omega) rfl) ?_
   exact ⟨by kernel_rfl, (⟨Kept.c6 5 rfl (inc (by omega)) (Kept.forget 3 rfl (Kept.az [.s 5, .s 4, .t 100, .b 3, .h, .s 1, .b 1, .s 2, .b 2, .s 3] rfl (by decide) (Kept.cO 100 15 (by decide) rfl (Kept.now ⟨i + 1, by omega, trivial, P2 (GZ hi rfl) (Md hi (by omega) rfl)⟩))))⟩)⟩
 ·have hi := dA hc1
  refine aB.d2 rfl (bD («as» := []) (aH rfl) bZ dn rfl rfl rfl (gQ rfl) rfl) (aG.lq [.s 11, .s 4, .t 116, .b 3, .h, .s 1, .b 1, .s 2, .b 2, .s 3] (fun (q : Nat) => [(.s 11, .sv (.v (.int .i64 (q : Int)))), (.s 4, .sv (.ow 116 (((ia s q).map (·.name)).map AV.str))), (.t 116, .tk false 9 1 (((ia s q).map (·.name)).map AV.str)), (.b 3, .bx [.v (.sl ((mR s i).map eQ.av)), .v (.sl ((ia s q).map aU.av))])]) (fun (q : Nat) => True) (fun (q : Nat) => s.msgs.length - q) 0 rfl rfl trivial ?_)
  rintro q hQ
  refine aC (fun hc5 => ?_) (fun hc5 => ?_)
  ·have hq := cz hc5
   refine aB.ii rfl bW rfl rfl (ca hq) rfl (aB.jc rfl (Fn rfl) rfl (IM _ (by have := hs.fi hq; omega) (by have := hs.bi hq; omega)) ?_)
   refine aB.jn 6 rfl (Fn rfl) rfl (Aj ((ia s q).map (·.name)) 1 _ (by have := cH s q; rw [List.length_map]; omega)) ?_
   refine aG.ci 4 3 rfl (fun hc6 => ?_) (fun hc6 => ?_)
   ·refine ⟨rfl, (aF.d2 rfl (bD («as» := []) (aH rfl) bZ dn rfl rfl rfl (gQ rfl) rfl) (aF.d1 rfl (bJ (aH rfl) cY rfl (fun e he => by obtain ⟨f, _, rfl⟩ := List.mem_map.1 he; rfl) rfl rfl (by omega) (by first | omega | (have := cH s q; have := bg ((ia s q).map (·.name)) 1 (s.msgs[q]'hq).sort.name; simp only [List.length_map] at *; omega)) (by first | omega | (have := cH s q; have := bg ((ia s q).map (·.name)) 1 (s.msgs[q]'hq).sort.name; simp only [List.length_map] at *; omega))) ?_))⟩
    iterate 2 (refine aF.d3 rfl (aj (aH rfl) bZ rfl rfl rfl (by first | rfl | exact okV _ _ _ | exact iV _ _ _ | exact ya _ _ _ | exact y9 _ _ _) rfl (by have := cH s q; have := bg ((ia s q).map (·.name)) 1 (s.msgs[q]'hq).sort.name; simp only [List.length_append, List.length_map, List.length_take, List.length_drop, List.length_cons, List.length_nil] at *; omega) rfl) ?_)
    refine aF.d1 rfl (bJ (aH rfl) cY rfl (fun e he => by obtain ⟨f, _, rfl⟩ := List.mem_map.1 he; rfl) rfl rfl (by omega) (by first | omega | (have := cH s q; have := bg ((ia s q).map (·.name)) 1 (s.msgs[q]'hq).sort.name; simp only [List.length_map] at *; omega)) (by first | omega | (have := cH s q; have := bg ((ia s q).map (·.name)) 1 (s.msgs[q]'hq).sort.name; simp only [List.length_map] at *; omega))) ?_
    refine aF.n3 2 rfl (aj (aH rfl) bZ rfl rfl rfl (by first | rfl | exact okV _ _ _ | exact iV _ _ _ | exact ya _ _ _ | exact y9 _ _ _) rfl (by have := cH s q; have := bg ((ia s q).map (·.name)) 1 (s.msgs[q]'hq).sort.name; simp only [List.length_append, List.length_map, List.length_take, List.length_drop, List.length_cons, List.length_nil] at *; omega) rfl) ?_
    refine ⟨by kernel_rfl, (⟨rfl, (aF.d2 rfl (bD («as» := []) (aH rfl) kA AX rfl rfl rfl (gQ rfl) rfl) (aF.d1 rfl (bJ (aH rfl) bW rfl (fun e he => by obtain ⟨f, _, rfl⟩ := List.mem_map.1 he; rfl) rfl rfl (by omega) (by first | omega | (have := cH s q; have := bg ((ia s q).map (·.name)) 1 (s.msgs[q]'hq).sort.name; simp only [List.length_map] at *; omega)) (by first | omega | (have := cH s q; have := bg ((ia s q).map (·.name)) 1 (s.msgs[q]'hq).sort.name; simp only [List.length_map] at *; omega))) ?_))⟩)⟩
    iterate 2 (refine aF.d3 rfl (aj (aH rfl) kA rfl rfl rfl (by first | rfl | exact okV _ _ _ | exact iV _ _ _ | exact ya _ _ _ | exact y9 _ _ _) rfl (by have := cH s q; have := bg ((ia s q).map (·.name)) 1 (s.msgs[q]'hq).sort.name; simp only [List.length_append, List.length_map, List.length_take, List.length_drop, List.length_cons, List.length_nil] at *; omega) rfl) ?_)
    refine aF.d1 rfl (bJ (aH rfl) bW rfl (fun e he => by obtain ⟨f, _, rfl⟩ := List.mem_map.1 he; rfl) rfl rfl (by omega) (by first | omega | (have := cH s q; have := bg ((ia s q).map (·.name)) 1 (s.msgs[q]'hq).sort.name; simp only [List.length_map] at *; omega)) (by first | omega | (have := cH s q; have := bg ((ia s q).map (·.name)) 1 (s.msgs[q]'hq).sort.name; simp only [List.length_map] at *; omega))) ?_
    refine aF.d3 rfl (aj (aH rfl) kA rfl rfl rfl (by first | rfl | exact okV _ _ _ | exact iV _ _ _ | exact ya _ _ _ | exact y9 _ _ _) rfl (by have := cH s q; have := bg ((ia s q).map (·.name)) 1 (s.msgs[q]'hq).sort.name; simp only [List.length_append, List.length_map, List.length_take, List.length_drop, List.length_cons, List.length_nil] at *; omega) rfl) ?_
    exact ⟨by kernel_rfl, (⟨Kept.c6 11 rfl (inc (by omega)) (Kept.forget 3 rfl (Kept.az [.s 11, .s 4, .t 148, .b 3, .h, .s 1, .b 1, .s 2, .b 2, .s 3] rfl (by decide) (Kept.cO 148 116 (by decide) rfl (Kept.now ⟨q + 1, by omega, trivial, PT (xc (k := 0) hq (by rw [if_pos (by simpa using hc6)])) (F1 (k := 0) hq (by rw [if_pos (by simpa using hc6)]))⟩))))⟩)⟩
   ·refine ⟨rfl, (aF.d2 rfl (bD («as» := []) (aH rfl) bZ dn rfl rfl rfl (gQ rfl) rfl) (aF.d1 rfl (bJ (aH rfl) cY rfl (fun e he => by obtain ⟨f, _, rfl⟩ := List.mem_map.1 he; rfl) rfl rfl (by omega) (by first | omega | (have := cH s q; have := bg ((ia s q).map (·.name)) 1 (s.msgs[q]'hq).sort.name; simp only [List.length_map] at *; omega)) (by first | omega | (have := cH s q; have := bg ((ia s q).map (·.name)) 1 (s.msgs[q]'hq).sort.name; simp only [List.length_map] at *; omega))) ?_))⟩
    iterate 2 (refine aF.d3 rfl (aj (aH rfl) bZ rfl rfl rfl (by first | rfl | exact okV _ _ _ | exact iV _ _ _ | exact ya _ _ _ | exact y9 _ _ _) rfl (by have := cH s q; have := bg ((ia s q).map (·.name)) 1 (s.msgs[q]'hq).sort.name; simp only [List.length_append, List.length_map, List.length_take, List.length_drop, List.length_cons, List.length_nil] at *; omega) rfl) ?_)
    refine aF.d1 rfl (bJ (aH rfl) cY rfl (fun e he => by obtain ⟨f, _, rfl⟩ := List.mem_map.1 he; rfl) rfl rfl (by omega) (by first | omega | (have := cH s q; have := bg ((ia s q).map (·.name)) 1 (s.msgs[q]'hq).sort.name; simp only [List.length_map] at *; omega)) (by first | omega | (have := cH s q; have := bg ((ia s q).map (·.name)) 1 (s.msgs[q]'hq).sort.name; simp only [List.length_map] at *; omega))) ?_
    refine aF.n3 2 rfl (aj (aH rfl) bZ rfl rfl rfl (by first | rfl | exact okV _ _ _ | exact iV _ _ _ | exact ya _ _ _ | exact y9 _ _ _) rfl (by have := cH s q; have := bg ((ia s q).map (·.name)) 1 (s.msgs[q]'hq).sort.name; simp only [List.length_append, List.length_map, List.length_take, List.length_drop, List.length_cons, List.length_nil] at *; omega) rfl) ?_
    refine ⟨by kernel_rfl, (⟨rfl, (aF.d2 rfl (bD («as» := []) (aH rfl) kA AX rfl rfl rfl (gQ rfl) rfl) (aF.d1 rfl (bJ (aH rfl) bW rfl (fun e he => by obtain ⟨f, _, rfl⟩ := List.mem_map.1 he; rfl) rfl rfl (by omega) (by first | omega | (have := cH s q; have := bg ((ia s q).map (·.name)) 1 (s.msgs[q]'hq).sort.name; simp only [List.length_map] at *; omega)) (by first | omega | (have := cH s q; have := bg ((ia s q).map (·.name)) 1 (s.msgs[q]'hq).sort.name; simp only [List.length_map] at *; omega))) ?_))⟩)⟩
    iterate 2 (refine aF.d3 rfl (aj (aH rfl) kA rfl rfl rfl (by first | rfl | exact okV _ _ _ | exact iV _ _ _ | exact ya _ _ _ | exact y9 _ _ _) rfl (by have := cH s q; have := bg ((ia s q).map (·.name)) 1 (s.msgs[q]'hq).sort.name; simp only [List.length_append, List.length_map, List.length_take, List.length_drop, List.length_cons, List.length_nil] at *; omega) rfl) ?_)
    refine aF.d1 rfl (bJ (aH rfl) bW rfl (fun e he => by obtain ⟨f, _, rfl⟩ := List.mem_map.1 he; rfl) rfl rfl (by omega) (by first | omega | (have := cH s q; have := bg ((ia s q).map (·.name)) 1 (s.msgs[q]'hq).sort.name; simp only [List.length_map] at *; omega)) (by first | omega | (have := cH s q; have := bg ((ia s q).map (·.name)) 1 (s.msgs[q]'hq).sort.name; simp only [List.length_map] at *; omega))) ?_
    refine aF.d3 rfl (aj (aH rfl) kA rfl rfl rfl (by first | rfl | exact okV _ _ _ | exact iV _ _ _ | exact ya _ _ _ | exact y9 _ _ _) rfl (by have := cH s q; have := bg ((ia s q).map (·.name)) 1 (s.msgs[q]'hq).sort.name; simp only [List.length_append, List.length_map, List.length_take, List.length_drop, List.length_cons, List.length_nil] at *; omega) rfl) ?_
    exact ⟨by kernel_rfl, (⟨Kept.c6 11 rfl (inc (by omega)) (Kept.forget 3 rfl (Kept.az [.s 11, .s 4, .t 148, .b 3, .h, .s 1, .b 1, .s 2, .b 2, .s 3] rfl (by decide) (Kept.cO 148 116 (by decide) rfl (Kept.now ⟨q + 1, by omega, trivial, PT (xc hq (by rw [if_neg (by simpa using hc6)]; rfl)) (F1 hq (by rw [if_neg (by simpa using hc6)]; rfl))⟩))))⟩)⟩
  ·have hq := dA hc5
   exact ⟨.inr rfl, (aM.r1 rfl (.cell gb rfl rfl rfl rfl .nil)).cast (by have e1 : mR s i = s.enums.foldl zu [] := (by unfold mR; rw [List.take_of_length_le hi]); have e2 : ia s q = s.msgs.foldl mM [] := (by unfold ia; rw [List.take_of_length_le hq]); rw [e1, e2]; rfl), rfl⟩
open Go Go.RowKit
def gT (id : Nat) (ys : List AV) : AV → AV
 | .os i n c => if i = id ∧ n ≤ ys.length then .sl (ys.take n) else .os i n c
 | a => a
def mx (id : Nat) (ys : List AV) : AV → AV
 | .agg cs => .agg (cs.map (gT id ys))
 | a => gT id ys a
theorem sf {id : Nat} {ys : List AV} {a : AV} (h : a.flat = true) : (gT id ys a).flat = true := by
 cases a <;> simp only [gT] <;> first | exact h | (split <;> rfl)
structure Bm (G G' : Gh) (id blk esz : Nat) (ys : List AV) : Prop where
 le : G.le G'
 ob : G.ob id = some blk
 es : ∀ e ∈ ys, e.cells.length = esz
 kn : ∀ (j : Nat) x, (ys.flatMap AV.cells)[j]? = some x → ∃ v, G'.kn blk j = some v ∧ x.flat = true ∧ V G' v x
theorem V.gT {G G' : Gh} {id blk esz : Nat} {ys : List AV} (k : Bm G G' id blk esz ys) {v : Value} {a : AV} (h : V G v a) : V G' v (gT id ys a) := by
 cases a
 case os i n c =>
  show V G' v (if i = id ∧ n ≤ ys.length then _ else _)
  split
  ·rename_i hi
   obtain ⟨rfl, hn⟩ := hi
   exact Bk (xs := ys.flatMap AV.cells) h k.ob k.kn k.es (by rw [List.take_of_length_le]; rw [dC k.es]; exact Nat.le_refl _) hn
  ·exact h.mono k.le
 all_goals exact h.mono k.le
theorem V.mx {G G' : Gh} {id blk esz : Nat} {ys : List AV} (k : Bm G G' id blk esz ys) {v : Value} {a : AV} (h : V G v a) : V G' v (mx id ys a) := by
 cases a
 case agg cs =>
  cases h
  rename_i vs hl hf hv
  refine .agg vs _ (by simpa using hl) (fun j c e => ?_) (fun j c e => ?_)
  ·rw [List.getElem?_map] at e
   cases hc : cs[j]? with
   | none => rw [hc] at e; cases e
   | some c0 => rw [hc] at e; cases e; exact sf (hf j c0 hc)
  ·rw [List.getElem?_map] at e
   cases hc : cs[j]? with
   | none => rw [hc] at e; cases e
   | some c0 => rw [hc] at e; cases e; exact (hv j c0 hc).gT k
 all_goals exact h.gT k
def pM : AV → Bool
 | .bool _ | .int _ _ | .str _ | .nilp | .nsl | .nilf | .nili => true
 | _ => false
def pL : AV → Bool
 | .agg cs => cs.all pM
 | a => pM a
def sE : AV → Bool
 | .tup vs => vs.all pL
 | a => pL a
theorem V.pM {G G' : Gh} {v : Value} {a : AV} (hp : pM a = true) (h : V G v a) : V G' v a := by
 cases h <;> first | (cases hp; done) | constructor
theorem V.pL {G G' : Gh} {v : Value} {a : AV} (hp : pL a = true) (h : V G v a) : V G' v a := by
 cases a
 case agg cs =>
  cases h
  rename_i vs hl hf hv
  exact .agg vs cs hl hf fun j c e => (hv j c e).pM (List.all_eq_true.1 hp c (List.mem_of_getElem? e))
 all_goals exact h.pM hp
theorem V.sE {G G' : Gh} {v : Value} {a : AV} (hp : sE a = true) (h : V G v a) : V G' v a := by
 cases a
 case tup cs =>
  cases h
  rename_i vs hl hv
  exact .tup vs cs hl fun j c e => (hv j c e).pL (List.all_eq_true.1 hp c (List.mem_of_getElem? e))
 all_goals exact h.pL hp
section
variable {P : Program} {N : Nat} {s : St} {d : Nat} {ty : TypeId} {pos : String} {af : Array Edge} {g : Option (Nat × Bool)}
theorem Iu {f : FuncId} {xs : Array Operand} {tys : Array TypeId} {«as» bs : List AV} {r : AV} {H : Hp} {esz : Nat} {zs : List AV} (id : Nat) (ys : List AV) (hN : d < N) (hf : gj P f = true) (hH : get s .h = some (.hp H)) (ha : kY xs.toList s = some «as») (ho : H.obj id = some (zs.map .v))
  (hes : ∀ e ∈ ys, e.cells.length = esz) (hz : zs.take (ys.length * esz) = ys.flatMap AV.cells) (hl : «as».map (mx id ys) = bs) (hp : Pure P f bs r) (hr : sE r = true) :
  aW P N ⟨some d, .call { callee := .value (.func f), args := xs, argTypes := tys }, ty, pos, af, g⟩ s (nO xs.toList ++ [.h]) [(.s d, .sv (.v r))] := by
 subst hl
 intro t hR E G L a w hr0 K Q hK
 have hH' : get t .h = some (.hp H) := by rw [hR .h (by simp)]; exact hH
 obtain ⟨cargs, hrun, hV⟩ := j3 (ty := ty) (pos := pos) (af := af) (g := g) hf ha (dst := some d) E G L a w t hr0 (fun c hc => hR c (List.mem_append_left _ hc))
 obtain ⟨H1, gH, hok, hmay⟩ := hr0.heap
 rw [hH'] at gH; cases gH
 obtain ⟨blk, arr, el, p1, hh, hsz, hc, hno⟩ := hok.obj id _ ho
 let cells := arr.toList
 let G1 : Gh := G.add blk cells
 have hle1 : G.le G1 := Gh.tY (fun o u e => by rw [hno o] at e; cases e)
 have hkn1 : fx G1 w := by
  intro b o u e
  by_cases hb : b = blk
  ·subst hb
   have e2 : cells[o]? = some u := by simpa [G1, Gh.add] using e
   rw [cell_of_row w b o arr el (0, 0) hh]
   simpa [cells] using e2
  ·have e2 : G.kn b o = some u := by simpa [G1, Gh.add, hb] using e
   exact hr0.kn b o u e2
 have bw : Bm G G1 id blk esz ys := ⟨hle1, p1, hes, fun j x hx => by
  rw [← hz, List.getElem?_take] at hx
  split at hx
  ·have h1 := hc j (.v x) (by rw [List.getElem?_map, hx]; rfl)
   have hj : j < arr.size := by have h1 := (List.getElem?_eq_some_iff.1 hx).1; have h2 := hsz.1; rw [List.length_map] at h2; omega
   refine ⟨arr.getD j undef, ?_, h1.1, V.mono hle1 h1.2⟩
   simp [G1, Gh.add, cells, Array.getD_eq_getD_getElem?, hj]
  ·cases hx⟩
 let H0 : Hp := ⟨H.next, fun _ => none⟩
 have hf0 : ∀ G2 w2 b, ¬ aa G2 H0 w2 b := by
  rintro G2 w2 b (⟨id, ⟨cs, h⟩, _⟩ | ⟨id, j, cs, el, esz, xs, b0, arr, t, fr, h, _⟩) <;> cases h
 have hok0 : dz G1 w H0 := ⟨fun id b e => hok.lt id b e, fun id id' b e e' ⟨_, k⟩ => (by cases k), fun id cs e => (by cases e), fun id j b hr => absurd (.inr ⟨id, j, hr⟩) (hf0 G1 w b)⟩
 have hV1 : VL G1 cargs («as».map (mx id ys)) := ⟨by rw [List.length_map]; exact hV.1, fun j y e => by
  rw [List.getElem?_map] at e
  cases hx : «as»[j]? with
  | none => rw [hx] at e; cases e
  | some x => rw [hx] at e; cases e; exact (hV.2 j x hx).mx bw⟩
 unfold Oper.wp
 rw [hrun]
 refine (hp H0 G1 w cargs ⟨(hr0.vx hH').1, (hr0.vx hH').2.1, fun g _ h => hf0 _ _ _ h⟩ hkn1 hok0 hV1).mono ?_
 rintro e w' ⟨v, G', rfl, hv, hx', hknG', hok', hf', hft'⟩
 have hblk : ∀ b, b < w.heap.size → w'.heap[b]? = w.heap[b]? := fun b hb => hf'.block b hb (hf0 _ _ b)
 have hst := hok.stay (w' := w') (Gh.le.refl G) rfl (fun b hb o => (hok.aa hb).2 o) (fun b hb => hblk b (hok.aa hb).1) hf'.size
 have hkn3 : fx G w' := by
  intro b o u e
  rw [World.cell?_of_block (w := w) (hblk b (hr0.zo e))]; exact hr0.kn b o u e
 have h1 := hr0.called (G' := G) hH' ⟨fun b o hb _ => rfl, fun id b e => ⟨e, rfl⟩, fun id b e => .inl ⟨id, e⟩⟩ hkn3 hst.1 ⟨hf'.os, hf'.tape, hf'.output, hf'.size, fun b hb _ => hblk b hb⟩ (fun b hb => .inr ((hst.2 b).1 hb))
 have h3 := h1.put d hN v (.v r) (hv.sE hr)
 refine hK v w' G L (h3.ext fun c => ?_)
 simp only [List.cons_append, List.nil_append, get]
 split
 ·rfl
 ·split
  ·rename_i h4; subst h4; exact hH'
  ·rfl
end
def aZ (ys : List AV) : List Hc := (ys.flatMap AV.cells).map .v
theorem wq {esz : Nat} {ys : List AV} (h : ∀ e ∈ ys, e.cells.length = esz) : (aZ ys).length = ys.length * esz := by
 unfold aZ; rw [List.length_map, dC h]
theorem jM {esz : Nat} {ys : List AV} (h : ∀ e ∈ ys, e.cells.length = esz) {i j : Nat} {e : AV} (hi : ys[i]? = some e) (hj : j < esz) : (aZ ys)[i * esz + j]? = (e.cells[j]?).map .v := by
 unfold aZ; rw [List.getElem?_map, jZ h i j e hi hj]
theorem oT {esz : Nat} {ys : List AV} (h : cg esz ys = true) : ∀ e ∈ ys, e.cells.length = esz := fun e he => (jF h e he).1
theorem A8 : ∀ (l : List AV), nu (l.map .v) = some l
 | [] => rfl
 | a :: l => by simp only [List.map_cons, nu, Sv.av, A8 l]
theorem uM {esz : Nat} : ∀ {ys : List AV} (h : ∀ e ∈ ys, e.cells.length = esz) {i : Nat} {e : AV} (_ : i < ys.length) (_ : e.cells.length = esz), (ys.set i e).flatMap AV.cells = (ys.flatMap AV.cells).take (i * esz) ++ e.cells ++ (ys.flatMap AV.cells).drop (i * esz + esz)
 | [], _, i, e, hi, _ => by simp at hi
 | y :: ys, h, 0, e, _, he => by
  have hy := h y List.mem_cons_self
  simp [List.drop_append, hy]
 | y :: ys, h, i + 1, e, hi, he => by
  have hy := h y List.mem_cons_self
  have ih := uM (fun e he => h e (List.mem_cons_of_mem _ he)) (i := i) (by simpa using hi) he
  rw [List.set_cons_succ, List.flatMap_cons, ih, List.flatMap_cons, Nat.succ_mul]
  rw [Nat.add_comm (i * esz) esz, List.take_append, List.drop_append, hy]
  rw [List.take_of_length_le (show y.cells.length ≤ esz + i * esz by omega), List.drop_eq_nil_of_le (show y.cells.length ≤ esz + i * esz + esz by omega)]
  simp only [Nat.add_sub_cancel_left, Nat.add_sub_cancel, List.append_assoc, List.nil_append]
theorem uO {esz : Nat} {ys : List AV} (h : ∀ e ∈ ys, e.cells.length = esz) {i : Nat} {e : AV} (hi : i < ys.length) (he : e.cells.length = esz) : qL (aZ ys) (i * esz) e.cells = aZ (ys.set i e) := by
 unfold qL aZ
 rw [uM h hi he, he, List.map_append, List.map_append, List.map_take, List.map_drop]
theorem oE {esz : Nat} {ys : List AV} (h : ∀ e ∈ ys, e.cells.length = esz) {i f : Nat} {cs : List AV} (hi : ys[i]? = some (.agg cs)) (hf : f < esz) (av : AV) : (aZ ys).set (i * esz + f) (.v av) = aZ (ys.set i (.agg (cs.set f av))) := by
 have hlt := (List.getElem?_eq_some_iff.1 hi).1
 have hcs : cs.length = esz := h _ (List.mem_of_getElem? hi)
 have hle : i * esz + esz ≤ (aZ ys).length := by rw [wq h, ← Nat.succ_mul]; exact Nat.mul_le_mul_right _ hlt
 have h2 : ∀ e ∈ ys.set i (.agg (cs.set f av)), e.cells.length = esz := fun e he => by
  rcases List.mem_or_eq_of_mem_set he with h3 | h3
  ·exact h e h3
  ·subst h3; simpa [AV.cells] using hcs
 rw [← uO h hlt (by simpa [AV.cells] using hcs)]
 refine List.ext_getElem? fun j => ?_
 unfold qL
 have hl1 : ((aZ ys).take (i * esz)).length = i * esz := by rw [List.length_take]; omega
 rw [List.append_assoc]
 by_cases h3 : j < i * esz
 ·rw [List.getElem?_append_left (by omega), List.getElem?_take, if_pos h3, List.getElem?_set_ne (by omega)]
 ·rw [List.getElem?_append_right (by omega), hl1]
  by_cases h4 : j < i * esz + esz
  ·rw [List.getElem?_append_left (by simp [AV.cells, hcs]; omega), List.getElem?_map]
   by_cases h5 : j = i * esz + f
   ·subst h5
    rw [List.getElem?_set_self (by omega)]
    simp only [AV.cells, Nat.add_sub_cancel_left, List.getElem?_set_self (show f < cs.length by omega)]
    rfl
   ·rw [List.getElem?_set_ne (fun e => h5 e.symm)]
    have := jM h (j := j - i * esz) hi (by omega)
    rw [show i * esz + (j - i * esz) = j by omega] at this
    rw [this]
    simp only [AV.cells]
    rw [List.getElem?_set_ne (by omega)]
  ·rw [List.getElem?_append_right (by simp [AV.cells, hcs]; omega), List.getElem?_drop, List.getElem?_set_ne (by omega)]
   congr 1
   simp [AV.cells, hcs]; omega
section
variable {P : Program} {N : Nat} {s : St} {d : Nat} {ty : TypeId} {pos : String} {af : Array Edge} {g : Option (Nat × Bool)}
theorem iz {t1 el esz by_ n : Nat} {ps : List (Nat × Operand)} {«as» zs : List AV} {H : Hp} (hN : d < N) (ht : se P t1 = some (el, esz, by_)) (hz : cE P el = some zs) (hq : ld ps s = some (eT 0 «as»)) (hn : «as».length = n) (hok : cg esz «as» = true) (hlen : «as».length * esz ≤ 16777216) (hH : get s .h = some (.hp H)) (hd : get s (.b d) = none) :
  aW P N ⟨some d, .buildSlice t1 n ps.toArray, ty, pos, af, g⟩ s (nO (ps.map (·.2)) ++ [.h, .b d]) [(.s d, .sv (.v (.os H.next n esz))), (.h, .hp (H.new (aZ «as»))), (.b d, .gone)] := FA hN ht hz hq hn hok hlen hH hd
theorem jT {t1 el esz by_ : Nat} {x y : Operand} {id n : Nat} {xs ys zs : List AV} {H : Hp} (hN : d < N) (ht : se P t1 = some (el, esz, by_)) (hz : cE P el = some zs) (hx : cV x s = some (.os id n esz)) (hH : get s .h = some (.hp H)) (ho : H.obj id = some (aZ xs)) (hes : ∀ e ∈ xs, e.cells.length = esz) (hl : xs.length = n)
  (hy : cV y s = some (.sl ys)) (hok : cg esz ys = true) (hd : get s (.b d) = none) (hb : (n + ys.length) * by_ ≤ 140737488355328) (h63 : n + ys.length ≤ 9223372036854775807) :
  aW P N ⟨some d, .call { callee := .builtin .append, args := #[x, y], argTypes := #[t1, t1] }, ty, pos, af, g⟩ s (rd x ++ (rd y ++ [.h, .b d]))
   [(.s d, .sv (.v (.os H.next (n + ys.length) esz))), (.h, .hp ((H.del id).new (aZ (xs ++ ys)))), (.b d, .gone)] := by
 have := Iy (ty := ty) (pos := pos) (af := af) (g := g) hN ht hz hx hH ho (by rw [dC hes, hl]) hy hok hd hb h63
 rw [← List.flatMap_append] at this
 exact this
theorem JA {t1 el esz by_ : Nat} {x y : Operand} {id n id2 n2 : Nat} {xs ys zs : List AV} {H : Hp} (hN : d < N) (ht : se P t1 = some (el, esz, by_)) (hz : cE P el = some zs) (hx : cV x s = some (.os id n esz)) (hH : get s .h = some (.hp H)) (ho : H.obj id = some (aZ xs)) (hes : ∀ e ∈ xs, e.cells.length = esz) (hl : xs.length = n)
  (hy : cV y s = some (.os id2 n2 esz)) (ho2 : H.obj id2 = some (aZ ys)) (hes2 : ∀ e ∈ ys, e.cells.length = esz) (hn2 : ys.length = n2) (hd : get s (.b d) = none) (hb : (n + ys.length) * by_ ≤ 140737488355328) (h63 : n + ys.length ≤ 9223372036854775807) :
  aW P N ⟨some d, .call { callee := .builtin .append, args := #[x, y], argTypes := #[t1, t1] }, ty, pos, af, g⟩ s (rd x ++ ((rd y ++ [.h]) ++ [.h, .b d]))
   [(.s d, .sv (.v (.os H.next (n + ys.length) esz))), (.h, .hp ((H.del id).new (aZ (xs ++ ys)))), (.b d, .gone)] := by
 have := FN (ty := ty) (pos := pos) (af := af) (g := g) hN ht hz hx hH ho (by rw [dC hes, hl]) hy ho2 hes2 hn2 hd hb h63
 rw [← List.flatMap_append] at this
 exact this
theorem MF {t1 el esz by_ : Nat} {x y : Operand} {ys zs : List AV} {H : Hp} (hN : d < N) (ht : se P t1 = some (el, esz, by_)) (hz : cE P el = some zs) (hx : cV x s = some .nsl) (hH : get s .h = some (.hp H))
  (hy : cV y s = some (.sl ys)) (hok : cg esz ys = true) (h0 : ys ≠ []) (hd : get s (.b d) = none) (hb : ys.length * by_ ≤ 140737488355328) (h63 : ys.length ≤ 9223372036854775807) :
  aW P N ⟨some d, .call { callee := .builtin .append, args := #[x, y], argTypes := #[t1, t1] }, ty, pos, af, g⟩ s (rd x ++ (rd y ++ [.h, .b d]))
   [(.s d, .sv (.v (.os H.next ys.length esz))), (.h, .hp (H.new (aZ ys))), (.b d, .gone)] := Iz hN ht hz hx hH hy hok h0 hd hb h63
def di (K : Hp) (o : AV) (esz : Nat) (xs : List AV) : Prop := (o = .nsl ∧ xs = []) ∨ ∃ id, o = .os id xs.length esz ∧ K.obj id = some (aZ xs)
def kM (K : Hp) (o : AV) (cs : List Hc) : Hp := match o with | .os id _ _ => (K.del id).new cs | _ => K.new cs
theorem lK {t1 el esz by_ : Nat} {x y : Operand} {o : AV} {xs ys zs : List AV} {H : Hp} (hN : d < N) (ht : se P t1 = some (el, esz, by_)) (hz : cE P el = some zs) (hx : cV x s = some o) (hH : get s .h = some (.hp H)) (ho : di H o esz xs) (hes : ∀ e ∈ xs, e.cells.length = esz)
  (hy : cV y s = some (.sl ys)) (hok : cg esz ys = true) (h0 : ys ≠ []) (hd : get s (.b d) = none) (hb : (xs.length + ys.length) * by_ ≤ 140737488355328) (h63 : xs.length + ys.length ≤ 9223372036854775807) :
  aW P N ⟨some d, .call { callee := .builtin .append, args := #[x, y], argTypes := #[t1, t1] }, ty, pos, af, g⟩ s (rd x ++ (rd y ++ [.h, .b d]))
   [(.s d, .sv (.v (.os H.next (xs.length + ys.length) esz))), (.h, .hp (kM H o (aZ (xs ++ ys)))), (.b d, .gone)] := by
 rcases ho with ⟨rfl, rfl⟩ | ⟨id, rfl, ho⟩
 ·have := MF (ty := ty) (pos := pos) (af := af) (g := g) hN ht hz hx hH hy hok h0 hd (by simpa using hb) (by simpa using h63)
  simpa [kM] using this
 ·exact jT hN ht hz hx hH ho hes rfl hy hok hd hb h63
theorem eE {t1 : TypeId} {x : Operand} {id off i n : Nat} {ys cs : List AV} {H : Hp} (hN : d < N) (hl : lk P t1 = some (true, n)) (hx : cV x s = some (.op id off)) (hH : get s .h = some (.hp H)) (ho : H.obj id = some (aZ ys)) (hes : ∀ e ∈ ys, e.cells.length = n) (hoff : off = i * n) (he : ys[i]? = some (.agg cs)) :
  aW P N ⟨some d, .load t1 x, ty, pos, af, g⟩ s (rd x ++ [.h]) [(.s d, .sv (.v (.agg cs)))] := by
 subst hoff
 have hcs : cs.length = n := hes _ (List.mem_of_getElem? he)
 have hlt := (List.getElem?_eq_some_iff.1 he).1
 refine bB hN hl hx hH ho ?_
 have e : (((aZ ys).map fun c => Sv.v (ph c)).drop (i * n)).take n = cs.map .v := by
  refine List.ext_getElem? fun j => ?_
  rw [List.getElem?_take]
  split
  ·rename_i hj
   rw [List.getElem?_drop, List.getElem?_map, jM hes he hj, List.getElem?_map]
   simp only [AV.cells, Option.map_map]
   rfl
  ·rename_i hj
   rw [List.getElem?_eq_none (by simp; omega)]
 simp only [wP, e, A8, hcs, if_true]
theorem da {t1 : TypeId} {x : Operand} {id off i f esz : Nat} {ys cs : List AV} {c : AV} {H : Hp} (hN : d < N) (hl : lk P t1 = some (false, 1)) (hx : cV x s = some (.op id off)) (hH : get s .h = some (.hp H)) (ho : H.obj id = some (aZ ys)) (hes : ∀ e ∈ ys, e.cells.length = esz) (hoff : off = i * esz + f) (he : ys[i]? = some (.agg cs)) (hc : cs[f]? = some c) :
  aW P N ⟨some d, .load t1 x, ty, pos, af, g⟩ s (rd x ++ [.h]) [(.s d, .sv (.v c))] := by
 subst hoff
 have hcs : cs.length = esz := hes _ (List.mem_of_getElem? he)
 refine bB hN hl hx hH ho ?_
 have hf := (List.getElem?_eq_some_iff.1 hc).1
 simp only [wP]
 rw [List.getElem?_drop, List.getElem?_map, Nat.add_zero, jM hes he (by omega)]
 simp only [AV.cells, hc]
 rfl
theorem lI {t1 : TypeId} {x y : Operand} {id off i n : Nat} {b : Bool} {ys cs : List AV} {H : Hp} (hl : lk P t1 = some (b, n)) (hx : cV x s = some (.op id off)) (hH : get s .h = some (.hp H)) (ho : H.obj id = some (aZ ys)) (hy : cV y s = some (.agg cs)) (hes : ∀ e ∈ ys, e.cells.length = n) (hoff : off = i * n) (hi : i < ys.length) (hn : cs.length = n) :
  aW P N ⟨none, .store t1 x y, ty, pos, af, g⟩ s (rd x ++ (rd y ++ [.h])) [(.h, .hp (H.set id (aZ (ys.set i (.agg cs)))))] := by
 subst hoff
 rw [← uO (e := .agg cs) hes hi hn]
 refine vd hl hx hH ho hy rfl hn ?_ ?_
 ·rw [wq hes, ← Nat.succ_mul]; exact Nat.mul_le_mul_right _ hi
 ·refine List.all_eq_true.2 fun x hx => ?_
  have := List.mem_of_mem_drop (List.mem_of_mem_take hx)
  obtain ⟨c, _, rfl⟩ := List.mem_map.1 this
  rfl
theorem zV {t1 : TypeId} {x y : Operand} {id off i f esz : Nat} {b : Bool} {ys cs : List AV} {av : AV} {H : Hp} (hl : lk P t1 = some (b, 1)) (hx : cV x s = some (.op id off)) (hH : get s .h = some (.hp H)) (ho : H.obj id = some (aZ ys)) (hy : cV y s = some av) (hfl : av.flat = true) (hes : ∀ e ∈ ys, e.cells.length = esz) (hoff : off = i * esz + f) (he : ys[i]? = some (.agg cs)) (hf : f < esz) :
  aW P N ⟨none, .store t1 x y, ty, pos, af, g⟩ s (rd x ++ (rd y ++ [.h])) [(.h, .hp (H.set id (aZ (ys.set i (.agg (cs.set f av))))))] := by
 subst hoff
 rw [← oE hes he hf]
 have hcs : cs.length = esz := hes _ (List.mem_of_getElem? he)
 obtain ⟨c, hc⟩ : ∃ c, cs[f]? = some c := ⟨_, List.getElem?_eq_getElem (by omega)⟩
 refine sO (old := c) hl hx hH ho hy hfl ?_
 rw [jM hes he hf]
 simp only [AV.cells, hc]
 rfl
theorem xY {f : FuncId} {xs : Array Operand} {tys : Array TypeId} {«as» bs : List AV} {r : AV} {H : Hp} {esz : Nat} (id : Nat) (ys : List AV) (hN : d < N) (hf : gj P f = true) (hH : get s .h = some (.hp H)) (ha : kY xs.toList s = some «as») (ho : H.obj id = some (aZ ys))
  (hes : ∀ e ∈ ys, e.cells.length = esz) (hl : «as».map (mx id ys) = bs) (hp : Pure P f bs r) (hr : sE r = true) :
  aW P N ⟨some d, .call { callee := .value (.func f), args := xs, argTypes := tys }, ty, pos, af, g⟩ s (nO xs.toList ++ [.h]) [(.s d, .sv (.v r))] :=
 Iu id ys hN hf hH ha ho hes (by rw [List.take_of_length_le]; rw [dC hes]; exact Nat.le_refl _) hl hp hr
end
theorem Rel.Ow {E : eB} {N : Nat} {G : Gh} {L : Loc} {a : Act} {w : World} {s : St} (h : Rel E N G L a w s) {H : Hp} {id esz : Nat} {ys : List AV} (hH : get s .h = some (.hp H)) (ho : H.obj id = some (aZ ys)) (hes : ∀ e ∈ ys, e.cells.length = esz) :
  ∃ G' blk, Bm G' G' id blk esz ys ∧ Rel E N G' L a w ((.h, .hp (H.del id)) :: s) := by
 obtain ⟨H0, gH, hok, hmay⟩ := h.heap
 rw [hH] at gH; cases gH
 obtain ⟨blk, arr, el, p1, _⟩ := hok.obj id _ ho
 obtain ⟨G', hle, hr', hkn⟩ := h.Ni hH ho p1
 exact ⟨G', blk, ⟨Gh.le.refl G', hle.ob _ _ p1, hes, hkn⟩, hr'⟩
def kG (id : Nat) (ys : List AV) : Sv → Sv
 | .v a => .v (gT id ys a)
 | x => x
theorem Kept.GN {s : St} {Q : St → Prop} (k id : Nat) {ys : List AV} {cs ds : List Sv} {esz : Nat} {H : Hp} (hk : get s (.b k) = some (.bx cs)) (hH : get s .h = some (.hp H)) (ho : H.obj id = some (aZ ys)) (hes : ∀ e ∈ ys, e.cells.length = esz) (hd : cs.map (kG id ys) = ds)
  (h : Kept ((.b k, .bx ds) :: (.h, .hp (H.del id)) :: s) Q) : Kept s Q := fun E N a' w ⟨G, L, hr⟩ => by
 subst hd
 obtain ⟨G', blk, hk2, hr'⟩ := hr.Ow hH ho hes
 have hkb : get ((.h, .hp (H.del id)) :: s) (.b k) = some (.bx cs) := by simpa [get] using hk
 refine h E N a' w ⟨G', L, hr'.OR hkb (by simp) fun j x x' hx hx' => ?_⟩
 rw [List.getElem?_map, hx] at hx'
 cases hx'
 obtain ⟨blk2, o, q1, q2, q3, ⟨arr, el, e1, e2, e3⟩, q5, q6⟩ := hr'.box k _ hkb rfl
 have hf := (e3 j x hx).1
 cases x with
 | v a => exact ⟨sf hf, fun v hv => V.gT hk2 hv⟩
 | _ => exact ⟨hf, fun v hv => hv⟩
theorem Kept.FW {s : St} {Q : St → Prop} (k i : Nat) {cs : List Sv} (hk : get s (.b k) = some (.bx cs)) (hi : cs[i]? = some (.v .nsl)) (h : Kept ((.b k, .bx (cs.set i (.v (.sl [])))) :: s) Q) : Kept s Q := fun E N a w ⟨G, L, hr⟩ => by
 refine h E N a w ⟨G, L, hr.OR hk (by simp) fun j x x' hx hx' => ?_⟩
 obtain ⟨blk2, o, q1, q2, q3, ⟨arr, el, e1, e2, e3⟩, q5, q6⟩ := hr.box k _ hk rfl
 rw [List.getElem?_set] at hx'
 split at hx'
 ·rename_i e
  subst e
  rw [hi] at hx; cases hx
  split at hx'
  ·cases hx'
   refine ⟨rfl, fun v hv => ?_⟩
   have hV : V G v .nsl := hv
   cases hV
   exact V.slE none 0
  ·cases hx'
 ·rw [hx] at hx'; cases hx'
  exact ⟨(e3 j x hx).1, fun v hv => hv⟩
def Hp.fin (H : Hp) : Prop := ∀ i, H.next ≤ i → H.obj i = none
theorem dz.fin {G : Gh} {w : World} {H : Hp} (h : dz G w H) : H.fin := fun i hi => by
 cases e : H.obj i with
 | none => rfl
 | some cs =>
  obtain ⟨blk, _, _, q1, _⟩ := h.obj i cs e
  have := (h.lt i blk q1).1; omega
theorem cB.fin {P : Program} {f : FuncId} {args : List AV} {H H' : Hp} {r : AV} (h : H.fin → cB P f args H r H') : cB P f args H r H' := fun G w cargs hg hk hH hV => h hH.fin G w cargs hg hk hH hV
def Hp.bump (H : Hp) (k : Nat) (cs : List Hc) : Hp := ⟨H.next + k + 1, fun i => if i = H.next + k then some cs else if i < H.next then H.obj i else none⟩
theorem Hp.de {H : Hp} {k : Nat} {cs : List Hc} : (H.bump k cs).obj (H.next + k) = some cs := by simp [Hp.bump]
theorem Hp.mS {H : Hp} {k i : Nat} {cs : List Hc} (h : i < H.next) : (H.bump k cs).obj i = H.obj i := by
 have : i ≠ H.next + k := by omega
 simp [Hp.bump, h, this]
theorem Hp.oU {H : Hp} (h : H.fin) {cs : List Hc} : H.new cs = H.bump 0 cs := by
 simp only [Hp.new, Hp.bump, Hp.set]
 congr 1
 funext i
 by_cases h1 : i = H.next
 ·simp [h1]
 ·by_cases h2 : i < H.next
  ·simp [h1, h2]
  ·simp [h1, h2, h i (by omega)]
theorem Hp.ko {H : Hp} {k : Nat} {cs ds : List Hc} : ((H.bump k cs).del (H.next + k)).new ds = H.bump (k + 1) ds := by
 simp only [Hp.new, Hp.bump, Hp.set, Hp.del]
 congr 1
 funext i
 by_cases h1 : i = H.next + k + 1
 ·subst h1; simp [Nat.add_assoc]
 ·by_cases h2 : i = H.next + k
  ·subst h2; simp [show ¬ H.next + k = H.next + (k + 1) by omega, h1]; intro h5; omega
  ·simp [h1, h2, show ¬ i = H.next + (k + 1) by omega]
theorem Hp.yM {H : Hp} {k : Nat} {cs ds : List Hc} : (H.bump k cs).set (H.next + k) ds = H.bump k ds := by
 simp only [Hp.bump, Hp.set]
 congr 1
 funext i
 by_cases h1 : i = H.next + k
 ·simp [h1]
 ·simp [h1]
theorem Hp.oo {H : Hp} {k i : Nat} {cs : List Hc} (h : i < H.next) : ((H.bump k cs).del (H.next + k)).obj i = H.obj i := by
 have : i ≠ H.next + k := by omega
 simp [Hp.bump, Hp.del, h, this]
theorem C7 {d n esz : Nat} {c : aI} {v : CV} {rest : List (aI × CV)} {H : Hp} {α : Type} {f : α → AV} {a : List α} {x : α} : ((c, v) :: (aI.s d, CV.sv (.v (.os (n + a.length + 1) (a.length + 1) esz))) :: (aI.h, CV.hp (H.bump (a.length + 1) (aZ (a.map f ++ [f x])))) :: rest) = [(c, v), (aI.s d, CV.sv (.v (.os (n + (a ++ [x]).length) (a ++ [x]).length esz))), (aI.h, CV.hp (H.bump (a ++ [x]).length (aZ ((a ++ [x]).map f))))] ++ rest := by simp [Nat.add_assoc]
theorem ue (l : List ae) : ∀ e ∈ l.map ae.av, e.cells.length = 7 := oT (ba ae.cells (fun _ => rfl) _)
theorem MU {l : List ae} {names : List aw} {i : Nat} (hi : i < l.length) (h : mL names l[i] = true) : (l.take i).filter (mL names) ++ [l[i]] = (l.take (i + 1)).filter (mL names) := by
 rw [List.take_add_one, List.getElem?_eq_getElem hi, List.filter_append]; simp [h]
theorem MV {l : List ae} {names : List aw} {i : Nat} (hi : i < l.length) (h : mL names l[i] = false) : (l.take i).filter (mL names) = (l.take (i + 1)).filter (mL names) := by
 rw [List.take_add_one, List.getElem?_eq_getElem hi, List.filter_append]; simp [h]
theorem zJ (m : aU) (names : List aw) (hl : m.fields.length ≤ 1000) (hn : names.length ≤ 9223372036854775807) (H : Hp) : cB Tryz.prog 69 [m.av, .sl (names.map .str)] H (.os (H.next + (bE m.fields names).length) (bE m.fields names).length 7) (H.bump (bE m.fields names).length (aZ ((bE m.fields names).map ae.av))) := by
 refine cB.fin fun hfin => (cB.ah Tryz.func69 rfl rfl (aH rfl) (aK.gn 6 II mixed (aB.n3 3 rfl (iz («as» := []) (aH rfl) iS m6 rfl rfl rfl (gQ rfl) rfl rfl) (aG.kept (Kept.ly rfl (Hp.oU hfin) (Kept.now (aG.r 999 (aG.lq [.s 6, .s 5, .h, .s 1, .s 2, .b 2] (fun ((i, a) : Nat × List ae) => [(.s 6, .sv (.v (.int .i64 (i : Int)))), (.s 5, .sv (.v (.os (H.next + a.length) a.length 7))), (.h, .hp (H.bump a.length (aZ (a.map ae.av))))]) (fun ((i, a) : Nat × List ae) => a = (m.fields.take i).filter (mL names)) (fun ((i, a) : Nat × List ae) => m.fields.length - i) (0, []) rfl rfl (by simp) ?_))))))))
 rintro ⟨i, a⟩ hI
 refine aC (fun hc1 => ?_) (fun hc1 => ?_)
 ·have hi := cz hc1
  refine aG.lq [.s 8, .s 7, .h, .s 1, .s 2, .b 2, .s 5, .s 6] (fun ((k, b) : Nat × Bool) => [(.s 8, .sv (.v (.int .i64 (k : Int)))), (.s 7, .sv (.v (.bool b)))]) (fun ((k, b) : Nat × Bool) => b = (names.take k).any (fun n => (m.fields[i]'hi).name == n)) (fun ((k, b) : Nat × Bool) => names.length - k) (0, false) rfl rfl (by simp) ?_
  rintro ⟨k, b⟩ hK
  refine aC (fun hc2 => ?_) (fun hc2 => ?_)
  ·have hk := cz hc2
   refine ⟨rfl, (aC (fun hg3 => ?_) (fun hg3 => ?_))⟩
   ·exact ⟨by kernel_rfl, (.b1 8 rfl (inc (by omega)) rfl ⟨(k + 1, _), by dsimp only; omega, by dsimp only; rw [um hk, ← hK, hg3]; rfl, rfl⟩)⟩
   ·exact aF.d1 rfl (bP (aH rfl) bY rfl rfl (ca hi) rfl) (aF.d1 rfl (bP (aH rfl) cY rfl rfl (ca hk) rfl) (⟨by kernel_rfl, (.b1 8 rfl (inc (by omega)) rfl ⟨(k + 1, _), by dsimp only; omega, by dsimp only; rw [um hk, ← hK, hg3, Bool.false_or], rfl⟩)⟩))
  ·have hk := dA hc2
   refine aC (fun hc4 => ?_) (fun hc4 => ?_)
   ·refine aB.ii rfl bY rfl rfl (ca hi) rfl (aB.d3 rfl (jT (aH rfl) iS m6 rfl rfl Hp.de (ue _) (by simp) rfl rfl rfl (by have h1 := List.length_filter_le (mL names) (m.fields.take i); rw [List.length_take] at h1; have h2 : a.length = _ := congrArg List.length hI; simp only [List.length_cons, List.length_nil]; omega) (by have h1 := List.length_filter_le (mL names) (m.fields.take i); rw [List.length_take] at h1; have h2 : a.length = _ := congrArg List.length hI; simp only [List.length_cons, List.length_nil]; omega)) ?_)
    exact ⟨Kept.ly rfl Hp.ko (Kept.c6 6 rfl (inc (by omega)) (Kept.az [.s 6, .s 5, .h, .s 1, .s 2, .b 2] rfl (by decide) (Kept.now ⟨(i + 1, a ++ [(m.fields[i]'hi)]), by dsimp only; omega, by dsimp only; rw [hI]; exact MU hi (by dsimp only at hK; rw [List.take_of_length_le (by omega)] at hK; unfold mL; rw [← hK]; exact hc4), C7⟩)))⟩
   ·exact ⟨Kept.ly rfl rfl (Kept.c6 6 rfl (inc (by omega)) (Kept.az [.s 6, .s 5, .h, .s 1, .s 2, .b 2] rfl (by decide) (Kept.now ⟨(i + 1, a), by dsimp only; omega, by dsimp only; rw [hI]; exact MV hi (by dsimp only at hK; rw [List.take_of_length_le (by omega)] at hK; unfold mL; rw [← hK]; exact hc4), rfl⟩)))⟩
 ·have hi := dA hc1
  have ha : a = bE m.fields names := (by rw [hI, List.take_of_length_le (by omega)]; rfl)
  subst ha
  exact ⟨.inr rfl, (aM.r1 rfl (.tmp rfl .nil)).cast rfl, rfl⟩
theorem Hh : D9 Tryz.prog 25 = some [(0, 1), (1, 1)] := by kernel_rfl
theorem OQ : np Tryz.prog 25 = some [.nsl, .nsl] := by kernel_rfl
def ou : Except Int aL → AV
 | .ok t => .tup [t.av, .int .i64 0]
 | .error e => .tup [.agg [.sl [], .sl []], .int .i64 e]
theorem MP {n i : Nat} (h : decide ((i : Int) < (n : Int)) = true) : i < n := by have := of_decide_eq_true h; omega
theorem zy {n i : Nat} (h : decide ((i : Int) < (n : Int)) = false) : n ≤ i := by have := of_decide_eq_false h; omega
def aS.fQ (s : aL) (x : aS) (m : aU) : aU := { m with fields := (bE m.fields x.goes).map x.changed ++ x.comes s (m.aV x.field) }
def aS.outs (s : aL) (x : aS) (at_ : Nat) (m : aU) : aL := (⟨s.enums, x.msgs s at_ (x.fQ s m) (m.aV x.field).ref⟩ : aL).sorted
theorem Be {s : aL} {x : aS} (h : s.iN ≠ 0 ∨ x.right = false) : s.apply x = .error 1 := by unfold aL.apply; rw [if_pos h]
theorem Je {s : aL} {x : aS} (h1 : s.iN = 0) (h2 : x.right = true) (h : s.bL x.msg < 0) : s.apply x = .error 5 := by unfold aL.apply; rw [if_neg (by simp [h1, h2]), if_pos h]
theorem Jd {s : aL} {x : aS} (h1 : s.iN = 0) (h2 : x.right = true) {i : Nat} {m : aU} (h3 : s.bL x.msg = (i : Int)) (h4 : s.msgs[i]? = some m) :
  s.apply x = if x.bk.all m.dh = false then .error 5 else if x.asked s m = false then .error 7 else if x.there s { m with fields := bE m.fields x.goes } (x.comes s (m.aV x.field)) = true then .error 6 else if (x.outs s i m).iN ≠ 0 then .error (x.outs s i m).iN else .ok (x.outs s i m) := by
 unfold aL.apply
 rw [if_neg (by simp [h1, h2]), if_neg (by rw [h3]; omega)]
 have hg : s.msgs.getD i lg = m := by rw [List.getD_eq_getElem?_getD, h4]; rfl
 simp only [h3, Int.toNat_natCast, hg]
 rfl
theorem F0 {s : aL} {n : aw} (h : ¬ s.bL n < 0) : ∃ (i : Nat) (m : aU), s.bL n = (i : Int) ∧ s.msgs[i]? = some m := by
 obtain ⟨i, hi, e, hn⟩ := kf _ _ h
 exact ⟨i, s.msgs[i], e, List.getElem?_eq_getElem hi⟩
theorem oc {m : aU} {n : aw} : m.dh n = decide (0 ≤ m.dJ n) := by
 rcases ao (fun f : ae => f.name == n) m.fields 0 with ⟨q1, q2⟩ | ⟨i, hi, q1, q2, q3⟩
 ·have h4 : m.dh n = false := List.any_eq_false.2 (fun f hf => by have := List.find?_eq_none.1 q2 f hf; simpa using this)
  have e : m.dJ n = -1 := q1
  rw [h4, e]; rfl
 ·have e : m.dJ n = ((0 + i : Nat) : Int) := q1
  have h4 : m.dh n = true := List.any_eq_true.2 ⟨_, List.getElem_mem hi, q3⟩
  rw [h4, e]; simp
theorem FX {m : aU} {x : aS} {i : Nat} (hi : i < x.bk.length) (h : m.dJ x.bk[i] < 0) : x.bk.all m.dh = false :=
 List.all_eq_false.2 ⟨_, List.getElem_mem hi, by rw [oc]; simp; omega⟩
theorem pT {m : aU} {x : aS} {i : Nat} (hi : x.bk.length ≤ i) (h : ∀ k (hk : k < x.bk.length), k < i → 0 ≤ m.dJ x.bk[k]) : x.bk.all m.dh = true :=
 List.all_eq_true.2 fun n hn => by
  obtain ⟨k, hk, rfl⟩ := List.getElem_of_mem hn
  rw [oc]; simpa using h k hk (by omega)
def qe (x : aS) (l : List ae) (j : Nat) : List ae := (l.take j).map x.changed ++ l.drop j
theorem BO {x : aS} {l : List ae} {j : Nat} : (qe x l j).length = l.length := by unfold qe; simp; omega
theorem JM {x : aS} {l : List ae} {j : Nat} (hj : j < l.length) : ((qe x l j).map ae.av)[j]? = some (.agg l[j].cells) := by
 unfold qe
 have h1 : ((l.take j).map x.changed).length = j := by simp; omega
 rw [List.getElem?_map, List.getElem?_append_right (by omega), h1, Nat.sub_self, List.getElem?_drop, Nat.add_zero, List.getElem?_eq_getElem hj]; rfl
theorem JL {x : aS} {l : List ae} {j : Nat} (hj : j < l.length) : ((qe x l j).map ae.av).set j (.agg (x.changed l[j]).cells) = (qe x l (j + 1)).map ae.av := by
 have h1 : ((l.take j).map x.changed).length = j := by simp; omega
 unfold qe
 have e : (.agg (x.changed l[j]).cells : AV) = (x.changed l[j]).av := rfl
 rw [e, ← List.map_set, List.set_append_right _ _ (by omega), h1, Nat.sub_self, List.drop_eq_getElem_cons hj, List.set_cons_zero, List.take_add_one, List.getElem?_eq_getElem hj]
 simp only [Option.toList, List.map_append, List.append_assoc, List.map_cons, List.map_nil, List.cons_append, List.nil_append]
theorem JN {x : aS} {l : List ae} {j : Nat} (hj : l.length ≤ j) : qe x l j = l.map x.changed := by
 unfold qe; rw [List.take_of_length_le hj, List.drop_eq_nil_of_le hj, List.append_nil]
theorem Oj {x : aS} {l : List ae} {j k : Nat} {v : CV} {rest : List (aI × CV)} {H : Hp} (hj : j < l.length) : ((aI.s 14, v) :: (aI.h, CV.hp (H.bump k (aZ (((qe x l j).map ae.av).set j (.agg (x.changed l[j]).cells))))) :: rest) = [(aI.s 14, v), (aI.h, CV.hp (H.bump k (aZ ((qe x l (j + 1)).map ae.av))))] ++ rest := by rw [JL hj]; rfl
theorem zi {id k : Nat} {R l : List ae} {m : aU} {s : aL} {x : aS} (hk : k = R.length) : [s.av, AV.agg [.str m.name, .os id k 7, .sl (m.ai.map eJ)], x.av, .sl (l.map ae.av)].map (mx id (R.map ae.av)) = [s.av, ({ m with fields := R } : aU).av, x.av, .sl (l.map ae.av)] := by
 subst hk
 have e : (R.map ae.av).take R.length = R.map ae.av := List.take_of_length_le (by simp)
 simp [mx, gT, aL.av, aL.cells, aU.av, aU.cells, aS.av, aS.cells, e]
theorem Ng {id n : Nat} {R : List ae} {m : aU} (hn : n = R.length) : [Sv.v (.str m.name), .v (.os id n 7), .v (.sl (m.ai.map eJ))].map (kG id (R.map ae.av)) = [Sv.v (.str m.name), .v (.sl (R.map ae.av)), .v (.sl (m.ai.map eJ))] := by
 subst hn
 have e : (R.map ae.av).take R.length = R.map ae.av := List.take_of_length_le (by simp)
 simp [kG, gT, e]
def HJ (x : aS) (at_ : Nat) (r : aU) (ref : aw) : aU × Nat → Option aU := fun (m, i) => if i = at_ then some r else if x.kind = 7 ∧ m.name = ref then none else some m
def ch (s : aL) (x : aS) (at_ : Nat) (r : aU) (ref : aw) (i : Nat) : List aU := (s.msgs.zipIdx.take i).filterMap (HJ x at_ r ref)
theorem jo {s : aL} {x : aS} {at_ : Nat} {r : aU} {ref : aw} {i : Nat} : (ch s x at_ r ref i).length ≤ s.msgs.length := by
 unfold ch
 refine Nat.le_trans (List.length_filterMap_le _ _) ?_
 rw [List.length_take, List.length_zipIdx]; omega
theorem qV {s : aL} {x : aS} {at_ : Nat} {r : aU} {ref : aw} {i : Nat} (hi : i < s.msgs.length) : ch s x at_ r ref (i + 1) = ch s x at_ r ref i ++ (HJ x at_ r ref (s.msgs[i], i)).toList := by
 unfold ch
 rw [List.take_add_one, List.filterMap_append]
 have : s.msgs.zipIdx[i]? = some (s.msgs[i], i) := by simp [List.getElem?_zipIdx, hi]
 rw [this]
 cases h : HJ x at_ r ref (s.msgs[i], i) <;> simp [h]
theorem sW {s : aL} {x : aS} {at_ : Nat} {m : aU} {i : Nat} (hi : s.msgs.length ≤ i) (h4 : s.msgs[at_]? = some m) : x.msgs s at_ (x.fQ s m) (m.aV x.field).ref = ch s x at_ (x.fQ s m) (m.aV x.field).ref i ++ (if x.kind = 6 then [{ lg with name := x.dest, fields := [m.aV x.field] }] else []) := by
 unfold aS.msgs ch
 have hg : s.msgs.getD at_ lg = m := by rw [List.getD_eq_getElem?_getD, h4]; rfl
 rw [hg, List.take_of_length_le (by simpa using hi)]
 rfl
theorem Oi {s : aL} {x : aS} {at_ : Nat} {r : aU} {ref : aw} {i el esz : Nat} {v : CV} {w : Sv} {rest : List (aI × CV)} {t : Nat} {a : AV} (hi : i < s.msgs.length) {r' : aU} (ha : a = r'.av) (h : HJ x at_ r ref (s.msgs[i], i) = some r') :
  ((aI.s 16, v) :: (aI.b 15, CV.bx [w, .ow t ((ch s x at_ r ref i).map aU.av ++ [a])]) :: (aI.t t, CV.tk false el esz ((ch s x at_ r ref i).map aU.av ++ [a])) :: rest) = [(aI.s 16, v), (aI.b 15, CV.bx [w, .ow t ((ch s x at_ r ref (i + 1)).map aU.av)]), (aI.t t, CV.tk false el esz ((ch s x at_ r ref (i + 1)).map aU.av))] ++ rest := by
 rw [qV hi, h, ha]; simp
theorem P1 {s : aL} {x : aS} {at_ : Nat} {r : aU} {ref : aw} {i el esz : Nat} {v : CV} {w : Sv} {rest : List (aI × CV)} {t : Nat} (hi : i < s.msgs.length) (h : HJ x at_ r ref (s.msgs[i], i) = none) :
  ((aI.s 16, v) :: (aI.b 15, CV.bx [w, .ow t ((ch s x at_ r ref i).map aU.av)]) :: (aI.t t, CV.tk false el esz ((ch s x at_ r ref i).map aU.av)) :: rest) = [(aI.s 16, v), (aI.b 15, CV.bx [w, .ow t ((ch s x at_ r ref (i + 1)).map aU.av)]), (aI.t t, CV.tk false el esz ((ch s x at_ r ref (i + 1)).map aU.av))] ++ rest := by
 rw [qV hi, h]; simp
theorem ml {s : aL} {f : ae} {x : aS} : (x.comes s f).length ≤ 2 := by
 unfold aS.comes
 repeat' split
 all_goals simp
theorem Ck {s : aL} {x : aS} {m : aU} (h : m.fields.length ≤ 10) : (x.fQ s m).fields.length ≤ 12 := by
 have h1 := List.length_filter_le (fun f : ae => !(x.goes.any fun n => f.name == n)) m.fields
 have h2 := @ml s (m.aV x.field) x
 show ((bE m.fields x.goes).map x.changed ++ x.comes s (m.aV x.field)).length ≤ 12
 unfold bE
 rw [List.length_append, List.length_map]; omega
theorem sK {s : aL} (hs : s.sm) {x : aS} {at_ : Nat} {m : aU} {ref : aw} (hm : m ∈ s.msgs) {l : List aU} (hl : l.length ≤ 1) (hf : ∀ y ∈ l, y.fields.length ≤ 1 ∧ y.ai = []) {i : Nat} : (⟨s.enums, ch s x at_ (x.fQ s m) ref i ++ l⟩ : aL).Fa := by
 have hmem : ∀ y ∈ ch s x at_ (x.fQ s m) ref i, y = x.fQ s m ∨ y ∈ s.msgs := by
  intro y hy
  obtain ⟨⟨z, k⟩, hz, he⟩ := List.mem_filterMap.1 hy
  simp only [HJ] at he
  split at he
  ·cases he; exact .inl rfl
  ·split at he
   ·cases he
   ·cases he
    have := List.mem_of_mem_take hz
    exact .inr (List.fst_mem_of_mem_zipIdx this)
 have hlen : (ch s x at_ (x.fQ s m) ref i).length ≤ 6 := by
  unfold ch
  refine Nat.le_trans (List.length_filterMap_le _ _) ?_
  rw [List.length_take, List.length_zipIdx]; have := hs.m; omega
 refine ⟨by have := hs.e; show s.enums.length ≤ 100; omega, by show (ch s x at_ (x.fQ s m) ref i ++ l).length ≤ 100; rw [List.length_append]; omega, fun y hy => by have := hs.v y hy; omega, fun y hy => ?_, fun y hy => ?_⟩
 ·rcases List.mem_append.1 hy with h | h
  ·rcases hmem y h with rfl | h2
   ·have := Ck (s := s) (x := x) (hs.f m hm); omega
   ·have := hs.f y h2; omega
  ·have := (hf y h).1; omega
 ·rcases List.mem_append.1 hy with h | h
  ·rcases hmem y h with rfl | h2
   ·have := hs.b m hm; show m.ai.length ≤ 100; omega
   ·have := hs.b y h2; omega
  ·rw [(hf y h).2]; decide
theorem qx {α : Type} (l : List α) (k : Nat) (x : α) : (fS l k x).length = l.length + 1 := by unfold fS; simp; omega
theorem rO (s : aL) : s.sorted.enums.length = s.enums.length ∧ s.sorted.msgs.length = s.msgs.length := by
 have h1 : ∀ (l acc : List eQ), (l.foldl zu acc).length = acc.length + l.length := by
  intro l
  induction l with
  | nil => intro acc; simp
  | cons a l ih => intro acc; rw [List.foldl_cons, ih]; unfold zu; rw [qx]; simp; omega
 have h2 : ∀ (l acc : List aU), (l.foldl mM acc).length = acc.length + l.length := by
  intro l
  induction l with
  | nil => intro acc; simp
  | cons a l ih => intro acc; rw [List.foldl_cons, ih]; unfold mM; rw [qx]; simp; omega
 exact ⟨by show (s.enums.foldl zu []).length = _; rw [h1]; simp, by show (s.msgs.foldl mM []).length = _; rw [h2]; simp⟩
theorem BP {s : aL} (h : s.Fa) : s.sorted.eK := ⟨by have := h.e; rw [(rO s).1]; omega, by have := h.m; rw [(rO s).2]; omega⟩
theorem GB {x : aS} : x.goes.length ≤ 2 := by
 unfold aS.goes
 repeat' split
 all_goals simp
theorem uY {s : aL} (hs : s.sm) {x : aS} {at_ : Nat} {m : aU} {ref : aw} (hm : m ∈ s.msgs) {i : Nat} : (⟨s.enums, ch s x at_ (x.fQ s m) ref i⟩ : aL).Fa := by
 have := sK hs (x := x) (at_ := at_) (ref := ref) (i := i) hm (l := []) (by simp) (by simp)
 rwa [List.append_nil] at this
theorem CM (E : List eQ) (l k : List aU) (h : (⟨E, l ++ k⟩ : aL).Fa) : Pure Tryz.prog 74 [.agg [.sl (E.map eQ.av), .sl (l.map aU.av ++ k.map aU.av)]] (⟨E, l ++ k⟩ : aL).sorted.av := by
 rw [← List.map_append]; exact wx _ h
theorem KD {s : aL} {x : aS} {at_ : Nat} {m : aU} {i : Nat} (hi : s.msgs.length ≤ i) (h4 : s.msgs[at_]? = some m) (hk : x.kind = 6) : x.outs s at_ m = (⟨s.enums, ch s x at_ (x.fQ s m) (m.aV x.field).ref i ++ [{ lg with name := x.dest, fields := [m.aV x.field] }]⟩ : aL).sorted := by
 unfold aS.outs; rw [sW hi h4, if_pos hk]
theorem KB {s : aL} {x : aS} {at_ : Nat} {m : aU} {i : Nat} (hi : s.msgs.length ≤ i) (h4 : s.msgs[at_]? = some m) (hk : x.kind ≠ 6) : x.outs s at_ m = (⟨s.enums, ch s x at_ (x.fQ s m) (m.aV x.field).ref i⟩ : aL).sorted := by
 unfold aS.outs; rw [sW hi h4, if_neg hk, List.append_nil]
theorem Ci {x : aS} (h : x.names.length ≤ 1000) : x.bk.length ≤ 1000 := by
 unfold aS.bk
 repeat' split
 all_goals first | exact h | simp
theorem Mi {s : aL} {m : aU} {x : aS} (h : x.asked s m = true) (hk : x.kind = 7) : s.boxed m (m.aV x.field) = true := by
 unfold aS.asked at h
 rw [hk] at h
 exact h
def ab (D : Nat → Prop) (l : List AV) : Prop := ∀ x ∈ l, bH D x
theorem ab.nil {D : Nat → Prop} : ab D [] := fun x hx => by cases hx
theorem ab.cons {D : Nat → Prop} {a : AV} {l : List AV} (h : bH D a) (t : ab D l) : ab D (a :: l) := fun x hx => by
 rcases List.mem_cons.1 hx with rfl | hx
 ·exact h
 ·exact t x hx
theorem ab.map {D : Nat → Prop} {α : Type} {f : α → AV} {l : List α} (h : ∀ x ∈ l, bH D (f x)) : ab D (l.map f) := fun x hx => by
 obtain ⟨y, hy, rfl⟩ := List.mem_map.1 hx
 exact h y hy
theorem ae.ops {D : Nat → Prop} (f : ae) : bH D f.av := .agg _ (ab.cons (.str _) (ab.cons (.int _ _) (ab.cons (.int _ _) (ab.cons (.str _) (ab.cons (.bool _) (ab.cons (.bool _) (ab.cons (.str _) ab.nil)))))))
theorem aU.ops {D : Nat → Prop} (m : aU) : bH D m.av := .agg _ (ab.cons (.str _) (ab.cons (.sl _ (ab.map fun f _ => f.ops)) (ab.cons (.sl _ (ab.map fun n _ => .int _ n)) ab.nil)))
theorem ks.ops {D : Nat → Prop} (v : ks) : bH D v.av := .agg _ (ab.cons (.str _) (ab.cons (.int _ _) ab.nil))
theorem eQ.ops {D : Nat → Prop} (e : eQ) : bH D e.av := .agg _ (ab.cons (.str _) (ab.cons (.sl _ (ab.map fun f _ => f.ops)) ab.nil))
theorem aL.ops {D : Nat → Prop} (s : aL) : bH D s.av := .agg _ (ab.cons (.sl _ (ab.map fun f _ => f.ops)) (ab.cons (.sl _ (ab.map fun f _ => f.ops)) ab.nil))
theorem D5 {D : Nat → Prop} (e : Except Int aL) : bH D (ou e) := by
 cases e with
 | ok t => exact .tup _ (ab.cons t.ops (ab.cons (.int _ _) ab.nil))
 | error e => exact .tup _ (ab.cons (.agg _ (ab.cons (.sl _ ab.nil) (ab.cons (.sl _ ab.nil) ab.nil))) (ab.cons (.int _ _) ab.nil))
theorem Am (s : aL) (x : aS) (hs : s.eK) (hx : x.eK) (hn : x.names.length ≤ 1000) : Pure Tryz.prog 39 [s.av, x.av] (ou (s.apply x)) := by
 refine fun H => cB.fin fun hfin => (cB.jA Tryz.func39 rfl rfl (aH rfl) (D5 _) (aK.gn 6 II mixed (aG.jn 999 999 [.h, .s 2, .b 2, .s 3, .b 3, .s 4, .b 4] (fun (_ : Unit) => []) (fun (_ : Unit) => s.iN = 0 ∧ x.right = true) rfl ?_ ?_)))
 ·refine aB.jc rfl (Fn rfl) rfl (Al s hs) (aC (fun hg1 => ?_) (fun hg1 => ?_))
  ·exact ⟨.inr rfl, (aM.r2 rfl (.cell gb rfl rfl rfl rfl (.tmp rfl .nil))).cast (congrArg ou (Be (.inl (by simpa using hg1))).symm), H, rfl, Nat.le_refl _, fun _ _ => rfl⟩
  ·refine aB.jc rfl (Fn rfl) rfl (IH x hx) (aC (fun hc2 => ?_) (fun hc2 => ?_))
   ·exact ⟨.inr rfl, (aM.r2 rfl (.cell gb rfl rfl rfl rfl (.tmp rfl .nil))).cast (congrArg ou (Be (.inr (by simpa using hc2))).symm), H, rfl, Nat.le_refl _, fun _ _ => rfl⟩
   ·exact .b0 rfl ⟨(), ⟨by simpa using hg1, by simpa using hc2⟩, rfl⟩
 ·rintro _ hF3
  have hok := aL.gI hF3.1
  have hsm := hok.sm
  refine aB.jn 1 rfl (Fn rfl) rfl (jl s x.msg (by have := hs.m; omega)) ?_
  refine aG.jn 999 999 [.h, .s 2, .b 2, .s 3, .b 3, .s 4, .b 4, .s 6] (fun (_ : Unit) => []) (fun (_ : Unit) => ¬ s.bL x.msg < 0) rfl ?_ ?_
  ·refine aC (fun hc3 => ?_) (fun hc3 => ?_)
   ·exact ⟨.inr rfl, (aM.r2 rfl (.cell gb rfl rfl rfl rfl (.tmp rfl .nil))).cast (congrArg ou (Je hF3.1 hF3.2 (of_decide_eq_true hc3)).symm), H, rfl, Nat.le_refl _, fun _ _ => rfl⟩
   ·exact .b0 rfl ⟨(), of_decide_eq_false hc3, rfl⟩
  ·rintro _ hF6
   obtain ⟨i0, m, h0, hm0⟩ := F0 (s := s) (n := x.msg) (by omega)
   have hmm : m ∈ s.msgs := List.mem_of_getElem? hm0
   have hmf := hsm.f m hmm
   have hmb := hsm.b m hmm
   have hap := Jd hF3.1 hF3.2 h0 hm0
   refine aB.d1 rfl (ak (aH rfl) bW rfl rfl (by omega) (by rw [h0, Int.toNat_natCast, List.getElem?_map, hm0]; rfl) rfl) ?_
   refine aB.jc rfl (Fn rfl) rfl (IK _) (aG.lq [.s 9, .h, .s 2, .b 2, .s 3, .b 3, .s 4, .b 4, .s 6, .s 7, .b 7, .s 8] (fun (i : Nat) => [(.s 9, .sv (.v (.int .i64 (i : Int))))]) (fun (i : Nat) => ∀ k (hk : k < x.bk.length), k < i → 0 ≤ m.dJ x.bk[k]) (fun (i : Nat) => x.bk.length - i) 0 rfl rfl (by intro k _ h; omega) ?_)
   rintro i hI
   have hnl : x.bk.length ≤ 1000 := Ci hn
   refine aC (fun hc4 => ?_) (fun hc4 => ?_)
   ·have hi := cz hc4
    refine ⟨rfl, (aF.d1 rfl (bP (aH rfl) cY rfl rfl (ca hi) rfl) (aF.d1 rfl (aX (aH rfl) (Fn rfl) rfl (kW m _ (by omega))) ⟨by kernel_rfl, (aC (fun hc5 => ?_) (fun hc5 => ?_))⟩))⟩
    ·exact ⟨.inr rfl, (aM.r2 rfl (.cell gb rfl rfl rfl rfl (.tmp rfl .nil))).cast (by rw [hap, if_pos (FX hi (of_decide_eq_true hc5))]; rfl), H, rfl, Nat.le_refl _, fun _ _ => rfl⟩
    ·exact .b1 9 rfl (inc (by omega)) rfl ⟨i + 1, by omega, fun k hk h => by rcases Nat.lt_or_ge k i with q | q; exact hI k hk q; have e : k = i := (by omega); subst e; exact Int.not_lt.1 (of_decide_eq_false hc5), rfl⟩
   ·have hi := dA hc4
    refine aB.jn 1 rfl (Fn rfl) rfl (IY s m x hsm (by omega) (pT hi hI) hn) (aG.ci 999 6 rfl (fun hc6 => ?_) (fun hc6 => ?_))
    ·exact ⟨.inr rfl, (aM.r2 rfl (.cell gb rfl rfl rfl rfl (.tmp rfl .nil))).cast (by rw [hap, if_neg (by rw [pT hi hI]; decide), if_pos (by simpa using hc6)]; rfl), H, rfl, Nat.le_refl _, fun _ _ => rfl⟩
    ·refine aG.jn 999 999 [.h, .s 2, .b 2, .s 3, .b 3, .s 4, .b 4, .s 6, .s 7, .b 7] (fun (_ : Unit) => [(.s 10, .sv (.lp 10 0)), (.b 10, .bx [.v (.str (m.aV x.field).name), .v (.int .i64 (m.aV x.field).num), .v (.int .i64 (m.aV x.field).ty), .v (.str (m.aV x.field).ref), .v (.bool (m.aV x.field).rep), .v (.bool (m.aV x.field).loose), .v (.str (m.aV x.field).one)])]) (fun (_ : Unit) => True) rfl ?_ ?_
     ·refine aB.jc rfl (Fn rfl) rfl (kW m _ (by omega)) (aC (fun hc7 => ?_) (fun hc7 => ?_))
      ·exact aB.d1 rfl (ak (aH rfl) bY rfl rfl (of_decide_eq_true hc7) (jv (of_decide_eq_true hc7)) rfl) (.bc [.s 10, .b 10, .h, .s 2, .b 2, .s 3, .b 3, .s 4, .b 4, .s 6, .s 7, .b 7] rfl ⟨(), trivial, rfl⟩)
      ·exact .bc [.s 10, .b 10, .h, .s 2, .b 2, .s 3, .b 3, .s 4, .b 4, .s 6, .s 7, .b 7] rfl ⟨(), trivial, by rw [tG (of_decide_eq_false hc7)]; rfl⟩
     ·rintro _ hF19
      have hna := pT hi hI
      have hask : x.asked s m = true := (by simpa using hc6)
      refine ⟨rfl, (aF.d1 rfl (aX (aH rfl) (Fn rfl) rfl (LB _)) (aF.d2 rfl (bf (aH rfl) (Fn rfl) rfl rfl (zJ m x.goes (by omega) (by have : x.goes.length ≤ 2 := GB; omega) H)) ?_))⟩
      refine ⟨by kernel_rfl, (aB.jn 8 rfl (Fn rfl) rfl (IV s _ x m hsm (fun h => Mi (by simpa using hc6) h)) (aB.d1 rfl (xY (H.next + (bE m.fields x.goes).length) ((bE m.fields x.goes).map ae.av) (aH rfl) (Fn rfl) rfl rfl Hp.de (ue _) (zi rfl) (Hz s ({ m with fields := (bE m.fields x.goes) } : aU) x (x.comes s (m.aV x.field)) hsm (by have hwl : (bE m.fields x.goes).length ≤ 10 := Nat.le_trans (List.length_filter_le _ _) hmf; show (bE m.fields x.goes).length ≤ 100; omega) (by show m.ai.length ≤ 100; omega) (by have := @ml s (m.aV x.field) x; omega)) rfl) ?_))⟩
      refine aC (fun hc8 => ?_) (fun hc8 => ?_)
      ·exact ⟨.inr rfl, (aM.r2 rfl (.cell gb rfl rfl rfl rfl (.tmp rfl .nil))).cast (by rw [hap, if_neg (by rw [hna]; decide), if_neg (by rw [hask]; decide), if_pos hc8]; rfl), _, rfl, (by show H.next ≤ H.next + _ + 1; omega), fun i hi => Hp.mS hi⟩
      ·refine aG.lq [.s 14, .h, .s 2, .b 2, .s 3, .b 3, .s 4, .b 4, .s 6, .s 10, .b 10, .s 12, .b 12, .s 13] (fun (j : Nat) => [(.s 14, .sv (.v (.int .i64 (j : Int)))), (.h, .hp (H.bump (bE m.fields x.goes).length (aZ ((qe x (bE m.fields x.goes) j).map ae.av))))]) (fun (j : Nat) => True) (fun (j : Nat) => (bE m.fields x.goes).length - j) 0 rfl rfl trivial ?_
       rintro j hJ
       have hwl : (bE m.fields x.goes).length ≤ 10 := Nat.le_trans (List.length_filter_le _ _) hmf
       refine aC (fun hc9 => ?_) (fun hc9 => ?_)
       ·have hj := MP hc9
        refine ⟨rfl, (aF.n1 0 rfl (bR (aH rfl) bY rfl rfl (Int.natCast_nonneg _) (by omega)) (aF.d1 rfl (eE (aH rfl) mJ rfl rfl Hp.de (ue _) rfl (JM hj)) (aF.d1 rfl (aX (aH rfl) (Fn rfl) rfl (C1 _ x (by omega))) (aF.n1 0 rfl (bR (aH rfl) bY rfl rfl (Int.natCast_nonneg _) (by omega)) (aF.d1 rfl (lI mJ rfl rfl Hp.de rfl (ue _) rfl (by rw [List.length_map, BO]; exact hj) rfl) ?_)))))⟩
        exact ⟨by kernel_rfl, (⟨Kept.ly rfl Hp.yM (Kept.c6 14 rfl (inc (by omega)) (Kept.az [.s 14, .h, .s 2, .b 2, .s 3, .b 3, .s 4, .b 4, .s 6, .s 10, .b 10, .s 12, .b 12, .s 13] rfl (by decide) (Kept.now ⟨j + 1, by omega, trivial, Oj hj⟩)))⟩)⟩
       ·have hj := zy hc9
        refine aB.n3 2 rfl (jT (aH rfl) iS m6 rfl rfl Hp.de (ue _) (by rw [List.length_map, BO]) rfl (ba ae.cells (fun _ => rfl) _) rfl (by have hwl : (bE m.fields x.goes).length ≤ 10 := Nat.le_trans (List.length_filter_le _ _) hmf; have := @ml s (m.aV x.field) x; rw [List.length_map]; omega) (by have hwl : (bE m.fields x.goes).length ≤ 10 := Nat.le_trans (List.length_filter_le _ _) hmf; have := @ml s (m.aV x.field) x; rw [List.length_map]; omega)) ?_
        refine aG.kept (Kept.ly rfl (show _ = H.bump ((bE m.fields x.goes).length + 1) (aZ ((x.fQ s m).fields.map ae.av)) from (by rw [Hp.ko, JN hj, ← List.map_append]; rfl)) (Kept.GN 12 (H.next + ((bE m.fields x.goes).length + 1)) rfl rfl Hp.de (ue _) (Ng (by show _ = ((bE m.fields x.goes).map x.changed ++ x.comes s (m.aV x.field)).length; simp)) (Kept.now (aG.r 4 ?_))))
        refine aB.n1 2 rfl (gx (aH rfl) Hh OQ rfl rfl) (aG.kept (Kept.sT 15 1 150 73 3 rfl rfl rfl rfl (by decide) (Kept.now (aG.r 999 (aG.lq [.s 16, .b 15, .t 150, .h, .s 2, .b 2, .s 3, .b 3, .s 4, .b 4, .s 6, .s 10, .b 10, .s 12, .b 12, .s 15] (fun (i : Nat) => [(.s 16, .sv (.v (.int .i64 (i : Int)))), (.b 15, .bx [.v (.sl (s.enums.map eQ.av)), .ow 150 ((ch s x i0 (x.fQ s m) (m.aV x.field).ref i).map aU.av)]), (.t 150, .tk false 73 3 ((ch s x i0 (x.fQ s m) (m.aV x.field).ref i).map aU.av))]) (fun (i : Nat) => True) (fun (i : Nat) => s.msgs.length - i) 0 rfl rfl trivial ?_)))))
        rintro i hI3
        have h6 := hsm.m
        refine aC (fun hc10 => ?_) (fun hc10 => ?_)
        ·have hi := cz hc10
         refine aC (fun hc11 => ?_) (fun hc11 => ?_)
         ·refine aB.d3 rfl (aj (aH rfl) kA rfl rfl rfl rfl rfl (by have := @jo s x i0 (x.fQ s m) (m.aV x.field).ref i; have := hsm.m; simp only [LL]; omega) rfl) ?_
          exact ⟨Kept.c6 16 rfl (inc (by omega)) (Kept.az [.s 16, .b 15, .t 129, .h, .s 2, .b 2, .s 3, .b 3, .s 4, .b 4, .s 6, .s 10, .b 10, .s 12, .b 12, .s 15] rfl (by decide) (Kept.cO 129 150 (by decide) rfl (Kept.now ⟨i + 1, by omega, trivial, Oi hi (r' := x.fQ s m) rfl (by simp only [HJ]; rw [if_pos (by have := of_decide_eq_true hc11; omega)])⟩)))⟩
         ·refine ⟨rfl, (aC (fun hg12 => ?_) (fun hg12 => ?_))⟩
          ·refine ⟨by kernel_rfl, ⟨rfl, (aF.d1 rfl (bP (aH rfl) bW rfl rfl (ca hi) rfl) (aF.d3 rfl (aj (aH rfl) kA rfl rfl rfl rfl rfl (by have := @jo s x i0 (x.fQ s m) (m.aV x.field).ref i; have := hsm.m; simp only [LL]; omega) rfl) ?_))⟩⟩
           exact ⟨by kernel_rfl, (⟨Kept.c6 16 rfl (inc (by omega)) (Kept.az [.s 16, .b 15, .t 153, .h, .s 2, .b 2, .s 3, .b 3, .s 4, .b 4, .s 6, .s 10, .b 10, .s 12, .b 12, .s 15] rfl (by decide) (Kept.cO 153 150 (by decide) rfl (Kept.now ⟨i + 1, by omega, trivial, Oi hi (r' := s.msgs[i]) rfl (by simp only [HJ]; rw [if_neg (by have := of_decide_eq_false hc11; omega), if_neg (by have : x.kind ≠ 7 := (by simpa using hg12); exact fun h => this h.1)])⟩)))⟩)⟩
          ·refine aF.d1 rfl (bP (aH rfl) bW rfl rfl (ca hi) rfl) ⟨by kernel_rfl, (aC (fun hc13 => ?_) (fun hc13 => ?_))⟩
           ·refine ⟨rfl, (aF.d1 rfl (bP (aH rfl) bW rfl rfl (ca hi) rfl) (aF.d3 rfl (aj (aH rfl) kA rfl rfl rfl rfl rfl (by have := @jo s x i0 (x.fQ s m) (m.aV x.field).ref i; have := hsm.m; simp only [LL]; omega) rfl) ?_))⟩
            exact ⟨by kernel_rfl, (⟨Kept.c6 16 rfl (inc (by omega)) (Kept.az [.s 16, .b 15, .t 153, .h, .s 2, .b 2, .s 3, .b 3, .s 4, .b 4, .s 6, .s 10, .b 10, .s 12, .b 12, .s 15] rfl (by decide) (Kept.cO 153 150 (by decide) rfl (Kept.now ⟨i + 1, by omega, trivial, Oi hi (r' := s.msgs[i]) rfl (by simp only [HJ]; rw [if_neg (by have := of_decide_eq_false hc11; omega), if_neg (by have : s.msgs[i].name ≠ (m.aV x.field).ref := (by simpa using hc13); exact fun h => this h.2)])⟩)))⟩)⟩
           ·exact .b1 16 rfl (inc (by omega)) rfl ⟨i + 1, by omega, trivial, P1 hi (by simp only [HJ]; rw [if_neg (by have := of_decide_eq_false hc11; omega), if_pos ⟨by simpa using hg12, by simpa using hc13⟩])⟩
        ·have hi := dA hc10
         refine aC (fun hc14 => ?_) (fun hc14 => ?_)
         ·refine aB.d3 rfl (aj (aH rfl) kA rfl rfl rfl rfl rfl (by have := @jo s x i0 (x.fQ s m) (m.aV x.field).ref i; have := hsm.m; simp only [LL]; omega) rfl) ?_
          refine aB.jc rfl (Fn rfl) rfl (CM s.enums _ [{ lg with name := x.dest, fields := [m.aV x.field] }] (sK hsm hmm (by simp) (by simp [lg]))) (aB.jc rfl (Fn rfl) rfl (Al _ (BP (sK hsm hmm (by simp) (by simp [lg])))) (aC (fun hc15 => ?_) (fun hc15 => ?_)))
          ·exact ⟨.inr rfl, (aM.r2 rfl (.cell gb rfl rfl rfl rfl (.tmp rfl .nil))).cast (by rw [hap, if_neg (by rw [hna]; decide), if_neg (by rw [hask]; decide), if_neg (by simpa using hc8), KD hi hm0 (by simpa using hc14), if_pos (by simpa using hc15)]; rfl), _, rfl, (by show H.next ≤ H.next + _ + 1; omega), fun i hi => Hp.oo hi⟩
          ·exact ⟨.inr rfl, (aM.r2 rfl (.cell gb rfl rfl rfl rfl (.tmp rfl .nil))).cast (by rw [hap, if_neg (by rw [hna]; decide), if_neg (by rw [hask]; decide), if_neg (by simpa using hc8), KD hi hm0 (by simpa using hc14), if_neg (by simpa using hc15)]; rfl), _, rfl, (by show H.next ≤ H.next + _ + 1; omega), fun i hi => Hp.oo hi⟩
         ·refine aB.jc rfl (Fn rfl) rfl (wx ⟨s.enums, (ch s x i0 (x.fQ s m) (m.aV x.field).ref i)⟩ (uY hsm hmm)) (aB.jc rfl (Fn rfl) rfl (Al _ (BP (uY hsm hmm))) (aC (fun hc16 => ?_) (fun hc16 => ?_)))
          ·exact ⟨.inr rfl, (aM.r2 rfl (.cell gb rfl rfl rfl rfl (.tmp rfl .nil))).cast (by rw [hap, if_neg (by rw [hna]; decide), if_neg (by rw [hask]; decide), if_neg (by simpa using hc8), KB hi hm0 (by simpa using hc14), if_pos (by simpa using hc16)]; rfl), _, rfl, (by show H.next ≤ H.next + _ + 1; omega), fun i hi => Hp.oo hi⟩
          ·exact ⟨.inr rfl, (aM.r2 rfl (.cell gb rfl rfl rfl rfl (.tmp rfl .nil))).cast (by rw [hap, if_neg (by rw [hna]; decide), if_neg (by rw [hask]; decide), if_neg (by simpa using hc8), KB hi hm0 (by simpa using hc14), if_neg (by simpa using hc16)]; rfl), _, rfl, (by show H.next ≤ H.next + _ + 1; omega), fun i hi => Hp.oo hi⟩
theorem mN : ie Tryz.prog 26 = some 12 := by kernel_rfl
theorem GA : ie Tryz.prog 64 = some 2 := by kernel_rfl
theorem zA : se Tryz.prog 64 = some (25, 2, 48) := by kernel_rfl
theorem HM : cE Tryz.prog 25 = some [AV.sl [], AV.sl []] := by kernel_rfl
def mW : List aS → aL → Nat → Nat
 | [], _, i => i
 | x :: l, s, i => match s.apply x with
  | .ok t => mW l t (i + 1)
  | .error _ => i
def wI (s : aL) (l : List aS) : Nat := if s.iN ≠ 0 then 0 else if 16 < l.length then 0 else mW l s 0
def Nw (n : Nat) : Except Int (List aL) → AV
 | .ok L => .tup [.sl (L.map aL.av), .int .i64 n, .int .i64 0]
 | .error e => .tup [.sl [], .int .i64 n, .int .i64 e]
structure nh (s : aL) (l : List aS) (i : Nat) (a : List aL) : Prop where
 len : a.length = i + 1
 all : ∃ t, a[i]? = some t ∧ t.eK ∧ aL.dy (l.drop i) t a = aL.dy l s [s] ∧ mW (l.drop i) t i = mW l s 0
theorem nh.start {s : aL} {l : List aS} (h : s.eK) : nh s l 0 [s] := ⟨rfl, s, rfl, h, rfl, rfl⟩
theorem nh.lt {s : aL} {l : List aS} {i : Nat} {a : List aL} (I : nh s l i a) : i < a.length := by rw [I.len]; omega
theorem nh.at {s : aL} {l : List aS} {i : Nat} {a : List aL} (I : nh s l i a) : (a[i]'I.lt).eK ∧ aL.dy (l.drop i) (a[i]'I.lt) a = aL.dy l s [s] ∧ mW (l.drop i) (a[i]'I.lt) i = mW l s 0 := by
 obtain ⟨t, h1, h2, h3, h4⟩ := I.all
 rw [List.getElem?_eq_getElem I.lt] at h1
 cases h1
 exact ⟨h2, h3, h4⟩
theorem D6 {s t : aL} {x : aS} (h : s.apply x = .ok t) : t.eK := by
 obtain ⟨m, at_, A⟩ := gq h
 have := A.FQ.sm
 exact ⟨by have := this.e; omega, by have := this.m; omega⟩
theorem nh.step {s : aL} {l : List aS} {i : Nat} {a : List aL} (I : nh s l i a) (hi : i < l.length) {t : aL} (h : (a[i]'I.lt).apply l[i] = .ok t) : nh s l (i + 1) (a ++ [t]) := by
 obtain ⟨h2, h3, h4⟩ := I.at
 refine ⟨by simp [I.len], t, by rw [List.getElem?_append_right (by rw [I.len]; omega), I.len]; simp, D6 h, ?_, ?_⟩
 ·rw [← h3, List.drop_eq_getElem_cons hi]; simp only [aL.dy, h]
 ·rw [← h4, List.drop_eq_getElem_cons hi]; simp only [mW, h]
theorem nh.bad {s : aL} {l : List aS} {i : Nat} {a : List aL} (I : nh s l i a) (hi : i < l.length) {e : Int} (h : (a[i]'I.lt).apply l[i] = .error e) : aL.dy l s [s] = .error e ∧ mW l s 0 = i := by
 obtain ⟨h2, h3, h4⟩ := I.at
 rw [List.drop_eq_getElem_cons hi] at h3 h4
 simp only [aL.dy, mW, h] at h3 h4
 exact ⟨h3.symm, h4.symm⟩
theorem nh.done {s : aL} {l : List aS} {i : Nat} {a : List aL} (I : nh s l i a) (hi : l.length ≤ i) (hle : i ≤ l.length) : aL.dy l s [s] = .ok a ∧ mW l s 0 = l.length := by
 obtain ⟨h2, h3, h4⟩ := I.at
 rw [List.drop_eq_nil_of_le hi] at h3 h4
 exact ⟨h3.symm, by rw [← h4]; show i = _; omega⟩
theorem zP {s t : aL} {x : aS} (hs : s.eK) (hx : x.eK) (hn : x.names.length ≤ 1000) (h : s.apply x = .ok t) : Pure Tryz.prog 39 [s.av, x.av] (.tup [t.av, .int .i64 0]) := by
 have := Am s x hs hx hn
 rw [h] at this; exact this
theorem zQ {s : aL} {x : aS} {e : Int} (hs : s.eK) (hx : x.eK) (hn : x.names.length ≤ 1000) (h : s.apply x = .error e) : Pure Tryz.prog 39 [s.av, x.av] (.tup [.agg [.sl [], .sl []], .int .i64 e]) := by
 have := Am s x hs hx hn
 rw [h] at this; exact this
theorem tT {s : aL} {x : aS} {e : Int} (h : s.apply x = .error e) : e ≠ 0 := by
 unfold aL.apply at h
 split at h
 ·cases h; decide
 ·split at h
  ·cases h; decide
  ·dsimp only at h
   split at h
   ·cases h; decide
   ·split at h
    ·cases h; decide
    ·split at h
     ·cases h; decide
     ·split at h
      ·rename_i hc
       cases h; exact hc
      ·cases h
theorem KQ {s : aL} {l : List aS} (h : s.iN ≠ 0) : s.all l = .error s.iN ∧ wI s l = 0 := by unfold aL.all wI; rw [if_pos h, if_pos h]; exact ⟨rfl, rfl⟩
theorem KP {s : aL} {l : List aS} (h : s.iN = 0) (h2 : 16 < l.length) : s.all l = .error 4 ∧ wI s l = 0 := by unfold aL.all wI; simp [h, h2]
theorem Bh {s : aL} {l : List aS} (h : s.iN = 0) (h2 : ¬ 16 < l.length) : s.all l = aL.dy l s [s] ∧ wI s l = mW l s 0 := by unfold aL.all wI; simp [h, h2]
theorem PG {v : CV} {rest : List (aI × CV)} {el esz t : Nat} {a : List aL} {b : AV} {c : aL} (h : b = c.av) : ((aI.s 9, v) :: (aI.s 8, CV.sv (.ow t (a.map aL.av ++ [b]))) :: (aI.t t, CV.tk false el esz (a.map aL.av ++ [b])) :: rest) = [(aI.s 9, v), (aI.s 8, CV.sv (.ow t ((a ++ [c]).map aL.av))), (aI.t t, CV.tk false el esz ((a ++ [c]).map aL.av))] ++ rest := by rw [h, List.map_append]; rfl
theorem Jw (s : aL) (l : List aS) (hs : s.eK) (hb : ∀ x ∈ l, x.eK ∧ x.names.length ≤ 1000) (hl : l.length ≤ 9223372036854775807) : Pure Tryz.prog 25 [s.av, .sl (l.map aS.av)] (Nw (wI s l) (s.all l)) := by
 refine Pure.ah Tryz.func25 rfl rfl (aH rfl) fun H => (aK.seq (aK.region (aD.run II 4 rfl (aD.nil (aK.seq (aK.seq (aK.region (aD.run II 1 rfl (aD.c1 rfl (aX (aH rfl) (Fn rfl) rfl (Al s hs)) (aD.run II 1 rfl (aD.nil (aK.seq (aK.region (aD.run II 2 rfl (aD.nil (aK.cond rfl (fun hc1 => ?_) (fun hc1 => ?_)))))))))))))))))
 ·exact aK.seq (aK.region (aD.run II 4 rfl (aD.nil (aK.ret ⟨.inr rfl, (aM.r3 rfl (.tmp rfl (.tmp rfl (.tmp rfl .nil)))).cast (by rw [(KQ (by simpa using hc1)).1, (KQ (by simpa using hc1)).2]; rfl), rfl⟩))))
 ·refine aK.skip (aK.seq (aK.seq (aK.region (aD.run II 3 rfl (aD.nil (aK.cond rfl (fun hc2 => ?_) (fun hc2 => ?_)))))))
  ·exact aK.seq (aK.region (aD.run II 3 rfl (aD.nil (aK.ret ⟨.inr rfl, (aM.r3 rfl (.tmp rfl (.tmp rfl (.tmp rfl .nil)))).cast (by rw [(KP (by simpa using hc1) (by have := of_decide_eq_true hc2; rw [List.length_map] at this; omega)).1, (KP (by simpa using hc1) (by have := of_decide_eq_true hc2; rw [List.length_map] at this; omega)).2]; rfl), rfl⟩))))
  ·refine aK.skip (aK.seq (aK.region (aD.run II 1 rfl (aD.c2 rfl (bD («as» := [_]) (aH rfl) zA HM rfl rfl rfl (gQ rfl) rfl) (aD.run II 1 rfl (aD.nil (aK.seq (aK.seq (aK.region (aD.run II 1 rfl (aD.nil (aK.blk (aK.cy (Kept.az [.s 9, .s 8, .t 21, .h, .s 1] rfl (by decide) (Kept.now (aK.k7 (fun ((i, a) : Nat × List aL) => [(.s 9, .sv (.v (.int .i64 (i : Int)))), (.s 8, .sv (.ow 21 (a.map aL.av))), (.t 21, .tk false 25 2 (a.map aL.av))]) _ (fun ((i, a) : Nat × List aL) => nh s l i a ∧ i ≤ l.length) (fun ((i, a) : Nat × List aL) => l.length - i) (0, [s]) rfl ⟨nh.start hs, Nat.zero_le _⟩ ?_))))))))))))))))
   rintro ⟨i, a⟩ hI
   dsimp only at hI
   have h16 : l.length ≤ 16 := (by have := of_decide_eq_false hc2; rw [List.length_map] at this; omega)
   refine aK.seq (aK.seq (aK.region (aD.run II 4 rfl (aD.nil (aK.cond rfl (fun hc3 => ?_) (fun hc3 => ?_))))))
   ·have hi := cz hc3
    refine aK.skip (aK.seq (aK.blk (aK.seq (aK.drawn mixed rfl (aY.run II 2 rfl (aY.c1 rfl (ak (aH rfl) GA rfl rfl (Int.natCast_nonneg _) (dS (fun _ => rfl) hI.1.lt) rfl) (aY.run II 3 rfl (aY.c1 rfl (ak (aH rfl) mN rfl rfl (Int.natCast_nonneg _) (ca hi) rfl) (aY.run II 1 rfl ?_)))))))))
    cases hp1 : (a[i]'hI.1.lt).apply (l[i]'hi) with
    | ok x1 => 
     refine aY.c1 rfl (aX (aH rfl) (Fn rfl) rfl (zP hI.1.at.1 (hb _ (List.getElem_mem hi)).1 (hb _ (List.getElem_mem hi)).2 hp1)) (aY.run II 6 rfl (aY.nil (by kernel_rfl) (Kept.now (aK.seq (aK.seq (aK.region (aD.run II 2 rfl (aD.nil (aK.cond rfl (fun hc4 => ?_) (fun hc4 => ?_))))))))))
     ·exact aK.seq (aK.region (aD.run II 5 rfl (aD.nil (aK.ret ⟨.inr rfl, (aM.r3 rfl (.tmp rfl (.tmp rfl (.tmp rfl .nil)))).cast (absurd hc4 (by decide)), rfl⟩))))
     ·refine aK.skip (aK.region (aD.run II 3 rfl (aD.c3 rfl (jS (aH rfl) zA rfl rfl rfl rfl rfl (by have := hI.1.len; simp only [LL]; omega) (by have := hI.1.len; simp only [LL]; omega)) ?_)))
      exact aD.run II 1 rfl (aD.nil (aK.region (aD.run II 3 rfl (aD.kept (Kept.c6 9 rfl (inc (by omega)) (Kept.az [.s 9, .s 8, .t 47, .h, .s 1] rfl (by decide) (Kept.cO 47 21 (by decide) rfl (Kept.now (⟨(i + 1, a ++ [x1]), by dsimp only; omega, ⟨hI.1.step hi hp1, by omega⟩, PG rfl⟩)))))))))
    | error e1 => 
     refine aY.c1 rfl (aX (aH rfl) (Fn rfl) rfl (zQ hI.1.at.1 (hb _ (List.getElem_mem hi)).1 (hb _ (List.getElem_mem hi)).2 hp1)) (aY.run II 6 rfl (aY.nil (by kernel_rfl) (Kept.now (aK.seq (aK.seq (aK.region (aD.run II 2 rfl (aD.nil (aK.cond rfl (fun hc5 => ?_) (fun hc5 => ?_))))))))))
     ·exact aK.seq (aK.region (aD.run II 5 rfl (aD.nil (aK.ret ⟨.inr rfl, (aM.r3 rfl (.tmp rfl (.tmp rfl (.tmp rfl .nil)))).cast (by rw [(Bh (by simpa using hc1) (by omega)).1, (Bh (by simpa using hc1) (by omega)).2, (hI.1.bad hi hp1).1, (hI.1.bad hi hp1).2]; rfl), rfl⟩))))
     ·refine aK.skip (aK.region (aD.run II 3 rfl (aD.c3 rfl (jS (aH rfl) zA rfl rfl rfl rfl rfl (by have := hI.1.len; simp only [LL]; omega) (by have := hI.1.len; simp only [LL]; omega)) ?_)))
      exact aD.run II 1 rfl (aD.nil (aK.region (aD.run II 3 rfl (aD.kept (Kept.c6 9 rfl (inc (by omega)) (Kept.az [.s 9, .s 8, .t 47, .h, .s 1] rfl (by decide) (Kept.cO 47 21 (by decide) rfl (Kept.now (absurd (by simpa using hc5) (tT hp1))))))))))
   ·have hi := dA hc3
    exact aK.exit (aK.seq (aK.region (aD.run II 6 rfl (aD.nil (aK.ret ⟨.inr rfl, (aM.r3 rfl (.tmp rfl (.tmp rfl (.tmp rfl .nil)))).cast (by rw [(Bh (by simpa using hc1) (by omega)).1, (Bh (by simpa using hc1) (by omega)).2, (hI.1.done hi hI.2).1, (hI.1.done hi hI.2).2, List.length_map]; rfl), rfl⟩)))))
theorem cN : ie Tryz.prog 58 = some 9 := by kernel_rfl
theorem fZ : lk Tryz.prog 117 = some (true, 9) := by kernel_rfl
theorem eD : se Tryz.prog 58 = some (117, 9, 88) := by kernel_rfl
theorem fz : cE Tryz.prog 117 = some [AV.str [], AV.int IntKind.i64 (0), AV.int IntKind.i64 (0), AV.str [], AV.bool false, AV.bool false, AV.str [], AV.int IntKind.i64 (0), AV.int IntKind.i64 (0)] := by kernel_rfl
theorem lE (l : List Port) : ∀ e ∈ l.map Port.av, e.cells.length = 9 := oT (ba Port.cells (fun _ => rfl) _)
def Da (name : aw) (x : Port) : Bool := !(x.f.name == name)
theorem Ea {l : List Port} {n : aw} {i : Nat} (hi : i < l.length) (h : Da n l[i] = true) : ((l.take i).filter (Da n)).map Port.av ++ [l[i].av] = ((l.take (i + 1)).filter (Da n)).map Port.av := by
 rw [List.take_add_one, List.getElem?_eq_getElem hi, List.filter_append]; simp [h]
theorem Eb {l : List Port} {n : aw} {i : Nat} (hi : i < l.length) (h : Da n l[i] = false) : ((l.take i).filter (Da n)).map Port.av = ((l.take (i + 1)).filter (Da n)).map Port.av := by
 rw [List.take_add_one, List.getElem?_eq_getElem hi, List.filter_append]; simp [h]
theorem OG (l : List Port) (a b : Nat) : cg 9 (((l.map Port.av).drop a).take b) = true := by
 rw [← List.map_drop, ← List.map_take]; exact ba Port.cells (fun _ => rfl) _
theorem vt {α : Type} (f : α → AV) {p : α → Bool} {l : List α} {x : α} {j : Int} (hj : j.toNat = l.length - cl p l) :
  ([] ++ (((l.map f).drop (0 : Int).toNat).take (j.toNat - (0 : Int).toNat))) ++ [f x] ++ (((l.map f).drop j.toNat).take (((l.map f).length : Int).toNat - j.toNat)) = (ct p x l).map f := by
 rw [(mj _).1, (mj _).2]
 unfold ct fS
 rw [← hj, List.map_append, List.map_cons, List.map_take, List.map_drop, List.nil_append, List.append_assoc]; rfl
theorem OW {p : Port → Bool} {l : List Port} {j : Int} (hl : l.length ≤ 1000000) (h : qa p l j) (hf : 0 < j) : (l.map Port.av)[(IntKind.i64.wrap (j - 1)).toNat]? = some (.agg (Mo ft l j).cells) := by
 have hn := h.nn
 rw [fI (by omega) (by omega), List.getElem?_map, mq ft h hf]; rfl
theorem eP (l : List Port) (x : Port) : (bb l x).length = l.length + 1 := by unfold bb ct; rw [qx]
theorem bQ (l : List Port) (n : aw) : (aR l n).length ≤ l.length := List.length_filter_le _ _
theorem oH (l : List Port) (name : aw) (hl : l.length ≤ 1000) : Pure Tryz.prog 41 [.sl (l.map Port.av), .str name] (.int .i64 (bl l name)) := by
 refine Pure.go II mixed Tryz.func41 rfl rfl fun H => (aG.lq [.s 5, .h, .s 0, .s 1] (fun (i : Nat) => [(.s 5, .sv (.v (.int .i64 (i : Int))))]) (fun (i : Nat) => bI (fun x : Port => x.f.name == name) (l.drop i) i = bl l name) (fun (i : Nat) => l.length - i) 0 rfl rfl (by simp [bl]) ?_)
 rintro i hI
 refine aC (fun hc1 => ?_) (fun hc1 => ?_)
 ·have hi := cz hc1
  have hS := bo (p := (fun x : Port => x.f.name == name)) hi
  refine aB.ii rfl cN rfl rfl (ca hi) rfl (aC (fun hc2 => ?_) (fun hc2 => ?_))
  ·exact cC rfl rfl rfl (by grind [bl])
  ·exact .b1 5 rfl (inc (by omega)) rfl ⟨i + 1, by omega, by grind, rfl⟩
 ·have hi := dA hc1
  have hS := dT (p := (fun x : Port => x.f.name == name)) hi
  exact cC rfl rfl rfl (by grind [bl])
theorem jN (l : List Port) (n : aw) (hl : l.length ≤ 1000) : Pure Tryz.prog 81 [.sl (l.map Port.av), .str n] (.sl ((aR l n).map Port.av)) := by
 refine Pure.gn 5 II mixed Tryz.func81 rfl rfl fun H => (aB.d2 rfl (bD («as» := []) (aH rfl) eD fz rfl rfl rfl (gQ rfl) rfl) (aG.lq [.s 6, .s 5, .t 7, .h, .s 0, .s 1] (fun ((i, a) : Nat × List AV) => [(.s 6, .sv (.v (.int .i64 (i : Int)))), (.s 5, .sv (.ow 7 a)), (.t 7, .tk false 117 9 a)]) (fun ((i, a) : Nat × List AV) => a = ((l.take i).filter (Da n)).map Port.av) (fun ((i, a) : Nat × List AV) => l.length - i) (0, []) rfl rfl (by simp) ?_))
 rintro ⟨i, a⟩ hI
 refine aC (fun hc1 => ?_) (fun hc1 => ?_)
 ·have hi := cz hc1
  refine aB.ii rfl cN rfl rfl (ca hi) rfl (aC (fun hc2 => ?_) (fun hc2 => ?_))
  ·refine aB.ii rfl cN rfl rfl (ca hi) rfl (aB.d3 rfl (aj (aH rfl) eD rfl rfl rfl rfl rfl (by rw [hI]; simp only [List.length_map, List.length_cons, List.length_nil]; have h1 := List.length_filter_le (Da n) (l.take i); rw [List.length_take] at h1; omega) rfl) ?_)
   exact ⟨Kept.c6 6 rfl (inc (by omega)) (Kept.az [.s 6, .s 5, .t 28, .h, .s 0, .s 1] rfl (by decide) (Kept.cO 28 7 (by decide) rfl (Kept.now ⟨(i + 1, _), by dsimp only; omega, by dsimp only; rw [hI]; first | exact Ea hi (by simp_all [Da]) | exact Eb hi (by simp_all [Da]), rfl⟩)))⟩
  ·exact .b1 6 rfl (inc (by omega)) rfl ⟨(i + 1, _), by dsimp only; omega, by dsimp only; rw [hI]; first | exact Ea hi (by simp_all [Da]) | exact Eb hi (by simp_all [Da]), rfl⟩
 ·have hi := dA hc1
  exact cD rfl rfl rfl (congrArg AV.sl (by rw [hI, List.take_of_length_le (by omega)]; rfl))
theorem iw (l : List Port) (x : Port) (hl : l.length ≤ 1000) : Pure Tryz.prog 79 [.sl (l.map Port.av), x.av] (.sl ((bb l x).map Port.av)) := by
 refine Pure.go II mixed Tryz.func79 rfl rfl fun H => (aG.lp 6 [.s 5, .h, .s 0, .s 3, .b 3] (fun (j : Int) => [(.s 5, .sv (.v (.int .i64 j)))]) (fun (j : Int) => qa (fun y : Port => decide (y.f.num > x.f.num)) l j) (fun (j : Int) => j.toNat) ((l.map Port.av).length : Int) rfl rfl (by rw [List.length_map]; exact qa.start) ?_)
 rintro j hJ
 have hnn := hJ.nn
 refine ⟨rfl, (aF.ti 999 16 rfl (fun hg1 => ?_) (fun hg1 => ?_))⟩
 ·refine aF.n1 8 rfl (ak (aH rfl) cN rfl rfl (by have := of_decide_eq_true hg1; rw [fI (by omega) (by omega)]; omega) (OW (by omega) hJ (of_decide_eq_true hg1)) rfl) ?_
  refine ⟨by kernel_rfl, (aG.ci 999 3 rfl (fun hc2 => ?_) (fun hc2 => ?_))⟩
  ·exact .bc [.s 5, .h, .s 0, .s 3, .b 3] rfl ⟨_, by show (IntKind.i64.wrap (j - 1)).toNat < j.toNat; have := of_decide_eq_true hg1; rw [fI (by omega) (by omega)]; omega, by rw [fI (by have := of_decide_eq_true hg1; omega) (by omega)]; exact hJ.step (of_decide_eq_true hg1) (mq ft hJ (of_decide_eq_true hg1)) hc2, rfl⟩
  ·refine ⟨rfl, (aF.d2 rfl (bD («as» := []) (aH rfl) eD fz rfl rfl rfl (gQ rfl) rfl) (aF.d1 rfl (bJ (aH rfl) cN rfl (fun e he => by obtain ⟨f, _, rfl⟩ := List.mem_map.1 he; rfl) rfl rfl (by omega) (by first | omega | (rw [List.length_map]; omega)) (by first | omega | (rw [List.length_map]; omega))) ?_))⟩
   iterate 2 (refine aF.d3 rfl (aj (aH rfl) eD rfl rfl rfl (by first | rfl | exact OG _ _ _) rfl (by simp only [LL]; omega) rfl) ?_)
   refine aF.d1 rfl (bJ (aH rfl) cN rfl (fun e he => by obtain ⟨f, _, rfl⟩ := List.mem_map.1 he; rfl) rfl rfl (by omega) (by first | omega | (rw [List.length_map]; omega)) (by first | omega | (rw [List.length_map]; omega))) ?_
   refine aF.d3 rfl (aj (aH rfl) eD rfl rfl rfl (by first | rfl | exact OG _ _ _) rfl (by simp only [LL]; omega) rfl) ?_
   exact ⟨by kernel_rfl, (cD rfl rfl rfl (congrArg AV.sl (vt Port.av (hJ.stop (of_decide_eq_true hg1) (mq ft hJ (of_decide_eq_true hg1)) hc2))))⟩
 ·refine ⟨by kernel_rfl, (⟨rfl, (aF.d2 rfl (bD («as» := []) (aH rfl) eD fz rfl rfl rfl (gQ rfl) rfl) (aF.d1 rfl (bJ (aH rfl) cN rfl (fun e he => by obtain ⟨f, _, rfl⟩ := List.mem_map.1 he; rfl) rfl rfl (by omega) (by first | omega | (rw [List.length_map]; omega)) (by first | omega | (rw [List.length_map]; omega))) ?_))⟩)⟩
  iterate 2 (refine aF.d3 rfl (aj (aH rfl) eD rfl rfl rfl (by first | rfl | exact OG _ _ _) rfl (by simp only [LL]; omega) rfl) ?_)
  refine aF.d1 rfl (bJ (aH rfl) cN rfl (fun e he => by obtain ⟨f, _, rfl⟩ := List.mem_map.1 he; rfl) rfl rfl (by omega) (by first | omega | (rw [List.length_map]; omega)) (by first | omega | (rw [List.length_map]; omega))) ?_
  refine aF.d3 rfl (aj (aH rfl) eD rfl rfl rfl (by first | rfl | exact OG _ _ _) rfl (by simp only [LL]; omega) rfl) ?_
  exact ⟨by kernel_rfl, (cD rfl rfl rfl (congrArg AV.sl (vt Port.av (hJ.low (of_decide_eq_false hg1)))))⟩
theorem oI (n : aw) (num ty reg : Int) : Pure Tryz.prog 80 [.str n, .int .i64 num, .int .i64 ty, .int .i64 reg] (dV n num ty reg).av := by
 exact Pure.ah Tryz.func80 rfl rfl (aH rfl) fun H => (aK.go II mixed ⟨.inr rfl, (aM.r1 rfl (.cell fZ rfl rfl rfl rfl .nil)).cast rfl, rfl⟩)
theorem Kq (t : Int) : Pure Tryz.prog 160 [.int .i64 t] (.tup [.int .i64 (dq t).1, .int .u64 ((dq t).2 : Int), .bool (c8 t)]) := by
 refine Pure.go II mixed Tryz.func160 rfl rfl fun H => (aB.jc rfl (Fn rfl) rfl (rp _) (aC (fun hc1 => ?_) (fun hc1 => ?_)))
 ·exact ⟨.inr rfl, (aM.r3 rfl (.tmp rfl (.tmp rfl (.tmp rfl .nil)))).cast (by simp_all [dq]), rfl⟩
 ·refine aB.jc rfl (Fn rfl) rfl (qn _) (aC (fun hg2 => ?_) (fun hg2 => ?_))
  ·refine aB.jc rfl (Fn rfl) rfl (qm _) (aC (fun hc3 => ?_) (fun hc3 => ?_))
   ·exact ⟨.inr rfl, (aM.r3 rfl (.tmp rfl (.tmp rfl (.tmp rfl .nil)))).cast (by simp_all [dq]), rfl⟩
   ·refine aB.jc rfl (Fn rfl) rfl (qn _) (aC (fun hc4 => ?_) (fun hc4 => ?_))
    ·exact ⟨.inr rfl, (aM.r3 rfl (.tmp rfl (.tmp rfl (.tmp rfl .nil)))).cast (by simp_all [dq]), rfl⟩
    ·refine aB.jc rfl (Fn rfl) rfl (qm _) (aC (fun hc5 => ?_) (fun hc5 => ?_))
     ·exact ⟨.inr rfl, (aM.r3 rfl (.tmp rfl (.tmp rfl (.tmp rfl .nil)))).cast (by simp_all [dq]), rfl⟩
     ·exact ⟨.inr rfl, (aM.r3 rfl (.tmp rfl (.tmp rfl (.tmp rfl .nil)))).cast (by simp_all [dq]), rfl⟩
  ·refine aB.jc rfl (Fn rfl) rfl (qn _) (aC (fun hc6 => ?_) (fun hc6 => ?_))
   ·exact ⟨.inr rfl, (aM.r3 rfl (.tmp rfl (.tmp rfl (.tmp rfl .nil)))).cast (by simp_all [dq]), rfl⟩
   ·refine aB.jc rfl (Fn rfl) rfl (qm _) (aC (fun hc7 => ?_) (fun hc7 => ?_))
    ·exact ⟨.inr rfl, (aM.r3 rfl (.tmp rfl (.tmp rfl (.tmp rfl .nil)))).cast (by simp_all [dq]), rfl⟩
    ·exact ⟨.inr rfl, (aM.r3 rfl (.tmp rfl (.tmp rfl (.tmp rfl .nil)))).cast (by simp_all [dq]), rfl⟩
theorem Kw (a b : Int) : Pure Tryz.prog 123 [.int .i64 a, .int .i64 b] (.tup [.int .i64 (sY a b).1, .int .u64 ((sY a b).2 : Int)]) := by
 refine Pure.go II mixed Tryz.func123 rfl rfl fun H => ?_
 iterate 2 (refine aB.jc rfl (Fn rfl) rfl (Kq _) ?_)
 exact aB.d1 rfl (BA (aH rfl) rfl rfl) (aB.d1 rfl (Az (aH rfl) rfl rfl) ⟨.inr rfl, (aM.r2 rfl (.tmp rfl (.tmp rfl .nil))).cast (by unfold sY; simp; try omega), rfl⟩)
theorem fj : lk Tryz.prog 62 = some (true, 7) := by kernel_rfl
def ee (p : aQ) (o : AV) : AV := .agg [.str p.name, .sl (p.ins.map Port.av), o, .sl (p.outs.map Port.av), .int .i64 p.aE, .sl (p.fB.map eJ), .bool p.born]
def xw (p : aQ) (i : Nat) : List Int := (p.outs.take i).foldl (fun l x => fe l x.f.num) p.fB
theorem kk {p : aQ} {i : Nat} (hi : i < p.outs.length) : xw p (i + 1) = fe (xw p i) p.outs[i].f.num := by
 unfold xw
 rw [List.take_add_one, List.getElem?_eq_getElem hi, List.foldl_append]; rfl
theorem xo {l : List Int} {n : Int} : (fe l n).length ≤ l.length + 1 := by
 unfold fe
 dsimp only
 split
 ·omega
 ·rw [qx]; omega
theorem qy (p : aQ) (i : Nat) : (xw p i).length ≤ p.fB.length + p.outs.length := by
 have h : ∀ (l : List Port) (a : List Int), (l.foldl (fun l x => fe l x.f.num) a).length ≤ a.length + l.length := by
  intro l
  induction l with
  | nil => intro a; simp
  | cons x l ih =>
   intro a
   rw [List.foldl_cons]
   have := ih (fe a x.f.num)
   have := @xo a x.f.num
   rw [List.length_cons]; omega
 have := h (p.outs.take i) p.fB
 rw [List.length_take] at this
 unfold xw; omega
theorem jt {l : List Int} {n : Int} {j : Int} (hj : j.toNat = l.length - cl (fun y => decide (y ≥ n)) l) (h : l[j.toNat]? ≠ some n) :
  ([] ++ (((l.map eJ).drop (0 : Int).toNat).take (j.toNat - (0 : Int).toNat))) ++ [AV.int .i64 n] ++ (((l.map eJ).drop j.toNat).take (((l.map eJ).length : Int).toNat - j.toNat)) = (fe l n).map eJ := by
 have e : fe l n = ct (fun y => decide (y ≥ n)) n l := by
  unfold fe ct
  dsimp only
  rw [if_neg (by rw [← hj]; exact h)]
 rw [e]
 exact vt eJ hj
theorem sr {l : List Int} {n : Int} {j : Int} (hj : j.toNat = l.length - cl (fun y => decide (y ≥ n)) l) (h : l[j.toNat]? = some n) : fe l n = l := by
 unfold fe
 dsimp only
 rw [if_pos (by rw [← hj]; exact h)]
theorem Mn {v : CV} {rest : List (aI × CV)} {el esz t : Nat} {a b : List AV} (h : a = b) : ((aI.s 4, v) :: (aI.s 3, CV.sv (.ow t a)) :: (aI.t t, CV.tk false el esz a) :: rest) = [(aI.s 4, v), (aI.s 3, CV.sv (.ow t b)), (aI.t t, CV.tk false el esz b)] ++ rest := by rw [h]; rfl
theorem GX {l : List Int} {j : Int} (h0 : 0 ≤ j) (h : (j == ((l.map eJ).length : Int)) = true) {n : Int} : l[j.toNat]? ≠ some n := by
 have := eq_of_beq h
 rw [List.length_map] at this
 rw [List.getElem?_eq_none (by omega)]; simp
theorem ug {l : List Int} {j : Int} (h0 : 0 ≤ j) (h1 : j ≤ (l.length : Int)) (h : (j == ((l.map eJ).length : Int)) = false) : l[j.toNat]? = some (l.getD j.toNat 0) := by
 have : j ≠ ((l.map eJ).length : Int) := fun e => by rw [e] at h; simp at h
 rw [List.length_map] at this
 rw [List.getD_eq_getElem?_getD, List.getElem?_eq_getElem (show j.toNat < l.length by omega)]; rfl
theorem zO (p : aQ) (o : AV) (ho : p.outs.length ≤ 1000) (he : p.fB.length ≤ 100000) : Pure Tryz.prog 43 [ee p o] (ee (bT p) o) := by
 refine Pure.gn 6 II mixed Tryz.func43 rfl rfl fun H => (aB.d2 rfl (bD («as» := []) (aH rfl) cI eu rfl rfl rfl (gQ rfl) rfl) (aB.d3 rfl (aj (aH rfl) cI rfl rfl rfl (by first | rfl | exact x6 _ _ _ | exact dN .i64 id _) rfl (by simp only [LL]; omega) rfl) ?_))
 refine aG.lq [.s 4, .s 3, .t 10, .h, .s 1, .b 1, .s 2, .b 2] (fun (i : Nat) => [(.s 4, .sv (.v (.int .i64 (i : Int)))), (.s 3, .sv (.ow 10 ((xw p i).map eJ))), (.t 10, .tk false 3 1 ((xw p i).map eJ))]) (fun (i : Nat) => True) (fun (i : Nat) => p.outs.length - i) 0 rfl rfl trivial ?_
 rintro i hI
 have hEl := qy p i
 refine aC (fun hc1 => ?_) (fun hc1 => ?_)
 ·have hi := cz hc1
  refine aB.ii rfl cN rfl rfl (ca hi) rfl (aG.lp 6 [.s 6, .h, .s 1, .b 1, .s 2, .b 2, .s 3, .t 10, .s 4, .s 5] (fun (j : Int) => [(.s 6, .sv (.v (.int .i64 j)))]) (fun (j : Int) => qa (fun y : Int => decide (y ≥ (p.outs[i]'hi).f.num)) (xw p i) j) (fun (j : Int) => j.toNat) (((xw p i).map eJ).length : Int) rfl rfl (by rw [List.length_map]; exact qa.start) ?_)
  rintro j hJ
  have hnn := hJ.nn
  refine aB.ti 999 17 rfl (fun hg2 => ?_) (fun hg2 => ?_)
  ·refine aB.n1 4 rfl (ak (aH rfl) c9 rfl rfl (by have := of_decide_eq_true hg2; rw [fI (by omega) (by omega)]; omega) (Mz (by omega) hJ (of_decide_eq_true hg2)) rfl) ?_
   refine aG.ci 999 8 rfl (fun hc3 => ?_) (fun hc3 => ?_)
   ·exact .bc [.s 6, .h, .s 1, .b 1, .s 2, .b 2, .s 3, .t 10, .s 4, .s 5] rfl ⟨_, by show (IntKind.i64.wrap (j - 1)).toNat < j.toNat; have := of_decide_eq_true hg2; rw [fI (by omega) (by omega)]; omega, by rw [fI (by have := of_decide_eq_true hg2; omega) (by omega)]; exact hJ.step (of_decide_eq_true hg2) (mq 0 hJ (of_decide_eq_true hg2)) hc3, rfl⟩
   ·refine aB.ti 9 999 rfl (fun hg4 => ?_) (fun hg4 => ?_)
    ·refine ⟨rfl, (aF.d2 rfl (bD («as» := []) (aH rfl) cI eu rfl rfl rfl (gQ rfl) rfl) (aF.d1 rfl (bJ (aH rfl) c9 rfl (fun e he => by obtain ⟨f, _, rfl⟩ := List.mem_map.1 he; rfl) rfl rfl (by omega) (by first | omega | (rw [List.length_map]; omega)) (by first | omega | (rw [List.length_map]; omega))) ?_))⟩
     iterate 2 (refine aF.d3 rfl (aj (aH rfl) cI rfl rfl rfl (by first | rfl | exact x6 _ _ _ | exact dN .i64 id _) rfl (by simp only [LL]; omega) rfl) ?_)
     refine aF.d1 rfl (bJ (aH rfl) c9 rfl (fun e he => by obtain ⟨f, _, rfl⟩ := List.mem_map.1 he; rfl) rfl rfl (by omega) (by first | omega | (rw [List.length_map]; omega)) (by first | omega | (rw [List.length_map]; omega))) ?_
     refine aF.d3 rfl (aj (aH rfl) cI rfl rfl rfl (by first | rfl | exact x6 _ _ _ | exact dN .i64 id _) rfl (by simp only [LL]; omega) rfl) ?_
     exact ⟨by kernel_rfl, (⟨Kept.c6 4 rfl (inc (by omega)) (Kept.az [.s 4, .s 3, .t 63, .h, .s 1, .b 1, .s 2, .b 2] rfl (by decide) (Kept.cO 63 10 (by decide) rfl (Kept.now ⟨i + 1, by omega, trivial, Mn (by rw [kk hi]; exact jt (hJ.stop (of_decide_eq_true hg2) (mq 0 hJ (of_decide_eq_true hg2)) hc3) (GX hnn.1 hg4))⟩)))⟩)⟩
    ·refine aB.n1 4 rfl (ak (aH rfl) c9 rfl rfl hnn.1 (by rw [List.getElem?_map, ug hnn.1 hnn.2 hg4]; rfl) rfl) ?_
     refine aG.ci 1 999 rfl (fun hc5 => ?_) (fun hc5 => ?_)
     ·refine ⟨rfl, (aF.d2 rfl (bD («as» := []) (aH rfl) cI eu rfl rfl rfl (gQ rfl) rfl) (aF.d1 rfl (bJ (aH rfl) c9 rfl (fun e he => by obtain ⟨f, _, rfl⟩ := List.mem_map.1 he; rfl) rfl rfl (by omega) (by first | omega | (rw [List.length_map]; omega)) (by first | omega | (rw [List.length_map]; omega))) ?_))⟩
      iterate 2 (refine aF.d3 rfl (aj (aH rfl) cI rfl rfl rfl (by first | rfl | exact x6 _ _ _ | exact dN .i64 id _) rfl (by simp only [LL]; omega) rfl) ?_)
      refine aF.d1 rfl (bJ (aH rfl) c9 rfl (fun e he => by obtain ⟨f, _, rfl⟩ := List.mem_map.1 he; rfl) rfl rfl (by omega) (by first | omega | (rw [List.length_map]; omega)) (by first | omega | (rw [List.length_map]; omega))) ?_
      refine aF.d3 rfl (aj (aH rfl) cI rfl rfl rfl (by first | rfl | exact x6 _ _ _ | exact dN .i64 id _) rfl (by simp only [LL]; omega) rfl) ?_
      exact ⟨by kernel_rfl, (⟨Kept.c6 4 rfl (inc (by omega)) (Kept.az [.s 4, .s 3, .t 63, .h, .s 1, .b 1, .s 2, .b 2] rfl (by decide) (Kept.cO 63 10 (by decide) rfl (Kept.now ⟨i + 1, by omega, trivial, Mn (by rw [kk hi]; exact jt (hJ.stop (of_decide_eq_true hg2) (mq 0 hJ (of_decide_eq_true hg2)) hc3) (by rw [ug hnn.1 hnn.2 hg4]; intro e; have := Option.some.inj e; simp_all))⟩)))⟩)⟩
     ·exact .b1 4 rfl (inc (by omega)) rfl ⟨i + 1, by omega, trivial, Mn (by rw [kk hi, sr (hJ.stop (of_decide_eq_true hg2) (mq 0 hJ (of_decide_eq_true hg2)) hc3) (by rw [ug hnn.1 hnn.2 hg4]; simp_all)])⟩
  ·refine aB.ti 9 999 rfl (fun hg6 => ?_) (fun hg6 => ?_)
   ·refine ⟨rfl, (aF.d2 rfl (bD («as» := []) (aH rfl) cI eu rfl rfl rfl (gQ rfl) rfl) (aF.d1 rfl (bJ (aH rfl) c9 rfl (fun e he => by obtain ⟨f, _, rfl⟩ := List.mem_map.1 he; rfl) rfl rfl (by omega) (by first | omega | (rw [List.length_map]; omega)) (by first | omega | (rw [List.length_map]; omega))) ?_))⟩
    iterate 2 (refine aF.d3 rfl (aj (aH rfl) cI rfl rfl rfl (by first | rfl | exact x6 _ _ _ | exact dN .i64 id _) rfl (by simp only [LL]; omega) rfl) ?_)
    refine aF.d1 rfl (bJ (aH rfl) c9 rfl (fun e he => by obtain ⟨f, _, rfl⟩ := List.mem_map.1 he; rfl) rfl rfl (by omega) (by first | omega | (rw [List.length_map]; omega)) (by first | omega | (rw [List.length_map]; omega))) ?_
    refine aF.d3 rfl (aj (aH rfl) cI rfl rfl rfl (by first | rfl | exact x6 _ _ _ | exact dN .i64 id _) rfl (by simp only [LL]; omega) rfl) ?_
    exact ⟨by kernel_rfl, (⟨Kept.c6 4 rfl (inc (by omega)) (Kept.az [.s 4, .s 3, .t 63, .h, .s 1, .b 1, .s 2, .b 2] rfl (by decide) (Kept.cO 63 10 (by decide) rfl (Kept.now ⟨i + 1, by omega, trivial, Mn (by rw [kk hi]; exact jt (hJ.low (of_decide_eq_false hg2)) (GX hnn.1 hg6))⟩)))⟩)⟩
   ·refine aB.n1 4 rfl (ak (aH rfl) c9 rfl rfl hnn.1 (by rw [List.getElem?_map, ug hnn.1 hnn.2 hg6]; rfl) rfl) ?_
    refine aG.ci 1 999 rfl (fun hc7 => ?_) (fun hc7 => ?_)
    ·refine ⟨rfl, (aF.d2 rfl (bD («as» := []) (aH rfl) cI eu rfl rfl rfl (gQ rfl) rfl) (aF.d1 rfl (bJ (aH rfl) c9 rfl (fun e he => by obtain ⟨f, _, rfl⟩ := List.mem_map.1 he; rfl) rfl rfl (by omega) (by first | omega | (rw [List.length_map]; omega)) (by first | omega | (rw [List.length_map]; omega))) ?_))⟩
     iterate 2 (refine aF.d3 rfl (aj (aH rfl) cI rfl rfl rfl (by first | rfl | exact x6 _ _ _ | exact dN .i64 id _) rfl (by simp only [LL]; omega) rfl) ?_)
     refine aF.d1 rfl (bJ (aH rfl) c9 rfl (fun e he => by obtain ⟨f, _, rfl⟩ := List.mem_map.1 he; rfl) rfl rfl (by omega) (by first | omega | (rw [List.length_map]; omega)) (by first | omega | (rw [List.length_map]; omega))) ?_
     refine aF.d3 rfl (aj (aH rfl) cI rfl rfl rfl (by first | rfl | exact x6 _ _ _ | exact dN .i64 id _) rfl (by simp only [LL]; omega) rfl) ?_
     exact ⟨by kernel_rfl, (⟨Kept.c6 4 rfl (inc (by omega)) (Kept.az [.s 4, .s 3, .t 63, .h, .s 1, .b 1, .s 2, .b 2] rfl (by decide) (Kept.cO 63 10 (by decide) rfl (Kept.now ⟨i + 1, by omega, trivial, Mn (by rw [kk hi]; exact jt (hJ.low (of_decide_eq_false hg2)) (by rw [ug hnn.1 hnn.2 hg6]; intro e; have := Option.some.inj e; simp_all))⟩)))⟩)⟩
    ·exact .b1 4 rfl (inc (by omega)) rfl ⟨i + 1, by omega, trivial, Mn (by rw [kk hi, sr (hJ.low (of_decide_eq_false hg2)) (by rw [ug hnn.1 hnn.2 hg6]; simp_all)])⟩
 ·have hi := dA hc1
  exact ⟨.inr rfl, (aM.r1 rfl (.cell fj rfl rfl rfl rfl .nil)).cast (by have e : xw p i = (bT p).fB := (by unfold xw; rw [List.take_of_length_le hi]; rfl); rw [e]; rfl), rfl⟩
theorem nN : se Tryz.prog 35 = some (62, 7, 128) := by kernel_rfl
theorem Ab : D9 Tryz.prog 62 = some [(0, 1), (1, 1), (2, 1), (3, 1), (4, 1), (5, 1), (6, 1)] := by kernel_rfl
theorem ku : cE Tryz.prog 62 = some [AV.str [], AV.sl [], AV.sl [], AV.sl [], AV.int IntKind.i64 (0), AV.sl [], AV.bool false] := by kernel_rfl
theorem Ms : np Tryz.prog 62 = some [.str [], .nsl, .nsl, .nsl, .int .i64 0, .nsl, .bool false] := by kernel_rfl
def lY (p : aQ) : AV := ee p .nsl
theorem An (l : List aQ) : ∀ e ∈ l.map lY, e.cells.length = 7 := fun e he => by
 obtain ⟨p, _, rfl⟩ := List.mem_map.1 he; rfl
def dk (s : aL) (m : aU) (k : Nat) : List Port := (m.fields.zipIdx.take k).map fun (f, k) => kD s f k
theorem xH {s : aL} {m : aU} {k : Nat} : (dk s m k).length ≤ m.fields.length := by unfold dk; simp; omega
theorem vW {s : aL} {m : aU} {k : Nat} (hk : k < m.fields.length) : dk s m (k + 1) = dk s m k ++ [kD s m.fields[k] k] := by
 unfold dk
 have : m.fields.zipIdx[k]? = some (m.fields[k], k) := by simp [List.getElem?_zipIdx, hk]
 rw [List.take_add_one, this, List.map_append]; rfl
theorem xI {s : aL} {m : aU} {k : Nat} (hk : m.fields.length ≤ k) : dk s m k = bG s m := by
 unfold dk bG; rw [List.take_of_length_le (by simpa using hk)]
def mC (s : aL) (m : aU) : aQ := { bS with name := m.name, ins := bG s m, outs := bG s m, aE := m.fields.length }
def HK (s : aL) (i : Nat) : List aQ := (s.msgs.take i).map fun m => bT (mC s m)
theorem Gk {s : aL} {i : Nat} (hi : i < s.msgs.length) : HK s (i + 1) = HK s i ++ [bT (mC s s.msgs[i])] := by
 unfold HK; rw [List.take_add_one, List.getElem?_eq_getElem hi, List.map_append]; rfl
theorem Ja {s : aL} {i : Nat} (hi : s.msgs.length ≤ i) : HK s i = cK s := by
 unfold HK; rw [List.take_of_length_le hi]; rfl
theorem J9 {s : aL} {i : Nat} (hi : i ≤ s.msgs.length) : (HK s i).length = i := by unfold HK; simp; omega
theorem Pc {s : aL} {i n : Nat} {v : CV} {rest : List (aI × CV)} {H : Hp} (hi : i < s.msgs.length) {a : AV} (ha : a = lY (bT (mC s s.msgs[i]))) : ((aI.s 4, v) :: (aI.s 3, CV.sv (.v (.os n (i + 1) 7))) :: (aI.h, CV.hp (H.bump (i + 1) (aZ ((HK s i).map lY ++ [a])))) :: rest) = [(aI.s 4, v), (aI.s 3, CV.sv (.v (.os n (i + 1) 7))), (aI.h, CV.hp (H.bump (i + 1) (aZ ((HK s (i + 1)).map lY))))] ++ rest := by rw [Gk hi, ha, List.map_append]; rfl
theorem Pa {v : CV} {a b c d e f : Sv} {rest : List (aI × CV)} {el esz t : Nat} {s : aL} {m : aU} {k : Nat} (hk : k < m.fields.length) {x : AV} (hx : x = (kD s m.fields[k] k).av) : ((aI.s 7, v) :: (aI.b 6, CV.bx [a, .ow t ((dk s m k).map Port.av ++ [x]), b, c, d, e, f]) :: (aI.t t, CV.tk false el esz ((dk s m k).map Port.av ++ [x])) :: rest) = [(aI.s 7, v), (aI.b 6, CV.bx [a, .ow t ((dk s m (k + 1)).map Port.av), b, c, d, e, f]), (aI.t t, CV.tk false el esz ((dk s m (k + 1)).map Port.av))] ++ rest := by
 rw [vW hk, hx, List.map_append]; rfl
theorem IX (s : aL) (hs : s.sm) (H : Hp) : cB Tryz.prog 40 [s.av] H (.os (H.next + s.msgs.length) s.msgs.length 7) (H.bump s.msgs.length (aZ ((cK s).map lY))) := by
 have hsm := hs.m
 refine cB.fin fun hfin => (cB.ah Tryz.func40 rfl rfl (aH rfl) (aK.seq (aK.region (aD.run II 2 rfl (aD.nil (aK.seq (aK.region (aD.c3 rfl (iz («as» := []) (aH rfl) nN ku rfl rfl rfl (gQ rfl) rfl rfl) (aD.run II 1 rfl (aD.nil (aK.seq (aK.seq (aK.cy (Kept.ly rfl (Hp.oU hfin) (Kept.now (aK.region (aD.run II 1 rfl (aD.nil (aK.blk ?_)))))))))))))))))))
 refine aK.cy (Kept.az [.s 4, .s 3, .h, .s 1, .b 1] rfl (by decide) (Kept.now (aK.k7 (fun (i : Nat) => [(.s 4, .sv (.v (.int .i64 (i : Int)))), (.s 3, .sv (.v (.os (H.next + i) i 7))), (.h, .hp (H.bump i (aZ ((HK s i).map lY))))]) _ (fun (i : Nat) => i ≤ s.msgs.length) (fun (i : Nat) => s.msgs.length - i) 0 rfl (Nat.zero_le _) ?_)))
 rintro i hI
 refine aK.seq (aK.seq (aK.region (aD.run II 5 rfl (aD.nil (aK.cond rfl (fun hc1 => ?_) (fun hc1 => ?_))))))
 ·have hi := cz hc1
  refine aK.skip (aK.seq (aK.blk (aK.seq (aK.region (aD.run II 3 rfl (aD.c1 rfl (ak (aH rfl) bW rfl rfl (Int.natCast_nonneg _) (ca hi) rfl) (aD.run II 3 rfl (aD.nil (aK.seq (aK.region (aD.run II 5 rfl (aD.c1 rfl (gx (aH rfl) Ab Ms rfl rfl) (aD.run II 2 rfl (aD.kept (Kept.sT 6 1 160 117 9 rfl rfl rfl rfl (by decide) (Kept.FW 6 3 rfl rfl (Kept.FW 6 5 rfl rfl (Kept.now (aK.seq (aK.seq (aK.region (aD.run II 1 rfl (aD.nil (aK.blk ?_))))))))))))))))))))))))
  refine aK.cy (Kept.az [.s 7, .b 6, .t 160, .h, .s 1, .b 1, .s 3, .s 4, .s 5, .b 5, .s 6] rfl (by decide) (Kept.now (aK.k7 (fun (k : Nat) => [(.s 7, .sv (.v (.int .i64 (k : Int)))), (.b 6, .bx [.v (.str (s.msgs[i]'hi).name), .ow 160 ((dk s (s.msgs[i]'hi) k).map Port.av), .v .nsl, .v (.sl []), .v (.int .i64 (((s.msgs[i]'hi).fields.map ae.av).length : Int)), .v (.sl []), .v (.bool false)]), (.t 160, .tk false 117 9 ((dk s (s.msgs[i]'hi) k).map Port.av))]) _ (fun (k : Nat) => True) (fun (k : Nat) => (s.msgs[i]'hi).fields.length - k) 0 rfl trivial ?_)))
  rintro k hK
  have hpl := @xH s (s.msgs[i]'hi) k
  have hfi := hs.f _ (List.getElem_mem hi)
  refine aK.seq (aK.seq (aK.region (aD.run II 5 rfl (aD.nil (aK.cond rfl (fun hc2 => ?_) (fun hc2 => ?_))))))
  ·have hk := cz hc2
   refine aK.skip (aK.seq (aK.blk (aK.seq (aK.region (aD.run II 3 rfl (aD.c1 rfl (ak (aH rfl) bY rfl rfl (Int.natCast_nonneg _) (ca hk) rfl) (aD.run II 5 rfl (aD.nil (aK.BT [.h, .s 1, .b 1, .s 3, .s 4, .s 5, .b 5, .s 6, .b 6, .t 160, .s 7] (fun (_ : Unit) => [(.s 8, .sv (.lp 8 0)), (.b 8, .bx [.v (.str ((s.msgs[i]'hi).fields[k]'hk).name), .v (.int .i64 ((s.msgs[i]'hi).fields[k]'hk).num), .v (.int .i64 ((s.msgs[i]'hi).fields[k]'hk).ty), .v (.str ((s.msgs[i]'hi).fields[k]'hk).ref), .v (.bool ((s.msgs[i]'hi).fields[k]'hk).rep), .v (.bool ((s.msgs[i]'hi).fields[k]'hk).loose), .v (.str ((s.msgs[i]'hi).fields[k]'hk).one), .v (.int .i64 (k : Int)), .v (.int .i64 (kD s ((s.msgs[i]'hi).fields[k]'hk) k).part)])]) (fun (_ : Unit) => True) rfl ?_ ?_)))))))))
   ·refine aK.seq (aK.region (aD.run II 4 rfl (aD.nil (aK.cond rfl (fun hc3 => ?_) (fun hc3 => ?_)))))
    ·exact aK.region (aD.run II 4 rfl (aD.c1 rfl (aX (aH rfl) (Fn rfl) rfl (jl s _ (by omega))) (aD.run II 2 rfl (aD.kept (Kept.az [.s 8, .b 8, .h, .s 1, .b 1, .s 3, .s 4, .s 5, .b 5, .s 6, .b 6, .t 160, .s 7] rfl (by decide) (Kept.now ⟨(), trivial, by unfold kD; rw [if_pos (by simpa using hc3)]; rfl⟩))))))
    ·exact aK.cy (Kept.az [.s 8, .b 8, .h, .s 1, .b 1, .s 3, .s 4, .s 5, .b 5, .s 6, .b 6, .t 160, .s 7] rfl (by decide) (Kept.now (aK.skip ⟨(), trivial, by unfold kD; rw [if_neg (by simpa using hc3)]; rfl⟩)))
   ·rintro _ hF13
    refine aK.region (aD.run II 4 rfl (aD.c3 rfl (jS (aH rfl) eD rfl rfl rfl rfl rfl (by rw [List.length_map]; simp only [List.length_cons, List.length_nil]; omega) (by rw [List.length_map]; simp only [List.length_cons, List.length_nil]; omega)) ?_))
    exact aD.run II 2 rfl (aD.nil (aK.region (aD.run II 3 rfl (aD.kept (Kept.c6 7 rfl (inc (by omega)) (Kept.az [.s 7, .b 6, .t 56, .h, .s 1, .b 1, .s 3, .s 4, .s 5, .b 5, .s 6] rfl (by decide) (Kept.cO 56 160 (by decide) rfl (Kept.now ⟨k + 1, by omega, trivial, Pa hk rfl⟩))))))))
  ·have hk := dA hc2
   refine aK.exit (aK.seq (aK.region (aD.c2 rfl (bD («as» := []) (aH rfl) eD fz rfl rfl rfl (gQ rfl) rfl) (aD.run II 2 rfl (aD.c3 rfl (jS (aH rfl) eD rfl rfl rfl (ba Port.cells (fun _ => rfl) _) rfl (by rw [List.length_map]; simp only [List.length_nil]; omega) (by rw [List.length_map]; simp only [List.length_nil]; omega)) ?_)))))
   refine aD.run II 2 rfl (aD.nil (aK.region (aD.run II 2 rfl (aD.c1 rfl (aX (aH rfl) (Fn rfl) rfl (zO ({ bS with name := (s.msgs[i]'hi).name, ins := (dk s (s.msgs[i]'hi) k), outs := (dk s (s.msgs[i]'hi) k), aE := (((s.msgs[i]'hi).fields.map ae.av).length : Int) } : aQ) .nsl (by show (dk s (s.msgs[i]'hi) k).length ≤ 1000; omega) (by show ([] : List Int).length ≤ 100000; decide))) ?_))))
   refine aD.run II 1 rfl (aD.c3 rfl (jT (aH rfl) nN ku rfl rfl Hp.de (An _) (by rw [List.length_map, J9 hI]) rfl rfl rfl (by simp only [List.length_cons, List.length_nil]; omega) (by simp only [List.length_cons, List.length_nil]; omega)) ?_)
   exact aD.run II 1 rfl (aD.nil (aK.region (aD.run II 3 rfl (aD.kept (Kept.ly rfl Hp.ko (Kept.c6 4 rfl (inc (by omega)) (Kept.az [.s 4, .s 3, .h, .s 1, .b 1] rfl (by decide) (Kept.now ⟨i + 1, by omega, by omega, Pc hi (by rw [xI hk, List.length_map]; rfl)⟩))))))))
 ·have hi := dA hc1
  refine aK.exit (aK.seq (aK.region (aD.run II 2 rfl (aD.nil (aK.ret ?_)))))
  have hil : i = s.msgs.length := (by omega)
  subst hil
  rw [Ja (Nat.le_refl _)]
  exact ⟨.inr rfl, (aM.r1 rfl (.tmp rfl .nil)).cast rfl, rfl⟩
theorem iT : se Tryz.prog 59 = some (86, 13, 144) := by kernel_rfl
theorem fy : cE Tryz.prog 86 = some [AV.int IntKind.i64 (0), AV.int IntKind.i64 (0), AV.int IntKind.i64 (0), AV.int IntKind.i64 (0), AV.int IntKind.i64 (0), AV.int IntKind.i64 (0), AV.int IntKind.i64 (0), AV.int IntKind.u64 (0), AV.int IntKind.i64 (0), AV.sl [], AV.int IntKind.u64 (0), AV.str [], AV.sl []] := by kernel_rfl
theorem fN (l : List al) : ∀ e ∈ l.map al.av, e.cells.length = 13 := oT (ba al.cells (fun _ => rfl) _)
theorem jP {l : List Port} {n : aw} (h : 0 ≤ bl l n) : (l.map Port.av)[(bl l n).toNat]? = some (.agg (aJ l n).cells) := by
 rcases ao (fun x : Port => x.f.name == n) l 0 with ⟨q1, q2⟩ | ⟨i, hi, q1, q2, q3⟩
 ·have e : bl l n = -1 := q1
  omega
 ·have e : bl l n = ((0 + i : Nat) : Int) := q1
  unfold aJ
  rw [e, q2, Int.toNat_natCast, Nat.zero_add, List.getElem?_map, List.getElem?_eq_getElem hi]; rfl
theorem C4 {l : List Port} {n : aw} (h : ¬ 0 ≤ bl l n) : aJ l n = ft := by
 rcases ao (fun x : Port => x.f.name == n) l 0 with ⟨q1, q2⟩ | ⟨i, hi, q1, q2, q3⟩
 ·unfold aJ; rw [q2]; rfl
 ·have e : bl l n = ((0 + i : Nat) : Int) := q1
  omega
theorem AS {a b : Int} (h0 : -9223372036854775808 ≤ a + b) (h1 : a + b < 9223372036854775808) : tZ .add (.int .i64 a) (.int .i64 b) = some (.int .i64 (a + b)) := by
 show (if IntKind.i64 = IntKind.i64 then some (AV.int .i64 (IntKind.i64.wrap (a + b))) else none) = _
 rw [if_pos rfl, fI h0 h1]
def uG (K : Hp) (p q : aQ) (o : AV) : AV := if q.ops.length = p.ops.length then o else .os K.next ((p.ops.map al.av).length + 1) 13
def uH (K : Hp) (p q : aQ) (o : AV) : Hp := if q.ops.length = p.ops.length then K else kM K o (aZ (q.ops.map al.av))
theorem nw {K : Hp} {p q : aQ} {o : AV} (h : q.ops = p.ops) : uG K p q o = o := by unfold uG; rw [if_pos (by rw [h])]
theorem ny {K : Hp} {p q : aQ} {o : AV} (h : q.ops = p.ops) : uH K p q o = K := by unfold uH; rw [if_pos (by rw [h])]
theorem kR {K : Hp} {p q : aQ} {o : AV} (a : al) (h : q.ops = p.ops ++ [a]) : uG K p q o = .os K.next ((p.ops.map al.av).length + 1) 13 := by unfold uG; rw [if_neg (by rw [h]; simp)]
theorem kS {K : Hp} {p q : aQ} {o : AV} (a : al) (h : q.ops = p.ops ++ [a]) : uH K p q o = kM K o (aZ (p.ops.map al.av ++ [a.av])) := by unfold uH; rw [if_neg (by rw [h]; simp), h, List.map_append]; rfl
def lM (f : Port) (x : aS) : al := { jb with kind := 1, a := f.reg, src := f.f.ty, dst := x.ty, lo := (sY f.f.ty x.ty).1, hi := (sY f.f.ty x.ty).2 }
def lL (f : Port) (n : Int) : al := { jb with kind := 2, a := f.reg, b := n, c := n + 1 }
def nS (f g : Port) (n : Int) : al := { jb with kind := 3, a := f.reg, b := g.reg, c := n }
theorem qT {p : aQ} {x : aS} (h : x.kind = 1) : aP p x = { p with outs := bb (aR p.outs x.field) { aJ p.outs x.field with f := { (aJ p.outs x.field).f with name := x.dest } } } := by unfold aP; rw [if_pos h]
theorem qS {p : aQ} {x : aS} (h : x.kind = 2) : aP p x = { p with outs := bb (aR p.outs x.field) { aJ p.outs x.field with f := { (aJ p.outs x.field).f with num := x.num } } } := by unfold aP; simp [h]
theorem qR {p : aQ} {x : aS} (h : x.kind = 3) : aP p x = { p with ops := p.ops ++ [lM (aJ p.outs x.field) x], outs := bb (aR p.outs x.field) { aJ p.outs x.field with f := { (aJ p.outs x.field).f with ty := x.ty } } } := by unfold aP; simp [h, lM]
theorem qQ {p : aQ} {x : aS} (h : x.kind = 4) : aP p x = { p with ops := p.ops ++ [lL (aJ p.outs x.field) p.aE], aE := p.aE + 2, outs := bb (bb (aR p.outs x.field) (dV x.dest x.num 3 p.aE)) (dV x.also x.other 3 (p.aE + 1)) } := by unfold aP; simp [h, lL]
theorem qP {p : aQ} {x : aS} (h : x.kind = 5) : aP p x = { p with ops := p.ops ++ [nS (aJ p.outs x.field) (aJ (aR p.outs x.field) x.also) p.aE], aE := p.aE + 1, outs := bb (aR (aR p.outs x.field) x.also) (dV x.dest x.num 4 p.aE) } := by unfold aP; simp [h, nS]
theorem IS (p : aQ) (o : AV) (x : aS) (K : Hp) (hK : di K o 13 (p.ops.map al.av)) (hl : p.ops.length ≤ 1000) (ho : p.outs.length ≤ 100) (hk : x.kind = 1 ∨ x.kind = 2 ∨ x.kind = 3) : cB Tryz.prog 75 [ee p o, x.av, (aJ p.outs x.field).av] K (ee (aP p x) (uG K p (aP p x) o)) (uH K p (aP p x) o) := by
 refine cB.ah Tryz.func75 rfl rfl (aH rfl) (aK.go II mixed (aB.jc rfl (Fn rfl) rfl (jN _ _ (by first | omega | (have := bQ p.outs x.field; omega))) ?_))
 refine aC (fun hc1 => ?_) (fun hc1 => ?_)
 ·refine aB.jc rfl (Fn rfl) rfl (iw (aR p.outs x.field) { (aJ p.outs x.field) with f := { (aJ p.outs x.field).f with name := x.dest } } (by have := bQ p.outs x.field; omega)) ?_
  exact ⟨.inr rfl, (aM.r1 rfl (.cell fj rfl rfl rfl rfl .nil)).cast (by rw [nw (p := p) (q := aP p x) (by rw [qT (by simpa using hc1)]), qT (by simpa using hc1)]; rfl), (by rw [ny (p := p) (q := aP p x) (by rw [qT (by simpa using hc1)])]; rfl)⟩
 ·refine aC (fun hc2 => ?_) (fun hc2 => ?_)
  ·refine aB.jc rfl (Fn rfl) rfl (iw (aR p.outs x.field) { (aJ p.outs x.field) with f := { (aJ p.outs x.field).f with num := x.num } } (by have := bQ p.outs x.field; omega)) ?_
   exact ⟨.inr rfl, (aM.r1 rfl (.cell fj rfl rfl rfl rfl .nil)).cast (by rw [nw (p := p) (q := aP p x) (by rw [qS (by simpa using hc2)]), qS (by simpa using hc2)]; rfl), (by rw [ny (p := p) (q := aP p x) (by rw [qS (by simpa using hc2)])]; rfl)⟩
  ·refine aB.jc rfl (Fn rfl) rfl (Kw _ _) (aB.d3 rfl (lK (aH rfl) iT fy rfl rfl hK (fN _) rfl rfl (List.cons_ne_nil _ _) rfl (by rw [List.length_map]; simp only [List.length_cons, List.length_nil]; omega) (by rw [List.length_map]; simp only [List.length_cons, List.length_nil]; omega)) ?_)
   refine aB.jc rfl (Fn rfl) rfl (iw (aR p.outs x.field) { (aJ p.outs x.field) with f := { (aJ p.outs x.field).f with ty := x.ty } } (by have := bQ p.outs x.field; omega)) ?_
   exact ⟨.inr rfl, (aM.r1 rfl (.cell fj rfl rfl rfl rfl .nil)).cast (by rw [kR (lM (aJ p.outs x.field) x) (p := p) (q := aP p x) (by rw [qR (by have h1 : x.kind ≠ 1 := (by simpa using hc1); have h2 : x.kind ≠ 2 := (by simpa using hc2); omega)]), qR (by have h1 : x.kind ≠ 1 := (by simpa using hc1); have h2 : x.kind ≠ 2 := (by simpa using hc2); omega)]; rfl), (by rw [kS (lM (aJ p.outs x.field) x) (p := p) (q := aP p x) (by rw [qR (by have h1 : x.kind ≠ 1 := (by simpa using hc1); have h2 : x.kind ≠ 2 := (by simpa using hc2); omega)])]; rfl)⟩
theorem CN (p : aQ) (o : AV) (x : aS) (K : Hp) (hK : di K o 13 (p.ops.map al.av)) (hl : p.ops.length ≤ 1000) (ho : p.outs.length ≤ 100) (hr : 0 ≤ p.aE ∧ p.aE ≤ 1000) (hk : x.kind = 4 ∨ x.kind = 5) (hg : x.kind = 5 → 0 ≤ bl (aR p.outs x.field) x.also) : cB Tryz.prog 76 [ee p o, x.av, (aJ p.outs x.field).av] K (ee (aP p x) (uG K p (aP p x) o)) (uH K p (aP p x) o) := by
 refine cB.ah Tryz.func76 rfl rfl (aH rfl) (aK.go II mixed (aB.jn 8 rfl (Fn rfl) rfl (jN _ _ (by first | omega | (have := bQ p.outs x.field; omega))) ?_))
 refine aG.ci 8 999 rfl (fun hc1 => ?_) (fun hc1 => ?_)
 ·refine aB.d1 rfl (iU (aH rfl) rfl rfl (AS (by omega) (by omega))) (aB.n3 5 rfl (lK (aH rfl) iT fy rfl rfl hK (fN _) rfl rfl (List.cons_ne_nil _ _) rfl (by rw [List.length_map]; simp only [List.length_cons, List.length_nil]; omega) (by rw [List.length_map]; simp only [List.length_cons, List.length_nil]; omega)) ?_)
  refine aB.d1 rfl (iU (aH rfl) rfl rfl (AS (by omega) (by omega))) ⟨rfl, (aF.d1 rfl (aX (aH rfl) (Fn rfl) rfl (oI _ _ _ _)) (aF.n1 5 rfl (aX (aH rfl) (Fn rfl) rfl (iw (aR p.outs x.field) (dV x.dest x.num 3 p.aE) (by have := bQ p.outs x.field; omega))) ?_))⟩
  refine aF.d1 rfl (iU (aH rfl) rfl rfl (AS (by omega) (by omega))) (aF.d1 rfl (aX (aH rfl) (Fn rfl) rfl (oI _ _ _ _)) (aF.d1 rfl (aX (aH rfl) (Fn rfl) rfl (iw (bb (aR p.outs x.field) (dV x.dest x.num 3 p.aE)) (dV x.also x.other 3 (p.aE + 1)) (by rw [eP]; have := bQ p.outs x.field; omega))) ?_))
  exact ⟨by kernel_rfl, ⟨.inr rfl, (aM.r1 rfl (.cell fj rfl rfl rfl rfl .nil)).cast (by rw [kR (lL (aJ p.outs x.field) p.aE) (p := p) (q := aP p x) (by rw [qQ (by simpa using hc1)]), qQ (by simpa using hc1)]; rfl), (by rw [kS (lL (aJ p.outs x.field) p.aE) (p := p) (q := aP p x) (by rw [qQ (by simpa using hc1)])]; rfl)⟩⟩
 ·refine ⟨rfl, (aF.d1 rfl (aX (aH rfl) (Fn rfl) rfl (oH _ _ (by have := bQ p.outs x.field; omega))) ?_)⟩
  refine aF.d1 rfl (ak (aH rfl) cN rfl rfl (hg (by have : x.kind ≠ 4 := (by simpa using hc1); omega)) (jP (hg (by have : x.kind ≠ 4 := (by simpa using hc1); omega))) rfl) ?_
  refine ⟨by kernel_rfl, (aB.n3 5 rfl (lK (aH rfl) iT fy rfl rfl hK (fN _) rfl rfl (List.cons_ne_nil _ _) rfl (by rw [List.length_map]; simp only [List.length_cons, List.length_nil]; omega) (by rw [List.length_map]; simp only [List.length_cons, List.length_nil]; omega)) ?_)⟩
  refine aB.d1 rfl (iU (aH rfl) rfl rfl (AS (by omega) (by omega))) ⟨rfl, (aF.d1 rfl (aX (aH rfl) (Fn rfl) rfl (jN _ _ (by first | omega | (have := bQ p.outs x.field; omega)))) ?_)⟩
  refine aF.d1 rfl (aX (aH rfl) (Fn rfl) rfl (oI _ _ _ _)) (aF.d1 rfl (aX (aH rfl) (Fn rfl) rfl (iw (aR (aR p.outs x.field) x.also) (dV x.dest x.num 4 p.aE) (by have := bQ (aR p.outs x.field) x.also; have := bQ p.outs x.field; omega))) ?_)
  exact ⟨by kernel_rfl, ⟨.inr rfl, (aM.r1 rfl (.cell fj rfl rfl rfl rfl .nil)).cast (by rw [kR (nS (aJ p.outs x.field) (aJ (aR p.outs x.field) x.also) p.aE) (p := p) (q := aP p x) (by rw [qP (by have : x.kind ≠ 4 := (by simpa using hc1); omega)]), qP (by have : x.kind ≠ 4 := (by simpa using hc1); omega)]; rfl), (by rw [kS (nS (aJ p.outs x.field) (aJ (aR p.outs x.field) x.also) p.aE) (p := p) (q := aP p x) (by rw [qP (by have : x.kind ≠ 4 := (by simpa using hc1); omega)])]; rfl)⟩⟩
end Go.Proofs.YtgmdapgedlachaaGreatDoor.X
