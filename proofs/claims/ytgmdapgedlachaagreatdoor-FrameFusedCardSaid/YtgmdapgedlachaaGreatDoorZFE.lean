/- the document: names that stand twice, order, what is asked of a schema. -/
import Derived.Test.YtgmdapgedlachaaGreatDoorZFD
import Derived.Lib.ValidU
set_option linter.unusedVariables false
set_option linter.unusedSimpArgs false
set_option linter.unusedSectionVars false
set_option maxRecDepth 100000
namespace Go.Proofs.YtgmdapgedlachaaGreatDoor.X
open Go Go.RowKit Go.Proofs
theorem bZ : se Tryz.prog 100 = some (9, 1, 16) := by kernel_rfl
theorem cI : se Tryz.prog 60 = some (3, 1, 8) := by kernel_rfl
theorem dn : cE Tryz.prog 9 = some [AV.str []] := by kernel_rfl
theorem eu : cE Tryz.prog 3 = some [AV.int IntKind.i64 (0)] := by kernel_rfl
theorem Hx (s : aL) (hs : s.sm) : Pure Tryz.prog 61 [s.av] (.bool s.jf) := by
 have := hs.e
 have := hs.m
 refine Pure.gn 6 II mixed Tryz.func61 rfl rfl fun H => (aB.d2 rfl (bD («as» := []) (aH rfl) bZ dn rfl rfl rfl (gQ rfl) rfl) (aG.lq [.s 5, .s 4, .s 3, .t 13, .h, .s 1, .b 1] (fun ((i, b, a) : Nat × Bool × List AV) => [(.s 5, .sv (.v (.int .i64 (i : Int)))), (.s 4, .sv (.v (.bool b))), (.s 3, .sv (.ow 13 a)), (.t 13, .tk false 9 1 a)]) (fun ((i, b, a) : Nat × Bool × List AV) => a = (s.enums.take i).map (fun e : eQ => AV.str e.name) ∧ (b || (s.enums.drop i).any (fun e : eQ => !once (e.values.map (·.name)))) = s.enums.any (fun e : eQ => !once (e.values.map (·.name)))) (fun ((i, b, a) : Nat × Bool × List AV) => s.enums.length - i) (0, _, _) rfl rfl ⟨rfl, by grind⟩ ?_))
 rintro ⟨i, b, a⟩ ⟨ha, hI⟩
 refine aC (fun hc1 => ?_) (fun hc1 => ?_)
 ·have hi := cz hc1
  have hS := bz (p := (fun e : eQ => !once (e.values.map (·.name)))) hi
  have := hs.vi hi
  refine aB.ii rfl dw rfl rfl (ca hi) rfl (aB.n3 3 rfl (aj (aH rfl) bZ rfl rfl rfl rfl rfl (by rw [ha]; simp; omega) rfl) ?_)
  refine aB.d2 rfl (bD («as» := []) (aH rfl) bZ dn rfl rfl rfl (gQ rfl) rfl) (aG.lq [.s 7, .s 6, .t 30, .h, .s 1, .b 1, .s 3, .t 29, .s 4, .s 5] (fun ((k, c) : Nat × List AV) => [(.s 7, .sv (.v (.int .i64 (k : Int)))), (.s 6, .sv (.ow 30 c)), (.t 30, .tk false 9 1 c)]) (fun ((k, c) : Nat × List AV) => c = ((s.enums[i]'hi).values.take k).map (fun v : ks => AV.str v.name)) (fun ((k, c) : Nat × List AV) => (s.enums[i]'hi).values.length - k) (0, _) rfl rfl rfl ?_)
  rintro ⟨k, c⟩ hC
  refine aB.ii rfl dw rfl rfl (ca hi) rfl (aC (fun hc2 => ?_) (fun hc2 => ?_))
  ·have hk := cz hc2
   refine aB.ii rfl dw rfl rfl (ca hi) rfl (aB.ii rfl gz rfl rfl (ca hk) rfl (aB.d3 rfl (aj (aH rfl) bZ rfl rfl rfl rfl rfl (by rw [hC]; simp; omega) rfl) ?_))
   exact ⟨Kept.c6 7 rfl (inc (by omega)) (Kept.az [.s 7, .s 6, .t 54, .h, .s 1, .b 1, .s 3, .t 29, .s 4, .s 5] rfl (by decide) (Kept.cO 54 30 (by decide) rfl (Kept.now ⟨(k + 1, _), (by dsimp only; omega), e8 hk hC, rfl⟩)))⟩
  ·have hk := dA hc2
   have hTk := iE hk
   refine aC (fun hg3 => ?_) (fun hg3 => ?_)
   ·exact ⟨Kept.c6 5 rfl (inc (by omega)) (Kept.az [.s 5, .s 4, .s 3, .t 29, .h, .s 1, .b 1] rfl (by decide) (Kept.cO 29 13 (by decide) rfl (Kept.now ⟨(i + 1, _, _), (by dsimp only; omega), ⟨e8 hi ha, by grind⟩, rfl⟩)))⟩
   ·refine aB.jc rfl (Fn rfl) rfl ((rr ((s.enums[i]'hi).values.map (·.name)) (by simp; omega)).at (by rw [hC, hTk]; simp [Function.comp_def])) ?_
    exact ⟨Kept.c6 5 rfl (inc (by omega)) (Kept.az [.s 5, .s 4, .s 3, .t 29, .h, .s 1, .b 1] rfl (by decide) (Kept.cO 29 13 (by decide) rfl (Kept.now ⟨(i + 1, _, _), (by dsimp only; omega), ⟨e8 hi ha, by grind⟩, rfl⟩)))⟩
 ·have hi := dA hc1
  have hS := cZ (p := (fun e : eQ => !once (e.values.map (·.name)))) hi
  have hT := iE hi
  refine aG.lq [.s 8, .s 4, .s 3, .t 13, .h, .s 1, .b 1] (fun ((i, b, a) : Nat × Bool × List AV) => [(.s 8, .sv (.v (.int .i64 (i : Int)))), (.s 4, .sv (.v (.bool b))), (.s 3, .sv (.ow 13 a)), (.t 13, .tk false 9 1 a)]) (fun ((i, b, a) : Nat × Bool × List AV) => a = s.enums.map (fun e : eQ => AV.str e.name) ++ (s.msgs.take i).map (fun m : aU => AV.str m.name) ∧ (b || (s.msgs.drop i).any aU.jf) = (s.enums.any (fun e : eQ => !once (e.values.map (·.name))) || s.msgs.any aU.jf)) (fun ((i, b, a) : Nat × Bool × List AV) => s.msgs.length - i) (0, _, _) rfl rfl ⟨by grind, by grind⟩ ?_
  rintro ⟨i, b, a⟩ ⟨ha, hI⟩
  refine aC (fun hc4 => ?_) (fun hc4 => ?_)
  ·have hi := cz hc4
   have hS := bz (p := aU.jf) hi
   have := hs.fi hi
   have := hs.bi hi
   refine aB.ii rfl bW rfl rfl (ca hi) rfl (aB.d3 rfl (aj (aH rfl) bZ rfl rfl rfl rfl rfl (by rw [ha]; simp; omega) rfl) ?_)
   refine aB.im 5 rfl bW rfl rfl (ca hi) rfl (aB.d2 rfl (bD («as» := []) (aH rfl) bZ dn rfl rfl rfl (gQ rfl) rfl) (aG.lp 7 [.s 11, .s 10, .t 83, .h, .s 1, .b 1, .s 3, .t 76, .s 4, .s 8, .s 9] (fun ((k, c) : Nat × List AV) => [(.s 11, .sv (.v (.int .i64 (k : Int)))), (.s 10, .sv (.ow 83 c)), (.t 83, .tk false 9 1 c)]) (fun ((k, c) : Nat × List AV) => c = ((s.msgs[i]'hi).fields.take k).map (fun f : ae => AV.str f.name)) (fun ((k, c) : Nat × List AV) => (s.msgs[i]'hi).fields.length - k) (0, _) rfl rfl rfl ?_))
   rintro ⟨k, c⟩ hC
   refine aG.ci 999 1 rfl (fun hc5 => ?_) (fun hc5 => ?_)
   ·have hk := cz hc5
    refine aB.ii rfl bY rfl rfl (ca hk) rfl (aB.d3 rfl (aj (aH rfl) bZ rfl rfl rfl rfl rfl (by rw [hC]; simp; omega) rfl) ?_)
    exact ⟨Kept.c6 11 rfl (inc (by omega)) (Kept.az [.s 11, .s 10, .t 97, .h, .s 1, .b 1, .s 3, .t 76, .s 4, .s 8, .s 9] rfl (by decide) (Kept.cO 97 83 (by decide) rfl (Kept.now ⟨(k + 1, _), (by dsimp only; omega), e8 hk hC, rfl⟩)))⟩
   ·have hk := dA hc5
    have hTk := iE hk
    refine aG.jn 999 999 [.h, .s 1, .b 1, .s 3, .t 76, .s 8, .s 9, .s 10, .t 83] (fun (b1 : Bool) => [(.s 4, .sv (.v (.bool b1)))]) (fun (b1 : Bool) => b1 = (b || !once ((s.msgs[i]'hi).fields.map (·.name)))) rfl ?_ ?_
    ·refine aC (fun hg6 => ?_) (fun hg6 => ?_)
     ·exact .bc [.s 4, .h, .s 1, .b 1, .s 3, .t 76, .s 8, .s 9, .s 10, .t 83] rfl ⟨_, by grind, rfl⟩
     ·refine aB.jc rfl (Fn rfl) rfl ((rr ((s.msgs[i]'hi).fields.map (·.name)) (by simp; omega)).at (by rw [hC, hTk]; simp [Function.comp_def])) ?_
      exact .bc [.s 4, .h, .s 1, .b 1, .s 3, .t 76, .s 8, .s 9, .s 10, .t 83] rfl ⟨_, by grind, rfl⟩
    ·rintro b1 hF24
     refine aG.lq [.s 12, .s 4, .h, .s 1, .b 1, .s 3, .t 76, .s 8, .s 9, .s 10, .t 83] (fun ((k, b) : Nat × Bool) => [(.s 12, .sv (.v (.int .i64 (k : Int)))), (.s 4, .sv (.v (.bool b)))]) (fun ((k, b) : Nat × Bool) => (b || ((s.msgs[i]'hi).fields.drop k).any (fun f : ae => !(f.one == []) && !once ((s.msgs[i]'hi).fields.map (·.name) ++ [f.one]))) = (b1 || (s.msgs[i]'hi).fields.any (fun f : ae => !(f.one == []) && !once ((s.msgs[i]'hi).fields.map (·.name) ++ [f.one])))) (fun ((k, b) : Nat × Bool) => (s.msgs[i]'hi).fields.length - k) (0, _) rfl rfl (by grind) ?_
     rintro ⟨k, b⟩ hI
     refine aC (fun hc7 => ?_) (fun hc7 => ?_)
     ·have hk := cz hc7
      have hU := bz (p := (fun f : ae => !(f.one == []) && !once ((s.msgs[i]'hi).fields.map (·.name) ++ [f.one]))) hk
      refine ⟨rfl, (aC (fun hg8 => ?_) (fun hg8 => ?_))⟩
      ·exact ⟨by kernel_rfl, (.b1 12 rfl (inc (by omega)) rfl ⟨(k + 1, _), (by dsimp only; omega), by grind, rfl⟩)⟩
      ·refine aF.n1 4 rfl (bP (aH rfl) bY rfl rfl (ca hk) rfl) (aF.ti 0 999 rfl (fun hg9 => ?_) (fun hg9 => ?_))
       ·refine aF.d2 rfl (bD («as» := []) (aH rfl) bZ dn rfl rfl rfl (gQ rfl) rfl) (aF.d3 rfl (aj (aH rfl) bZ rfl rfl rfl (by rw [hC]; exact u3 _ _) rfl (by rw [hC]; simp; omega) rfl) ?_)
        refine aF.d1 rfl (bP (aH rfl) bY rfl rfl (ca hk) rfl) (aF.d3 rfl (aj (aH rfl) bZ rfl rfl rfl rfl rfl (by rw [hC]; simp; omega) rfl) ?_)
        refine aF.d1 rfl (aX (aH rfl) (Fn rfl) rfl ((rr ((s.msgs[i]'hi).fields.map (·.name) ++ [((s.msgs[i]'hi).fields[k]'hk).one]) (by simp; omega)).at (by rw [hC, hTk]; simp [Function.comp_def]))) ?_
        exact ⟨by kernel_rfl, (.b1 12 rfl (inc (by omega)) rfl ⟨(k + 1, _), (by dsimp only; omega), by grind, rfl⟩)⟩
       ·exact ⟨by kernel_rfl, (.b1 12 rfl (inc (by omega)) rfl ⟨(k + 1, _), (by dsimp only; omega), by grind, rfl⟩)⟩
     ·have hk := dA hc7
      have hU := cZ (p := (fun f : ae => !(f.one == []) && !once ((s.msgs[i]'hi).fields.map (·.name) ++ [f.one]))) hk
      exact ⟨Kept.c6 8 rfl (inc (by omega)) (Kept.az [.s 8, .s 4, .s 3, .t 76, .h, .s 1, .b 1] rfl (by decide) (Kept.cO 76 13 (by decide) rfl (Kept.now ⟨(i + 1, _, _), (by dsimp only; omega), ⟨Bx hi ha, by grind [aU.jf]⟩, rfl⟩)))⟩
  ·have hi := dA hc4
   have hS := cZ (p := aU.jf) hi
   have hT := iE hi
   refine aC (fun hg10 => ?_) (fun hg10 => ?_)
   ·exact aN rfl rfl rfl (by grind [aL.jf])
   ·refine aB.jc rfl (Fn rfl) rfl ((rr (s.enums.map (·.name) ++ s.msgs.map (·.name)) (by simp; omega)).at (by rw [ha, hT]; simp [Function.comp_def])) ?_
    exact aN rfl rfl rfl (by grind [aL.jf])
theorem Ku (m : aU) (hl : m.fields.length ≤ 1000) : Pure Tryz.prog 110 [m.av] (.sl (m.fields.map (fun f : ae => AV.int .i64 f.num))) := by
 refine Pure.gn 6 II mixed Tryz.func110 rfl rfl fun H => (aB.d2 rfl (bD («as» := []) (aH rfl) cI eu rfl rfl rfl (gQ rfl) rfl) (aG.lq [.s 4, .s 3, .t 5, .h, .s 1, .b 1] (fun ((i, a) : Nat × List AV) => [(.s 4, .sv (.v (.int .i64 (i : Int)))), (.s 3, .sv (.ow 5 a)), (.t 5, .tk false 3 1 a)]) (fun ((i, a) : Nat × List AV) => a = (m.fields.take i).map (fun f : ae => AV.int .i64 f.num)) (fun ((i, a) : Nat × List AV) => m.fields.length - i) (0, _) rfl rfl rfl ?_))
 rintro ⟨i, a⟩ ha
 refine aC (fun hc1 => ?_) (fun hc1 => ?_)
 ·have hi := cz hc1
  refine aB.ii rfl bY rfl rfl (ca hi) rfl (aB.d3 rfl (aj (aH rfl) cI rfl rfl rfl rfl rfl (by rw [ha]; simp; omega) rfl) ?_)
  exact ⟨Kept.c6 4 rfl (inc (by omega)) (Kept.az [.s 4, .s 3, .t 21, .h, .s 1, .b 1] rfl (by decide) (Kept.cO 21 5 (by decide) rfl (Kept.now ⟨(i + 1, _), (by dsimp only; omega), e8 hi ha, rfl⟩)))⟩
 ·have hi := dA hc1
  have hT := iE hi
  exact cD rfl rfl rfl (by rw [ha, hT])
theorem IJ (s : aL) (hs : s.sm) (hn : ∀ x ∈ s.enums, 0 < x.values.length) : Pure Tryz.prog 62 [s.av] (.bool s.order) := by
 have := hs.e
 have := hs.m
 refine Pure.gn 9 II mixed Tryz.func62 rfl rfl fun H => (aB.d2 rfl (bD («as» := []) (aH rfl) bZ dn rfl rfl rfl (gQ rfl) rfl) (aG.lp 8 [.s 5, .s 3, .s 4, .t 10, .h, .s 1, .b 1] (fun ((i, b, a) : Nat × Bool × List AV) => [(.s 5, .sv (.v (.int .i64 (i : Int)))), (.s 3, .sv (.v (.bool b))), (.s 4, .sv (.ow 10 a)), (.t 10, .tk false 9 1 a)]) (fun ((i, b, a) : Nat × Bool × List AV) => a = (s.enums.take i).map (fun e : eQ => AV.str e.name) ∧ (b || (s.enums.drop i).any eQ.order) = s.enums.any eQ.order) (fun ((i, b, a) : Nat × Bool × List AV) => s.enums.length - i) (0, _, _) rfl rfl ⟨rfl, by simp⟩ ?_))
 rintro ⟨i, b, a⟩ ⟨ha, hI⟩
 refine aG.ci 999 1 rfl (fun hc1 => ?_) (fun hc1 => ?_)
 ·have hi := cz hc1
  have hS := bz (p := eQ.order) hi
  have := hs.vi hi
  have hv0 : 0 < (s.enums[i]'hi).values.length := hn _ (List.getElem_mem hi)
  have hO := eQ.pN hv0
  refine aB.ii rfl dw rfl rfl (ca hi) rfl (aB.n3 3 rfl (aj (aH rfl) bZ rfl rfl rfl rfl rfl (by rw [ha]; simp; omega) rfl) ?_)
  refine aB.d2 rfl (bD («as» := []) (aH rfl) cI eu rfl rfl rfl (gQ rfl) rfl) (aG.lq [.s 7, .s 6, .t 27, .h, .s 1, .b 1, .s 3, .s 4, .t 26, .s 5] (fun ((k, c) : Nat × List AV) => [(.s 7, .sv (.v (.int .i64 (k : Int)))), (.s 6, .sv (.ow 27 c)), (.t 27, .tk false 3 1 c)]) (fun ((k, c) : Nat × List AV) => c = ((s.enums[i]'hi).values.take k).map (fun v : ks => AV.int .i64 v.num)) (fun ((k, c) : Nat × List AV) => (s.enums[i]'hi).values.length - k) (0, _) rfl rfl rfl ?_)
  rintro ⟨k, c⟩ hC
  refine aB.ii rfl dw rfl rfl (ca hi) rfl (aC (fun hc2 => ?_) (fun hc2 => ?_))
  ·have hk := cz hc2
   refine aB.ii rfl dw rfl rfl (ca hi) rfl (aB.ii rfl gz rfl rfl (ca hk) rfl (aB.d3 rfl (aj (aH rfl) cI rfl rfl rfl rfl rfl (by rw [hC]; simp; omega) rfl) ?_))
   exact ⟨Kept.c6 7 rfl (inc (by omega)) (Kept.az [.s 7, .s 6, .t 51, .h, .s 1, .b 1, .s 3, .s 4, .t 26, .s 5] rfl (by decide) (Kept.cO 51 27 (by decide) rfl (Kept.now ⟨(k + 1, _), (by dsimp only; omega), e8 hk hC, rfl⟩)))⟩
  ·have hk := dA hc2
   have hC2 : c = (s.enums[i]'hi).values.map (fun v : ks => AV.int .i64 v.num) := by rw [hC, iE hk]
   refine aC (fun hg3 => ?_) (fun hg3 => ?_)
   ·exact ⟨Kept.c6 5 rfl (inc (by omega)) (Kept.az [.s 5, .s 3, .s 4, .t 26, .h, .s 1, .b 1] rfl (by decide) (Kept.cO 26 10 (by decide) rfl (Kept.now ⟨(i + 1, _, _), (by dsimp only; omega), ⟨e8 hi ha, by clear ha hC hC2 hn; grind⟩, rfl⟩)))⟩
   ·refine aB.jc rfl (Fn rfl) rfl ((vV ((s.enums[i]'hi).values.map (·.num)) (by simp; omega)).at (by rw [hC2]; simp [eJ, Function.comp_def])) ?_
    refine aC (fun hg4 => ?_) (fun hg4 => ?_)
    ·exact ⟨Kept.c6 5 rfl (inc (by omega)) (Kept.az [.s 5, .s 3, .s 4, .t 26, .h, .s 1, .b 1] rfl (by decide) (Kept.cO 26 10 (by decide) rfl (Kept.now ⟨(i + 1, _, _), (by dsimp only; omega), ⟨e8 hi ha, by clear ha hC hC2 hn; grind⟩, rfl⟩)))⟩
    ·refine aB.d1 rfl (ak (aH rfl) c9 rfl rfl (by decide) (On (i := 0) hC2 hv0) rfl) (aC (fun hg5 => ?_) (fun hg5 => ?_))
     ·exact ⟨Kept.c6 5 rfl (inc (by omega)) (Kept.az [.s 5, .s 3, .s 4, .t 26, .h, .s 1, .b 1] rfl (by decide) (Kept.cO 26 10 (by decide) rfl (Kept.now ⟨(i + 1, _, _), (by dsimp only; omega), ⟨e8 hi ha, by clear ha hC hC2 hn; grind⟩, rfl⟩)))⟩
     ·refine aB.d1 rfl (ak (aH rfl) c9 rfl rfl (by rw [hC2, List.length_map, qh hv0 (by omega)]; exact Int.natCast_nonneg _) (N9 (i := (s.enums[i]'hi).values.length - 1) (by rw [hC2, List.length_map]; exact qh hv0 (by omega)) hC2 (by omega)) rfl) ?_
      exact ⟨Kept.c6 5 rfl (inc (by omega)) (Kept.az [.s 5, .s 3, .s 4, .t 26, .h, .s 1, .b 1] rfl (by decide) (Kept.cO 26 10 (by decide) rfl (Kept.now ⟨(i + 1, _, _), (by dsimp only; omega), ⟨e8 hi ha, by clear ha hC hC2 hn; grind⟩, rfl⟩)))⟩
 ·have hi := dA hc1
  have hS := cZ (p := eQ.order) hi
  have hT := iE hi
  refine aG.jn 999 2 [.h, .s 1, .b 1] (fun (b1 : Bool) => [(.s 3, .sv (.v (.bool b1)))]) (fun (b1 : Bool) => b1 = (s.enums.any eQ.order || !lz (s.enums.map (·.name)))) rfl ?_ ?_
  ·refine aC (fun hg6 => ?_) (fun hg6 => ?_)
   ·exact .bc [.s 3, .h, .s 1, .b 1] rfl ⟨_, by grind, rfl⟩
   ·refine aB.jc rfl (Fn rfl) rfl ((Af (s.enums.map (·.name)) (by simp; omega)).at (by rw [ha, hT]; simp [Function.comp_def])) ?_
    exact .bc [.s 3, .h, .s 1, .b 1] rfl ⟨_, by grind, rfl⟩
  ·rintro b1 hF14
   refine aB.d2 rfl (bD («as» := []) (aH rfl) bZ dn rfl rfl rfl (gQ rfl) rfl) (aG.lp 8 [.s 8, .s 3, .s 4, .t 79, .h, .s 1, .b 1] (fun ((i, b, a) : Nat × Bool × List AV) => [(.s 8, .sv (.v (.int .i64 (i : Int)))), (.s 3, .sv (.v (.bool b))), (.s 4, .sv (.ow 79 a)), (.t 79, .tk false 9 1 a)]) (fun ((i, b, a) : Nat × Bool × List AV) => a = ((s.msgs.take i).drop 1).map (fun m : aU => AV.str m.name) ∧ (b || (s.msgs.drop i).any aU.order) = (s.enums.any eQ.order || !lz (s.enums.map (·.name)) || s.msgs.any aU.order)) (fun ((i, b, a) : Nat × Bool × List AV) => s.msgs.length - i) (0, _, _) rfl rfl ⟨by simp, by grind⟩ ?_)
   rintro ⟨i, b, a⟩ ⟨ha, hI⟩
   refine aG.ci 3 999 rfl (fun hc7 => ?_) (fun hc7 => ?_)
   ·have hi := cz hc7
    have hS := bz (p := aU.order) hi
    have := hs.fi hi
    have := hs.bi hi
    have hO1 := aU.pN (m := (s.msgs[i]'hi))
    have hO2 := aU.C8 (m := (s.msgs[i]'hi))
    refine aG.jn 999 999 [.h, .s 1, .b 1, .s 3, .s 8] (fun (a2 : List AV) => [(.s 4, .sv (.ow 79 a2)), (.t 79, .tk false 9 1 a2)]) (fun (a2 : List AV) => a2 = ((s.msgs.take (i + 1)).drop 1).map (fun m : aU => AV.str m.name)) rfl ?_ ?_
    ·refine aC (fun hc8 => ?_) (fun hc8 => ?_)
     ·refine aB.ii rfl bW rfl rfl (ca hi) rfl (aB.d3 rfl (aj (aH rfl) bZ rfl rfl rfl rfl rfl (by rw [ha]; simp; omega) rfl) ?_)
      exact ⟨Kept.az [.s 4, .t 97, .h, .s 1, .b 1, .s 3, .s 8] rfl (by decide) (Kept.cO 97 79 (by decide) rfl (Kept.now ⟨a ++ [AV.str (s.msgs[i]'hi).name], (by rw [yl (by have := of_decide_eq_true hc8; omega) hi, List.map_append, ha]; rfl), rfl⟩))⟩
     ·exact .bc [.s 4, .t 79, .h, .s 1, .b 1, .s 3, .s 8] rfl ⟨a, (by have h0 : i = 0 := (by have := of_decide_eq_false hc8; omega); subst h0; rw [ym, ha]; simp), rfl⟩
    ·rintro a2 ha2
     refine aB.im 3 rfl bW rfl rfl (ca hi) rfl (aG.jn 999 999 [.h, .s 1, .b 1, .s 4, .t 79, .s 8, .s 9] (fun (b1 : Bool) => [(.s 3, .sv (.v (.bool b1)))]) (fun (b1 : Bool) => b1 = (b || !fp ((s.msgs[i]'hi).fields.map (·.num)) || !fp (s.msgs[i]'hi).ai)) rfl ?_ ?_)
     ·refine aC (fun hg9 => ?_) (fun hg9 => ?_)
      ·exact .bc [.s 3, .h, .s 1, .b 1, .s 4, .t 79, .s 8, .s 9] rfl ⟨_, by grind, rfl⟩
      ·refine aB.ii rfl bW rfl rfl (ca hi) rfl (aB.jc rfl (Fn rfl) rfl (Ku _ (by omega)) (aB.jc rfl (Fn rfl) rfl ((vV ((s.msgs[i]'hi).fields.map (·.num)) (by simp; omega)).at (by simp [eJ, Function.comp_def])) ?_))
       refine aC (fun hg10 => ?_) (fun hg10 => ?_)
       ·exact .bc [.s 3, .h, .s 1, .b 1, .s 4, .t 79, .s 8, .s 9] rfl ⟨_, by grind, rfl⟩
       ·exact aB.jc rfl (Fn rfl) rfl (vV (s.msgs[i]'hi).ai (by omega)) (.bc [.s 3, .h, .s 1, .b 1, .s 4, .t 79, .s 8, .s 9] rfl ⟨_, by grind, rfl⟩)
     ·rintro b1 hF22
      refine aC (fun hg11 => ?_) (fun hg11 => ?_)
      ·exact .b1 8 rfl (inc (by omega)) rfl ⟨(i + 1, _, _), (by dsimp only; omega), ⟨ha2, by clear ha ha2 hn; grind⟩, rfl⟩
      ·refine aC (fun hg12 => ?_) (fun hg12 => ?_)
       ·refine aB.d1 rfl (ak (aH rfl) c9 rfl rfl (by decide) (ca (i := 0) (by have := of_decide_eq_true hg12; rw [List.length_map] at this; omega)) rfl) ?_
        refine aC (fun hg13 => ?_) (fun hg13 => ?_)
        ·exact .b1 8 rfl (inc (by omega)) rfl ⟨(i + 1, _, _), (by dsimp only; omega), ⟨ha2, by clear ha ha2 hn; grind⟩, rfl⟩
        ·refine aB.d1 rfl (ak (aH rfl) c9 rfl rfl (by rw [List.length_map, qh (by have := of_decide_eq_true hg12; rw [List.length_map] at this; omega) (by omega)]; exact Int.natCast_nonneg _) (so (i := (s.msgs[i]'hi).ai.length - 1) (by rw [List.length_map]; exact qh (by have := of_decide_eq_true hg12; rw [List.length_map] at this; omega) (by omega)) (by have := of_decide_eq_true hg12; rw [List.length_map] at this; omega)) rfl) ?_
         exact .b1 8 rfl (inc (by omega)) rfl ⟨(i + 1, _, _), (by dsimp only; omega), ⟨ha2, by clear ha ha2 hn; grind⟩, rfl⟩
       ·exact .b1 8 rfl (inc (by omega)) rfl ⟨(i + 1, _, _), (by dsimp only; omega), ⟨ha2, by clear ha ha2 hn; grind⟩, rfl⟩
   ·have hi := dA hc7
    have hS := cZ (p := aU.order) hi
    have hT := iE hi
    refine aC (fun hg14 => ?_) (fun hg14 => ?_)
    ·exact aN rfl rfl rfl (by grind [aL.order])
    ·refine aB.jc rfl (Fn rfl) rfl ((Af ((s.msgs.drop 1).map (·.name)) (by simp; omega)).at (by rw [ha, hT]; simp [Function.comp_def])) ?_
     exact aN rfl rfl rfl (by grind [aL.order])
theorem dU : ie Tryz.prog 29 = some 2 := by kernel_rfl
theorem n0 : ie Tryz.prog 30 = some 4 := by kernel_rfl
theorem lQ : ie Tryz.prog 54 = some 2 := by kernel_rfl
theorem ek : ie Tryz.prog 76 = some 3 := by kernel_rfl
theorem Al (s : aL) (hs : s.eK) : Pure Tryz.prog 38 [s.av] (.int .i64 s.iN) := by
 refine Pure.go II mixed Tryz.func38 rfl rfl fun H => (aB.jc rfl (Fn rfl) rfl (Kx _ hs) (aC (fun hc1 => ?_) (fun hc1 => ?_)))
 ·exact cC rfl rfl rfl (by grind [aL.iN])
 ·have hs2 := aL.Js hc1
  refine aB.jc rfl (Fn rfl) rfl (Kv _ hs2) (aC (fun hc2 => ?_) (fun hc2 => ?_))
  ·exact cC rfl rfl rfl (by grind [aL.iN])
  ·have hn2 := (aL.BK hc2).2
   refine aB.jc rfl (Fn rfl) rfl (Kp _ hs2) (aC (fun hc3 => ?_) (fun hc3 => ?_))
   ·exact cC rfl rfl rfl (by grind [aL.iN])
   ·refine aB.jc rfl (Fn rfl) rfl (E3 _ hs2) (aC (fun hc4 => ?_) (fun hc4 => ?_))
    ·exact cC rfl rfl rfl (by grind [aL.iN])
    ·refine aB.jc rfl (Fn rfl) rfl (Hx _ hs2) (aC (fun hc5 => ?_) (fun hc5 => ?_))
     ·exact cC rfl rfl rfl (by grind [aL.iN])
     ·refine aB.jc rfl (Fn rfl) rfl (IJ _ hs2 hn2) (aC (fun hc6 => ?_) (fun hc6 => ?_))
      ·exact cC rfl rfl rfl (by grind [aL.iN])
      ·refine aB.jc rfl (Fn rfl) rfl (E5 _ hs2) (aC (fun hc7 => ?_) (fun hc7 => ?_))
       ·exact cC rfl rfl rfl (by grind [aL.iN])
       ·refine aB.jc rfl (Fn rfl) rfl (Ks _ hs2) (aC (fun hc8 => ?_) (fun hc8 => ?_))
        ·exact cC rfl rfl rfl (by grind [aL.iN])
        ·exact cC rfl rfl rfl (by grind [aL.iN])
theorem IQ (t : Tree) (hb : t.eK) (ih : ∀ x ∈ t.aO, ∀ v ∈ x.ag, ∀ u ∈ v.m, ∀ n d : Int, Pure Tryz.prog 37 [.agg u.cells, .int .i64 n, .int .i64 d] (.int .i64 (u.left n d))) (n d : Int) : Pure Tryz.prog 37 [.agg t.cells, .int .i64 n, .int .i64 d] (.int .i64 (t.left n d)) := by
 have hb1 := hb.here.s
 have hb2 := hb.here.r
 refine Pure.gn 21 II mixed Tryz.func37 rfl rfl fun H => (aG.ci 999 1 rfl (fun hc1 => ?_) (fun hc1 => ?_))
 ·exact cC rfl rfl rfl (by grind [Tree.left_eq, p7, pY, pZ, ka])
 ·refine aG.jn 999 999 [.h, .s 2, .s 3, .b 3] (fun (m : Int) => [(.s 1, .sv (.v (.int .i64 m)))]) (fun (m : Int) => m = jq t.rest (dc (dc (n - (t.rest.length : Int)) - (t.aO.length : Int)))) rfl ?_ ?_
  ·refine aG.lq [.s 7, .s 1, .h, .s 2, .s 3, .b 3] (fun ((i, m) : Nat × Int) => [(.s 7, .sv (.v (.int .i64 (i : Int)))), (.s 1, .sv (.v (.int .i64 m)))]) (fun ((i, m) : Nat × Int) => jq (t.rest.drop i) m = jq t.rest (dc (dc (n - (t.rest.length : Int)) - (t.aO.length : Int)))) (fun ((i, m) : Nat × Int) => t.rest.length - i) (0, _) rfl rfl (by simp) ?_
   rintro ⟨i, m⟩ hI
   refine aC (fun hg2 => ?_) (fun hg2 => ?_)
   ·have hi := cz hg2
    have hS := @zm t.rest i m hi
    refine aC (fun hc3 => ?_) (fun hc3 => ?_)
    ·exact aB.ii rfl n0 rfl rfl (ca hi) rfl (.b1 7 rfl (inc (by omega)) rfl ⟨(i + 1, _), (by dsimp only; omega), by grind, rfl⟩)
    ·exact .bc [.s 1, .h, .s 2, .s 3, .b 3] rfl ⟨_, by grind [ka], rfl⟩
   ·have hi := dA hg2
    have hS := @Cs t.rest i m hi
    exact .bc [.s 1, .h, .s 2, .s 3, .b 3] rfl ⟨_, by grind [ka], rfl⟩
  ·rintro m hF8
   refine aG.lq [.s 8, .s 1, .h, .s 2, .s 3, .b 3] (fun ((j, m) : Nat × Int) => [(.s 8, .sv (.v (.int .i64 (j : Int)))), (.s 1, .sv (.v (.int .i64 m)))]) (fun ((j, m) : Nat × Int) => jW (t.aO.drop j) m d = t.left n d) (fun ((j, m) : Nat × Int) => t.aO.length - j) (0, _) rfl rfl (by rw [Tree.left_eq, if_neg (by have := of_decide_eq_false hc1; omega)]; grind) ?_
   rintro ⟨j, m⟩ hI
   refine aC (fun hg4 => ?_) (fun hg4 => ?_)
   ·have hj := cz hg4
    have hS := @zl t.aO j m d hj
    have hSl := Slot.left_eq (t.aO[j]'hj) m d
    have hv := hb.here.v _ (List.getElem_mem hj)
    refine aC (fun hc5 => ?_) (fun hc5 => ?_)
    ·refine aB.ii rfl dU rfl rfl (dS Slot.bC hj) rfl (aG.lq [.s 9, .s 1, .h, .s 2, .s 3, .b 3, .s 8] (fun ((k, p) : Nat × Int) => [(.s 9, .sv (.v (.int .i64 (k : Int)))), (.s 1, .sv (.v (.int .i64 p)))]) (fun ((k, p) : Nat × Int) => ic ((t.aO[j]'hj).ag.drop k) p d = (t.aO[j]'hj).left m d) (fun ((k, p) : Nat × Int) => (t.aO[j]'hj).ag.length - k) (0, _) rfl rfl (by rw [hSl]; simp) ?_)
     rintro ⟨k, p⟩ hI
     refine aB.ii rfl dU rfl rfl (dS Slot.bC hj) rfl (aC (fun hg6 => ?_) (fun hg6 => ?_))
     ·have hk := cz hg6
      have hT := @zj (t.aO[j]'hj).ag k p d hk
      have hVl := bF.left_eq ((t.aO[j]'hj).ag[k]'hk) p d
      have hm := hb.here.m _ (List.getElem_mem hj) _ (List.getElem_mem hk)
      refine aC (fun hc7 => ?_) (fun hc7 => ?_)
      ·refine aB.ii rfl dU rfl rfl (dS Slot.bC hj) rfl (aB.ii rfl ek rfl rfl (dS bF.bC hk) rfl (aG.lq [.s 10, .s 1, .h, .s 2, .s 3, .b 3, .s 8, .s 9] (fun ((l, q) : Nat × Int) => [(.s 10, .sv (.v (.int .i64 (l : Int)))), (.s 1, .sv (.v (.int .i64 q)))]) (fun ((l, q) : Nat × Int) => ig (((t.aO[j]'hj).ag[k]'hk).m.drop l) q d = ((t.aO[j]'hj).ag[k]'hk).left p d) (fun ((l, q) : Nat × Int) => ((t.aO[j]'hj).ag[k]'hk).m.length - l) (0, _) rfl rfl (by rw [hVl]; simp) ?_))
       rintro ⟨l, q⟩ hI
       refine aB.ii rfl dU rfl rfl (dS Slot.bC hj) rfl (aB.ii rfl ek rfl rfl (dS bF.bC hk) rfl (aC (fun hg8 => ?_) (fun hg8 => ?_)))
       ·have hl := cz hg8
        have hU := @zk ((t.aO[j]'hj).ag[k]'hk).m l q d hl
        refine aC (fun hc9 => ?_) (fun hc9 => ?_)
        ·exact aB.ii rfl dU rfl rfl (dS Slot.bC hj) rfl (aB.ii rfl ek rfl rfl (dS bF.bC hk) rfl (aB.ii rfl lQ rfl rfl (dS Tree.bC hl) rfl (aB.jc rfl (Fn rfl) rfl (ih _ (List.getElem_mem hj) _ (List.getElem_mem hk) _ (List.getElem_mem hl) _ _) (.b1 10 rfl (inc (by omega)) rfl ⟨(l + 1, _), (by dsimp only; omega), by grind, rfl⟩))))
        ·exact .b1 9 rfl (inc (by omega)) rfl ⟨(k + 1, _), (by dsimp only; omega), by grind, rfl⟩
       ·have hl := dA hg8
        have hU := @Cq ((t.aO[j]'hj).ag[k]'hk).m l q d hl
        exact .b1 9 rfl (inc (by omega)) rfl ⟨(k + 1, _), (by dsimp only; omega), by grind, rfl⟩
      ·exact .b1 8 rfl (inc (by omega)) rfl ⟨(j + 1, _), (by dsimp only; omega), by grind, rfl⟩
     ·have hk := dA hg6
      have hT := @Cp (t.aO[j]'hj).ag k p d hk
      exact .b1 8 rfl (inc (by omega)) rfl ⟨(j + 1, _), (by dsimp only; omega), by grind, rfl⟩
    ·exact cC rfl rfl rfl (by grind [Tree.left_eq, p7, pY, pZ, ka])
   ·have hj := dA hg4
    have hS := @Cr t.aO j m d hj
    exact cC rfl rfl rfl (by grind [Tree.left_eq, p7, pY, pZ, ka])
theorem LA (t : Tree) (hb : t.eK) (n d : Int) : Pure Tryz.prog 37 [.agg t.cells, .int .i64 n, .int .i64 d] (.int .i64 (t.left n d)) :=
 Tree.ind (Q := fun t => t.eK → ∀ n d : Int, Pure Tryz.prog 37 [.agg t.cells, .int .i64 n, .int .i64 d] (.int .i64 (t.left n d))) (fun t ih hb n d => IQ t hb (fun x hx v hv u hu => ih x hx v hv u hu (hb.sub hu hv hx)) n d) t hb n d
def Tree.small (t : Tree) : Bool := decide (0 ≤ t.left 400 40)
theorem wv (t : Tree) (hb : t.eK) : Pure Tryz.prog 20 [.agg t.cells] (.bool t.small) := by
 exact Pure.go II mixed Tryz.func20 rfl rfl fun H => (aB.jc rfl (Fn rfl) rfl (LA _ hb _ _) ⟨.inr rfl, (aM.r1 rfl (.tmp rfl .nil)).cast rfl, rfl⟩)
set_option maxHeartbeats 400000
theorem DU : Tryz.prog.eqGuardType Tryz.prog.depth 130 = false := by kernel_rfl
theorem Ch (a b : Rw) (w : World) : (binOp .neq 130 (.agg #[.int .i64 a.num, .int .i64 a.wire, .int .u64 (a.n : Int), .string ⟨a.s.toArray⟩]) (.agg #[.int .i64 b.num, .int .i64 b.wire, .int .u64 (b.n : Int), .string ⟨b.s.toArray⟩])).run Tryz.prog w = .ok (.bool (!decide (a = b))) w := by
 obtain ⟨a0, a1, a2, a3⟩ := a
 obtain ⟨b0, b1, b2, b3⟩ := b
 go_simp
 by_cases h0 : a0 = b0
 ·by_cases h1 : a1 = b1
  ·by_cases h2 : a2 = b2
   ·by_cases h3 : a3 = b3
    ·simp [h0, h1, h2, h3, Int.natCast_inj]
    ·simp [h0, h1, h2, h3, Int.natCast_inj]
   ·simp [h0, h1, h2, Int.natCast_inj]
  ·simp [h0, h1, Int.natCast_inj]
 ·simp [h0, Int.natCast_inj]
theorem HA {G : Gh} {v : Value} {t : Rw} (h : V G v (.agg t.cells)) : v = (.agg #[.int .i64 t.num, .int .i64 t.wire, .int .u64 (t.n : Int), .string ⟨t.s.toArray⟩]) := by
 unfold Rw.cells at h
 cases h with
 | agg vs cs hl hf hv =>
  obtain ⟨l⟩ := vs
  match l, hl with
  | [x0, x1, x2, x3], _ =>
   have h0 : V G x0 (.int .i64 t.num) := hv 0 _ rfl
   cases h0
   have h1 : V G x1 (.int .i64 t.wire) := hv 1 _ rfl
   cases h1
   have h2 : V G x2 (.int .u64 (t.n : Int)) := hv 2 _ rfl
   cases h2
   have h3 : V G x3 (.str t.s) := hv 3 _ rfl
   cases h3
   rfl
theorem Ca {N : Nat} {s : St} {d : Nat} {ty : TypeId} {pos : String} {af : Array Edge} {g : Option (Nat × Bool)} {t2 : TypeId} {x y : Operand} {u v : AV} (a b : Rw) (hN : d < N) (hx : cV x s = some u) (hy : cV y s = some v) (hu : u = .agg a.cells) (hv : v = .agg b.cells) :
  aW Tryz.prog N ⟨some d, .binOp .neq 130 x y t2, ty, pos, af, g⟩ s (rd x ++ rd y) [(.s d, .sv (.v (.bool (!decide (a = b)))))] := by
 subst hu hv
 exact aW.val rfl hN fun E G L c w tt hr hR => by
  refine ⟨.bool (!decide (a = b)), ?_, .bool _⟩
  have h1 := HA (aT hr hR.left hx)
  have h2 := HA (aT hr hR.right hy)
  have hgd := run_eqGuard_agg (P := Tryz.prog) w .neq 130 x y #[.int .i64 a.num, .int .i64 a.wire, .int .u64 (a.n : Int), .string ⟨a.s.toArray⟩] #[.int .i64 b.num, .int .i64 b.wire, .int .u64 (b.n : Int), .string ⟨b.s.toArray⟩] DU
  simp only [execOp, Sem.run_bind, h1, h2, hgd, Result.andThen_ok, Ch, Sem.run_pure]
theorem IG (a b : List Rw) (ha : a.length ≤ 9223372036854775807) : Pure Tryz.prog 35 [.sl (a.map Rw.av), .sl (b.map Rw.av)] (.bool (Dc a b)) := by
 refine Pure.gn 3 II mixed Tryz.func35 rfl rfl fun H => (aG.jn 999 999 [.h, .s 0, .s 1] (fun (_ : Unit) => []) (fun (_ : Unit) => a.length = b.length) rfl ?_ ?_)
 ·refine aC (fun hc1 => ?_) (fun hc1 => ?_)
  ·exact aN rfl rfl rfl (by have hE := @bM _ a b; have hF := @bK _ a b; grind)
  ·exact .b0 rfl ⟨(), by have h : (!((a.map Rw.av).length : Int) == ((b.map Rw.av).length : Int)) = false := hc1; simp at h; omega, rfl⟩
 ·rintro _ hF3
  refine aG.lq [.s 5, .h, .s 0, .s 1] (fun (i : Nat) => [(.s 5, .sv (.v (.int .i64 (i : Int))))]) (fun (i : Nat) => a.take i = b.take i) (fun (i : Nat) => a.length - i) 0 rfl rfl rfl ?_
  rintro i hI
  refine aC (fun hc2 => ?_) (fun hc2 => ?_)
  ·have hi := cz hc2
   have hN := @BL _ a b i hi (by omega)
   refine ⟨rfl, (aF.d1 rfl (bP (aH rfl) n0 rfl rfl (ca (by omega)) rfl) (aF.n1 1 rfl (bP (aH rfl) n0 rfl rfl (ca (by omega)) rfl) (aF.d1 rfl (Ca (a[i]'hi) (b[i]'(by omega)) (aH rfl) rfl rfl rfl rfl) ⟨by kernel_rfl, (aC (fun hc3 => ?_) (fun hc3 => ?_))⟩)))⟩
   ·exact aN rfl rfl rfl (by have hE := @bM _ a b; have hF := @bK _ a b; grind)
   ·exact .b1 5 rfl (inc (by omega)) rfl ⟨i + 1, by omega, iu hi (by omega) hI (by grind), rfl⟩
  ·have hi := dA hc2
   have hE2 := jg (a := a) (b := b) (by omega) hi hI
   exact aN rfl rfl rfl (by have hE := @bM _ a b; have hF := @bK _ a b; grind)
theorem wy (a b : List bF) (ha : a.length ≤ 9223372036854775807) (hm : ∀ v ∈ a, v.m.length ≤ 9223372036854775807) (ih : ∀ v ∈ a, ∀ u ∈ v.m, ∀ w : Tree, Pure Tryz.prog 18 [.agg u.cells, .agg w.cells] (.bool (Dc u w))) : Pure Tryz.prog 36 [.sl (a.map bF.av), .sl (b.map bF.av)] (.bool (Dc a b)) := by
 refine Pure.gn 3 II mixed Tryz.func36 rfl rfl fun H => (aG.jn 999 999 [.h, .s 0, .s 1] (fun (_ : Unit) => []) (fun (_ : Unit) => a.length = b.length) rfl ?_ ?_)
 ·refine aC (fun hc1 => ?_) (fun hc1 => ?_)
  ·exact aN rfl rfl rfl (by have hE := @bM _ a b; have hF := @bK _ a b; grind [bM, bK])
  ·exact .b0 rfl ⟨(), by have h : (!((a.map bF.av).length : Int) == ((b.map bF.av).length : Int)) = false := hc1; simp at h; omega, rfl⟩
 ·rintro _ hF3
  refine aG.lp 7 [.s 5, .h, .s 0, .s 1] (fun (i : Nat) => [(.s 5, .sv (.v (.int .i64 (i : Int))))]) (fun (i : Nat) => a.take i = b.take i) (fun (i : Nat) => a.length - i) 0 rfl rfl rfl ?_
  rintro i hI
  refine aG.ci 3 999 rfl (fun hc2 => ?_) (fun hc2 => ?_)
  ·have hi := cz hc2
   have hN := @BL _ a b i hi (by omega)
   have hm1 := hm _ (List.getElem_mem hi)
   refine aG.jn 999 999 [.h, .s 0, .s 1, .s 5] (fun (_ : Unit) => []) (fun (_ : Unit) => (a[i]'hi).n = (b[i]'(by omega)).n ∧ (a[i]'hi).s = (b[i]'(by omega)).s ∧ (a[i]'hi).m.length = (b[i]'(by omega)).m.length) rfl ?_ ?_
   ·refine ⟨rfl, ?_⟩
    iterate 2 (refine aF.d1 rfl (bP (aH rfl) ek rfl rfl (dS bF.bC (by omega)) rfl) ?_)
    refine aC (fun hg3 => ?_) (fun hg3 => ?_)
    ·exact ⟨by kernel_rfl, (aN rfl rfl rfl (by have hE := @bM _ a b; have hF := @bK _ a b; grind [bM, bK]))⟩
    ·iterate 2 (refine aF.d1 rfl (bP (aH rfl) ek rfl rfl (dS bF.bC (by omega)) rfl) ?_)
     refine aC (fun hg4 => ?_) (fun hg4 => ?_)
     ·exact ⟨by kernel_rfl, (aN rfl rfl rfl (by have hE := @bM _ a b; have hF := @bK _ a b; grind [bM, bK]))⟩
     ·iterate 2 (refine aF.d1 rfl (bP (aH rfl) ek rfl rfl (dS bF.bC (by omega)) rfl) ?_)
      refine ⟨by kernel_rfl, (aC (fun hc5 => ?_) (fun hc5 => ?_))⟩
      ·exact aN rfl rfl rfl (by have hE := @bM _ a b; have hF := @bK _ a b; grind [bM, bK])
      ·exact .b0 rfl ⟨(), by grind, rfl⟩
   ·rintro _ hF8
    refine aG.lq [.s 6, .h, .s 0, .s 1, .s 5] (fun (l : Nat) => [(.s 6, .sv (.v (.int .i64 (l : Int))))]) (fun (l : Nat) => (a[i]'hi).m.take l = (b[i]'(by omega)).m.take l) (fun (l : Nat) => (a[i]'hi).m.length - l) 0 rfl rfl rfl ?_
    rintro l hL
    refine aB.ii rfl ek rfl rfl (dS bF.bC (by omega)) rfl (aC (fun hc6 => ?_) (fun hc6 => ?_))
    ·have hl := cz hc6
     have hM := @BL _ (a[i]'hi).m (b[i]'(by omega)).m l hl (by omega)
     refine ⟨rfl, (aF.d1 rfl (bP (aH rfl) ek rfl rfl (dS bF.bC (by omega)) rfl) (aF.d1 rfl (bP (aH rfl) lQ rfl rfl (dS Tree.bC (by omega)) rfl) (aF.d1 rfl (bP (aH rfl) ek rfl rfl (dS bF.bC (by omega)) rfl) (aF.d1 rfl (bP (aH rfl) lQ rfl rfl (dS Tree.bC (by omega)) rfl) (aF.d1 rfl (aX (aH rfl) (Fn rfl) rfl (ih _ (List.getElem_mem hi) _ (List.getElem_mem hl) _)) ⟨by kernel_rfl, (aC (fun hc7 => ?_) (fun hc7 => ?_))⟩)))))⟩
     ·exact aN rfl rfl rfl (by have hE := @bM _ a b; have hF := @bK _ a b; grind [bM, bK])
     ·exact .b1 6 rfl (inc (by omega)) rfl ⟨l + 1, by omega, iu hl (by omega) hL (by grind [bM]), rfl⟩
    ·have hl := dA hc6
     have hE3 := jg (a := (a[i]'hi).m) (b := (b[i]'(by omega)).m) (by omega) hl hL
     have hQ := bF.ext (a := (a[i]'hi)) (b := (b[i]'(by omega))) hF8.1 hF8.2.1 hE3
     exact .b1 5 rfl (inc (by omega)) rfl ⟨i + 1, by omega, iu hi (by omega) hI hQ, rfl⟩
  ·have hi := dA hc2
   have hE2 := jg (a := a) (b := b) (by omega) hi hI
   exact aN rfl rfl rfl (by have hE := @bM _ a b; have hF := @bK _ a b; grind [bM, bK])
theorem IE (a b : Tree) (hb : a.eK) (ih : ∀ x ∈ a.aO, ∀ v ∈ x.ag, ∀ u ∈ v.m, ∀ w : Tree, Pure Tryz.prog 18 [.agg u.cells, .agg w.cells] (.bool (Dc u w))) : Pure Tryz.prog 18 [.agg a.cells, .agg b.cells] (.bool (Dc a b)) := by
 have hs := hb.here.s
 have hr := hb.here.r
 refine Pure.gn 5 II mixed Tryz.func18 rfl rfl fun H => (aG.jn 999 999 [.h, .s 2, .b 2, .s 3, .b 3] (fun (_ : Unit) => []) (fun (_ : Unit) => a.aO.length = b.aO.length ∧ a.rest = b.rest) rfl ?_ ?_)
 ·refine aC (fun hg1 => ?_) (fun hg1 => ?_)
  ·exact aN rfl rfl rfl (by have hE := @bM _ a b; have hF := @bK _ a b; grind [bM, bK, Tree.ext])
  ·refine aB.jc rfl (Fn rfl) rfl (IG _ _ (by omega)) (aC (fun hc2 => ?_) (fun hc2 => ?_))
   ·exact aN rfl rfl rfl (by have hE := @bM _ a b; have hF := @bK _ a b; grind [bM, bK, Tree.ext])
   ·exact .b0 rfl ⟨(), by grind [bM], rfl⟩
 ·rintro _ hF3
  refine aG.lq [.s 5, .h, .s 2, .b 2, .s 3, .b 3] (fun (i : Nat) => [(.s 5, .sv (.v (.int .i64 (i : Int))))]) (fun (i : Nat) => a.aO.take i = b.aO.take i) (fun (i : Nat) => a.aO.length - i) 0 rfl rfl rfl ?_
  rintro i hI
  refine aC (fun hc3 => ?_) (fun hc3 => ?_)
  ·have hi := cz hc3
   have hN := @BL _ a.aO b.aO i hi (by omega)
   refine ⟨rfl, ?_⟩
   iterate 2 (refine aF.d1 rfl (bP (aH rfl) dU rfl rfl (dS Slot.bC (by omega)) rfl) ?_)
   refine aC (fun hg4 => ?_) (fun hg4 => ?_)
   ·exact ⟨by kernel_rfl, (aN rfl rfl rfl (by have hE := @bM _ a b; have hF := @bK _ a b; grind [bM, bK, Tree.ext]))⟩
   ·iterate 2 (refine aF.d1 rfl (bP (aH rfl) dU rfl rfl (dS Slot.bC (by omega)) rfl) ?_)
    refine aF.d1 rfl (aX (aH rfl) (Fn rfl) rfl (wy _ _ (hb.here.v _ (List.getElem_mem hi)) (hb.here.m _ (List.getElem_mem hi)) (ih _ (List.getElem_mem hi)))) ⟨by kernel_rfl, (aC (fun hc5 => ?_) (fun hc5 => ?_))⟩
    ·exact aN rfl rfl rfl (by have hE := @bM _ a b; have hF := @bK _ a b; grind [bM, bK, Tree.ext])
    ·exact .b1 5 rfl (inc (by omega)) rfl ⟨i + 1, by omega, iu hi (by omega) hI (Slot.ext (by grind) (by grind [bM])), rfl⟩
  ·have hi := dA hc3
   have hE2 := jg (a := a.aO) (b := b.aO) (by omega) hi hI
   have hQ := Tree.ext (a := a) (b := b) hE2 hF3.2
   exact aN rfl rfl rfl (by have hE := @bM _ a b; have hF := @bK _ a b; grind [bM, bK, Tree.ext])
theorem Kr (a b : Tree) (hb : a.eK) : Pure Tryz.prog 18 [.agg a.cells, .agg b.cells] (.bool (Dc a b)) :=
 Tree.ind (Q := fun a => a.eK → ∀ b : Tree, Pure Tryz.prog 18 [.agg a.cells, .agg b.cells] (.bool (Dc a b))) (fun t ih hb b => IE t b hb (fun x hx v hv u hu => ih x hx v hv u hu (hb.sub hu hv hx))) a hb b
theorem yS : Nt Tryz.prog 281 = some (16, 3, 1) := by kernel_rfl
theorem ib : lk Tryz.prog 3 = some (false, 1) := by kernel_rfl
theorem HQ : cE Tryz.prog 281 = some [AV.int IntKind.i64 (0), AV.int IntKind.i64 (0), AV.int IntKind.i64 (0), AV.int IntKind.i64 (0), AV.int IntKind.i64 (0), AV.int IntKind.i64 (0), AV.int IntKind.i64 (0), AV.int IntKind.i64 (0), AV.int IntKind.i64 (0), AV.int IntKind.i64 (0), AV.int IntKind.i64 (0), AV.int IntKind.i64 (0), AV.int IntKind.i64 (0), AV.int IntKind.i64 (0), AV.int IntKind.i64 (0), AV.int IntKind.i64 (0)] := by kernel_rfl
theorem LJ (z : Int) : Pure Tryz.prog 169 [.int .i64 z] (.bool (j1 z)) := by
 refine Pure.go II mixed Tryz.func169 rfl rfl fun H => (aC (fun hg1 => ?_) (fun hg1 => ?_))
 ·exact aN rfl rfl rfl (by grind [j1])
 ·exact aN rfl rfl rfl (by grind [j1])
theorem NK (t : Int) (n : Nat) : Pure Tryz.prog 135 [.int .i64 t, .int .u64 (n : Int)] (.bool (je t n)) := by
 refine Pure.go II mixed Tryz.func135 rfl rfl fun H => (aC (fun hg1 => ?_) (fun hg1 => ?_))
 ·exact aN rfl rfl rfl (by grind [je, HF, j1])
 ·refine aC (fun hc2 => ?_) (fun hc2 => ?_)
  ·exact aN rfl rfl rfl (by grind [je, HF, j1])
  ·refine aB.jc rfl (Fn rfl) rfl (qm _) (aC (fun hc3 => ?_) (fun hc3 => ?_))
   ·exact aN rfl rfl rfl (by grind [je, HF, j1])
   ·refine aB.jc rfl (Fn rfl) rfl (qn _) (aC (fun hc4 => ?_) (fun hc4 => ?_))
    ·exact aB.jc rfl (Fn rfl) rfl (LJ _) (aN rfl rfl rfl (by grind [je, HF, j1]))
    ·refine aC (fun hg5 => ?_) (fun hg5 => ?_)
     ·exact aN rfl rfl rfl (by grind [je, HF, j1])
     ·refine aC (fun hc6 => ?_) (fun hc6 => ?_)
      ·exact aN rfl rfl rfl (by grind [je, HF, j1])
      ·refine aC (fun hc7 => ?_) (fun hc7 => ?_)
       ·exact aN rfl rfl rfl (by grind [je, HF, j1])
       ·exact aN rfl rfl rfl (by grind [je, HF, j1])
theorem v8 (t : Int) : Pure Tryz.prog 213 [.int .i64 t] (.int .i64 (qX t)) := by
 refine Pure.gn 9 II mixed Tryz.func213 rfl rfl fun H => (aB.ti 999 3 rfl (fun hg1 => ?_) (fun hg1 => ?_))
 ·exact cC rfl rfl rfl (by grind [gg])
 ·refine aG.ci 999 3 rfl (fun hc2 => ?_) (fun hc2 => ?_)
  ·exact cC rfl rfl rfl (by grind [gg])
  ·exact aB.d1 rfl (Iw (aH rfl) yS HQ rfl rfl) (aB.d1 rfl (Ly (aH rfl) yS ib rfl rfl (by grind) (by grind) (Cx (by grind) (by grind))) (cC rfl rfl rfl (by grind [gg])))
theorem Lg (t : Int) : Pure Tryz.prog 201 [.int .i64 t] (.bool (pS t)) := by
 exact Pure.go II mixed Tryz.func201 rfl rfl fun H => (aB.jc rfl (Fn rfl) rfl (v8 _) (aN rfl rfl rfl (Fp t)))
theorem sF (t : Int) : Pure Tryz.prog 193 [.int .i64 t] (.bool (c8 t)) := by
 exact Pure.go II mixed Tryz.func193 rfl rfl fun H => (aB.jc rfl (Fn rfl) rfl (v8 _) (aN rfl rfl rfl (zp t)))
theorem vZ (t : Int) : Pure Tryz.prog 194 [.int .i64 t] (.bool (ed t)) := by
 exact Pure.go II mixed Tryz.func194 rfl rfl fun H => (aB.jc rfl (Fn rfl) rfl (v8 _) (aN rfl rfl rfl (Cw t)))
theorem Ap (t : Int) : Pure Tryz.prog 192 [.int .i64 t] (.bool (iX t)) := by
 exact Pure.go II mixed Tryz.func192 rfl rfl fun H => (aB.jc rfl (Fn rfl) rfl (v8 _) (aN rfl rfl rfl (Cv t)))
theorem Ln (z : Int) : Pure Tryz.prog 214 [.int .i64 z] (.bool (j1 z)) := by
 exact Pure.ah Tryz.func214 rfl rfl (aH rfl) fun H => (aK.go II mixed (aN rfl rfl rfl (DO z)))
theorem NP (t : Int) (n : Nat) : Pure Tryz.prog 202 [.int .i64 t, .int .u64 (n : Int)] (.bool (je t n)) := by
 refine Pure.go II mixed Tryz.func202 rfl rfl fun H => (aC (fun hg1 => ?_) (fun hg1 => ?_))
 ·exact aN rfl rfl rfl (by grind [je])
 ·refine aC (fun hc2 => ?_) (fun hc2 => ?_)
  ·exact aN rfl rfl rfl (by grind [je])
  ·refine aB.jc rfl (Fn rfl) rfl (Ap _) (aC (fun hc3 => ?_) (fun hc3 => ?_))
   ·exact aN rfl rfl rfl (by grind [je])
   ·refine aB.jc rfl (Fn rfl) rfl (vZ _) (aC (fun hc4 => ?_) (fun hc4 => ?_))
    ·exact aB.jc rfl (Fn rfl) rfl (Ln _) (aN rfl rfl rfl (by have := iD t; grind [je, HF]))
    ·refine aB.jn 1 rfl (Fn rfl) rfl (sF _) (aG.ci 3 999 rfl (fun hc5 => ?_) (fun hc5 => ?_))
     ·exact aB.d1 rfl (Ex (aH rfl) rfl rfl (by decide)) (aN rfl rfl rfl (by have h2 : ((((n / 2 ^ (min ((32 : Int)).toNat IntKind.u64.bits) : Nat) : Int)) == 0) = decide (n < 4294967296) := (by rw [show 2 ^ (min ((32 : Int)).toNat IntKind.u64.bits) = 4294967296 by decide, Bool.eq_iff_iff]; simp; omega); rw [h2]; have := iD t; grind [je, c8, iX, ed]))
     ·refine aC (fun hc6 => ?_) (fun hc6 => ?_)
      ·exact aN rfl rfl rfl (by have := iD t; grind [je, c8, iX, ed])
      ·exact aN rfl rfl rfl (by have := iD t; grind [je, c8, iX, ed])
open Go Go.RowKit
theorem ao {α : Type} (p : α → Bool) : ∀ (l : List α) (k : Nat), (bI p l k = -1 ∧ l.find? p = none) ∨ ∃ (i : Nat) (h : i < l.length), bI p l k = ((k + i : Nat) : Int) ∧ l.find? p = some l[i] ∧ p l[i] = true
 | [], k => .inl ⟨rfl, rfl⟩
 | a :: l, k => by
  by_cases h : p a = true
  ·refine .inr ⟨0, by simp, ?_, ?_, h⟩
   ·simp [bI, h]
   ·simp [h]
  ·have h' : p a = false := by simpa using h
   rcases ao p l (k + 1) with ⟨h1, h2⟩ | ⟨i, hi, h1, h2, h3⟩
   ·exact .inl ⟨by simp [bI, h', h1], by simp [h', h2]⟩
   ·exact .inr ⟨i + 1, by simp; omega, by simp [bI, h', h1]; omega, by simp [h', h2], by simpa using h3⟩
def aU.fix (m : aU) (num : Int) : Option ae := m.fields.find? (fun f => f.num == num)
def aU.at (m : aU) (num : Int) : Int := bI (fun f : ae => f.num == num) m.fields 0
theorem aU.kr (m : aU) (num : Int) : (m.at num = -1 ∧ m.fix num = none) ∨ ∃ (i : Nat) (h : i < m.fields.length), m.at num = (i : Int) ∧ m.fix num = some m.fields[i] ∧ m.fields[i].num = num := by
 rcases ao (fun f : ae => f.num == num) m.fields 0 with h | ⟨i, h, h1, h2, h3⟩
 ·exact .inl h
 ·exact .inr ⟨i, h, by simpa [aU.at] using h1, h2, by simpa using h3⟩
def aU.eX (m : aU) (num : Int) : Nat := (m.at num).toNat
theorem aU.yP {m : aU} {num : Int} (h : decide (m.at num < 0) = false) : 0 ≤ m.at num := by have := of_decide_eq_false h; omega
theorem aU.yQ {m : aU} {num : Int} (h : decide (m.at num < 0) = false) : m.at num = (m.eX num : Int) := by have := of_decide_eq_false h; unfold aU.eX; omega
theorem aU.dj {m : aU} {num : Int} (h : decide (m.at num < 0) = false) : m.eX num < m.fields.length := by
 have h := of_decide_eq_false h
 rcases m.kr num with ⟨h1, _⟩ | ⟨i, hi, h1, _⟩
 ·omega
 ·unfold aU.eX; rw [h1]; simpa using hi
theorem aU.fl {m : aU} {num : Int} (h : decide (m.at num < 0) = false) : m.fix num = some (m.fields[m.eX num]'(aU.dj h)) := by
 have h' := of_decide_eq_false h
 rcases m.kr num with ⟨h1, _⟩ | ⟨i, hi, h1, h2, _⟩
 ·omega
 ·rw [h2]; congr 1; have : m.eX num = i := by unfold aU.eX; rw [h1]; simp
  simp [this]
theorem aU.Gl {m : aU} {num : Int} (h : decide (m.at num < 0) = true) : m.fix num = none := by
 have h := of_decide_eq_true h
 rcases m.kr num with ⟨h1, h2⟩ | ⟨i, hi, h1, _⟩
 ·exact h2
 ·omega
def aL.fP (s : aL) (name : aw) : Option aU := s.msgs.find? (fun m => m.name == name)
theorem aL.oY (s : aL) (name : aw) : (s.bL name = -1 ∧ s.fP name = Option.none) ∨ ∃ (i : Nat) (h : i < s.msgs.length), s.bL name = (i : Int) ∧ s.fP name = some s.msgs[i] ∧ s.msgs[i].name = name := by
 rcases ao (fun m : aU => m.name == name) s.msgs 0 with h | ⟨i, h, h1, h2, h3⟩
 ·exact .inl h
 ·exact .inr ⟨i, h, by simpa [aL.bL] using h1, h2, by simpa using h3⟩
def aL.eX (s : aL) (name : aw) : Nat := (s.bL name).toNat
theorem aL.Fq {s : aL} {name : aw} (h : decide (s.bL name < 0) = false) : 0 ≤ s.bL name := by have := of_decide_eq_false h; omega
theorem aL.Fs {s : aL} {name : aw} (h : decide (s.bL name < 0) = false) : s.bL name = (s.eX name : Int) := by have := of_decide_eq_false h; unfold aL.eX; omega
theorem aL.bV {s : aL} {name : aw} (h : decide (s.bL name < 0) = false) : s.eX name < s.msgs.length := by
 have h := of_decide_eq_false h
 rcases s.oY name with ⟨h1, _⟩ | ⟨i, hi, h1, _⟩
 ·omega
 ·unfold aL.eX; rw [h1]; simpa using hi
theorem aL.Ft {s : aL} {name : aw} (h : decide (s.bL name < 0) = false) : s.fP name = some (s.msgs[s.eX name]'(aL.bV h)) := by
 have h' := of_decide_eq_false h
 rcases s.oY name with ⟨h1, _⟩ | ⟨i, hi, h1, h2, _⟩
 ·omega
 ·rw [h2]; congr 1; have : s.eX name = i := by unfold aL.eX; rw [h1]; simp
  simp [this]
theorem aL.KK {s : aL} {name : aw} (h : decide (s.bL name < 0) = true) : s.fP name = Option.none := by
 have h := of_decide_eq_true h
 rcases s.oY name with ⟨h1, h2⟩ | ⟨i, hi, h1, _⟩
 ·exact h2
 ·omega
theorem OH {b : Bool} (h : (!b) = true) : b = false := by cases b <;> simp_all
theorem OI {b : Bool} (h : (!b) = false) : b = true := by cases b <;> simp_all
theorem G4 {a : Int} (h : decide (0 ≤ a) = true) : decide (a < 0) = false := by have := of_decide_eq_true h; simp; omega
theorem P9 {a : Int} (h : decide (0 ≤ a) = false) : decide (a < 0) = true := by have := of_decide_eq_false h; simp; omega
structure aL.AE (s : aL) : Prop where
 m : s.msgs.length ≤ 1000
 f : ∀ m ∈ s.msgs, m.fields.length ≤ 1000
 o : ∀ m ∈ s.msgs, ∀ f ∈ m.fields, f.one.length ≤ 1000
theorem OS (n : Int) : (Lit.int .i64 (IntKind.i64.wrap n)).wf = true := by
 simp only [Lit.wf, IntKind.min, IntKind.max, IntKind.wrap, IntKind.bits, IntKind.signed]; simp; omega
def ae.hidden (f : ae) : Bool := !f.rep && f.one == [] && !decide (f.ty = 15)
def Rw.right (r : Rw) : Bool := jh r.num r.wire && (if r.wire = 2 then decide (r.n = 0) else r.s == [] && (!decide (r.wire = 5) || decide (r.n < 4294967296)))
def dZ (m : aU) (r : Rw) : Bool := r.right && (m.fix r.num).isNone
def aU.oneOf (m : aU) (x : Slot) : aw := ((m.fix x.num).map (·.one)).getD []
def gJ (ones : List aw) (one : aw) : Bool := one == [] || !ones.any (· == one)
mutual
def bF.ok (s : aL) (f : ae) : bF → Bool
 | .mk n str m =>
  if pS f.ty then je f.ty n && str == [] && decide (m.length = 0)
  else if f.ty = 12 then decide (n = 0) && decide (m.length = 0) && Lib.validD str
  else if f.ty = 13 then decide (n = 0) && decide (m.length = 0)
  else if f.ty = 15 then decide (n = 0) && str == [] && fW s f.ref m
  else false
def Slot.ok (s : aL) (m : aU) : Slot → Bool
 | .mk num vs => match m.fix num with
  | none => false
  | some f => decide (0 < vs.length) && (f.rep || decide (vs.length = 1)) && jK s f vs && (!f.hidden || (!decide ((vs.head?.map bF.n).getD 0 = 0) || !((vs.head?.map bF.s).getD [] == [])))
def Tree.ok (s : aL) (name : aw) : Tree → Bool
 | .mk ss r => match s.fP name with
  | none => false
  | some m => dW s m ss none [] && r.all (dZ m)
def jK (s : aL) (f : ae) : List bF → Bool
 | [] => true
 | v :: l => v.ok s f && jK s f l
def dW (s : aL) (m : aU) : List Slot → Option Int → List aw → Bool
 | [], _, _ => true
 | x :: l, last, ones => (match last with | none => true | some n => decide (n < x.num)) && x.ok s m && gJ ones (m.oneOf x) && dW s m l (some x.num) (ones ++ [m.oneOf x])
def fW (s : aL) (name : aw) : List Tree → Bool
 | [t] => t.ok s name
 | _ => false
end
theorem bF.ok_eq (s : aL) (f : ae) (v : bF) : v.ok s f = if pS f.ty then je f.ty v.n && v.s == [] && decide (v.m.length = 0)
  else if f.ty = 12 then decide (v.n = 0) && decide (v.m.length = 0) && Lib.validD v.s
  else if f.ty = 13 then decide (v.n = 0) && decide (v.m.length = 0)
  else if f.ty = 15 then decide (v.n = 0) && v.s == [] && fW s f.ref v.m
  else false := by cases v; simp only [bF.ok, bF.n, bF.s, bF.m]; rfl
theorem Slot.ok_eq (s : aL) (m : aU) (x : Slot) : x.ok s m = match m.fix x.num with
  | none => false
  | some f => decide (0 < x.ag.length) && (f.rep || decide (x.ag.length = 1)) && jK s f x.ag && (!f.hidden || (!decide ((x.ag.head?.map bF.n).getD 0 = 0) || !((x.ag.head?.map bF.s).getD [] == []))) := by
 cases x; simp only [Slot.ok, Slot.num, Slot.ag]; rfl
theorem Tree.ok_eq (s : aL) (name : aw) (t : Tree) : t.ok s name = match s.fP name with
  | none => false
  | some m => dW s m t.aO none [] && t.rest.all (dZ m) := by cases t; simp only [Tree.ok, Tree.aO, Tree.rest]
theorem qF (s : aL) (name : aw) {l : List Tree} (h : l.length = 1) : fW s name l = (l[0]'(by omega)).ok s name := by
 match l, h with
 | [t], _ => simp [fW]
theorem rK (s : aL) (name : aw) {l : List Tree} (h : l.length ≠ 1) : fW s name l = false := by
 match l, h with
 | [], _ => simp [fW]
 | _ :: _ :: _, _ => simp [fW]
theorem rH (s : aL) (f : ae) (l : List bF) : jK s f l = l.all (bF.ok s f) := by
 induction l with
 | nil => simp [jK]
 | cons v l ih => simp [jK, ih]
def l7 (l : List Slot) (i : Nat) : Option Int := if h : 0 < i ∧ i ≤ l.length then some (l[i - 1]'(by omega)).num else none
theorem zn {l : List Slot} {i : Nat} (h : i < l.length) : l7 l (i + 1) = some l[i].num := by
 unfold l7; rw [dif_pos ⟨by omega, by omega⟩]; simp
theorem sk (l : List Slot) : l7 l 0 = none := by unfold l7; simp
theorem kb {l : List Slot} {i : Nat} (h0 : 0 < i) (h : i < l.length) : l7 l i = some (l[i - 1]'(by omega)).num := by
 unfold l7; rw [dif_pos ⟨h0, by omega⟩]
theorem Slot.qu {s : aL} {m : aU} {x : Slot} {f : ae} (hf : m.fix x.num = some f) : x.ok s m = (decide (0 < x.ag.length) && (f.rep || decide (x.ag.length = 1)) && x.ag.all fun v => v.ok s f && (!f.hidden || (!decide (v.n = 0) || !(v.s == [])))) := by
 rw [Slot.ok_eq, hf]
 simp only [rH]
 cases hv : x.ag with
 | nil => simp
 | cons v r =>
  cases hh : f.hidden with
  | false => simp
  | true =>
   have hr : f.rep = false := by unfold ae.hidden at hh; simp at hh; exact hh.1.1
   cases r with
   | nil => simp [hr]; first | done | rfl
   | cons w r => simp [hr]
theorem Slot.KG {s : aL} {m : aU} {x : Slot} (h : x.ok s m = true) : decide (m.at x.num < 0) = false := by
 by_cases hd : decide (m.at x.num < 0) = true
 ·rw [Slot.ok_eq, aU.Gl hd] at h; cases h
 ·simpa using hd
theorem Nd {l : List bF} (h : 0 < l.length) : (l.head?.map bF.n).getD 0 = l[0].n := by cases l with | nil => simp at h | cons a l => rfl
theorem Nc {l : List bF} (h : 0 < l.length) : (l.head?.map bF.s).getD [] = l[0].s := by cases l with | nil => simp at h | cons a l => rfl
theorem sU {m : aU} {l : List Slot} {one : aw} : gJ (l.map m.oneOf) one = !(l.any fun y => !(one == []) && (m.oneOf y == one)) := by
 unfold gJ
 by_cases h : one = []
 ·subst h; simp
 ·have h' : (one == []) = false := by simpa using h
  rw [h']; simp [List.any_map, Function.comp_def]
theorem D7 {l : List aw} {a : aw} : l.any (· == a) = decide (0 < l.count a) := by
 rw [Bool.eq_iff_iff]; simp [List.count_pos_iff]
theorem jE {m : aU} {x : Slot} {f : ae} (h : m.fix x.num = some f) : m.oneOf x = f.one := by unfold aU.oneOf; rw [h]; rfl
theorem yA {m : aU} {l : List Slot} {i : Nat} {f : List UInt8 → Int} {one : aw} (hi : i < l.length) (hf : ∀ key, f key = ((((l.take i).map m.oneOf).count key : Nat) : Int)) (ho : m.oneOf l[i] = one) (hb : i < 9223372036854775807) :
  ∀ key, (if key = one then IntKind.i64.wrap (f one + 1) else f key) = ((((l.take (i + 1)).map m.oneOf).count key : Nat) : Int) := by
 intro key
 rw [List.take_succ_eq_append_getElem hi, List.map_append, List.count_append]
 have hle : ((l.take i).map m.oneOf).count one ≤ i := by
  have := List.count_le_length (a := one) (l := (l.take i).map m.oneOf)
  rw [List.length_map, List.length_take] at this; omega
 split
 ·rename_i e; subst e
  rw [hf, inc (by omega)]
  simp [ho]
 ·rename_i e
  rw [hf]
  have : [l[i]].map m.oneOf = [one] := by simp [ho]
  rw [this, List.count_singleton, if_neg (by simpa using Ne.symm e)]
  simp
theorem B5 {m : aU} {l : List Slot} {i : Nat} {f : List UInt8 → Int} {one : aw} (hf : ∀ key, f key = ((((l.take i).map m.oneOf).count key : Nat) : Int)) (hb : i < 9223372036854775807) :
  decide (1 < IntKind.i64.wrap (f one + 1)) = ((l.take i).map m.oneOf).any (· == one) := by
 have hle : ((l.take i).map m.oneOf).count one ≤ i := by
  have := List.count_le_length (a := one) (l := (l.take i).map m.oneOf)
  rw [List.length_map, List.length_take] at this; omega
 have key : ∀ c : Nat, decide ((1 : Int) < ((c + 1 : Nat) : Int)) = decide (0 < c) := fun c => by rw [Bool.eq_iff_iff]; simp; omega
 rw [hf, inc (by omega), D7]
 exact key _
def iv (s : aL) (m : aU) (l : List Slot) (i : Nat) : Bool := dW s m (l.drop i) (l7 l i) ((l.take i).map m.oneOf)
theorem oD {s : aL} {m : aU} {l : List Slot} {i : Nat} (h : i < l.length) : iv s m l i = ((match l7 l i with | none => true | some n => decide (n < l[i].num)) && l[i].ok s m && gJ ((l.take i).map m.oneOf) (m.oneOf l[i]) && iv s m l (i + 1)) := by
 unfold iv
 rw [List.drop_eq_getElem_cons h, zn h, List.take_succ_eq_append_getElem h, List.map_append]
 simp [dW]
theorem qI {s : aL} {m : aU} {l : List Slot} {i : Nat} (h : l.length ≤ i) : iv s m l i = true := by
 unfold iv; rw [List.drop_of_length_le h]; simp [dW]
theorem oC (s : aL) (m : aU) (l : List Slot) : iv s m l 0 = dW s m l none [] := by
 unfold iv l7; simp
theorem ri : ∀ {l1 l2 : List Int}, l1.Pairwise (· < ·) → (∀ a ∈ l1, a ∈ l2) → l1.length ≤ l2.length
 | [], _, _, _ => by simp
 | a :: l1, l2, h, hs => by
  have ha : a ∈ l2 := hs a (by simp)
  have h2 := List.pairwise_cons.1 h
  have := ri (l1 := l1) (l2 := l2.erase a) h2.2 fun b hb => (List.mem_erase_of_ne (by have := h2.1 b hb; omega)).2 (hs b (by simp [hb]))
  rw [List.length_erase_of_mem ha] at this
  have : 0 < l2.length := List.length_pos_of_mem ha
  simp; omega
structure oZ (m : aU) (l : List Slot) (i : Nat) : Prop where
 le : i ≤ l.length
 kn : ∀ x ∈ l.take i, (m.fix x.num).isSome = true
 up : ((l.take i).map Slot.num).Pairwise (· < ·)
theorem oZ.zero (m : aU) (l : List Slot) : oZ m l 0 := ⟨by omega, by simp, by simp⟩
theorem oZ.step {m : aU} {l : List Slot} {i : Nat} (g : oZ m l i) (h : i < l.length) (hl : (match l7 l i with | none => true | some n => decide (n < l[i].num)) = true) (hf : (m.fix l[i].num).isSome = true) : oZ m l (i + 1) := by
 refine ⟨h, fun x hx => ?_, ?_⟩
 ·rw [List.take_succ_eq_append_getElem h] at hx
  rcases List.mem_append.1 hx with hx | hx
  ·exact g.kn x hx
  ·rw [List.mem_singleton.1 hx]; exact hf
 ·rw [List.take_succ_eq_append_getElem h, List.map_append, List.pairwise_append]
  refine ⟨g.up, by simp, fun a ha b hb => ?_⟩
  simp at hb
  subst hb
  by_cases h0 : 0 < i
  ·rw [kb h0 h] at hl
   have hlt : (l[i - 1]'(by omega)).num < l[i].num := by simpa using hl
   obtain ⟨j, hj, rfl⟩ := List.getElem_of_mem ha
   rw [List.length_map, List.length_take] at hj
   by_cases hji : j = i - 1
   ·subst hji; simpa using hlt
   ·have hp := List.pairwise_iff_getElem.1 g.up j (i - 1) (by simp; omega) (by simp; omega) (by omega)
    simp at hp
    simp
    omega
  ·have : i = 0 := by omega
   subst this
   simp at ha
theorem oZ.len {m : aU} {l : List Slot} {i : Nat} (g : oZ m l i) : i ≤ m.fields.length := by
 have h1 := ri (l2 := m.fields.map (·.num)) g.up fun a ha => by
  obtain ⟨x, hx, rfl⟩ := List.mem_map.1 ha
  have hk := g.kn x hx
  rcases m.kr x.num with ⟨_, h2⟩ | ⟨q, hq, _, h2, h3⟩
  ·rw [h2] at hk; cases hk
  ·exact List.mem_map.2 ⟨_, List.getElem_mem hq, h3⟩
 rw [List.length_map, List.length_map, List.length_take] at h1
 have := g.le
 omega
theorem Slot.JD {s : aL} {m : aU} {x : Slot} (h : x.ok s m = true) : (m.fix x.num).isSome = true := by
 rw [aU.fl (Slot.KG h)]; rfl
theorem E2 (f : ae) : Pure Tryz.prog 90 [f.av] (.bool f.hidden) := by
 refine Pure.go II mixed Tryz.func90 rfl rfl fun H => (aC (fun hg1 => ?_) (fun hg1 => ?_))
 ·refine aC (fun hg2 => ?_) (fun hg2 => ?_)
  ·exact aN rfl rfl rfl (by grind [ae.hidden])
  ·exact aN rfl rfl rfl (by grind [ae.hidden])
 ·exact aN rfl rfl rfl (by grind [ae.hidden])
theorem xN (f : ae) : Pure Tryz.prog 148 [f.av] (.bool f.hidden) := by
 refine Pure.go II mixed Tryz.func148 rfl rfl fun H => (aC (fun hg1 => ?_) (fun hg1 => ?_))
 ·refine aC (fun hg2 => ?_) (fun hg2 => ?_)
  ·exact aN rfl rfl rfl (by grind [ae.hidden])
  ·exact aN rfl rfl rfl (by grind [ae.hidden])
 ·exact aN rfl rfl rfl (by grind [ae.hidden])
theorem oJ (m : aU) (num : Int) (hl : m.fields.length ≤ 1000) : Pure Tryz.prog 48 [m.av, .int .i64 num] (.int .i64 (m.at num)) := by
 refine Pure.go II mixed Tryz.func48 rfl rfl fun H => (aG.lq [.s 5, .h, .s 1, .s 2, .b 2] (fun (i : Nat) => [(.s 5, .sv (.v (.int .i64 (i : Int))))]) (fun (i : Nat) => bI (fun f : ae => f.num == num) (m.fields.drop i) i = m.at num) (fun (i : Nat) => m.fields.length - i) 0 rfl rfl (by simp [aU.at]) ?_)
 rintro i hI
 refine aC (fun hc1 => ?_) (fun hc1 => ?_)
 ·have hi := cz hc1
  have hS := bo (p := (fun f : ae => f.num == num)) hi
  refine aB.ii rfl bY rfl rfl (ca hi) rfl (aC (fun hc2 => ?_) (fun hc2 => ?_))
  ·exact cC rfl rfl rfl (by grind [aU.at])
  ·exact .b1 5 rfl (inc (by omega)) rfl ⟨i + 1, by omega, by grind, rfl⟩
 ·have hi := dA hc1
  have hS := dT (p := (fun f : ae => f.num == num)) hi
  exact cC rfl rfl rfl (by grind [aU.at])
theorem EW (r : Rw) : Pure Tryz.prog 49 [r.av] (.bool r.right) := by
 refine Pure.ah Tryz.func49 rfl rfl (aH rfl) fun H => (aK.seq (aK.region (aD.run II 2 rfl (aD.nil (aK.seq (aK.seq (aK.region (aD.run II 4 rfl (aD.c1 rfl (aX (aH rfl) (Fn rfl) rfl (IA _ _)) (aD.run II 1 rfl (aD.nil (aK.cond rfl (fun hc1 => ?_) (fun hc1 => ?_)))))))))))))
 ·exact aK.seq (aK.region (aD.run II 1 rfl (aD.nil (aK.ret (aN rfl rfl rfl (by grind [Rw.right]))))))
 ·refine aK.skip (aK.seq (aK.seq (aK.region (aD.run II 3 rfl (aD.nil (aK.cond rfl (fun hc2 => ?_) (fun hc2 => ?_)))))))
  ·exact aK.seq (aK.region (aD.run II 4 rfl (aD.nil (aK.ret (aN rfl rfl rfl (by grind [Rw.right]))))))
  ·refine aK.skip (aK.seq (aK.region (aD.run II 4 rfl (aD.tell (d := 18) rfl (fun hg3 => ?_) (fun hg3 => ?_)))))
   ·refine aD.run II 4 rfl (aD.tell (d := 22) rfl (fun hg4 => ?_) (fun hg4 => ?_))
    ·exact aD.run II 6 rfl (aD.nil (aK.ret (aN rfl rfl rfl (by grind [Rw.right]))))
    ·exact aD.run II 6 rfl (aD.nil (aK.ret (aN rfl rfl rfl (by grind [Rw.right]))))
   ·exact aD.run II 10 rfl (aD.nil (aK.ret (aN rfl rfl rfl (by grind [Rw.right]))))
theorem vY (n : Int) : Pure Tryz.prog 173 [.int .i64 n] (.bool (decide (1 ≤ n) && decide (n ≤ 536870911))) := by
 refine Pure.go II mixed Tryz.func173 rfl rfl fun H => (aC (fun hg1 => ?_) (fun hg1 => ?_))
 ·exact aN rfl rfl rfl (by grind [])
 ·exact aN rfl rfl rfl (by grind [])
theorem I8 (n w : Int) : Pure Tryz.prog 149 [.int .i64 n, .int .i64 w] (.bool (jh n w)) := by
 refine Pure.go II mixed Tryz.func149 rfl rfl fun H => (aC (fun hc1 => ?_) (fun hc1 => ?_))
 ·exact aB.jc rfl (Fn rfl) rfl (vY _) (aN rfl rfl rfl (by grind [jh]))
 ·refine aC (fun hc2 => ?_) (fun hc2 => ?_)
  ·exact aB.jc rfl (Fn rfl) rfl (vY _) (aN rfl rfl rfl (by grind [jh]))
  ·refine aC (fun hc3 => ?_) (fun hc3 => ?_)
   ·exact aB.jc rfl (Fn rfl) rfl (vY _) (aN rfl rfl rfl (by grind [jh]))
   ·refine aC (fun hc4 => ?_) (fun hc4 => ?_)
    ·exact aB.jc rfl (Fn rfl) rfl (vY _) (aN rfl rfl rfl (by grind [jh]))
    ·exact aN rfl rfl rfl (by grind [jh])
theorem xL (r : Rw) : Pure Tryz.prog 98 [r.av] (.bool r.right) := by
 have h2 : ((((r.n / 2 ^ (min ((32 : Int)).toNat IntKind.u64.bits) : Nat) : Int)) == 0) = decide (r.n < 4294967296) := (by rw [show 2 ^ (min ((32 : Int)).toNat IntKind.u64.bits) = 4294967296 by decide, Bool.eq_iff_iff]; simp; omega)
 refine Pure.go II mixed Tryz.func98 rfl rfl fun H => (aB.jn 2 rfl (Fn rfl) rfl (I8 _ _) (aG.ci 999 6 rfl (fun hc1 => ?_) (fun hc1 => ?_)))
 ·exact aN rfl rfl rfl (by grind [Rw.right])
 ·refine aG.ci 999 6 rfl (fun hc2 => ?_) (fun hc2 => ?_)
  ·exact aN rfl rfl rfl (by grind [Rw.right])
  ·refine aB.ti 2 999 rfl (fun hg3 => ?_) (fun hg3 => ?_)
   ·refine aB.d1 rfl (Ex (aH rfl) rfl rfl (by decide)) (aC (fun hc4 => ?_) (fun hc4 => ?_))
    ·exact aN rfl rfl rfl (by grind [Rw.right])
    ·exact aN rfl rfl rfl (by grind [Rw.right])
   ·exact aN rfl rfl rfl (by grind [Rw.right])
theorem Lk (l : List aU) (hl : l.length ≤ 9223372036854775807) (F : FuncId) (caps : List AV) (p : aU → Bool) (hF : gj Tryz.prog F = true) (hp : ∀ x ∈ l, Pure Tryz.prog F ([x.av] ++ caps) (.bool (p x))) : Pure Tryz.prog 220 [.sl (l.map aU.av), .fn F caps] (.int .i64 (bI p l 0)) := by
 refine Pure.go II mixed Tryz.func220 rfl rfl fun H => (aG.lq [.s 8, .h, .s 0, .s 1, .s 7] (fun (i : Nat) => [(.s 8, .sv (.v (.int .i64 (i : Int))))]) (fun (i : Nat) => bI p (l.drop i) i = bI p l 0) (fun (i : Nat) => l.length - i) 0 rfl rfl (by simp) ?_)
 rintro i hI
 refine aC (fun hc1 => ?_) (fun hc1 => ?_)
 ·have hi := cz hc1
  have hS := bo (p := p) hi
  refine aB.ii rfl bW rfl rfl (ca hi) rfl (aB.d1 rfl (oP (aH rfl) hF rfl rfl (hp _ (List.getElem_mem hi))) (aC (fun hc2 => ?_) (fun hc2 => ?_)))
  ·exact cC rfl rfl rfl (by grind [])
  ·exact .b1 8 rfl (inc (by omega)) rfl ⟨i + 1, by omega, by grind, rfl⟩
 ·have hi := dA hc1
  have hS := dT (p := p) hi
  exact cC rfl rfl rfl (by grind [])
theorem Ll (l : List ae) (hl : l.length ≤ 9223372036854775807) (F : FuncId) (caps : List AV) (p : ae → Bool) (hF : gj Tryz.prog F = true) (hp : ∀ x ∈ l, Pure Tryz.prog F ([x.av] ++ caps) (.bool (p x))) : Pure Tryz.prog 225 [.sl (l.map ae.av), .fn F caps] (.int .i64 (bI p l 0)) := by
 refine Pure.go II mixed Tryz.func225 rfl rfl fun H => (aG.lq [.s 8, .h, .s 0, .s 1, .s 7] (fun (i : Nat) => [(.s 8, .sv (.v (.int .i64 (i : Int))))]) (fun (i : Nat) => bI p (l.drop i) i = bI p l 0) (fun (i : Nat) => l.length - i) 0 rfl rfl (by simp) ?_)
 rintro i hI
 refine aC (fun hc1 => ?_) (fun hc1 => ?_)
 ·have hi := cz hc1
  have hS := bo (p := p) hi
  refine aB.ii rfl bY rfl rfl (ca hi) rfl (aB.d1 rfl (oP (aH rfl) hF rfl rfl (hp _ (List.getElem_mem hi))) (aC (fun hc2 => ?_) (fun hc2 => ?_)))
  ·exact cC rfl rfl rfl (by grind [])
  ·exact .b1 8 rfl (inc (by omega)) rfl ⟨i + 1, by omega, by grind, rfl⟩
 ·have hi := dA hc1
  have hS := dT (p := p) hi
  exact cC rfl rfl rfl (by grind [])
theorem NS (m : aU) (name : aw) : Pure Tryz.prog 221 ([m.av] ++ [.kp [.str name]]) (.bool (m.name == name)) := by
 exact Pure.ah Tryz.func221 rfl rfl (aH rfl) fun H => (aK.go II mixed ⟨.inr rfl, (aM.r1 rfl (.tmp rfl .nil)).cast rfl, rfl⟩)
theorem NR (f : ae) (num : Int) : Pure Tryz.prog 226 ([f.av] ++ [.kp [.int .i64 num]]) (.bool (f.num == num)) := by
 exact Pure.ah Tryz.func226 rfl rfl (aH rfl) fun H => (aK.go II mixed ⟨.inr rfl, (aM.r1 rfl (.tmp rfl .nil)).cast rfl, rfl⟩)
theorem Ih (s : aL) (name : aw) (hl : s.msgs.length ≤ 9223372036854775807) : Pure Tryz.prog 215 [s.av, .str name] (.int .i64 (s.bL name)) := by
 exact Pure.gn 6 II mixed Tryz.func215 rfl rfl fun H => (aG.kept (Kept.zz 3 rfl rfl (Kept.now (aG.r 999 (aB.d1 rfl (lJ (aH rfl) rfl) (aB.jc rfl (Fn rfl) rfl (Lk s.msgs hl _ _ (fun m => m.name == name) (Fn rfl) (fun x _ => NS x name)) ⟨.inr rfl, (aM.r1 rfl (.tmp rfl .nil)).cast rfl, rfl⟩))))))
theorem xM (m : aU) (num : Int) (hl : m.fields.length ≤ 1000) : Pure Tryz.prog 222 [m.av, .int .i64 num] (.int .i64 (m.at num)) := by
 exact Pure.gn 6 II mixed Tryz.func222 rfl rfl fun H => (aG.kept (Kept.zz 3 rfl rfl (Kept.now (aG.r 999 (aB.d1 rfl (lJ (aH rfl) rfl) (aB.jc rfl (Fn rfl) rfl (Ll m.fields (by omega) _ _ (fun f => f.num == num) (Fn rfl) (fun x _ => NR x num)) ⟨.inr rfl, (aM.r1 rfl (.tmp rfl .nil)).cast rfl, rfl⟩))))))
end Go.Proofs.YtgmdapgedlachaaGreatDoor.X
