/- the document: what is asked of a schema. -/
import Derived.Test.YtlijgcifhhcfaaaGreatDoorZCC
import Derived.Lib.ValidU
set_option linter.unusedVariables false
set_option linter.unusedSimpArgs false
set_option linter.unusedSectionVars false
set_option maxRecDepth 100000
namespace Go.Proofs.YtlijgcifhhcfaaaGreatDoor.X
open Go Go.RowKit Go.Proofs
theorem Fo : aa Tryz.prog 111 = true := by kernel_rfl
theorem yT : aa Tryz.prog 116 = true := by kernel_rfl
theorem yS : aa Tryz.prog 117 = true := by kernel_rfl
theorem kY : aa Tryz.prog 47 = true := by kernel_rfl
theorem fp : ie Tryz.prog 113 = some 2 := by kernel_rfl
theorem bT : ie Tryz.prog 73 = some 7 := by kernel_rfl
theorem HK (s : aN) (hs : s.dW) : Pure Tryz.prog 68 [s.av] (.bool s.many) := by
 have := hs.e
 have := hs.m
 refine Pure.aL Tryz.func68 rfl rfl (aF rfl) fun H => (aC.seq (aC.region (aB.run II 2 rfl (aB.nil (aC.cI [.h, .s 1, .b 1] (fun (b : Bool) => [(.s 3, .sv (.v (.bool b)))]) (fun (b : Bool) => b = (decide (3 < s.enums.length) || decide (6 < s.msgs.length))) rfl ?_ ?_)))))
 ·refine aC.region (aB.run II 5 rfl (aB.tell (d := 10) rfl (fun hg1 => ?_) (fun hg1 => ?_)))
  ·exact aB.run II 6 rfl (aB.kept (Kept.aJ [.s 3, .h, .s 1, .b 1] rfl (by decide) (Kept.now ⟨_, by grind, rfl⟩)))
  ·exact aB.run II 6 rfl (aB.kept (Kept.aJ [.s 3, .h, .s 1, .b 1] rfl (by decide) (Kept.now ⟨_, by grind, rfl⟩)))
 ·rintro b hF2
  refine aC.seq (aC.seq (aC.region (aB.run II 1 rfl (aB.nil (aC.blk (aC.aK (Kept.aJ [.s 4, .s 3, .h, .s 1, .b 1] rfl (by decide) (Kept.now (aC.aX (fun ((i, b) : Nat × Bool) => [(.s 4, .sv (.v (.int .i64 (i : Int)))), (.s 3, .sv (.v (.bool b)))]) _ (fun ((i, b) : Nat × Bool) => (b || (s.enums.drop i).any (fun e : dk => decide (8 < e.values.length))) = (decide (3 < s.enums.length) || decide (6 < s.msgs.length) || s.enums.any (fun e : dk => decide (8 < e.values.length)))) (fun ((i, b) : Nat × Bool) => s.enums.length - i) (0, _) rfl (by grind) ?_)))))))))
  rintro ⟨i, b⟩ hI
  refine aC.seq (aC.seq (aC.region (aB.run II 5 rfl (aB.nil (aC.cond rfl (fun hc2 => ?_) (fun hc2 => ?_))))))
  ·have hi := dD hc2
   have hS := bb (p := (fun e : dk => decide (8 < e.values.length))) hi
   refine aC.skip (aC.seq (aC.blk (aC.region (aB.run II 2 rfl (aB.tell (d := 24) rfl (fun hg3 => ?_) (fun hg3 => ?_))))))
   ·exact aB.run II 10 rfl (aB.nil (aC.region (aB.run II 3 rfl (aB.kept (Kept.aY 4 rfl (inc (by omega)) (Kept.aJ [.s 4, .s 3, .h, .s 1, .b 1] rfl (by decide) (Kept.now ⟨(i + 1, _), (by dsimp only; omega), by grind, rfl⟩)))))))
   ·exact aB.run II 3 rfl (aB.g1 rfl (aF rfl) rfl rfl (aH (aF rfl) dN rfl rfl (Int.natCast_nonneg _) (cF hi) rfl) (aB.run II 6 rfl (aB.nil (aC.region (aB.run II 3 rfl (aB.kept (Kept.aY 4 rfl (inc (by omega)) (Kept.aJ [.s 4, .s 3, .h, .s 1, .b 1] rfl (by decide) (Kept.now ⟨(i + 1, _), (by dsimp only; omega), by grind, rfl⟩)))))))))
  ·have hi := dE hc2
   have hS := cE (p := (fun e : dk => decide (8 < e.values.length))) hi
   refine aC.exit (aC.seq (aC.seq (aC.region (aB.run II 1 rfl (aB.nil (aC.blk (aC.aK (Kept.aJ [.s 5, .s 3, .h, .s 1, .b 1] rfl (by decide) (Kept.now (aC.aX (fun ((k, b) : Nat × Bool) => [(.s 5, .sv (.v (.int .i64 (k : Int)))), (.s 3, .sv (.v (.bool b)))]) _ (fun ((k, b) : Nat × Bool) => (b || (s.msgs.drop k).any (fun m : aT => decide (10 < m.fields.length) || decide (8 < m.aj.length))) = s.many) (fun ((k, b) : Nat × Bool) => s.msgs.length - k) (0, _) rfl (by grind [aN.many]) ?_))))))))))
   rintro ⟨k, b⟩ hI
   refine aC.seq (aC.seq (aC.region (aB.run II 5 rfl (aB.nil (aC.cond rfl (fun hc4 => ?_) (fun hc4 => ?_))))))
   ·have hk := dD hc4
    have hS := bb (p := (fun m : aT => decide (10 < m.fields.length) || decide (8 < m.aj.length))) hk
    refine aC.skip (aC.seq (aC.blk (aC.region (aB.run II 2 rfl (aB.tell (d := 42) rfl (fun hg5 => ?_) (fun hg5 => ?_))))))
    ·exact aB.run II 20 rfl (aB.nil (aC.region (aB.run II 3 rfl (aB.kept (Kept.aY 5 rfl (inc (by omega)) (Kept.aJ [.s 5, .s 3, .h, .s 1, .b 1] rfl (by decide) (Kept.now ⟨(k + 1, _), (by dsimp only; omega), by grind, rfl⟩)))))))
    ·refine aB.run II 3 rfl (aB.g1 rfl (aF rfl) rfl rfl (aH (aF rfl) bM rfl rfl (Int.natCast_nonneg _) (cF hk) rfl) (aB.run II 6 rfl (aB.tell (d := 52) rfl (fun hg6 => ?_) (fun hg6 => ?_))))
     ·exact aB.run II 10 rfl (aB.nil (aC.region (aB.run II 3 rfl (aB.kept (Kept.aY 5 rfl (inc (by omega)) (Kept.aJ [.s 5, .s 3, .h, .s 1, .b 1] rfl (by decide) (Kept.now ⟨(k + 1, _), (by dsimp only; omega), by grind, rfl⟩)))))))
     ·exact aB.run II 3 rfl (aB.g1 rfl (aF rfl) rfl rfl (aH (aF rfl) bM rfl rfl (Int.natCast_nonneg _) (cF hk) rfl) (aB.run II 6 rfl (aB.nil (aC.region (aB.run II 3 rfl (aB.kept (Kept.aY 5 rfl (inc (by omega)) (Kept.aJ [.s 5, .s 3, .h, .s 1, .b 1] rfl (by decide) (Kept.now ⟨(k + 1, _), (by dsimp only; omega), by grind, rfl⟩)))))))))
   ·have hk := dE hc4
    have hS := cE (p := (fun m : aT => decide (10 < m.fields.length) || decide (8 < m.aj.length))) hk
    exact aC.exit (aC.seq (aC.region (aB.run II 2 rfl (aB.nil (aC.ret ⟨.inr rfl, (aE.r1 rfl (.tmp rfl .nil)).cast (congrArg AV.bool (by grind [aN.many])), rfl⟩)))))
theorem HI (s : aN) (hs : s.sm) : Pure Tryz.prog 69 [s.av] (.bool s.none) := by
 have := hs.e
 have := hs.m
 refine Pure.aL Tryz.func69 rfl rfl (aF rfl) fun H => (aC.seq (aC.region (aB.run II 2 rfl (aB.nil (aC.seq (aC.region (aB.run II 5 rfl (aB.nil (aC.seq (aC.seq (aC.region (aB.run II 1 rfl (aB.nil (aC.blk (aC.aK (Kept.aJ [.s 4, .s 3, .h, .s 1, .b 1] rfl (by decide) (Kept.now (aC.aX (fun ((i, b) : Nat × Bool) => [(.s 4, .sv (.v (.int .i64 (i : Int)))), (.s 3, .sv (.v (.bool b)))]) _ (fun ((i, b) : Nat × Bool) => (b || (s.enums.drop i).any (fun e : dk => decide (e.values.length = 0))) = s.none) (fun ((i, b) : Nat × Bool) => s.enums.length - i) (0, _) rfl (by grind [aN.none]) ?_))))))))))))))))))
 rintro ⟨i, b⟩ hI
 refine aC.seq (aC.seq (aC.region (aB.run II 5 rfl (aB.nil (aC.cond rfl (fun hc1 => ?_) (fun hc1 => ?_))))))
 ·have hi := dD hc1
  have hS := bb (p := (fun e : dk => decide (e.values.length = 0))) hi
  refine aC.skip (aC.seq (aC.blk (aC.region (aB.run II 2 rfl (aB.tell (d := 17) rfl (fun hg2 => ?_) (fun hg2 => ?_))))))
  ·exact aB.run II 10 rfl (aB.nil (aC.region (aB.run II 3 rfl (aB.kept (Kept.aY 4 rfl (inc (by omega)) (Kept.aJ [.s 4, .s 3, .h, .s 1, .b 1] rfl (by decide) (Kept.now ⟨(i + 1, _), (by dsimp only; omega), by grind, rfl⟩)))))))
  ·exact aB.run II 3 rfl (aB.g1 rfl (aF rfl) rfl rfl (aH (aF rfl) dN rfl rfl (Int.natCast_nonneg _) (cF hi) rfl) (aB.run II 6 rfl (aB.nil (aC.region (aB.run II 3 rfl (aB.kept (Kept.aY 4 rfl (inc (by omega)) (Kept.aJ [.s 4, .s 3, .h, .s 1, .b 1] rfl (by decide) (Kept.now ⟨(i + 1, _), (by dsimp only; omega), by grind, rfl⟩)))))))))
 ·have hi := dE hc1
  have hS := cE (p := (fun e : dk => decide (e.values.length = 0))) hi
  exact aC.exit (aC.seq (aC.region (aB.run II 2 rfl (aB.nil (aC.ret ⟨.inr rfl, (aE.r1 rfl (.tmp rfl .nil)).cast (congrArg AV.bool (by grind [aN.none])), rfl⟩)))))
theorem HD (s : aN) (hs : s.sm) : Pure Tryz.prog 70 [s.av] (.bool s.text) := by
 have := hs.e
 have := hs.m
 refine Pure.aL Tryz.func70 rfl rfl (aF rfl) fun H => (aC.seq (aC.region (aB.run II 2 rfl (aB.nil (aC.seq (aC.region (aB.run II 1 rfl (aB.nil (aC.seq (aC.seq (aC.region (aB.run II 1 rfl (aB.nil (aC.blk (aC.aK (Kept.aJ [.s 4, .s 3, .h, .s 1, .b 1] rfl (by decide) (Kept.now (aC.aX (fun ((i, b) : Nat × Bool) => [(.s 4, .sv (.v (.int .i64 (i : Int)))), (.s 3, .sv (.v (.bool b)))]) _ (fun ((i, b) : Nat × Bool) => (b || (s.enums.drop i).any (fun e : dk => !aq e.name || e.values.any fun v => !aq v.name)) = (s.enums.any (fun e : dk => !aq e.name || e.values.any fun v => !aq v.name))) (fun ((i, b) : Nat × Bool) => s.enums.length - i) (0, _) rfl (by grind) ?_))))))))))))))))))
 rintro ⟨i, b⟩ hI
 refine aC.seq (aC.seq (aC.region (aB.run II 5 rfl (aB.nil (aC.cond rfl (fun hc1 => ?_) (fun hc1 => ?_))))))
 ·have hi := dD hc1
  have hS := bb (p := (fun e : dk => !aq e.name || e.values.any fun v => !aq v.name)) hi
  have := hs.vi hi
  refine aC.skip (aC.seq (aC.blk (aC.cI [.h, .s 1, .b 1, .s 4] (fun (b1 : Bool) => [(.s 3, .sv (.v (.bool b1)))]) (fun (b1 : Bool) => b1 = (b || !aq s.enums[i].name)) rfl ?_ ?_)))
  ·refine aC.region (aB.run II 2 rfl (aB.tell (d := 15) rfl (fun hg2 => ?_) (fun hg2 => ?_)))
   ·exact aB.run II 10 rfl (aB.kept (Kept.aJ [.s 3, .h, .s 1, .b 1, .s 4] rfl (by decide) (Kept.now ⟨_, by grind, rfl⟩)))
   ·exact aB.run II 3 rfl (aB.g1 rfl (aF rfl) rfl rfl (aH (aF rfl) dN rfl rfl (Int.natCast_nonneg _) (cF hi) rfl) (aB.run II 2 rfl (aB.g1 rfl (aF rfl) rfl rfl (aG (aF rfl) eE rfl (dU _)) (aB.run II 3 rfl (aB.kept (Kept.aJ [.s 3, .h, .s 1, .b 1, .s 4] rfl (by decide) (Kept.now ⟨_, by grind, rfl⟩)))))))
  ·rintro b1 hF6
   refine aC.seq (aC.region (aB.run II 1 rfl (aB.nil (aC.blk (aC.aK (Kept.aJ [.s 5, .s 3, .h, .s 1, .b 1, .s 4] rfl (by decide) (Kept.now (aC.aX (fun ((k, b) : Nat × Bool) => [(.s 5, .sv (.v (.int .i64 (k : Int)))), (.s 3, .sv (.v (.bool b)))]) _ (fun ((k, b) : Nat × Bool) => (b || ((s.enums[i]'hi).values.drop k).any (fun v : jX => !aq v.name)) = (b1 || (s.enums[i]'hi).values.any (fun v : jX => !aq v.name))) (fun ((k, b) : Nat × Bool) => (s.enums[i]'hi).values.length - k) (0, _) rfl (by grind) ?_))))))))
   rintro ⟨k, b⟩ hI
   refine aC.seq (aC.seq (aC.region (aB.run II 4 rfl (aB.c1 rfl (aH (aF rfl) dN rfl rfl (Int.natCast_nonneg _) (cF hi) rfl) (aB.run II 4 rfl (aB.nil (aC.cond rfl (fun hc3 => ?_) (fun hc3 => ?_))))))))
   ·have hk := dD hc3
    have hS := bb (p := (fun v : jX => !aq v.name)) hk
    refine aC.skip (aC.seq (aC.blk (aC.region (aB.run II 2 rfl (aB.tell (d := 37) rfl (fun hg4 => ?_) (fun hg4 => ?_))))))
    ·exact aB.run II 14 rfl (aB.nil (aC.region (aB.run II 3 rfl (aB.kept (Kept.aY 5 rfl (inc (by omega)) (Kept.aJ [.s 5, .s 3, .h, .s 1, .b 1, .s 4] rfl (by decide) (Kept.now ⟨(k + 1, _), (by dsimp only; omega), by grind, rfl⟩)))))))
    ·exact aB.run II 3 rfl (aB.g1 rfl (aF rfl) rfl rfl (aH (aF rfl) dN rfl rfl (Int.natCast_nonneg _) (cF hi) rfl) (aB.run II 3 rfl (aB.g1 rfl (aF rfl) rfl rfl (aH (aF rfl) fp rfl rfl (Int.natCast_nonneg _) (cF hk) rfl) (aB.run II 2 rfl (aB.g1 rfl (aF rfl) rfl rfl (aG (aF rfl) eE rfl (dU _)) (aB.run II 3 rfl (aB.nil (aC.region (aB.run II 3 rfl (aB.kept (Kept.aY 5 rfl (inc (by omega)) (Kept.aJ [.s 5, .s 3, .h, .s 1, .b 1, .s 4] rfl (by decide) (Kept.now ⟨(k + 1, _), (by dsimp only; omega), by grind, rfl⟩)))))))))))))
   ·have hk := dE hc3
    have hS := cE (p := (fun v : jX => !aq v.name)) hk
    exact aC.exit (aC.region (aB.run II 3 rfl (aB.kept (Kept.aY 4 rfl (inc (by omega)) (Kept.aJ [.s 4, .s 3, .h, .s 1, .b 1] rfl (by decide) (Kept.now ⟨(i + 1, _), (by dsimp only; omega), by grind, rfl⟩))))))
 ·have hi := dE hc1
  have hS := cE (p := (fun e : dk => !aq e.name || e.values.any fun v => !aq v.name)) hi
  refine aC.exit (aC.seq (aC.seq (aC.region (aB.run II 1 rfl (aB.nil (aC.blk (aC.aK (Kept.aJ [.s 6, .s 3, .h, .s 1, .b 1] rfl (by decide) (Kept.now (aC.aX (fun ((j, b) : Nat × Bool) => [(.s 6, .sv (.v (.int .i64 (j : Int)))), (.s 3, .sv (.v (.bool b)))]) _ (fun ((j, b) : Nat × Bool) => (b || (s.msgs.drop j).any (fun m : aT => !aq m.name)) = s.text) (fun ((j, b) : Nat × Bool) => s.msgs.length - j) (0, _) rfl (by grind [aN.text]) ?_))))))))))
  rintro ⟨j, b⟩ hI
  refine aC.seq (aC.seq (aC.region (aB.run II 5 rfl (aB.nil (aC.cond rfl (fun hc5 => ?_) (fun hc5 => ?_))))))
  ·have hj := dD hc5
   have hS := bb (p := (fun m : aT => !aq m.name)) hj
   refine aC.skip (aC.seq (aC.blk (aC.region (aB.run II 2 rfl (aB.tell (d := 59) rfl (fun hg6 => ?_) (fun hg6 => ?_))))))
   ·exact aB.run II 10 rfl (aB.nil (aC.region (aB.run II 3 rfl (aB.kept (Kept.aY 6 rfl (inc (by omega)) (Kept.aJ [.s 6, .s 3, .h, .s 1, .b 1] rfl (by decide) (Kept.now ⟨(j + 1, _), (by dsimp only; omega), by grind, rfl⟩)))))))
   ·exact aB.run II 3 rfl (aB.g1 rfl (aF rfl) rfl rfl (aH (aF rfl) bM rfl rfl (Int.natCast_nonneg _) (cF hj) rfl) (aB.run II 2 rfl (aB.g1 rfl (aF rfl) rfl rfl (aG (aF rfl) eE rfl (dU _)) (aB.run II 3 rfl (aB.nil (aC.region (aB.run II 3 rfl (aB.kept (Kept.aY 6 rfl (inc (by omega)) (Kept.aJ [.s 6, .s 3, .h, .s 1, .b 1] rfl (by decide) (Kept.now ⟨(j + 1, _), (by dsimp only; omega), by grind, rfl⟩)))))))))))
  ·have hj := dE hc5
   have hS := cE (p := (fun m : aT => !aq m.name)) hj
   exact aC.exit (aC.seq (aC.region (aB.run II 2 rfl (aB.nil (aC.ret ⟨.inr rfl, (aE.r1 rfl (.tmp rfl .nil)).cast (congrArg AV.bool (by grind [aN.text])), rfl⟩)))))
theorem BN (s : aN) (hs : s.sm) : Pure Tryz.prog 71 [s.av] (.int .i64 (ed s.msgs)) := by
 have := hs.e
 have := hs.m
 refine Pure.aL Tryz.func71 rfl rfl (aF rfl) fun H => (aC.seq (aC.region (aB.run II 2 rfl (aB.nil (aC.seq (aC.seq (aC.region (aB.run II 1 rfl (aB.nil (aC.blk (aC.aK (Kept.aJ [.s 3, .h, .s 1, .b 1] rfl (by decide) (Kept.now (aC.aX (fun (i : Nat) => [(.s 3, .sv (.v (.int .i64 (i : Int))))]) _ (fun (i : Nat) => ed (s.msgs.drop i) = ed s.msgs) (fun (i : Nat) => s.msgs.length - i) 0 rfl (by simp) ?_))))))))))))))
 rintro i hI
 refine aC.seq (aC.seq (aC.region (aB.run II 5 rfl (aB.nil (aC.cond rfl (fun hc1 => ?_) (fun hc1 => ?_))))))
 ·have hi := dD hc1
  have hS := tH hi
  have := hs.fi hi
  have := hs.bi hi
  refine aC.skip (aC.seq (aC.blk (aC.seq (aC.region (aB.run II 1 rfl (aB.nil (aC.blk (aC.aK (Kept.aJ [.s 4, .h, .s 1, .b 1, .s 3] rfl (by decide) (Kept.now (aC.aX (fun (k : Nat) => [(.s 4, .sv (.v (.int .i64 (k : Int))))]) _ (fun (k : Nat) => cx ((s.msgs[i]'hi).fields.drop k) = cx (s.msgs[i]'hi).fields) (fun (k : Nat) => (s.msgs[i]'hi).fields.length - k) 0 rfl (by simp) ?_)))))))))))
  rintro k hK
  refine aC.seq (aC.seq (aC.region (aB.run II 4 rfl (aB.c1 rfl (aH (aF rfl) bM rfl rfl (Int.natCast_nonneg _) (cF hi) rfl) (aB.run II 4 rfl (aB.nil (aC.cond rfl (fun hc2 => ?_) (fun hc2 => ?_))))))))
  ·have hk := dD hc2
   have hT := qV hk
   refine aC.skip (aC.seq (aC.blk (aC.seq (aC.region (aB.run II 3 rfl (aB.c1 rfl (aH (aF rfl) bM rfl rfl (Int.natCast_nonneg _) (cF hi) rfl) (aB.run II 3 rfl (aB.c1 rfl (aH (aF rfl) bT rfl rfl (Int.natCast_nonneg _) (cF hk) rfl) (aB.run II 1 rfl (aB.c1 rfl (aG (aF rfl) Fo rfl (HS _)) (aB.run II 1 rfl (aB.nil (aC.seq (aC.region (aB.run II 2 rfl (aB.nil (aC.cond rfl (fun hc3 => ?_) (fun hc3 => ?_))))))))))))))))))
   ·exact aC.seq (aC.region (aB.run II 2 rfl (aB.nil (aC.ret ⟨.inr rfl, (aE.r1 rfl (.tmp rfl .nil)).cast (congrArg (AV.int .i64) (by grind [])), rfl⟩))))
   ·exact aC.skip (aC.region (aB.run II 3 rfl (aB.kept (Kept.aY 4 rfl (inc (by omega)) (Kept.aJ [.s 4, .h, .s 1, .b 1, .s 3] rfl (by decide) (Kept.now ⟨k + 1, by omega, by grind, rfl⟩))))))
  ·have hk := dE hc2
   have hT := qp hk
   exact aC.exit (aC.region (aB.run II 3 rfl (aB.kept (Kept.aY 3 rfl (inc (by omega)) (Kept.aJ [.s 3, .h, .s 1, .b 1] rfl (by decide) (Kept.now ⟨i + 1, by omega, by grind, rfl⟩))))))
 ·have hi := dE hc1
  have hS := uq hi
  exact aC.exit (aC.seq (aC.region (aB.run II 1 rfl (aB.nil (aC.ret ⟨.inr rfl, (aE.r1 rfl (.tmp rfl .nil)).cast (congrArg (AV.int .i64) (by grind [])), rfl⟩)))))
theorem BP (s : aN) (hs : s.sm) : Pure Tryz.prog 74 [s.av] (.bool s.aj) := by
 have := hs.e
 have := hs.m
 refine Pure.aL Tryz.func74 rfl rfl (aF rfl) fun H => (aC.seq (aC.region (aB.run II 2 rfl (aB.nil (aC.seq (aC.seq (aC.region (aB.run II 1 rfl (aB.nil (aC.blk (aC.aK (Kept.aJ [.s 3, .h, .s 1, .b 1] rfl (by decide) (Kept.now (aC.aX (fun (i : Nat) => [(.s 3, .sv (.v (.int .i64 (i : Int))))]) _ (fun (i : Nat) => (s.msgs.drop i).any (fun m : aT => m.fields.any fun f => m.aj.any (· == f.num)) = s.aj) (fun (i : Nat) => s.msgs.length - i) 0 rfl (by simp [aN.aj]) ?_))))))))))))))
 rintro i hI
 refine aC.seq (aC.seq (aC.region (aB.run II 5 rfl (aB.nil (aC.cond rfl (fun hc1 => ?_) (fun hc1 => ?_))))))
 ·have hi := dD hc1
  have hS := bb (p := (fun m : aT => m.fields.any fun f => m.aj.any (· == f.num))) hi
  have := hs.fi hi
  have := hs.bi hi
  refine aC.skip (aC.seq (aC.blk (aC.seq (aC.region (aB.run II 1 rfl (aB.nil (aC.blk (aC.aK (Kept.aJ [.s 4, .h, .s 1, .b 1, .s 3] rfl (by decide) (Kept.now (aC.aX (fun (k : Nat) => [(.s 4, .sv (.v (.int .i64 (k : Int))))]) _ (fun (k : Nat) => ((s.msgs[i]'hi).fields.drop k).any (fun f : ag => (s.msgs[i]'hi).aj.any (· == f.num)) = (s.msgs[i]'hi).fields.any (fun f : ag => (s.msgs[i]'hi).aj.any (· == f.num))) (fun (k : Nat) => (s.msgs[i]'hi).fields.length - k) 0 rfl (by simp) ?_)))))))))))
  rintro k hK
  refine aC.seq (aC.seq (aC.region (aB.run II 4 rfl (aB.c1 rfl (aH (aF rfl) bM rfl rfl (Int.natCast_nonneg _) (cF hi) rfl) (aB.run II 4 rfl (aB.nil (aC.cond rfl (fun hc2 => ?_) (fun hc2 => ?_))))))))
  ·have hk := dD hc2
   have hT := bb (p := (fun f : ag => (s.msgs[i]'hi).aj.any (· == f.num))) hk
   refine aC.skip (aC.seq (aC.blk (aC.seq (aC.drawn mixed rfl (aD.run II 3 rfl (aD.c1 rfl (aH (aF rfl) bM rfl rfl (Int.natCast_nonneg _) (cF hi) rfl) (aD.run II 5 rfl (aD.c1 rfl (aH (aF rfl) bM rfl rfl (Int.natCast_nonneg _) (cF hi) rfl) (aD.run II 3 rfl (aD.c1 rfl (aH (aF rfl) bT rfl rfl (Int.natCast_nonneg _) (cF hk) rfl) (aD.run II 2 rfl (aD.c1 rfl (aG (aF rfl) yT rfl (GU _ _ (by omega))) (aD.nil (by kernel_rfl) (Kept.now (aC.cond rfl (fun hc3 => ?_) (fun hc3 => ?_))))))))))))))))
   ·exact aC.seq (aC.region (aB.run II 1 rfl (aB.nil (aC.ret ⟨.inr rfl, (aE.r1 rfl (.tmp rfl .nil)).cast (congrArg AV.bool (by grind [aN.aj])), rfl⟩))))
   ·exact aC.skip (aC.region (aB.run II 3 rfl (aB.kept (Kept.aY 4 rfl (inc (by omega)) (Kept.aJ [.s 4, .h, .s 1, .b 1, .s 3] rfl (by decide) (Kept.now ⟨k + 1, by omega, by grind, rfl⟩))))))
  ·have hk := dE hc2
   have hT := cE (p := (fun f : ag => (s.msgs[i]'hi).aj.any (· == f.num))) hk
   exact aC.exit (aC.region (aB.run II 3 rfl (aB.kept (Kept.aY 3 rfl (inc (by omega)) (Kept.aJ [.s 3, .h, .s 1, .b 1] rfl (by decide) (Kept.now ⟨i + 1, by omega, by grind, rfl⟩))))))
 ·have hi := dE hc1
  have hS := cE (p := (fun m : aT => m.fields.any fun f => m.aj.any (· == f.num))) hi
  exact aC.exit (aC.seq (aC.region (aB.run II 1 rfl (aB.nil (aC.ret ⟨.inr rfl, (aE.r1 rfl (.tmp rfl .nil)).cast (congrArg AV.bool (by grind [aN.aj])), rfl⟩)))))
theorem HF (s : aN) (hs : s.sm) : Pure Tryz.prog 75 [s.av] (.bool s.refs) := by
 have := hs.e
 have := hs.m
 refine Pure.aL Tryz.func75 rfl rfl (aF rfl) fun H => (aC.seq (aC.region (aB.run II 2 rfl (aB.nil (aC.seq (aC.seq (aC.region (aB.run II 1 rfl (aB.nil (aC.blk (aC.aK (Kept.aJ [.s 3, .h, .s 1, .b 1] rfl (by decide) (Kept.now (aC.aX (fun (i : Nat) => [(.s 3, .sv (.v (.int .i64 (i : Int))))]) _ (fun (i : Nat) => (s.msgs.drop i).any (fun m : aT => m.fields.any fun f => (decide (f.ty = 14) && decide (s.eO f.ref < 0)) || (decide (f.ty = 15) && decide (s.bJ f.ref < 0))) = s.refs) (fun (i : Nat) => s.msgs.length - i) 0 rfl (by simp [aN.refs]) ?_))))))))))))))
 rintro i hI
 refine aC.seq (aC.seq (aC.region (aB.run II 5 rfl (aB.nil (aC.cond rfl (fun hc1 => ?_) (fun hc1 => ?_))))))
 ·have hi := dD hc1
  have hS := bb (p := (fun m : aT => m.fields.any fun f => (decide (f.ty = 14) && decide (s.eO f.ref < 0)) || (decide (f.ty = 15) && decide (s.bJ f.ref < 0)))) hi
  have := hs.fi hi
  have := hs.bi hi
  refine aC.skip (aC.seq (aC.blk (aC.seq (aC.region (aB.run II 1 rfl (aB.nil (aC.blk (aC.aK (Kept.aJ [.s 4, .h, .s 1, .b 1, .s 3] rfl (by decide) (Kept.now (aC.aX (fun (k : Nat) => [(.s 4, .sv (.v (.int .i64 (k : Int))))]) _ (fun (k : Nat) => ((s.msgs[i]'hi).fields.drop k).any (fun f : ag => (decide (f.ty = 14) && decide (s.eO f.ref < 0)) || (decide (f.ty = 15) && decide (s.bJ f.ref < 0))) = (s.msgs[i]'hi).fields.any (fun f : ag => (decide (f.ty = 14) && decide (s.eO f.ref < 0)) || (decide (f.ty = 15) && decide (s.bJ f.ref < 0)))) (fun (k : Nat) => (s.msgs[i]'hi).fields.length - k) 0 rfl (by simp) ?_)))))))))))
  rintro k hK
  refine aC.seq (aC.seq (aC.region (aB.run II 4 rfl (aB.c1 rfl (aH (aF rfl) bM rfl rfl (Int.natCast_nonneg _) (cF hi) rfl) (aB.run II 4 rfl (aB.nil (aC.cond rfl (fun hc2 => ?_) (fun hc2 => ?_))))))))
  ·have hk := dD hc2
   have hT := bb (p := (fun f : ag => (decide (f.ty = 14) && decide (s.eO f.ref < 0)) || (decide (f.ty = 15) && decide (s.bJ f.ref < 0)))) hk
   refine aC.skip (aC.seq (aC.blk (aC.seq (aC.region (aB.run II 3 rfl (aB.c1 rfl (aH (aF rfl) bM rfl rfl (Int.natCast_nonneg _) (cF hi) rfl) (aB.run II 3 rfl (aB.c1 rfl (aH (aF rfl) bT rfl rfl (Int.natCast_nonneg _) (cF hk) rfl) (aB.run II 3 rfl (aB.nil (aC.seq (aC.region (aB.run II 4 rfl (aB.tell (d := 36) rfl (fun hg3 => ?_) (fun hg3 => ?_)))))))))))))))
   ·refine aB.run II 3 rfl (aB.g1 rfl (aF rfl) rfl rfl (aG (aF rfl) yS rfl (uC _ _ (by omega))) (aB.run II 3 rfl (aB.tell (d := 43) rfl (fun hg4 => ?_) (fun hg4 => ?_))))
    ·exact aB.run II 11 rfl (aB.nil (aC.az rfl rfl (aC.seq (aC.region (aB.run II 1 rfl (aB.nil (aC.ret ⟨.inr rfl, (aE.r1 rfl (.tmp rfl .nil)).cast (congrArg AV.bool (by grind [aN.refs])), rfl⟩)))))))
    ·refine aB.run II 4 rfl (aB.tell (d := 47) rfl (fun hg5 => ?_) (fun hg5 => ?_))
     ·refine aB.run II 3 rfl (aB.g1 rfl (aF rfl) rfl rfl (aG (aF rfl) kY rfl (iY _ _ (by omega))) (aB.run II 3 rfl (aB.nil (aC.cond rfl (fun hc6 => ?_) (fun hc6 => ?_)))))
      ·exact aC.seq (aC.region (aB.run II 1 rfl (aB.nil (aC.ret ⟨.inr rfl, (aE.r1 rfl (.tmp rfl .nil)).cast (congrArg AV.bool (by grind [aN.refs])), rfl⟩))))
      ·exact aC.skip (aC.region (aB.run II 3 rfl (aB.kept (Kept.aY 4 rfl (inc (by omega)) (Kept.aJ [.s 4, .h, .s 1, .b 1, .s 3] rfl (by decide) (Kept.now ⟨k + 1, by omega, by grind, rfl⟩))))))
     ·exact aB.run II 7 rfl (aB.nil (aC.aZ rfl rfl (aC.skip (aC.region (aB.run II 3 rfl (aB.kept (Kept.aY 4 rfl (inc (by omega)) (Kept.aJ [.s 4, .h, .s 1, .b 1, .s 3] rfl (by decide) (Kept.now ⟨k + 1, by omega, by grind, rfl⟩)))))))))
   ·refine aB.run II 11 rfl (aB.tell (d := 47) rfl (fun hg7 => ?_) (fun hg7 => ?_))
    ·refine aB.run II 3 rfl (aB.g1 rfl (aF rfl) rfl rfl (aG (aF rfl) kY rfl (iY _ _ (by omega))) (aB.run II 3 rfl (aB.nil (aC.cond rfl (fun hc8 => ?_) (fun hc8 => ?_)))))
     ·exact aC.seq (aC.region (aB.run II 1 rfl (aB.nil (aC.ret ⟨.inr rfl, (aE.r1 rfl (.tmp rfl .nil)).cast (congrArg AV.bool (by grind [aN.refs])), rfl⟩))))
     ·exact aC.skip (aC.region (aB.run II 3 rfl (aB.kept (Kept.aY 4 rfl (inc (by omega)) (Kept.aJ [.s 4, .h, .s 1, .b 1, .s 3] rfl (by decide) (Kept.now ⟨k + 1, by omega, by grind, rfl⟩))))))
    ·exact aB.run II 7 rfl (aB.nil (aC.aZ rfl rfl (aC.skip (aC.region (aB.run II 3 rfl (aB.kept (Kept.aY 4 rfl (inc (by omega)) (Kept.aJ [.s 4, .h, .s 1, .b 1, .s 3] rfl (by decide) (Kept.now ⟨k + 1, by omega, by grind, rfl⟩)))))))))
  ·have hk := dE hc2
   have hT := cE (p := (fun f : ag => (decide (f.ty = 14) && decide (s.eO f.ref < 0)) || (decide (f.ty = 15) && decide (s.bJ f.ref < 0)))) hk
   exact aC.exit (aC.region (aB.run II 3 rfl (aB.kept (Kept.aY 3 rfl (inc (by omega)) (Kept.aJ [.s 3, .h, .s 1, .b 1] rfl (by decide) (Kept.now ⟨i + 1, by omega, by grind, rfl⟩))))))
 ·have hi := dE hc1
  have hS := cE (p := (fun m : aT => m.fields.any fun f => (decide (f.ty = 14) && decide (s.eO f.ref < 0)) || (decide (f.ty = 15) && decide (s.bJ f.ref < 0)))) hi
  exact aC.exit (aC.seq (aC.region (aB.run II 1 rfl (aB.nil (aC.ret ⟨.inr rfl, (aE.r1 rfl (.tmp rfl .nil)).cast (congrArg AV.bool (by grind [aN.refs])), rfl⟩)))))
/- the document: names that stand twice, order, what is asked of a schema. -/
theorem mi : aa Tryz.prog 112 = true := by kernel_rfl
theorem tF : aa Tryz.prog 113 = true := by kernel_rfl
theorem yU : aa Tryz.prog 114 = true := by kernel_rfl
theorem Fl : aa Tryz.prog 115 = true := by kernel_rfl
theorem CZ : fo Tryz.prog 25 1 = some 1 := by kernel_rfl
theorem IV : lk Tryz.prog 23 = some (false, 1) := by kernel_rfl
theorem kP : lk Tryz.prog 3 = some (false, 1) := by kernel_rfl
theorem CA : lk Tryz.prog 75 = some (true, 3) := by kernel_rfl
theorem bO : se Tryz.prog 106 = some (9, 1, 16) := by kernel_rfl
theorem bc : se Tryz.prog 46 = some (3, 1, 8) := by kernel_rfl
theorem vY : Tryz.prog.underlying 46 = some (TypeDesc.slice 3) := Tryz.underlying46
theorem dR : bf Tryz.prog 9 = some [AV.str []] := by kernel_rfl
theorem fj : bf Tryz.prog 3 = some [AV.int IntKind.i64 (0)] := by kernel_rfl
theorem EB (s : aN) (hs : s.sm) : Pure Tryz.prog 72 [s.av] (.bool s.iR) := by
 have := hs.e
 have := hs.m
 refine Pure.aL Tryz.func72 rfl rfl (aF rfl) fun H => (aC.seq (aC.region (aB.run II 2 rfl (aB.nil (aC.seq (aC.region (aB.c2 rfl (bF («as» := []) (aF rfl) bO dR rfl rfl rfl (gI rfl) rfl) (aB.run II 1 rfl (aB.nil (aC.seq (aC.region (aB.run II 1 rfl (aB.nil (aC.seq (aC.seq (aC.region (aB.run II 1 rfl (aB.nil (aC.blk (aC.aK (Kept.aJ [.s 5, .s 4, .s 3, .t 13, .h, .s 1, .b 1] rfl (by decide) (Kept.now ?_))))))))))))))))))))))
 refine aC.aX (fun ((i, b, a) : Nat × Bool × List AV) => [(.s 5, .sv (.v (.int .i64 (i : Int)))), (.s 4, .sv (.v (.bool b))), (.s 3, .sv (.ow 13 a)), (.t 13, .tk false 9 1 a)]) _ (fun ((i, b, a) : Nat × Bool × List AV) => a = (s.enums.take i).map (fun e : dk => AV.str e.name) ∧ (b || (s.enums.drop i).any (fun e : dk => !once (e.values.map (·.name)))) = s.enums.any (fun e : dk => !once (e.values.map (·.name)))) (fun ((i, b, a) : Nat × Bool × List AV) => s.enums.length - i) (0, _, _) rfl ⟨rfl, by grind⟩ ?_
 rintro ⟨i, b, a⟩ ⟨ha, hI⟩
 refine aC.seq (aC.seq (aC.region (aB.run II 5 rfl (aB.nil (aC.cond rfl (fun hc1 => ?_) (fun hc1 => ?_))))))
 ·have hi := dD hc1
  have hS := bb (p := (fun e : dk => !once (e.values.map (·.name)))) hi
  have := hs.vi hi
  refine aC.skip (aC.seq (aC.blk (aC.seq (aC.region (aB.run II 4 rfl (aB.c1 rfl (aH (aF rfl) dN rfl rfl (Int.natCast_nonneg _) (cF hi) rfl) (aB.run II 3 rfl (aB.c3 rfl (aV (aF rfl) bO rfl rfl rfl rfl rfl (by rw [ha]; simp; omega) (by rw [ha]; simp; omega)) ?_))))))))
  refine aB.run II 1 rfl (aB.nil (aC.seq (aC.region (aB.c2 rfl (bF («as» := []) (aF rfl) bO dR rfl rfl rfl (gI rfl) rfl) (aB.run II 1 rfl (aB.nil (aC.seq (aC.seq (aC.region (aB.run II 1 rfl (aB.nil (aC.blk (aC.aK (Kept.aJ [.s 7, .s 6, .t 30, .h, .s 1, .b 1, .s 3, .t 29, .s 4, .s 5] rfl (by decide) (Kept.now (aC.aX (fun ((k, c) : Nat × List AV) => [(.s 7, .sv (.v (.int .i64 (k : Int)))), (.s 6, .sv (.ow 30 c)), (.t 30, .tk false 9 1 c)]) _ (fun ((k, c) : Nat × List AV) => c = ((s.enums[i]'hi).values.take k).map (fun v : jX => AV.str v.name)) (fun ((k, c) : Nat × List AV) => (s.enums[i]'hi).values.length - k) (0, _) rfl rfl ?_))))))))))))))))
  rintro ⟨k, c⟩ hC
  refine aC.seq (aC.seq (aC.region (aB.run II 4 rfl (aB.c1 rfl (aH (aF rfl) dN rfl rfl (Int.natCast_nonneg _) (cF hi) rfl) (aB.run II 4 rfl (aB.nil (aC.cond rfl (fun hc2 => ?_) (fun hc2 => ?_))))))))
  ·have hk := dD hc2
   refine aC.skip (aC.seq (aC.blk (aC.region (aB.run II 4 rfl (aB.c1 rfl (aH (aF rfl) dN rfl rfl (Int.natCast_nonneg _) (cF hi) rfl) (aB.run II 3 rfl (aB.c1 rfl (aH (aF rfl) fp rfl rfl (Int.natCast_nonneg _) (cF hk) rfl) (aB.run II 3 rfl (aB.c3 rfl (aV (aF rfl) bO rfl rfl rfl rfl rfl (by rw [hC]; simp; omega) (by rw [hC]; simp; omega)) ?_)))))))))
   exact aB.run II 1 rfl (aB.nil (aC.region (aB.run II 3 rfl (aB.kept (Kept.aY 7 rfl (inc (by omega)) (Kept.aJ [.s 7, .s 6, .t 54, .h, .s 1, .b 1, .s 3, .t 29, .s 4, .s 5] rfl (by decide) (Kept.gG 54 30 (by decide) rfl (Kept.now ⟨(k + 1, _), (by dsimp only; omega), du hk hC, rfl⟩))))))))
  ·have hk := dE hc2
   have hTk := fv hk
   refine aC.exit (aC.region (aB.run II 2 rfl (aB.tell (d := 56) rfl (fun hg3 => ?_) (fun hg3 => ?_))))
   ·exact aB.run II 5 rfl (aB.nil (aC.region (aB.run II 3 rfl (aB.kept (Kept.aY 5 rfl (inc (by omega)) (Kept.aJ [.s 5, .s 4, .s 3, .t 29, .h, .s 1, .b 1] rfl (by decide) (Kept.gG 29 13 (by decide) rfl (Kept.now (⟨(i + 1, _, _), (by dsimp only; omega), ⟨du hi ha, by grind⟩, rfl⟩)))))))))
   ·refine aB.run II 1 rfl (aB.g1 rfl (aF rfl) rfl rfl (aG (aF rfl) mi rfl ((pL ((s.enums[i]'hi).values.map (·.name)) (by simp; omega)).at (by rw [hC, hTk]; simp [Function.comp_def]))) ?_)
    exact aB.run II 3 rfl (aB.nil (aC.region (aB.run II 3 rfl (aB.kept (Kept.aY 5 rfl (inc (by omega)) (Kept.aJ [.s 5, .s 4, .s 3, .t 29, .h, .s 1, .b 1] rfl (by decide) (Kept.gG 29 13 (by decide) rfl (Kept.now (⟨(i + 1, _, _), (by dsimp only; omega), ⟨du hi ha, by grind⟩, rfl⟩)))))))))
 ·have hi := dE hc1
  have hS := cE (p := (fun e : dk => !once (e.values.map (·.name)))) hi
  have hT := fv hi
  refine aC.exit (aC.seq (aC.seq (aC.region (aB.run II 1 rfl (aB.nil (aC.blk (aC.aK (Kept.aJ [.s 8, .s 4, .s 3, .t 13, .h, .s 1, .b 1] rfl (by decide) (Kept.now (aC.aX (fun ((i, b, a) : Nat × Bool × List AV) => [(.s 8, .sv (.v (.int .i64 (i : Int)))), (.s 4, .sv (.v (.bool b))), (.s 3, .sv (.ow 13 a)), (.t 13, .tk false 9 1 a)]) _ (fun ((i, b, a) : Nat × Bool × List AV) => a = s.enums.map (fun e : dk => AV.str e.name) ++ (s.msgs.take i).map (fun m : aT => AV.str m.name) ∧ (b || (s.msgs.drop i).any aT.iR) = (s.enums.any (fun e : dk => !once (e.values.map (·.name))) || s.msgs.any aT.iR)) (fun ((i, b, a) : Nat × Bool × List AV) => s.msgs.length - i) (0, _, _) rfl ⟨by grind, by grind⟩ ?_))))))))))
  rintro ⟨i, b, a⟩ ⟨ha, hI⟩
  refine aC.seq (aC.seq (aC.region (aB.run II 5 rfl (aB.nil (aC.cond rfl (fun hc4 => ?_) (fun hc4 => ?_))))))
  ·have hi := dD hc4
   have hS := bb (p := aT.iR) hi
   have := hs.fi hi
   have := hs.bi hi
   refine aC.skip (aC.seq (aC.blk (aC.seq (aC.region (aB.run II 4 rfl (aB.c1 rfl (aH (aF rfl) bM rfl rfl (Int.natCast_nonneg _) (cF hi) rfl) (aB.run II 3 rfl (aB.c3 rfl (aV (aF rfl) bO rfl rfl rfl rfl rfl (by rw [ha]; simp; omega) (by rw [ha]; simp; omega)) ?_))))))))
   refine aB.run II 1 rfl (aB.nil (aC.seq (aC.region (aB.run II 3 rfl (aB.c1 rfl (aH (aF rfl) bM rfl rfl (Int.natCast_nonneg _) (cF hi) rfl) (aB.run II 3 rfl (aB.nil (aC.seq (aC.region (aB.c2 rfl (bF («as» := []) (aF rfl) bO dR rfl rfl rfl (gI rfl) rfl) (aB.run II 1 rfl (aB.nil (aC.seq (aC.seq (aC.region (aB.run II 1 rfl (aB.nil (aC.blk (aC.aK (Kept.aJ [.s 11, .s 10, .t 83, .h, .s 1, .b 1, .s 3, .t 76, .s 4, .s 8, .s 9] rfl (by decide) (Kept.now ?_)))))))))))))))))))))
   refine aC.aX (fun ((k, c) : Nat × List AV) => [(.s 11, .sv (.v (.int .i64 (k : Int)))), (.s 10, .sv (.ow 83 c)), (.t 83, .tk false 9 1 c)]) _ (fun ((k, c) : Nat × List AV) => c = ((s.msgs[i]'hi).fields.take k).map (fun f : ag => AV.str f.name)) (fun ((k, c) : Nat × List AV) => (s.msgs[i]'hi).fields.length - k) (0, _) rfl rfl ?_
   rintro ⟨k, c⟩ hC
   refine aC.seq (aC.seq (aC.region (aB.run II 4 rfl (aB.nil (aC.cond rfl (fun hc5 => ?_) (fun hc5 => ?_))))))
   ·have hk := dD hc5
    refine aC.skip (aC.seq (aC.blk (aC.region (aB.run II 3 rfl (aB.c1 rfl (aH (aF rfl) bT rfl rfl (Int.natCast_nonneg _) (cF hk) rfl) (aB.run II 3 rfl (aB.c3 rfl (aV (aF rfl) bO rfl rfl rfl rfl rfl (by rw [hC]; simp; omega) (by rw [hC]; simp; omega)) ?_)))))))
    exact aB.run II 1 rfl (aB.nil (aC.region (aB.run II 3 rfl (aB.kept (Kept.aY 11 rfl (inc (by omega)) (Kept.aJ [.s 11, .s 10, .t 97, .h, .s 1, .b 1, .s 3, .t 76, .s 4, .s 8, .s 9] rfl (by decide) (Kept.gG 97 83 (by decide) rfl (Kept.now ⟨(k + 1, _), (by dsimp only; omega), du hk hC, rfl⟩))))))))
   ·have hk := dE hc5
    have hTk := fv hk
    refine aC.exit (aC.cI [.h, .s 1, .b 1, .s 3, .t 76, .s 8, .s 9, .s 10, .t 83] (fun (b1 : Bool) => [(.s 4, .sv (.v (.bool b1)))]) (fun (b1 : Bool) => b1 = (b || !once ((s.msgs[i]'hi).fields.map (·.name)))) rfl ?_ ?_)
    ·refine aC.region (aB.run II 2 rfl (aB.tell (d := 99) rfl (fun hg6 => ?_) (fun hg6 => ?_)))
     ·exact aB.run II 5 rfl (aB.kept (Kept.aJ [.s 4, .h, .s 1, .b 1, .s 3, .t 76, .s 8, .s 9, .s 10, .t 83] rfl (by decide) (Kept.now ⟨_, by grind, rfl⟩)))
     ·refine aB.run II 1 rfl (aB.g1 rfl (aF rfl) rfl rfl (aG (aF rfl) mi rfl ((pL ((s.msgs[i]'hi).fields.map (·.name)) (by simp; omega)).at (by rw [hC, hTk]; simp [Function.comp_def]))) ?_)
      exact aB.run II 3 rfl (aB.kept (Kept.aJ [.s 4, .h, .s 1, .b 1, .s 3, .t 76, .s 8, .s 9, .s 10, .t 83] rfl (by decide) (Kept.now ⟨_, by grind, rfl⟩)))
    ·rintro b1 hF24
     refine aC.seq (aC.region (aB.run II 1 rfl (aB.nil (aC.blk (aC.aK (Kept.aJ [.s 12, .s 4, .h, .s 1, .b 1, .s 3, .t 76, .s 8, .s 9, .s 10, .t 83] rfl (by decide) (Kept.now (aC.aX (fun ((k, b) : Nat × Bool) => [(.s 12, .sv (.v (.int .i64 (k : Int)))), (.s 4, .sv (.v (.bool b)))]) _ (fun ((k, b) : Nat × Bool) => (b || ((s.msgs[i]'hi).fields.drop k).any (fun f : ag => !(f.one == []) && !once ((s.msgs[i]'hi).fields.map (·.name) ++ [f.one]))) = (b1 || (s.msgs[i]'hi).fields.any (fun f : ag => !(f.one == []) && !once ((s.msgs[i]'hi).fields.map (·.name) ++ [f.one])))) (fun ((k, b) : Nat × Bool) => (s.msgs[i]'hi).fields.length - k) (0, _) rfl (by grind) ?_))))))))
     rintro ⟨k, b⟩ hI
     refine aC.seq (aC.seq (aC.region (aB.run II 4 rfl (aB.nil (aC.cond rfl (fun hc7 => ?_) (fun hc7 => ?_))))))
     ·have hk := dD hc7
      have hU := bb (p := (fun f : ag => !(f.one == []) && !once ((s.msgs[i]'hi).fields.map (·.name) ++ [f.one]))) hk
      refine aC.skip (aC.seq (aC.blk (aC.drawn mixed rfl (aD.run II 2 rfl (aD.tell (d := 111) rfl (fun hg8 => ?_) (fun hg8 => ?_))))))
      ·exact aD.run II 22 rfl (aD.nil (by kernel_rfl) (Kept.now (aC.region (aB.run II 3 rfl (aB.kept (Kept.aY 12 rfl (inc (by omega)) (Kept.aJ [.s 12, .s 4, .h, .s 1, .b 1, .s 3, .t 76, .s 8, .s 9, .s 10, .t 83] rfl (by decide) (Kept.now ⟨(k + 1, _), (by dsimp only; omega), by grind, rfl⟩))))))))
      ·refine aD.run II 2 rfl (aD.g1 rfl (aF rfl) rfl rfl (aH (aF rfl) bT rfl rfl (Int.natCast_nonneg _) (cF hk) rfl) (aD.run II 4 rfl (aD.tell (d := 118) rfl (fun hg9 => ?_) (fun hg9 => ?_))))
       ·refine aD.g2 rfl (aF rfl) rfl rfl (bF («as» := []) (aF rfl) bO dR rfl rfl rfl (gI rfl) rfl) (aD.run II 1 rfl (aD.g3 rfl (aF rfl) rfl rfl (aV (aF rfl) bO rfl rfl rfl (by rw [hC]; exact rV _ _) rfl (by rw [hC]; simp; omega) (by rw [hC]; simp; omega)) ?_))
        refine aD.run II 2 rfl (aD.g1 rfl (aF rfl) rfl rfl (aH (aF rfl) bT rfl rfl (Int.natCast_nonneg _) (cF hk) rfl) (aD.run II 3 rfl (aD.g3 rfl (aF rfl) rfl rfl (aV (aF rfl) bO rfl rfl rfl rfl rfl (by rw [hC]; simp; omega) (by rw [hC]; simp; omega)) ?_)))
        refine aD.g1 rfl (aF rfl) rfl rfl (aG (aF rfl) mi rfl ((pL ((s.msgs[i]'hi).fields.map (·.name) ++ [((s.msgs[i]'hi).fields[k]'hk).one]) (by simp; omega)).at (by rw [hC, hTk]; simp [Function.comp_def]))) ?_
        exact aD.run II 4 rfl (aD.nil (by kernel_rfl) (Kept.now (aC.region (aB.run II 3 rfl (aB.kept (Kept.aY 12 rfl (inc (by omega)) (Kept.aJ [.s 12, .s 4, .h, .s 1, .b 1, .s 3, .t 76, .s 8, .s 9, .s 10, .t 83] rfl (by decide) (Kept.now ⟨(k + 1, _), (by dsimp only; omega), by grind, rfl⟩))))))))
       ·exact aD.run II 15 rfl (aD.nil (by kernel_rfl) (Kept.now (aC.region (aB.run II 3 rfl (aB.kept (Kept.aY 12 rfl (inc (by omega)) (Kept.aJ [.s 12, .s 4, .h, .s 1, .b 1, .s 3, .t 76, .s 8, .s 9, .s 10, .t 83] rfl (by decide) (Kept.now ⟨(k + 1, _), (by dsimp only; omega), by grind, rfl⟩))))))))
     ·have hk := dE hc7
      have hU := cE (p := (fun f : ag => !(f.one == []) && !once ((s.msgs[i]'hi).fields.map (·.name) ++ [f.one]))) hk
      exact aC.exit (aC.region (aB.run II 3 rfl (aB.kept (Kept.aY 8 rfl (inc (by omega)) (Kept.aJ [.s 8, .s 4, .s 3, .t 76, .h, .s 1, .b 1] rfl (by decide) (Kept.gG 76 13 (by decide) rfl (Kept.now (⟨(i + 1, _, _), (by dsimp only; omega), ⟨yx hi ha, by grind [aT.iR]⟩, rfl⟩))))))))
  ·have hi := dE hc4
   have hS := cE (p := aT.iR) hi
   have hT := fv hi
   refine aC.exit (aC.seq (aC.region (aB.run II 2 rfl (aB.tell (d := 134) rfl (fun hg10 => ?_) (fun hg10 => ?_)))))
   ·exact aB.run II 5 rfl (aB.nil (aC.ret ⟨.inr rfl, (aE.r1 rfl (.tmp rfl .nil)).cast (congrArg AV.bool (by grind [aN.iR])), rfl⟩))
   ·refine aB.run II 1 rfl (aB.g1 rfl (aF rfl) rfl rfl (aG (aF rfl) mi rfl ((pL (s.enums.map (·.name) ++ s.msgs.map (·.name)) (by simp; omega)).at (by rw [ha, hT]; simp [Function.comp_def]))) ?_)
    exact aB.run II 3 rfl (aB.nil (aC.ret ⟨.inr rfl, (aE.r1 rfl (.tmp rfl .nil)).cast (congrArg AV.bool (by grind [aN.iR])), rfl⟩))
theorem HH (m : aT) (hl : m.fields.length ≤ 1000) : Pure Tryz.prog 115 [m.av] (.sl (m.fields.map (fun f : ag => AV.int .i64 f.num))) := by
 refine Pure.aL Tryz.func115 rfl rfl (aF rfl) fun H => (aC.seq (aC.region (aB.run II 2 rfl (aB.nil (aC.seq (aC.region (aB.c2 rfl (bF («as» := []) (aF rfl) bc fj rfl rfl rfl (gI rfl) rfl) (aB.run II 1 rfl (aB.nil (aC.seq (aC.seq (aC.region (aB.run II 1 rfl (aB.nil (aC.blk (aC.aK (Kept.aJ [.s 4, .s 3, .t 5, .h, .s 1, .b 1] rfl (by decide) (Kept.now (aC.aX (fun ((i, a) : Nat × List AV) => [(.s 4, .sv (.v (.int .i64 (i : Int)))), (.s 3, .sv (.ow 5 a)), (.t 5, .tk false 3 1 a)]) _ (fun ((i, a) : Nat × List AV) => a = (m.fields.take i).map (fun f : ag => AV.int .i64 f.num)) (fun ((i, a) : Nat × List AV) => m.fields.length - i) (0, _) rfl rfl ?_)))))))))))))))))))
 rintro ⟨i, a⟩ ha
 refine aC.seq (aC.seq (aC.region (aB.run II 5 rfl (aB.nil (aC.cond rfl (fun hc1 => ?_) (fun hc1 => ?_))))))
 ·have hi := dD hc1
  refine aC.skip (aC.seq (aC.blk (aC.region (aB.run II 4 rfl (aB.c1 rfl (aH (aF rfl) bT rfl rfl (Int.natCast_nonneg _) (cF hi) rfl) (aB.run II 3 rfl (aB.c3 rfl (aV (aF rfl) bc rfl rfl rfl rfl rfl (by rw [ha]; simp; omega) (by rw [ha]; simp; omega)) ?_)))))))
  exact aB.run II 1 rfl (aB.nil (aC.region (aB.run II 3 rfl (aB.kept (Kept.aY 4 rfl (inc (by omega)) (Kept.aJ [.s 4, .s 3, .t 21, .h, .s 1, .b 1] rfl (by decide) (Kept.gG 21 5 (by decide) rfl (Kept.now ⟨(i + 1, _), (by dsimp only; omega), du hi ha, rfl⟩))))))))
 ·have hi := dE hc1
  have hT := fv hi
  exact aC.exit (aC.seq (aC.region (aB.run II 2 rfl (aB.nil (aC.ret ⟨.inr rfl, (aE.r1 rfl (.tmp rfl .nil)).cast (by rw [ha, hT]), rfl⟩)))))
theorem EN (s : aN) (hs : s.sm) (hn : ∀ x ∈ s.enums, 0 < x.values.length) : Pure Tryz.prog 73 [s.av] (.bool s.order) := by
 have := hs.e
 have := hs.m
 refine Pure.aL Tryz.func73 rfl rfl (aF rfl) fun H => (aC.seq (aC.region (aB.run II 2 rfl (aB.nil (aC.seq (aC.region (aB.run II 1 rfl (aB.nil (aC.seq (aC.region (aB.c2 rfl (bF («as» := []) (aF rfl) bO dR rfl rfl rfl (gI rfl) rfl) (aB.run II 1 rfl (aB.nil (aC.seq (aC.seq (aC.region (aB.run II 1 rfl (aB.nil (aC.blk (aC.aK (Kept.aJ [.s 5, .s 3, .s 4, .t 10, .h, .s 1, .b 1] rfl (by decide) (Kept.now ?_))))))))))))))))))))))
 refine aC.aX (fun ((i, b, a) : Nat × Bool × List AV) => [(.s 5, .sv (.v (.int .i64 (i : Int)))), (.s 3, .sv (.v (.bool b))), (.s 4, .sv (.ow 10 a)), (.t 10, .tk false 9 1 a)]) _ (fun ((i, b, a) : Nat × Bool × List AV) => a = (s.enums.take i).map (fun e : dk => AV.str e.name) ∧ (b || (s.enums.drop i).any dk.order) = s.enums.any dk.order) (fun ((i, b, a) : Nat × Bool × List AV) => s.enums.length - i) (0, _, _) rfl ⟨rfl, by simp⟩ ?_
 rintro ⟨i, b, a⟩ ⟨ha, hI⟩
 refine aC.seq (aC.seq (aC.region (aB.run II 5 rfl (aB.nil (aC.cond rfl (fun hc1 => ?_) (fun hc1 => ?_))))))
 ·have hi := dD hc1
  have hS := bb (p := dk.order) hi
  have := hs.vi hi
  have hv0 : 0 < (s.enums[i]'hi).values.length := hn _ (List.getElem_mem hi)
  have hO := dk.nG hv0
  refine aC.skip (aC.seq (aC.blk (aC.seq (aC.region (aB.run II 4 rfl (aB.c1 rfl (aH (aF rfl) dN rfl rfl (Int.natCast_nonneg _) (cF hi) rfl) (aB.run II 3 rfl (aB.c3 rfl (aV (aF rfl) bO rfl rfl rfl rfl rfl (by rw [ha]; simp; omega) (by rw [ha]; simp; omega)) ?_))))))))
  refine aB.run II 1 rfl (aB.nil (aC.seq (aC.region (aB.c2 rfl (bF («as» := []) (aF rfl) bc fj rfl rfl rfl (gI rfl) rfl) (aB.run II 1 rfl (aB.nil (aC.seq (aC.seq (aC.region (aB.run II 1 rfl (aB.nil (aC.blk (aC.aK (Kept.aJ [.s 7, .s 6, .t 27, .h, .s 1, .b 1, .s 3, .s 4, .t 26, .s 5] rfl (by decide) (Kept.now (aC.aX (fun ((k, c) : Nat × List AV) => [(.s 7, .sv (.v (.int .i64 (k : Int)))), (.s 6, .sv (.ow 27 c)), (.t 27, .tk false 3 1 c)]) _ (fun ((k, c) : Nat × List AV) => c = ((s.enums[i]'hi).values.take k).map (fun v : jX => AV.int .i64 v.num)) (fun ((k, c) : Nat × List AV) => (s.enums[i]'hi).values.length - k) (0, _) rfl rfl ?_))))))))))))))))
  rintro ⟨k, c⟩ hC
  refine aC.seq (aC.seq (aC.region (aB.run II 4 rfl (aB.c1 rfl (aH (aF rfl) dN rfl rfl (Int.natCast_nonneg _) (cF hi) rfl) (aB.run II 4 rfl (aB.nil (aC.cond rfl (fun hc2 => ?_) (fun hc2 => ?_))))))))
  ·have hk := dD hc2
   refine aC.skip (aC.seq (aC.blk (aC.region (aB.run II 4 rfl (aB.c1 rfl (aH (aF rfl) dN rfl rfl (Int.natCast_nonneg _) (cF hi) rfl) (aB.run II 3 rfl (aB.c1 rfl (aH (aF rfl) fp rfl rfl (Int.natCast_nonneg _) (cF hk) rfl) (aB.run II 3 rfl (aB.c3 rfl (aV (aF rfl) bc rfl rfl rfl rfl rfl (by rw [hC]; simp; omega) (by rw [hC]; simp; omega)) ?_)))))))))
   exact aB.run II 1 rfl (aB.nil (aC.region (aB.run II 3 rfl (aB.kept (Kept.aY 7 rfl (inc (by omega)) (Kept.aJ [.s 7, .s 6, .t 51, .h, .s 1, .b 1, .s 3, .s 4, .t 26, .s 5] rfl (by decide) (Kept.gG 51 27 (by decide) rfl (Kept.now ⟨(k + 1, _), (by dsimp only; omega), du hk hC, rfl⟩))))))))
  ·have hk := dE hc2
   have hC2 : c = (s.enums[i]'hi).values.map (fun v : jX => AV.int .i64 v.num) := by rw [hC, fv hk]
   refine aC.exit (aC.region (aB.run II 2 rfl (aB.split (d := 53) rfl (fun hg3 => ?_) (fun hg3 => ?_))))
   ·iterate 3 (refine aB.gw rfl rfl (aF rfl) (aF rfl) rfl hg3 ?_)
    exact aB.c1 rfl (cf (aF rfl) rfl hg3 rfl) (aB.run II 16 rfl (aB.nil (aC.region (aB.run II 3 rfl (aB.kept (Kept.aY 5 rfl (inc (by omega)) (Kept.aJ [.s 5, .s 3, .s 4, .t 26, .h, .s 1, .b 1] rfl (by decide) (Kept.gG 26 10 (by decide) rfl (Kept.now (⟨(i + 1, _, _), (by dsimp only; omega), ⟨du hi ha, by clear ha hC hC2 hn; grind⟩, rfl⟩))))))))))
   ·refine aB.g1 rfl (aF rfl) rfl hg3 (eQ (aF rfl) rfl) (aB.g1 rfl (aF rfl) rfl hg3 (aG (aF rfl) tF rfl ((sS ((s.enums[i]'hi).values.map (·.num)) (by simp; omega)).at (by rw [hC2]; simp [jj, Function.comp_def]))) ?_)
    refine aB.g1 rfl (aF rfl) rfl hg3 (pW (aF rfl) rfl rfl) (aB.c1 rfl (cg (aF rfl) rfl hg3 rfl) (aB.run II 1 rfl (aB.split (d := 58) rfl (fun hg4 => ?_) (fun hg4 => ?_))))
    ·iterate 4 (refine aB.gw rfl rfl (aF rfl) (aF rfl) rfl hg4 ?_)
     exact aB.c1 rfl (cf (aF rfl) rfl hg4 rfl) (aB.run II 10 rfl (aB.nil (aC.region (aB.run II 3 rfl (aB.kept (Kept.aY 5 rfl (inc (by omega)) (Kept.aJ [.s 5, .s 3, .s 4, .t 26, .h, .s 1, .b 1] rfl (by decide) (Kept.gG 26 10 (by decide) rfl (Kept.now (⟨(i + 1, _, _), (by dsimp only; omega), ⟨du hi ha, by clear ha hC hC2 hn; grind⟩, rfl⟩))))))))))
    ·refine aB.g1 rfl (aF rfl) rfl hg4 (eQ (aF rfl) rfl) (aB.g1 rfl (aF rfl) rfl hg4 (aH (aF rfl) cm rfl rfl (by decide) (LK (i := 0) hC2 hv0) rfl) (aB.g1 rfl (aF rfl) rfl hg4 (nH (aF rfl) kP rfl rfl) (aB.g1 rfl (aF rfl) rfl hg4 (db (aF rfl) rfl rfl rfl) (aB.c1 rfl (cg (aF rfl) rfl hg4 rfl) (aB.run II 1 rfl (aB.split (d := 64) rfl (fun hg5 => ?_) (fun hg5 => ?_)))))))
     ·iterate 7 (refine aB.gw rfl rfl (aF rfl) (aF rfl) rfl hg5 ?_)
      exact aB.c1 rfl (cf (aF rfl) rfl hg5 rfl) (aB.run II 1 rfl (aB.nil (aC.region (aB.run II 3 rfl (aB.kept (Kept.aY 5 rfl (inc (by omega)) (Kept.aJ [.s 5, .s 3, .s 4, .t 26, .h, .s 1, .b 1] rfl (by decide) (Kept.gG 26 10 (by decide) rfl (Kept.now (⟨(i + 1, _, _), (by dsimp only; omega), ⟨du hi ha, by clear ha hC hC2 hn; grind⟩, rfl⟩))))))))))
     ·iterate 2 (refine aB.g1 rfl (aF rfl) rfl hg5 (eQ (aF rfl) rfl) ?_)
      refine aB.g1 rfl (aF rfl) rfl hg5 (mW (aF rfl) vY rfl) (aB.g1 rfl (aF rfl) rfl hg5 (db (aF rfl) rfl rfl rfl) (aB.g1 rfl (aF rfl) rfl hg5 (aH (aF rfl) cm rfl rfl (by rw [hC2, List.length_map, oI hv0 (by omega)]; exact Int.natCast_nonneg _) (KB (i := (s.enums[i]'hi).values.length - 1) (by rw [hC2, List.length_map]; exact oI hv0 (by omega)) hC2 (by omega)) rfl) ?_))
      exact aB.g1 rfl (aF rfl) rfl hg5 (nH (aF rfl) kP rfl rfl) (aB.g1 rfl (aF rfl) rfl hg5 (db (aF rfl) rfl rfl rfl) (aB.c1 rfl (cg (aF rfl) rfl hg5 rfl) (aB.run II 1 rfl (aB.nil (aC.region (aB.run II 3 rfl (aB.kept (Kept.aY 5 rfl (inc (by omega)) (Kept.aJ [.s 5, .s 3, .s 4, .t 26, .h, .s 1, .b 1] rfl (by decide) (Kept.gG 26 10 (by decide) rfl (Kept.now (⟨(i + 1, _, _), (by dsimp only; omega), ⟨du hi ha, by clear ha hC hC2 hn; grind⟩, rfl⟩))))))))))))
 ·have hi := dE hc1
  have hS := cE (p := dk.order) hi
  have hT := fv hi
  refine aC.exit (aC.cI [.h, .s 1, .b 1] (fun (b1 : Bool) => [(.s 3, .sv (.v (.bool b1)))]) (fun (b1 : Bool) => b1 = (s.enums.any dk.order || !kH (s.enums.map (·.name)))) rfl ?_ ?_)
  ·refine aC.region (aB.run II 2 rfl (aB.split (d := 74) rfl (fun hg6 => ?_) (fun hg6 => ?_)))
   ·iterate 3 (refine aB.gw rfl rfl (aF rfl) (aF rfl) rfl hg6 ?_)
    exact aB.c1 rfl (cf (aF rfl) rfl hg6 rfl) (aB.run II 1 rfl (aB.kept (Kept.aJ [.s 3, .h, .s 1, .b 1] rfl (by decide) (Kept.now ⟨_, by grind, rfl⟩))))
   ·refine aB.g1 rfl (aF rfl) rfl hg6 (eQ (aF rfl) rfl) (aB.g1 rfl (aF rfl) rfl hg6 (aG (aF rfl) yU rfl ((x8 (s.enums.map (·.name)) (by simp; omega)).at (by rw [ha, hT]; simp [Function.comp_def]))) ?_)
    exact aB.g1 rfl (aF rfl) rfl hg6 (pW (aF rfl) rfl rfl) (aB.c1 rfl (cg (aF rfl) rfl hg6 rfl) (aB.run II 1 rfl (aB.kept (Kept.aJ [.s 3, .h, .s 1, .b 1] rfl (by decide) (Kept.now ⟨_, by grind, rfl⟩)))))
  ·rintro b1 hF14
   refine aC.seq (aC.region (aB.c2 rfl (bF («as» := []) (aF rfl) bO dR rfl rfl rfl (gI rfl) rfl) (aB.run II 1 rfl (aB.nil (aC.seq (aC.seq (aC.region (aB.run II 1 rfl (aB.nil (aC.blk (aC.aK (Kept.aJ [.s 8, .s 3, .s 4, .t 79, .h, .s 1, .b 1] rfl (by decide) (Kept.now (aC.aX (fun ((i, b, a) : Nat × Bool × List AV) => [(.s 8, .sv (.v (.int .i64 (i : Int)))), (.s 3, .sv (.v (.bool b))), (.s 4, .sv (.ow 79 a)), (.t 79, .tk false 9 1 a)]) _ (fun ((i, b, a) : Nat × Bool × List AV) => a = ((s.msgs.take i).drop 1).map (fun m : aT => AV.str m.name) ∧ (b || (s.msgs.drop i).any aT.order) = (s.enums.any dk.order || !kH (s.enums.map (·.name)) || s.msgs.any aT.order)) (fun ((i, b, a) : Nat × Bool × List AV) => s.msgs.length - i) (0, _, _) rfl ⟨by simp, by grind⟩ ?_))))))))))))))
   rintro ⟨i, b, a⟩ ⟨ha, hI⟩
   refine aC.seq (aC.seq (aC.region (aB.run II 5 rfl (aB.nil (aC.cond rfl (fun hc7 => ?_) (fun hc7 => ?_))))))
   ·have hi := dD hc7
    have hS := bb (p := aT.order) hi
    have := hs.fi hi
    have := hs.bi hi
    have hO1 := aT.nG (m := (s.msgs[i]'hi))
    have hO2 := aT.zb (m := (s.msgs[i]'hi))
    refine aC.skip (aC.seq (aC.blk (aC.cI [.h, .s 1, .b 1, .s 3, .s 8] (fun (a2 : List AV) => [(.s 4, .sv (.ow 79 a2)), (.t 79, .tk false 9 1 a2)]) (fun (a2 : List AV) => a2 = ((s.msgs.take (i + 1)).drop 1).map (fun m : aT => AV.str m.name)) rfl ?_ ?_)))
    ·refine aC.seq (aC.region (aB.run II 2 rfl (aB.nil (aC.cond rfl (fun hc8 => ?_) (fun hc8 => ?_)))))
     ·refine aC.region (aB.run II 4 rfl (aB.c1 rfl (aH (aF rfl) bM rfl rfl (Int.natCast_nonneg _) (cF hi) rfl) (aB.run II 3 rfl (aB.c3 rfl (aV (aF rfl) bO rfl rfl rfl rfl rfl (by rw [ha]; simp; omega) (by rw [ha]; simp; omega)) ?_))))
      exact aB.run II 1 rfl (aB.kept (Kept.aJ [.s 4, .t 97, .h, .s 1, .b 1, .s 3, .s 8] rfl (by decide) (Kept.gG 97 79 (by decide) rfl (Kept.now ⟨a ++ [AV.str (s.msgs[i]'hi).name], (by rw [v7 (by have := of_decide_eq_true hc8; omega) hi, List.map_append, ha]; rfl), rfl⟩))))
     ·exact aC.aK (Kept.aJ [.s 4, .t 79, .h, .s 1, .b 1, .s 3, .s 8] rfl (by decide) (Kept.now (aC.skip ⟨a, (by have h0 : i = 0 := (by have := of_decide_eq_false hc8; omega); subst h0; rw [v8, ha]; simp), rfl⟩)))
    ·rintro a2 ha2
     refine aC.seq (aC.region (aB.run II 3 rfl (aB.c1 rfl (aH (aF rfl) bM rfl rfl (Int.natCast_nonneg _) (cF hi) rfl) (aB.run II 3 rfl (aB.nil (aC.cI [.h, .s 1, .b 1, .s 4, .t 79, .s 8, .s 9] (fun (b1 : Bool) => [(.s 3, .sv (.v (.bool b1)))]) (fun (b1 : Bool) => b1 = (b || !ek ((s.msgs[i]'hi).fields.map (·.num)) || !ek (s.msgs[i]'hi).aj)) rfl ?_ ?_))))))
     ·refine aC.region (aB.run II 2 rfl (aB.split (d := 105) rfl (fun hg9 => ?_) (fun hg9 => ?_)))
      ·iterate 8 (refine aB.gw rfl rfl (aF rfl) (aF rfl) rfl hg9 ?_)
       exact aB.c1 rfl (cf (aF rfl) rfl hg9 rfl) (aB.run II 6 rfl (aB.kept (Kept.aJ [.s 3, .h, .s 1, .b 1, .s 4, .t 79, .s 8, .s 9] rfl (by decide) (Kept.now ⟨_, by grind, rfl⟩))))
      ·refine aB.g1 rfl (aF rfl) rfl hg9 (sd (aF rfl) CZ rfl) (aB.g1 rfl (aF rfl) rfl hg9 (lY (aF rfl) IV rfl rfl rfl) (aB.g1 rfl (aF rfl) rfl hg9 (eQ (aF rfl) rfl) (aB.g1 rfl (aF rfl) rfl hg9 (aH (aF rfl) bM rfl rfl (Int.natCast_nonneg _) (cF hi) rfl) (aB.g1 rfl (aF rfl) rfl hg9 (nH (aF rfl) CA rfl rfl) (aB.g1 rfl (aF rfl) rfl hg9 (aG (aF rfl) Fl rfl (HH _ (by omega))) (aB.g1 rfl (aF rfl) rfl hg9 (aG (aF rfl) tF rfl ((sS ((s.msgs[i]'hi).fields.map (·.num)) (by simp; omega)).at (by simp [jj, Function.comp_def]))) ?_))))))
       refine aB.g1 rfl (aF rfl) rfl hg9 (pW (aF rfl) rfl rfl) (aB.c1 rfl (cg (aF rfl) rfl hg9 rfl) (aB.run II 1 rfl (aB.split (d := 115) rfl (fun hg10 => ?_) (fun hg10 => ?_))))
       ·iterate 3 (refine aB.gw rfl rfl (aF rfl) (aF rfl) rfl hg10 ?_)
        exact aB.c1 rfl (cf (aF rfl) rfl hg10 rfl) (aB.run II 1 rfl (aB.kept (Kept.aJ [.s 3, .h, .s 1, .b 1, .s 4, .t 79, .s 8, .s 9] rfl (by decide) (Kept.now ⟨_, by grind, rfl⟩))))
       ·exact aB.g1 rfl (aF rfl) rfl hg10 (eQ (aF rfl) rfl) (aB.g1 rfl (aF rfl) rfl hg10 (aG (aF rfl) tF rfl (sS (s.msgs[i]'hi).aj (by omega))) (aB.g1 rfl (aF rfl) rfl hg10 (pW (aF rfl) rfl rfl) (aB.c1 rfl (cg (aF rfl) rfl hg10 rfl) (aB.run II 1 rfl (aB.kept (Kept.aJ [.s 3, .h, .s 1, .b 1, .s 4, .t 79, .s 8, .s 9] rfl (by decide) (Kept.now ⟨_, by grind, rfl⟩)))))))
     ·rintro b1 hF22
      refine aC.region (aB.run II 2 rfl (aB.split (d := 121) rfl (fun hg11 => ?_) (fun hg11 => ?_)))
      ·iterate 4 (refine aB.gw rfl rfl (aF rfl) (aF rfl) rfl hg11 ?_)
       exact aB.run II 13 rfl (aB.gw rfl rfl (aF rfl) (aF rfl) rfl hg11 (aB.c1 rfl (cf (aF rfl) rfl hg11 rfl) (aB.run II 1 rfl (aB.nil (aC.region (aB.run II 3 rfl (aB.kept (Kept.aY 8 rfl (inc (by omega)) (Kept.aJ [.s 8, .s 3, .s 4, .t 79, .h, .s 1, .b 1] rfl (by decide) (Kept.now (⟨(i + 1, _, _), (by dsimp only; omega), ⟨ha2, by clear ha ha2 hn; grind⟩, rfl⟩)))))))))))
      ·refine aB.g1 rfl (aF rfl) rfl hg11 (eQ (aF rfl) rfl) (aB.g1 rfl (aF rfl) rfl hg11 (mW (aF rfl) vY rfl) (aB.g1 rfl (aF rfl) rfl hg11 (db (aF rfl) rfl rfl rfl) (aB.g1 rfl (aF rfl) rfl hg11 (eQ (aF rfl) rfl) (aB.split (d := 125) rfl (fun hg12 => ?_) (fun hg12 => ?_)))))
       ·refine aB.g1 rfl (aF rfl) rfl hg12 (eQ (aF rfl) rfl) (aB.g1 rfl (aF rfl) rfl hg12 (aH (aF rfl) cm rfl rfl (by decide) (cF (i := 0) (by have := of_decide_eq_true hg12; rw [List.length_map] at this; omega)) rfl) ?_)
        refine aB.g1 rfl (aF rfl) rfl hg12 (nH (aF rfl) kP rfl rfl) (aB.g1 rfl (aF rfl) rfl hg12 (db (aF rfl) rfl rfl rfl) (aB.g1 rfl (aF rfl) rfl hg12 (eQ (aF rfl) rfl) (aB.split (d := 130) rfl (fun hg13 => ?_) (fun hg13 => ?_))))
        ·iterate 7 (refine aB.gw rfl rfl (aF rfl) (aF rfl) rfl hg13 ?_)
         exact aB.g1 rfl (aF rfl) rfl hg12 (cf (aF rfl) rfl hg13 rfl) (aB.g1 rfl (aF rfl) rfl hg11 (cf (aF rfl) rfl hg12 rfl) (aB.c1 rfl (cg (aF rfl) rfl hg11 rfl) (aB.run II 1 rfl (aB.nil (aC.region (aB.run II 3 rfl (aB.kept (Kept.aY 8 rfl (inc (by omega)) (Kept.aJ [.s 8, .s 3, .s 4, .t 79, .h, .s 1, .b 1] rfl (by decide) (Kept.now (⟨(i + 1, _, _), (by dsimp only; omega), ⟨ha2, by clear ha ha2 hn; grind⟩, rfl⟩)))))))))))
        ·iterate 2 (refine aB.g1 rfl (aF rfl) rfl hg13 (eQ (aF rfl) rfl) ?_)
         refine aB.g1 rfl (aF rfl) rfl hg13 (mW (aF rfl) vY rfl) (aB.g1 rfl (aF rfl) rfl hg13 (db (aF rfl) rfl rfl rfl) (aB.g1 rfl (aF rfl) rfl hg13 (aH (aF rfl) cm rfl rfl (by rw [List.length_map, oI (by have := of_decide_eq_true hg12; rw [List.length_map] at this; omega) (by omega)]; exact Int.natCast_nonneg _) (qF (i := (s.msgs[i]'hi).aj.length - 1) (by rw [List.length_map]; exact oI (by have := of_decide_eq_true hg12; rw [List.length_map] at this; omega) (by omega)) (by have := of_decide_eq_true hg12; rw [List.length_map] at this; omega)) rfl) ?_))
         exact aB.g1 rfl (aF rfl) rfl hg13 (nH (aF rfl) kP rfl rfl) (aB.g1 rfl (aF rfl) rfl hg13 (db (aF rfl) rfl rfl rfl) (aB.g1 rfl (aF rfl) rfl hg12 (cg (aF rfl) rfl hg13 rfl) (aB.g1 rfl (aF rfl) rfl hg11 (cf (aF rfl) rfl hg12 rfl) (aB.c1 rfl (cg (aF rfl) rfl hg11 rfl) (aB.run II 1 rfl (aB.nil (aC.region (aB.run II 3 rfl (aB.kept (Kept.aY 8 rfl (inc (by omega)) (Kept.aJ [.s 8, .s 3, .s 4, .t 79, .h, .s 1, .b 1] rfl (by decide) (Kept.now (⟨(i + 1, _, _), (by dsimp only; omega), ⟨ha2, by clear ha ha2 hn; grind⟩, rfl⟩)))))))))))))
       ·iterate 5 (refine aB.gw rfl rfl (aF rfl) (aF rfl) rfl hg12 ?_)
        exact aB.run II 7 rfl (aB.gw rfl rfl (aF rfl) (aF rfl) rfl hg12 (aB.g1 rfl (aF rfl) rfl hg11 (cg (aF rfl) rfl hg12 rfl) (aB.c1 rfl (cg (aF rfl) rfl hg11 rfl) (aB.run II 1 rfl (aB.nil (aC.region (aB.run II 3 rfl (aB.kept (Kept.aY 8 rfl (inc (by omega)) (Kept.aJ [.s 8, .s 3, .s 4, .t 79, .h, .s 1, .b 1] rfl (by decide) (Kept.now (⟨(i + 1, _, _), (by dsimp only; omega), ⟨ha2, by clear ha ha2 hn; grind⟩, rfl⟩))))))))))))
   ·have hi := dE hc7
    have hS := cE (p := aT.order) hi
    have hT := fv hi
    refine aC.exit (aC.seq (aC.region (aB.run II 2 rfl (aB.split (d := 142) rfl (fun hg14 => ?_) (fun hg14 => ?_)))))
    ·iterate 3 (refine aB.gw rfl rfl (aF rfl) (aF rfl) rfl hg14 ?_)
     exact aB.c1 rfl (cf (aF rfl) rfl hg14 rfl) (aB.run II 1 rfl (aB.nil (aC.ret ⟨.inr rfl, (aE.r1 rfl (.tmp rfl .nil)).cast (congrArg AV.bool (by grind [aN.order])), rfl⟩)))
    ·refine aB.g1 rfl (aF rfl) rfl hg14 (eQ (aF rfl) rfl) (aB.g1 rfl (aF rfl) rfl hg14 (aG (aF rfl) yU rfl ((x8 ((s.msgs.drop 1).map (·.name)) (by simp; omega)).at (by rw [ha, hT]; simp [Function.comp_def]))) ?_)
     exact aB.g1 rfl (aF rfl) rfl hg14 (pW (aF rfl) rfl rfl) (aB.c1 rfl (cg (aF rfl) rfl hg14 rfl) (aB.run II 1 rfl (aB.nil (aC.ret ⟨.inr rfl, (aE.r1 rfl (.tmp rfl .nil)).cast (congrArg AV.bool (by grind [aN.order])), rfl⟩))))
/- the document: a schema checked; values: how great, the same, how deep. -/
theorem Cf : aa Tryz.prog 37 = true := by kernel_rfl
theorem It : aa Tryz.prog 68 = true := by kernel_rfl
theorem Is : aa Tryz.prog 69 = true := by kernel_rfl
theorem Ir : aa Tryz.prog 70 = true := by kernel_rfl
theorem Iq : aa Tryz.prog 71 = true := by kernel_rfl
theorem Ip : aa Tryz.prog 72 = true := by kernel_rfl
theorem Io : aa Tryz.prog 73 = true := by kernel_rfl
theorem Im : aa Tryz.prog 74 = true := by kernel_rfl
theorem Il : aa Tryz.prog 75 = true := by kernel_rfl
theorem ca : ie Tryz.prog 29 = some 2 := by kernel_rfl
theorem lg : ie Tryz.prog 30 = some 4 := by kernel_rfl
theorem ji : ie Tryz.prog 67 = some 2 := by kernel_rfl
theorem dV : ie Tryz.prog 83 = some 3 := by kernel_rfl
theorem xe (s : aN) (hs : s.dW) : Pure Tryz.prog 43 [s.av] (.int .i64 s.gC) := by
 refine Pure.aL Tryz.func43 rfl rfl (aF rfl) fun H => (aC.seq (aC.region (aB.run II 2 rfl (aB.nil (aC.seq (aC.seq (aC.region (aB.run II 1 rfl (aB.c1 rfl (aG (aF rfl) It rfl (HK _ hs)) (aB.nil (aC.cond rfl (fun hc1 => ?_) (fun hc1 => ?_))))))))))))
 ·exact aC.seq (aC.region (aB.run II 1 rfl (aB.nil (aC.ret ⟨.inr rfl, (aE.r1 rfl (.tmp rfl .nil)).cast (congrArg (AV.int .i64) (by grind [aN.gC])), rfl⟩))))
 ·have hs2 := aN.GQ hc1
  refine aC.skip (aC.seq (aC.seq (aC.region (aB.run II 1 rfl (aB.c1 rfl (aG (aF rfl) Is rfl (HI _ hs2)) (aB.nil (aC.cond rfl (fun hc2 => ?_) (fun hc2 => ?_))))))))
  ·exact aC.seq (aC.region (aB.run II 1 rfl (aB.nil (aC.ret ⟨.inr rfl, (aE.r1 rfl (.tmp rfl .nil)).cast (congrArg (AV.int .i64) (by grind [aN.gC])), rfl⟩))))
  ·have hn2 := (aN.xu hc2).2
   refine aC.skip (aC.seq (aC.seq (aC.region (aB.run II 1 rfl (aB.c1 rfl (aG (aF rfl) Ir rfl (HD _ hs2)) (aB.nil (aC.cond rfl (fun hc3 => ?_) (fun hc3 => ?_))))))))
   ·exact aC.seq (aC.region (aB.run II 1 rfl (aB.nil (aC.ret ⟨.inr rfl, (aE.r1 rfl (.tmp rfl .nil)).cast (congrArg (AV.int .i64) (by grind [aN.gC])), rfl⟩))))
   ·refine aC.skip (aC.seq (aC.seq (aC.region (aB.run II 1 rfl (aB.c1 rfl (aG (aF rfl) Iq rfl (BN _ hs2)) (aB.run II 1 rfl (aB.nil (aC.seq (aC.region (aB.run II 2 rfl (aB.nil (aC.cond rfl (fun hc4 => ?_) (fun hc4 => ?_)))))))))))))
    ·exact aC.seq (aC.region (aB.run II 2 rfl (aB.nil (aC.ret ⟨.inr rfl, (aE.r1 rfl (.tmp rfl .nil)).cast (congrArg (AV.int .i64) (by grind [aN.gC])), rfl⟩))))
    ·refine aC.skip (aC.seq (aC.seq (aC.region (aB.run II 1 rfl (aB.c1 rfl (aG (aF rfl) Ip rfl (EB _ hs2)) (aB.nil (aC.cond rfl (fun hc5 => ?_) (fun hc5 => ?_))))))))
     ·exact aC.seq (aC.region (aB.run II 1 rfl (aB.nil (aC.ret ⟨.inr rfl, (aE.r1 rfl (.tmp rfl .nil)).cast (congrArg (AV.int .i64) (by grind [aN.gC])), rfl⟩))))
     ·refine aC.skip (aC.seq (aC.seq (aC.region (aB.run II 1 rfl (aB.c1 rfl (aG (aF rfl) Io rfl (EN _ hs2 hn2)) (aB.nil (aC.cond rfl (fun hc6 => ?_) (fun hc6 => ?_))))))))
      ·exact aC.seq (aC.region (aB.run II 1 rfl (aB.nil (aC.ret ⟨.inr rfl, (aE.r1 rfl (.tmp rfl .nil)).cast (congrArg (AV.int .i64) (by grind [aN.gC])), rfl⟩))))
      ·refine aC.skip (aC.seq (aC.seq (aC.region (aB.run II 1 rfl (aB.c1 rfl (aG (aF rfl) Im rfl (BP _ hs2)) (aB.nil (aC.cond rfl (fun hc7 => ?_) (fun hc7 => ?_))))))))
       ·exact aC.seq (aC.region (aB.run II 1 rfl (aB.nil (aC.ret ⟨.inr rfl, (aE.r1 rfl (.tmp rfl .nil)).cast (congrArg (AV.int .i64) (by grind [aN.gC])), rfl⟩))))
       ·refine aC.skip (aC.seq (aC.seq (aC.region (aB.run II 1 rfl (aB.c1 rfl (aG (aF rfl) Il rfl (HF _ hs2)) (aB.nil (aC.cond rfl (fun hc8 => ?_) (fun hc8 => ?_))))))))
        ·exact aC.seq (aC.region (aB.run II 1 rfl (aB.nil (aC.ret ⟨.inr rfl, (aE.r1 rfl (.tmp rfl .nil)).cast (congrArg (AV.int .i64) (by grind [aN.gC])), rfl⟩))))
        ·exact aC.skip (aC.seq (aC.region (aB.run II 1 rfl (aB.nil (aC.ret ⟨.inr rfl, (aE.r1 rfl (.tmp rfl .nil)).cast (congrArg (AV.int .i64) (by grind [aN.gC])), rfl⟩)))))
theorem EU (t : Tree) (hb : t.dW) (ih : ∀ x ∈ t.aO, ∀ v ∈ x.ah, ∀ u ∈ v.m, ∀ n d : Int, Pure Tryz.prog 37 [.agg u.cells, .int .i64 n, .int .i64 d] (.int .i64 (u.left n d))) (n d : Int) : Pure Tryz.prog 37 [.agg t.cells, .int .i64 n, .int .i64 d] (.int .i64 (t.left n d)) := by
 have hb1 := hb.here.s
 have hb2 := hb.here.r
 refine Pure.aL Tryz.func37 rfl rfl (aF rfl) fun H => (aC.seq (aC.region (aB.run II 2 rfl (aB.nil (aC.seq (aC.region (aB.run II 10 rfl (aB.nil (aC.seq (aC.seq (aC.region (aB.run II 2 rfl (aB.nil (aC.cond rfl (fun hc1 => ?_) (fun hc1 => ?_)))))))))))))))
 ·exact aC.seq (aC.region (aB.run II 1 rfl (aB.nil (aC.ret ⟨.inr rfl, (aE.r1 rfl (.tmp rfl .nil)).cast (congrArg (AV.int .i64) (by grind [Tree.left_eq, nS, nQ, nR, jL])), rfl⟩))))
 ·refine aC.skip (aC.cI [.h, .s 2, .s 3, .b 3] (fun (m : Int) => [(.s 1, .sv (.v (.int .i64 m)))]) (fun (m : Int) => m = iZ t.rest (dI (dI (n - (t.rest.length : Int)) - (t.aO.length : Int)))) rfl ?_ ?_)
  ·refine aC.seq (aC.region (aB.run II 1 rfl (aB.nil (aC.blk (aC.aK (Kept.aJ [.s 7, .s 1, .h, .s 2, .s 3, .b 3] rfl (by decide) (Kept.now (aC.aX (fun ((i, m) : Nat × Int) => [(.s 7, .sv (.v (.int .i64 (i : Int)))), (.s 1, .sv (.v (.int .i64 m)))]) _ (fun ((i, m) : Nat × Int) => iZ (t.rest.drop i) m = iZ t.rest (dI (dI (n - (t.rest.length : Int)) - (t.aO.length : Int)))) (fun ((i, m) : Nat × Int) => t.rest.length - i) (0, _) rfl (by simp) ?_))))))))
   rintro ⟨i, m⟩ hI
   refine aC.seq (aC.seq (aC.region (aB.run II 6 rfl (aB.tell (d := 27) rfl (fun hg2 => ?_) (fun hg2 => ?_)))))
   ·have hi := dD hg2
    have hS := @wV t.rest i m hi
    refine aB.run II 3 rfl (aB.nil (aC.cond rfl (fun hc3 => ?_) (fun hc3 => ?_)))
    ·exact aC.skip (aC.seq (aC.blk (aC.region (aB.run II 4 rfl (aB.c1 rfl (aH (aF rfl) lg rfl rfl (Int.natCast_nonneg _) (cF hi) rfl) (aB.run II 6 rfl (aB.nil (aC.region (aB.run II 3 rfl (aB.kept (Kept.aY 7 rfl (inc (by omega)) (Kept.aJ [.s 7, .s 1, .h, .s 2, .s 3, .b 3] rfl (by decide) (Kept.now ⟨(i + 1, _), (by dsimp only; omega), by grind, rfl⟩)))))))))))))
    ·exact aC.aK (Kept.aJ [.s 1, .h, .s 2, .s 3, .b 3] rfl (by decide) (Kept.now (aC.exit ⟨_, by grind [jL], rfl⟩)))
   ·have hi := dE hg2
    have hS := @zv t.rest i m hi
    exact aB.run II 3 rfl (aB.nil (aC.aZ rfl rfl (aC.aK (Kept.aJ [.s 1, .h, .s 2, .s 3, .b 3] rfl (by decide) (Kept.now (aC.exit ⟨_, by grind [jL], rfl⟩))))))
  ·rintro m hF8
   refine aC.seq (aC.seq (aC.region (aB.run II 1 rfl (aB.nil (aC.blk (aC.aK (Kept.aJ [.s 8, .s 1, .h, .s 2, .s 3, .b 3] rfl (by decide) (Kept.now (aC.aX (fun ((j, m) : Nat × Int) => [(.s 8, .sv (.v (.int .i64 (j : Int)))), (.s 1, .sv (.v (.int .i64 m)))]) _ (fun ((j, m) : Nat × Int) => iG (t.aO.drop j) m d = t.left n d) (fun ((j, m) : Nat × Int) => t.aO.length - j) (0, _) rfl (by rw [Tree.left_eq, if_neg (by have := of_decide_eq_false hc1; omega)]; grind) ?_)))))))))
   rintro ⟨j, m⟩ hI
   refine aC.seq (aC.seq (aC.region (aB.run II 6 rfl (aB.tell (d := 48) rfl (fun hg4 => ?_) (fun hg4 => ?_)))))
   ·have hj := dD hg4
    have hS := @wU t.aO j m d hj
    have hSl := Slot.left_eq (t.aO[j]'hj) m d
    have hv := hb.here.v _ (List.getElem_mem hj)
    refine aB.run II 3 rfl (aB.nil (aC.cond rfl (fun hc5 => ?_) (fun hc5 => ?_)))
    ·refine aC.skip (aC.seq (aC.blk (aC.seq (aC.region (aB.run II 4 rfl (aB.c1 rfl (aH (aF rfl) ca rfl rfl (Int.natCast_nonneg _) (cU Slot.au hj) rfl) (aB.run II 5 rfl (aB.nil (aC.seq (aC.region (aB.run II 1 rfl (aB.nil (aC.blk (aC.aK (Kept.aJ [.s 9, .s 1, .h, .s 2, .s 3, .b 3, .s 8] rfl (by decide) (Kept.now (aC.aX (fun ((k, p) : Nat × Int) => [(.s 9, .sv (.v (.int .i64 (k : Int)))), (.s 1, .sv (.v (.int .i64 p)))]) _ (fun ((k, p) : Nat × Int) => gP ((t.aO[j]'hj).ah.drop k) p d = (t.aO[j]'hj).left m d) (fun ((k, p) : Nat × Int) => (t.aO[j]'hj).ah.length - k) (0, _) rfl (by rw [hSl]; simp) ?_)))))))))))))))))
     rintro ⟨k, p⟩ hI
     refine aC.seq (aC.seq (aC.region (aB.run II 4 rfl (aB.c1 rfl (aH (aF rfl) ca rfl rfl (Int.natCast_nonneg _) (cU Slot.au hj) rfl) (aB.run II 5 rfl (aB.tell (d := 72) rfl (fun hg6 => ?_) (fun hg6 => ?_)))))))
     ·have hk := dD hg6
      have hT := @wS (t.aO[j]'hj).ah k p d hk
      have hVl := bD.left_eq ((t.aO[j]'hj).ah[k]'hk) p d
      have hm := hb.here.m _ (List.getElem_mem hj) _ (List.getElem_mem hk)
      refine aB.run II 3 rfl (aB.nil (aC.cond rfl (fun hc7 => ?_) (fun hc7 => ?_)))
      ·refine aC.skip (aC.seq (aC.blk (aC.seq (aC.region (aB.run II 4 rfl (aB.c1 rfl (aH (aF rfl) ca rfl rfl (Int.natCast_nonneg _) (cU Slot.au hj) rfl) (aB.run II 3 rfl (aB.c1 rfl (aH (aF rfl) dV rfl rfl (Int.natCast_nonneg _) (cU bD.au hk) rfl) (aB.run II 6 rfl (aB.nil (aC.seq (aC.region (aB.run II 1 rfl (aB.nil (aC.blk (aC.aK (Kept.aJ [.s 10, .s 1, .h, .s 2, .s 3, .b 3, .s 8, .s 9] rfl (by decide) (Kept.now (aC.aX (fun ((l, q) : Nat × Int) => [(.s 10, .sv (.v (.int .i64 (l : Int)))), (.s 1, .sv (.v (.int .i64 q)))]) _ (fun ((l, q) : Nat × Int) => gQ (((t.aO[j]'hj).ah[k]'hk).m.drop l) q d = ((t.aO[j]'hj).ah[k]'hk).left p d) (fun ((l, q) : Nat × Int) => ((t.aO[j]'hj).ah[k]'hk).m.length - l) (0, _) rfl (by rw [hVl]; simp) ?_)))))))))))))))))))
       rintro ⟨l, q⟩ hI
       refine aC.seq (aC.seq (aC.region (aB.run II 4 rfl (aB.c1 rfl (aH (aF rfl) ca rfl rfl (Int.natCast_nonneg _) (cU Slot.au hj) rfl) (aB.run II 3 rfl (aB.c1 rfl (aH (aF rfl) dV rfl rfl (Int.natCast_nonneg _) (cU bD.au hk) rfl) (aB.run II 5 rfl (aB.tell (d := 105) rfl (fun hg8 => ?_) (fun hg8 => ?_)))))))))
       ·have hl := dD hg8
        have hU := @wT ((t.aO[j]'hj).ah[k]'hk).m l q d hl
        refine aB.run II 3 rfl (aB.nil (aC.cond rfl (fun hc9 => ?_) (fun hc9 => ?_)))
        ·refine aC.skip (aC.seq (aC.blk (aC.region (aB.run II 3 rfl (aB.c1 rfl (aH (aF rfl) ca rfl rfl (Int.natCast_nonneg _) (cU Slot.au hj) rfl) (aB.run II 3 rfl (aB.c1 rfl (aH (aF rfl) dV rfl rfl (Int.natCast_nonneg _) (cU bD.au hk) rfl) (aB.run II 3 rfl (aB.c1 rfl (aH (aF rfl) ji rfl rfl (Int.natCast_nonneg _) (cU Tree.au hl) rfl) (aB.run II 5 rfl (aB.c1 rfl (aG (aF rfl) Cf rfl (ih _ (List.getElem_mem hj) _ (List.getElem_mem hk) _ (List.getElem_mem hl) _ _)) (aB.run II 1 rfl (aB.nil (aC.region (aB.run II 3 rfl ?_)))))))))))))))
         exact aB.kept (Kept.aY 10 rfl (inc (by omega)) (Kept.aJ [.s 10, .s 1, .h, .s 2, .s 3, .b 3, .s 8, .s 9] rfl (by decide) (Kept.now ⟨(l + 1, _), (by dsimp only; omega), by grind, rfl⟩)))
        ·exact aC.exit (aC.region (aB.run II 3 rfl (aB.kept (Kept.aY 9 rfl (inc (by omega)) (Kept.aJ [.s 9, .s 1, .h, .s 2, .s 3, .b 3, .s 8] rfl (by decide) (Kept.now ⟨(k + 1, _), (by dsimp only; omega), by grind, rfl⟩))))))
       ·have hl := dE hg8
        have hU := @zt ((t.aO[j]'hj).ah[k]'hk).m l q d hl
        exact aB.run II 3 rfl (aB.nil (aC.aZ rfl rfl (aC.exit (aC.region (aB.run II 3 rfl (aB.kept (Kept.aY 9 rfl (inc (by omega)) (Kept.aJ [.s 9, .s 1, .h, .s 2, .s 3, .b 3, .s 8] rfl (by decide) (Kept.now ⟨(k + 1, _), (by dsimp only; omega), by grind, rfl⟩)))))))))
      ·exact aC.exit (aC.region (aB.run II 3 rfl (aB.kept (Kept.aY 8 rfl (inc (by omega)) (Kept.aJ [.s 8, .s 1, .h, .s 2, .s 3, .b 3] rfl (by decide) (Kept.now ⟨(j + 1, _), (by dsimp only; omega), by grind, rfl⟩))))))
     ·have hk := dE hg6
      have hT := @zr (t.aO[j]'hj).ah k p d hk
      exact aB.run II 3 rfl (aB.nil (aC.aZ rfl rfl (aC.exit (aC.region (aB.run II 3 rfl (aB.kept (Kept.aY 8 rfl (inc (by omega)) (Kept.aJ [.s 8, .s 1, .h, .s 2, .s 3, .b 3] rfl (by decide) (Kept.now ⟨(j + 1, _), (by dsimp only; omega), by grind, rfl⟩)))))))))
    ·exact aC.exit (aC.seq (aC.region (aB.run II 2 rfl (aB.nil (aC.ret ⟨.inr rfl, (aE.r1 rfl (.tmp rfl .nil)).cast (congrArg (AV.int .i64) (by grind [Tree.left_eq, nS, nQ, nR, jL])), rfl⟩)))))
   ·have hj := dE hg4
    have hS := @zu t.aO j m d hj
    exact aB.run II 3 rfl (aB.nil (aC.aZ rfl rfl (aC.exit (aC.seq (aC.region (aB.run II 2 rfl (aB.nil (aC.ret ⟨.inr rfl, (aE.r1 rfl (.tmp rfl .nil)).cast (congrArg (AV.int .i64) (by grind [Tree.left_eq, nS, nQ, nR, jL])), rfl⟩))))))))
theorem HN (t : Tree) (hb : t.dW) (n d : Int) : Pure Tryz.prog 37 [.agg t.cells, .int .i64 n, .int .i64 d] (.int .i64 (t.left n d)) :=
 Tree.ind (Q := fun t => t.dW → ∀ n d : Int, Pure Tryz.prog 37 [.agg t.cells, .int .i64 n, .int .i64 d] (.int .i64 (t.left n d))) (fun t ih hb n d => EU t hb (fun x hx v hv u hu => ih x hx v hv u hu (hb.sub hu hv hx)) n d) t hb n d
def Tree.small (t : Tree) : Bool := decide (0 ≤ t.left 400 40)
theorem tw (t : Tree) (hb : t.dW) : Pure Tryz.prog 21 [.agg t.cells] (.bool t.small) := by
 exact Pure.aL Tryz.func21 rfl rfl (aF rfl) fun H => (aC.seq (aC.region (aB.run II 2 rfl (aB.nil (aC.seq (aC.region (aB.run II 1 rfl (aB.c1 rfl (aG (aF rfl) Cf rfl (HN _ hb _ _)) (aB.run II 2 rfl (aB.nil (aC.ret ⟨.inr rfl, (aE.r1 rfl (.tmp rfl .nil)).cast rfl, rfl⟩)))))))))))
set_option maxHeartbeats 400000
/- the document: values: the same, how deep. -/
theorem Cl : aa Tryz.prog 14 = true := by kernel_rfl
theorem JA : aa Tryz.prog 31 = true := by kernel_rfl
theorem Iz : aa Tryz.prog 32 = true := by kernel_rfl
theorem AM : Tryz.prog.eqGuardType Tryz.prog.depth 102 = false := by kernel_rfl
theorem zk (a b : Rw) (w : World) : (binOp .neq 102 (.agg #[.int .i64 a.num, .int .i64 a.wire, .int .u64 (a.n : Int), .string ⟨a.s.toArray⟩]) (.agg #[.int .i64 b.num, .int .i64 b.wire, .int .u64 (b.n : Int), .string ⟨b.s.toArray⟩])).run Tryz.prog w = .ok (.bool (!decide (a = b))) w := by
 obtain ⟨a0, a1, a2, a3⟩ := a
 obtain ⟨b0, b1, b2, b3⟩ := b
 go_simp
 by_cases h0 : a0 = b0
 ·by_cases h1 : a1 = b1
  ·by_cases h2 : a2 = b2
   ·by_cases h3 : a3 = b3
    ·simp [h0, h1, h2, h3, Int.natCast_inj]
    ·simp [h0, h1, h2, h3, Int.natCast_inj]
   ·simp [h0, h1, h2, Int.natCast_inj]
  ·simp [h0, h1, Int.natCast_inj]
 ·simp [h0, Int.natCast_inj]
theorem DV {G : Gh} {v : Value} {t : Rw} (h : V G v (.agg t.cells)) : v = (.agg #[.int .i64 t.num, .int .i64 t.wire, .int .u64 (t.n : Int), .string ⟨t.s.toArray⟩]) := by
 unfold Rw.cells at h
 cases h with
 | agg vs cs hl hf hv =>
  obtain ⟨l⟩ := vs
  match l, hl with
  | [x0, x1, x2, x3], _ =>
   have h0 : V G x0 (.int .i64 t.num) := hv 0 _ rfl
   cases h0
   have h1 : V G x1 (.int .i64 t.wire) := hv 1 _ rfl
   cases h1
   have h2 : V G x2 (.int .u64 (t.n : Int)) := hv 2 _ rfl
   cases h2
   have h3 : V G x3 (.str t.s) := hv 3 _ rfl
   cases h3
   rfl
theorem zd {N : Nat} {s : St} {d : Nat} {ty : TypeId} {pos : String} {af : Array Edge} {g : Option (Nat × Bool)} {t2 : TypeId} {x y : Operand} {u v : AV} (a b : Rw) (hN : d < N) (hx : cu x s = some u) (hy : cu y s = some v) (hu : u = .agg a.cells) (hv : v = .agg b.cells) :
  ae Tryz.prog N ⟨some d, .binOp .neq 102 x y t2, ty, pos, af, g⟩ s (rd x ++ rd y) [(.s d, .sv (.v (.bool (!decide (a = b)))))] := by
 subst hu hv
 exact ae.val rfl hN fun E G L c w tt hr hR => by
  refine ⟨.bool (!decide (a = b)), ?_, .bool _⟩
  have h1 := DV (aU hr hR.left hx)
  have h2 := DV (aU hr hR.right hy)
  have hgd := run_eqGuard_agg (P := Tryz.prog) w .neq 102 x y #[.int .i64 a.num, .int .i64 a.wire, .int .u64 (a.n : Int), .string ⟨a.s.toArray⟩] #[.int .i64 b.num, .int .i64 b.wire, .int .u64 (b.n : Int), .string ⟨b.s.toArray⟩] AM
  simp only [execOp, Sem.run_bind, h1, h2, hgd, Result.andThen_ok, zk, Sem.run_pure]
theorem EJ (a b : List Rw) (ha : a.length ≤ 9223372036854775807) : Pure Tryz.prog 31 [.sl (a.map Rw.av), .sl (b.map Rw.av)] (.bool (A5 a b)) := by
 refine Pure.aL Tryz.func31 rfl rfl (aF rfl) fun H => (aC.seq (aC.region (aB.run II 1 rfl (aB.nil (aC.cI [.h, .s 0, .s 1] (fun (_ : Unit) => []) (fun (_ : Unit) => a.length = b.length) rfl ?_ ?_)))))
 ·refine aC.seq (aC.region (aB.run II 5 rfl (aB.nil (aC.cond rfl (fun hc1 => ?_) (fun hc1 => ?_)))))
  ·exact aC.seq (aC.region (aB.run II 1 rfl (aB.nil (aC.ret ⟨.inr rfl, (aE.r1 rfl (.tmp rfl .nil)).cast (congrArg AV.bool (by have hE := @bK _ a b; have hF := @bI _ a b; grind)), rfl⟩))))
  ·exact aC.aK (Kept.aJ [.h, .s 0, .s 1] rfl (by decide) (Kept.now (aC.skip ⟨(), by have h : (!((a.map Rw.av).length : Int) == ((b.map Rw.av).length : Int)) = false := hc1; simp at h; omega, rfl⟩)))
 ·rintro _ hF3
  refine aC.seq (aC.seq (aC.region (aB.run II 1 rfl (aB.nil (aC.blk (aC.aK (Kept.aJ [.s 5, .h, .s 0, .s 1] rfl (by decide) (Kept.now (aC.aX (fun (i : Nat) => [(.s 5, .sv (.v (.int .i64 (i : Int))))]) _ (fun (i : Nat) => a.take i = b.take i) (fun (i : Nat) => a.length - i) 0 rfl rfl ?_)))))))))
  rintro i hI
  refine aC.seq (aC.seq (aC.region (aB.run II 4 rfl (aB.nil (aC.cond rfl (fun hc2 => ?_) (fun hc2 => ?_))))))
  ·have hi := dD hc2
   have hN := @xw _ a b i hi (by omega)
   refine aC.skip (aC.seq (aC.blk (aC.seq (aC.drawn mixed rfl (aD.run II 2 rfl (aD.c1 rfl (aH (aF rfl) lg rfl rfl (Int.natCast_nonneg _) (cF (by omega)) rfl) (aD.run II 3 rfl (aD.c1 rfl (aH (aF rfl) lg rfl rfl (Int.natCast_nonneg _) (cF (by omega)) rfl) (aD.run II 1 rfl (aD.c1 rfl (zd (a[i]'hi) (b[i]'(by omega)) (aF rfl) rfl rfl rfl rfl) (aD.nil (by kernel_rfl) (Kept.now (aC.cond rfl (fun hc3 => ?_) (fun hc3 => ?_))))))))))))))
   ·exact aC.seq (aC.region (aB.run II 1 rfl (aB.nil (aC.ret ⟨.inr rfl, (aE.r1 rfl (.tmp rfl .nil)).cast (congrArg AV.bool (by have hE := @bK _ a b; have hF := @bI _ a b; grind)), rfl⟩))))
   ·exact aC.skip (aC.region (aB.run II 3 rfl (aB.kept (Kept.aY 5 rfl (inc (by omega)) (Kept.aJ [.s 5, .h, .s 0, .s 1] rfl (by decide) (Kept.now ⟨i + 1, by omega, gW hi (by omega) hI (by grind), rfl⟩))))))
  ·have hi := dE hc2
   have hE2 := iS (a := a) (b := b) (by omega) hi hI
   exact aC.exit (aC.seq (aC.region (aB.run II 1 rfl (aB.nil (aC.ret ⟨.inr rfl, (aE.r1 rfl (.tmp rfl .nil)).cast (congrArg AV.bool (by have hE := @bK _ a b; have hF := @bI _ a b; grind)), rfl⟩)))))
theorem tz (a b : List bD) (ha : a.length ≤ 9223372036854775807) (hm : ∀ v ∈ a, v.m.length ≤ 9223372036854775807) (ih : ∀ v ∈ a, ∀ u ∈ v.m, ∀ w : Tree, Pure Tryz.prog 14 [.agg u.cells, .agg w.cells] (.bool (A5 u w))) : Pure Tryz.prog 32 [.sl (a.map bD.av), .sl (b.map bD.av)] (.bool (A5 a b)) := by
 refine Pure.aL Tryz.func32 rfl rfl (aF rfl) fun H => (aC.seq (aC.region (aB.run II 1 rfl (aB.nil (aC.cI [.h, .s 0, .s 1] (fun (_ : Unit) => []) (fun (_ : Unit) => a.length = b.length) rfl ?_ ?_)))))
 ·refine aC.seq (aC.region (aB.run II 5 rfl (aB.nil (aC.cond rfl (fun hc1 => ?_) (fun hc1 => ?_)))))
  ·exact aC.seq (aC.region (aB.run II 1 rfl (aB.nil (aC.ret ⟨.inr rfl, (aE.r1 rfl (.tmp rfl .nil)).cast (congrArg AV.bool (by have hE := @bK _ a b; have hF := @bI _ a b; grind [bK, bI])), rfl⟩))))
  ·exact aC.aK (Kept.aJ [.h, .s 0, .s 1] rfl (by decide) (Kept.now (aC.skip ⟨(), by have h : (!((a.map bD.av).length : Int) == ((b.map bD.av).length : Int)) = false := hc1; simp at h; omega, rfl⟩)))
 ·rintro _ hF3
  refine aC.seq (aC.seq (aC.region (aB.run II 1 rfl (aB.nil (aC.blk (aC.aK (Kept.aJ [.s 5, .h, .s 0, .s 1] rfl (by decide) (Kept.now (aC.aX (fun (i : Nat) => [(.s 5, .sv (.v (.int .i64 (i : Int))))]) _ (fun (i : Nat) => a.take i = b.take i) (fun (i : Nat) => a.length - i) 0 rfl rfl ?_)))))))))
  rintro i hI
  refine aC.seq (aC.seq (aC.region (aB.run II 4 rfl (aB.nil (aC.cond rfl (fun hc2 => ?_) (fun hc2 => ?_))))))
  ·have hi := dD hc2
   have hN := @xw _ a b i hi (by omega)
   have hm1 := hm _ (List.getElem_mem hi)
   refine aC.skip (aC.seq (aC.blk (aC.cI [.h, .s 0, .s 1, .s 5] (fun (_ : Unit) => []) (fun (_ : Unit) => (a[i]'hi).n = (b[i]'(by omega)).n ∧ (a[i]'hi).s = (b[i]'(by omega)).s ∧ (a[i]'hi).m.length = (b[i]'(by omega)).m.length) rfl ?_ ?_)))
   ·refine aC.seq (aC.drawn mixed rfl (aD.run II 2 rfl (aD.c1 rfl (aH (aF rfl) dV rfl rfl (Int.natCast_nonneg _) (cU bD.au (by omega)) rfl) (aD.run II 4 rfl (aD.c1 rfl (aH (aF rfl) dV rfl rfl (Int.natCast_nonneg _) (cU bD.au (by omega)) rfl) (aD.run II 4 rfl (aD.tell (d := 29) rfl (fun hg3 => ?_) (fun hg3 => ?_))))))))
    ·exact aD.run II 27 rfl (aD.nil (by kernel_rfl) (Kept.now (aC.az rfl rfl (aC.seq (aC.region (aB.run II 1 rfl (aB.nil (aC.ret ⟨.inr rfl, (aE.r1 rfl (.tmp rfl .nil)).cast (congrArg AV.bool (by have hE := @bK _ a b; have hF := @bI _ a b; grind [bK, bI])), rfl⟩))))))))
    ·refine aD.run II 2 rfl (aD.g1 rfl (aF rfl) rfl rfl (aH (aF rfl) dV rfl rfl (Int.natCast_nonneg _) (cU bD.au (by omega)) rfl) (aD.run II 4 rfl (aD.g1 rfl (aF rfl) rfl rfl (aH (aF rfl) dV rfl rfl (Int.natCast_nonneg _) (cU bD.au (by omega)) rfl) (aD.run II 5 rfl (aD.tell (d := 42) rfl (fun hg4 => ?_) (fun hg4 => ?_))))))
     ·exact aD.run II 14 rfl (aD.nil (by kernel_rfl) (Kept.now (aC.az rfl rfl (aC.seq (aC.region (aB.run II 1 rfl (aB.nil (aC.ret ⟨.inr rfl, (aE.r1 rfl (.tmp rfl .nil)).cast (congrArg AV.bool (by have hE := @bK _ a b; have hF := @bI _ a b; grind [bK, bI])), rfl⟩))))))))
     ·refine aD.run II 2 rfl (aD.g1 rfl (aF rfl) rfl rfl (aH (aF rfl) dV rfl rfl (Int.natCast_nonneg _) (cU bD.au (by omega)) rfl) (aD.run II 5 rfl (aD.g1 rfl (aF rfl) rfl rfl (aH (aF rfl) dV rfl rfl (Int.natCast_nonneg _) (cU bD.au (by omega)) rfl) (aD.run II 5 rfl (aD.nil (by kernel_rfl) (Kept.now (aC.cond rfl (fun hc5 => ?_) (fun hc5 => ?_))))))))
      ·exact aC.seq (aC.region (aB.run II 1 rfl (aB.nil (aC.ret ⟨.inr rfl, (aE.r1 rfl (.tmp rfl .nil)).cast (congrArg AV.bool (by have hE := @bK _ a b; have hF := @bI _ a b; grind [bK, bI])), rfl⟩))))
      ·exact aC.aK (Kept.aJ [.h, .s 0, .s 1, .s 5] rfl (by decide) (Kept.now (aC.skip ⟨(), by grind, rfl⟩)))
   ·rintro _ hF8
    refine aC.seq (aC.region (aB.run II 1 rfl (aB.nil (aC.blk (aC.aK (Kept.aJ [.s 6, .h, .s 0, .s 1, .s 5] rfl (by decide) (Kept.now (aC.aX (fun (l : Nat) => [(.s 6, .sv (.v (.int .i64 (l : Int))))]) _ (fun (l : Nat) => (a[i]'hi).m.take l = (b[i]'(by omega)).m.take l) (fun (l : Nat) => (a[i]'hi).m.length - l) 0 rfl rfl ?_))))))))
    rintro l hL
    refine aC.seq (aC.seq (aC.region (aB.run II 3 rfl (aB.c1 rfl (aH (aF rfl) dV rfl rfl (Int.natCast_nonneg _) (cU bD.au (by omega)) rfl) (aB.run II 4 rfl (aB.nil (aC.cond rfl (fun hc6 => ?_) (fun hc6 => ?_))))))))
    ·have hl := dD hc6
     have hM := @xw _ (a[i]'hi).m (b[i]'(by omega)).m l hl (by omega)
     refine aC.skip (aC.seq (aC.blk (aC.seq (aC.drawn mixed rfl (aD.run II 2 rfl (aD.c1 rfl (aH (aF rfl) dV rfl rfl (Int.natCast_nonneg _) (cU bD.au (by omega)) rfl) (aD.run II 3 rfl (aD.c1 rfl (aH (aF rfl) ji rfl rfl (Int.natCast_nonneg _) (cU Tree.au (by omega)) rfl) (aD.run II 3 rfl (aD.c1 rfl (aH (aF rfl) dV rfl rfl (Int.natCast_nonneg _) (cU bD.au (by omega)) rfl) (aD.run II 3 rfl (aD.c1 rfl (aH (aF rfl) ji rfl rfl (Int.natCast_nonneg _) (cU Tree.au (by omega)) rfl) (aD.run II 1 rfl (aD.c1 rfl (aG (aF rfl) Cl rfl (ih _ (List.getElem_mem hi) _ (List.getElem_mem hl) _)) ?_))))))))))))))
     refine aD.run II 1 rfl (aD.nil (by kernel_rfl) (Kept.now (aC.cond rfl (fun hc7 => ?_) (fun hc7 => ?_))))
     ·exact aC.seq (aC.region (aB.run II 1 rfl (aB.nil (aC.ret ⟨.inr rfl, (aE.r1 rfl (.tmp rfl .nil)).cast (congrArg AV.bool (by have hE := @bK _ a b; have hF := @bI _ a b; grind [bK, bI])), rfl⟩))))
     ·exact aC.skip (aC.region (aB.run II 3 rfl (aB.kept (Kept.aY 6 rfl (inc (by omega)) (Kept.aJ [.s 6, .h, .s 0, .s 1, .s 5] rfl (by decide) (Kept.now ⟨l + 1, by omega, gW hl (by omega) hL (by grind [bK]), rfl⟩))))))
    ·have hl := dE hc6
     have hE3 := iS (a := (a[i]'hi).m) (b := (b[i]'(by omega)).m) (by omega) hl hL
     have hQ := bD.ext (a := (a[i]'hi)) (b := (b[i]'(by omega))) hF8.1 hF8.2.1 hE3
     exact aC.exit (aC.region (aB.run II 3 rfl (aB.kept (Kept.aY 5 rfl (inc (by omega)) (Kept.aJ [.s 5, .h, .s 0, .s 1] rfl (by decide) (Kept.now ⟨i + 1, by omega, gW hi (by omega) hI hQ, rfl⟩))))))
  ·have hi := dE hc2
   have hE2 := iS (a := a) (b := b) (by omega) hi hI
   exact aC.exit (aC.seq (aC.region (aB.run II 1 rfl (aB.nil (aC.ret ⟨.inr rfl, (aE.r1 rfl (.tmp rfl .nil)).cast (congrArg AV.bool (by have hE := @bK _ a b; have hF := @bI _ a b; grind [bK, bI])), rfl⟩)))))
theorem EI (a b : Tree) (hb : a.dW) (ih : ∀ x ∈ a.aO, ∀ v ∈ x.ah, ∀ u ∈ v.m, ∀ w : Tree, Pure Tryz.prog 14 [.agg u.cells, .agg w.cells] (.bool (A5 u w))) : Pure Tryz.prog 14 [.agg a.cells, .agg b.cells] (.bool (A5 a b)) := by
 have hs := hb.here.s
 have hr := hb.here.r
 refine Pure.aL Tryz.func14 rfl rfl (aF rfl) fun H => (aC.seq (aC.region (aB.run II 3 rfl (aB.nil (aC.cI [.h, .s 2, .b 2, .s 3, .b 3] (fun (_ : Unit) => []) (fun (_ : Unit) => a.aO.length = b.aO.length ∧ a.rest = b.rest) rfl ?_ ?_)))))
 ·refine aC.seq (aC.region (aB.run II 8 rfl (aB.tell (d := 13) rfl (fun hg1 => ?_) (fun hg1 => ?_))))
  ·exact aB.run II 7 rfl (aB.nil (aC.az rfl rfl (aC.seq (aC.region (aB.run II 1 rfl (aB.nil (aC.ret ⟨.inr rfl, (aE.r1 rfl (.tmp rfl .nil)).cast (congrArg AV.bool (by have hE := @bK _ a b; have hF := @bI _ a b; grind [bK, bI, Tree.ext])), rfl⟩)))))))
  ·refine aB.run II 4 rfl (aB.g1 rfl (aF rfl) rfl rfl (aG (aF rfl) JA rfl (EJ _ _ (by omega))) (aB.run II 2 rfl (aB.nil (aC.cond rfl (fun hc2 => ?_) (fun hc2 => ?_)))))
   ·exact aC.seq (aC.region (aB.run II 1 rfl (aB.nil (aC.ret ⟨.inr rfl, (aE.r1 rfl (.tmp rfl .nil)).cast (congrArg AV.bool (by have hE := @bK _ a b; have hF := @bI _ a b; grind [bK, bI, Tree.ext])), rfl⟩))))
   ·exact aC.aK (Kept.aJ [.h, .s 2, .b 2, .s 3, .b 3] rfl (by decide) (Kept.now (aC.skip ⟨(), by grind [bK], rfl⟩)))
 ·rintro _ hF3
  refine aC.seq (aC.seq (aC.region (aB.run II 1 rfl (aB.nil (aC.blk (aC.aK (Kept.aJ [.s 5, .h, .s 2, .b 2, .s 3, .b 3] rfl (by decide) (Kept.now (aC.aX (fun (i : Nat) => [(.s 5, .sv (.v (.int .i64 (i : Int))))]) _ (fun (i : Nat) => a.aO.take i = b.aO.take i) (fun (i : Nat) => a.aO.length - i) 0 rfl rfl ?_)))))))))
  rintro i hI
  refine aC.seq (aC.seq (aC.region (aB.run II 5 rfl (aB.nil (aC.cond rfl (fun hc3 => ?_) (fun hc3 => ?_))))))
  ·have hi := dD hc3
   have hN := @xw _ a.aO b.aO i hi (by omega)
   refine aC.skip (aC.seq (aC.blk (aC.seq (aC.drawn mixed rfl (aD.run II 3 rfl (aD.c1 rfl (aH (aF rfl) ca rfl rfl (Int.natCast_nonneg _) (cU Slot.au (by omega)) rfl) (aD.run II 5 rfl (aD.c1 rfl (aH (aF rfl) ca rfl rfl (Int.natCast_nonneg _) (cU Slot.au (by omega)) rfl) (aD.run II 4 rfl (aD.tell (d := 41) rfl (fun hg4 => ?_) (fun hg4 => ?_)))))))))))
   ·exact aD.run II 15 rfl (aD.nil (by kernel_rfl) (Kept.now (aC.az rfl rfl (aC.seq (aC.region (aB.run II 1 rfl (aB.nil (aC.ret ⟨.inr rfl, (aE.r1 rfl (.tmp rfl .nil)).cast (congrArg AV.bool (by have hE := @bK _ a b; have hF := @bI _ a b; grind [bK, bI, Tree.ext])), rfl⟩))))))))
   ·refine aD.run II 3 rfl (aD.g1 rfl (aF rfl) rfl rfl (aH (aF rfl) ca rfl rfl (Int.natCast_nonneg _) (cU Slot.au (by omega)) rfl) (aD.run II 5 rfl (aD.g1 rfl (aF rfl) rfl rfl (aH (aF rfl) ca rfl rfl (Int.natCast_nonneg _) (cU Slot.au (by omega)) rfl) (aD.run II 2 rfl (aD.g1 rfl (aF rfl) rfl rfl (aG (aF rfl) Iz rfl (tz _ _ (hb.here.v _ (List.getElem_mem hi)) (hb.here.m _ (List.getElem_mem hi)) (ih _ (List.getElem_mem hi)))) (aD.run II 2 rfl (aD.nil (by kernel_rfl) (Kept.now (aC.cond rfl (fun hc5 => ?_) (fun hc5 => ?_))))))))))
    ·exact aC.seq (aC.region (aB.run II 1 rfl (aB.nil (aC.ret ⟨.inr rfl, (aE.r1 rfl (.tmp rfl .nil)).cast (congrArg AV.bool (by have hE := @bK _ a b; have hF := @bI _ a b; grind [bK, bI, Tree.ext])), rfl⟩))))
    ·exact aC.skip (aC.region (aB.run II 3 rfl (aB.kept (Kept.aY 5 rfl (inc (by omega)) (Kept.aJ [.s 5, .h, .s 2, .b 2, .s 3, .b 3] rfl (by decide) (Kept.now ⟨i + 1, by omega, gW hi (by omega) hI (Slot.ext (by grind) (by grind [bK])), rfl⟩))))))
  ·have hi := dE hc3
   have hE2 := iS (a := a.aO) (b := b.aO) (by omega) hi hI
   have hQ := Tree.ext (a := a) (b := b) hE2 hF3.2
   exact aC.exit (aC.seq (aC.region (aB.run II 1 rfl (aB.nil (aC.ret ⟨.inr rfl, (aE.r1 rfl (.tmp rfl .nil)).cast (congrArg AV.bool (by have hE := @bK _ a b; have hF := @bI _ a b; grind [bK, bI, Tree.ext])), rfl⟩)))))
theorem HE (a b : Tree) (hb : a.dW) : Pure Tryz.prog 14 [.agg a.cells, .agg b.cells] (.bool (A5 a b)) :=
 Tree.ind (Q := fun a => a.dW → ∀ b : Tree, Pure Tryz.prog 14 [.agg a.cells, .agg b.cells] (.bool (A5 a b))) (fun t ih hb b => EI t b hb (fun x hx v hv u hu => ih x hx v hv u hu (hb.sub hu hv hx))) a hb b
/- numbers of types, in the program and in the document. -/
theorem vI : KR Tryz.prog 277 = some (16, 3, 1) := by kernel_rfl
theorem oZ : aa Tryz.prog 173 = true := by kernel_rfl
theorem oY : aa Tryz.prog 174 = true := by kernel_rfl
theorem Fc : aa Tryz.prog 175 = true := by kernel_rfl
theorem F8 : aa Tryz.prog 194 = true := by kernel_rfl
theorem F7 : aa Tryz.prog 195 = true := by kernel_rfl
theorem F6 : aa Tryz.prog 196 = true := by kernel_rfl
theorem oX : aa Tryz.prog 208 = true := by kernel_rfl
theorem F5 : aa Tryz.prog 209 = true := by kernel_rfl
theorem Db : bf Tryz.prog 277 = some [AV.int IntKind.i64 (0), AV.int IntKind.i64 (0), AV.int IntKind.i64 (0), AV.int IntKind.i64 (0), AV.int IntKind.i64 (0), AV.int IntKind.i64 (0), AV.int IntKind.i64 (0), AV.int IntKind.i64 (0), AV.int IntKind.i64 (0), AV.int IntKind.i64 (0), AV.int IntKind.i64 (0), AV.int IntKind.i64 (0), AV.int IntKind.i64 (0), AV.int IntKind.i64 (0), AV.int IntKind.i64 (0), AV.int IntKind.i64 (0)] := by kernel_rfl
theorem HR (z : Int) : Pure Tryz.prog 175 [.int .i64 z] (.bool (iH z)) := by
 refine Pure.aL Tryz.func175 rfl rfl (aF rfl) fun H => (aC.seq (aC.region (aB.run II 1 rfl (aB.nil (aC.seq (aC.region (aB.run II 3 rfl (aB.tell (d := 5) rfl (fun hg1 => ?_) (fun hg1 => ?_)))))))))
 ·exact aB.run II 4 rfl (aB.nil (aC.ret ⟨.inr rfl, (aE.r1 rfl (.tmp rfl .nil)).cast (congrArg AV.bool (by grind [iH])), rfl⟩))
 ·exact aB.run II 4 rfl (aB.nil (aC.ret ⟨.inr rfl, (aE.r1 rfl (.tmp rfl .nil)).cast (congrArg AV.bool (by grind [iH])), rfl⟩))
theorem Jg (t : Int) (n : Nat) : Pure Tryz.prog 138 [.int .i64 t, .int .u64 (n : Int)] (.bool (iQ t n)) := by
 refine Pure.aL Tryz.func138 rfl rfl (aF rfl) fun H => (aC.seq (aC.region (aB.run II 1 rfl (aB.nil (aC.seq (aC.seq (aC.region (aB.run II 3 rfl (aB.tell (d := 7) rfl (fun hg1 => ?_) (fun hg1 => ?_))))))))))
 ·exact aB.run II 3 rfl (aB.nil (aC.az rfl rfl (aC.seq (aC.region (aB.run II 1 rfl (aB.nil (aC.ret ⟨.inr rfl, (aE.r1 rfl (.tmp rfl .nil)).cast (congrArg AV.bool (by grind [iQ, D0, iH])), rfl⟩)))))))
 ·refine aB.run II 3 rfl (aB.nil (aC.cond rfl (fun hc2 => ?_) (fun hc2 => ?_)))
  ·exact aC.seq (aC.region (aB.run II 1 rfl (aB.nil (aC.ret ⟨.inr rfl, (aE.r1 rfl (.tmp rfl .nil)).cast (congrArg AV.bool (by grind [iQ, D0, iH])), rfl⟩))))
  ·refine aC.skip (aC.seq (aC.seq (aC.region (aB.run II 1 rfl (aB.c1 rfl (aG (aF rfl) oZ rfl (oN _)) (aB.nil (aC.cond rfl (fun hc3 => ?_) (fun hc3 => ?_))))))))
   ·exact aC.seq (aC.region (aB.run II 1 rfl (aB.nil (aC.ret ⟨.inr rfl, (aE.r1 rfl (.tmp rfl .nil)).cast (congrArg AV.bool (by grind [iQ, D0, iH])), rfl⟩))))
   ·refine aC.skip (aC.seq (aC.seq (aC.region (aB.run II 1 rfl (aB.c1 rfl (aG (aF rfl) oY rfl (oO _)) (aB.nil (aC.cond rfl (fun hc4 => ?_) (fun hc4 => ?_))))))))
    ·exact aC.seq (aC.region (aB.run II 2 rfl (aB.c1 rfl (aG (aF rfl) Fc rfl (HR _)) (aB.run II 1 rfl (aB.nil (aC.ret ⟨.inr rfl, (aE.r1 rfl (.tmp rfl .nil)).cast (congrArg AV.bool (by grind [iQ, D0, iH])), rfl⟩))))))
    ·refine aC.skip (aC.seq (aC.seq (aC.region (aB.run II 3 rfl (aB.tell (d := 20) rfl (fun hg5 => ?_) (fun hg5 => ?_))))))
     ·exact aB.run II 3 rfl (aB.nil (aC.az rfl rfl (aC.seq (aC.region (aB.run II 3 rfl (aB.nil (aC.ret ⟨.inr rfl, (aE.r1 rfl (.tmp rfl .nil)).cast (congrArg AV.bool (by grind [iQ, D0, iH])), rfl⟩)))))))
     ·refine aB.run II 3 rfl (aB.nil (aC.cond rfl (fun hc6 => ?_) (fun hc6 => ?_)))
      ·exact aC.seq (aC.region (aB.run II 3 rfl (aB.nil (aC.ret ⟨.inr rfl, (aE.r1 rfl (.tmp rfl .nil)).cast (congrArg AV.bool (by grind [iQ, D0, iH])), rfl⟩))))
      ·refine aC.skip (aC.seq (aC.seq (aC.region (aB.run II 2 rfl (aB.nil (aC.cond rfl (fun hc7 => ?_) (fun hc7 => ?_)))))))
       ·exact aC.seq (aC.region (aB.run II 3 rfl (aB.nil (aC.ret ⟨.inr rfl, (aE.r1 rfl (.tmp rfl .nil)).cast (congrArg AV.bool (by grind [iQ, D0, iH])), rfl⟩))))
       ·exact aC.skip (aC.seq (aC.region (aB.run II 3 rfl (aB.nil (aC.ret ⟨.inr rfl, (aE.r1 rfl (.tmp rfl .nil)).cast (congrArg AV.bool (by grind [iQ, D0, iH])), rfl⟩)))))
theorem sY (t : Int) : Pure Tryz.prog 208 [.int .i64 t] (.int .i64 (nv t)) := by
 refine Pure.aL Tryz.func208 rfl rfl (aF rfl) fun H => (aC.seq (aC.region (aB.run II 1 rfl (aB.nil (aC.seq (aC.seq (aC.region (aB.run II 3 rfl (aB.tell (d := 5) rfl (fun hg1 => ?_) (fun hg1 => ?_))))))))))
 ·exact aB.run II 3 rfl (aB.nil (aC.az rfl rfl (aC.seq (aC.region (aB.run II 1 rfl (aB.nil (aC.ret ⟨.inr rfl, (aE.r1 rfl (.tmp rfl .nil)).cast (congrArg (AV.int .i64) (by grind [fb])), rfl⟩)))))))
 ·refine aB.run II 3 rfl (aB.nil (aC.cond rfl (fun hc2 => ?_) (fun hc2 => ?_)))
  ·exact aC.seq (aC.region (aB.run II 1 rfl (aB.nil (aC.ret ⟨.inr rfl, (aE.r1 rfl (.tmp rfl .nil)).cast (congrArg (AV.int .i64) (by grind [fb])), rfl⟩))))
  ·exact aC.skip (aC.seq (aC.region (aB.c1 rfl (Et (aF rfl) vI Db rfl rfl) (aB.run II 1 rfl (aB.c1 rfl (IB (aF rfl) vI kP rfl rfl (by grind) (by grind) (AA (by grind) (by grind))) (aB.run II 1 rfl (aB.nil (aC.ret ⟨.inr rfl, (aE.r1 rfl (.tmp rfl .nil)).cast (congrArg (AV.int .i64) (by grind [fb])), rfl⟩))))))))
theorem Hj (t : Int) : Pure Tryz.prog 191 [.int .i64 t] (.bool (nJ t)) := by
 exact Pure.aL Tryz.func191 rfl rfl (aF rfl) fun H => (aC.seq (aC.region (aB.run II 1 rfl (aB.nil (aC.seq (aC.region (aB.run II 1 rfl (aB.c1 rfl (aG (aF rfl) oX rfl (sY _)) (aB.run II 3 rfl (aB.nil (aC.ret ⟨.inr rfl, (aE.r1 rfl (.tmp rfl .nil)).cast (congrArg AV.bool (CH t)), rfl⟩)))))))))))
theorem BW (t : Int) : Pure Tryz.prog 195 [.int .i64 t] (.bool (cK t)) := by
 exact Pure.aL Tryz.func195 rfl rfl (aF rfl) fun H => (aC.seq (aC.region (aB.run II 1 rfl (aB.nil (aC.seq (aC.region (aB.run II 1 rfl (aB.c1 rfl (aG (aF rfl) oX rfl (sY _)) (aB.run II 3 rfl (aB.nil (aC.ret ⟨.inr rfl, (aE.r1 rfl (.tmp rfl .nil)).cast (congrArg AV.bool (wY t)), rfl⟩)))))))))))
theorem Ef (t : Int) : Pure Tryz.prog 196 [.int .i64 t] (.bool (dw t)) := by
 exact Pure.aL Tryz.func196 rfl rfl (aF rfl) fun H => (aC.seq (aC.region (aB.run II 1 rfl (aB.nil (aC.seq (aC.region (aB.run II 1 rfl (aB.c1 rfl (aG (aF rfl) oX rfl (sY _)) (aB.run II 3 rfl (aB.nil (aC.ret ⟨.inr rfl, (aE.r1 rfl (.tmp rfl .nil)).cast (congrArg AV.bool (zz t)), rfl⟩)))))))))))
theorem E8 (t : Int) : Pure Tryz.prog 194 [.int .i64 t] (.bool (gK t)) := by
 exact Pure.aL Tryz.func194 rfl rfl (aF rfl) fun H => (aC.seq (aC.region (aB.run II 1 rfl (aB.nil (aC.seq (aC.region (aB.run II 1 rfl (aB.c1 rfl (aG (aF rfl) oX rfl (sY _)) (aB.run II 3 rfl (aB.nil (aC.ret ⟨.inr rfl, (aE.r1 rfl (.tmp rfl .nil)).cast (congrArg AV.bool (zy t)), rfl⟩)))))))))))
theorem Ho (z : Int) : Pure Tryz.prog 209 [.int .i64 z] (.bool (iH z)) := by
 exact Pure.aL Tryz.func209 rfl rfl (aF rfl) fun H => (aC.seq (aC.region (aB.run II 1 rfl (aB.nil (aC.seq (aC.region (aB.run II 6 rfl (aB.nil (aC.ret ⟨.inr rfl, (aE.r1 rfl (.tmp rfl .nil)).cast (congrArg AV.bool (AJ z)), rfl⟩)))))))))
theorem Jl (t : Int) (n : Nat) : Pure Tryz.prog 192 [.int .i64 t, .int .u64 (n : Int)] (.bool (iQ t n)) := by
 refine Pure.aL Tryz.func192 rfl rfl (aF rfl) fun H => (aC.seq (aC.region (aB.run II 1 rfl (aB.nil (aC.seq (aC.blk (aC.seq (aC.region (aB.run II 3 rfl (aB.tell (d := 8) rfl (fun hg1 => ?_) (fun hg1 => ?_)))))))))))
 ·exact aB.run II 4 rfl (aB.nil (aC.az rfl rfl (aC.seq (aC.region (aB.run II 1 rfl (aB.nil (aC.ret ⟨.inr rfl, (aE.r1 rfl (.tmp rfl .nil)).cast (congrArg AV.bool (by grind [iQ])), rfl⟩)))))))
 ·refine aB.run II 4 rfl (aB.nil (aC.cond rfl (fun hc2 => ?_) (fun hc2 => ?_)))
  ·exact aC.seq (aC.region (aB.run II 1 rfl (aB.nil (aC.ret ⟨.inr rfl, (aE.r1 rfl (.tmp rfl .nil)).cast (congrArg AV.bool (by grind [iQ])), rfl⟩))))
  ·refine aC.seq (aC.region (aB.run II 1 rfl (aB.c1 rfl (aG (aF rfl) F8 rfl (E8 _)) (aB.run II 1 rfl (aB.nil (aC.cond rfl (fun hc3 => ?_) (fun hc3 => ?_)))))))
   ·exact aC.seq (aC.region (aB.run II 1 rfl (aB.nil (aC.ret ⟨.inr rfl, (aE.r1 rfl (.tmp rfl .nil)).cast (congrArg AV.bool (by grind [iQ])), rfl⟩))))
   ·refine aC.seq (aC.region (aB.run II 1 rfl (aB.c1 rfl (aG (aF rfl) F6 rfl (Ef _)) (aB.run II 1 rfl (aB.nil (aC.cond rfl (fun hc4 => ?_) (fun hc4 => ?_)))))))
    ·exact aC.seq (aC.region (aB.run II 2 rfl (aB.c1 rfl (aG (aF rfl) F5 rfl (Ho _)) (aB.run II 1 rfl (aB.nil (aC.ret ⟨.inr rfl, (aE.r1 rfl (.tmp rfl .nil)).cast (congrArg AV.bool (by have := fu t; grind [iQ, D0])), rfl⟩))))))
    ·refine aC.seq (aC.region (aB.run II 1 rfl (aB.c1 rfl (aG (aF rfl) F7 rfl (BW _)) (aB.run II 1 rfl (aB.nil (aC.cond rfl (fun hc5 => ?_) (fun hc5 => ?_)))))))
     ·exact aC.seq (aC.region (aB.run II 1 rfl (aB.c1 rfl (B7 (aF rfl) rfl rfl (by decide)) (aB.run II 2 rfl (aB.nil (aC.ret ⟨.inr rfl, (aE.r1 rfl (.tmp rfl .nil)).cast (congrArg AV.bool (by have h2 : ((((n / 2 ^ (min ((32 : Int)).toNat IntKind.u64.bits) : Nat) : Int)) == 0) = decide (n < 4294967296) := (by rw [show 2 ^ (min ((32 : Int)).toNat IntKind.u64.bits) = 4294967296 by decide, Bool.eq_iff_iff]; simp; omega); rw [h2]; have := fu t; grind [iQ, cK, gK, dw])), rfl⟩))))))
     ·refine aC.seq (aC.region (aB.run II 3 rfl (aB.nil (aC.cond rfl (fun hc6 => ?_) (fun hc6 => ?_)))))
      ·exact aC.seq (aC.region (aB.run II 3 rfl (aB.nil (aC.ret ⟨.inr rfl, (aE.r1 rfl (.tmp rfl .nil)).cast (congrArg AV.bool (by have := fu t; grind [iQ, cK, gK, dw])), rfl⟩))))
      ·exact aC.skip (aC.seq (aC.region (aB.run II 3 rfl (aB.nil (aC.ret ⟨.inr rfl, (aE.r1 rfl (.tmp rfl .nil)).cast (congrArg AV.bool (by have := fu t; grind [iQ, cK, gK, dw])), rfl⟩)))))
open Go Go.RowKit
/- Plain laws: which values are values of a message of a schema. No condition. -/
theorem ao {α : Type} (p : α → Bool) : ∀ (l : List α) (k : Nat), (bS p l k = -1 ∧ l.find? p = none) ∨ ∃ (i : Nat) (h : i < l.length), bS p l k = ((k + i : Nat) : Int) ∧ l.find? p = some l[i] ∧ p l[i] = true
 | [], k => .inl ⟨rfl, rfl⟩
 | a :: l, k => by
  by_cases h : p a = true
  ·refine .inr ⟨0, by simp, ?_, ?_, h⟩
   ·simp [bS, h]
   ·simp [h]
  ·have h' : p a = false := by simpa using h
   rcases ao p l (k + 1) with ⟨h1, h2⟩ | ⟨i, hi, h1, h2, h3⟩
   ·exact .inl ⟨by simp [bS, h', h1], by simp [h', h2]⟩
   ·exact .inr ⟨i + 1, by simp; omega, by simp [bS, h', h1]; omega, by simp [h', h2], by simpa using h3⟩
def aT.fix (m : aT) (num : Int) : Option ag := m.fields.find? (fun f => f.num == num)
def aT.at (m : aT) (num : Int) : Int := bS (fun f : ag => f.num == num) m.fields 0
theorem aT.jV (m : aT) (num : Int) : (m.at num = -1 ∧ m.fix num = none) ∨ ∃ (i : Nat) (h : i < m.fields.length), m.at num = (i : Int) ∧ m.fix num = some m.fields[i] ∧ m.fields[i].num = num := by
 rcases ao (fun f : ag => f.num == num) m.fields 0 with h | ⟨i, h, h1, h2, h3⟩
 ·exact .inl h
 ·exact .inr ⟨i, h, by simpa [aT.at] using h1, h2, by simpa using h3⟩
def aT.dq (m : aT) (num : Int) : Nat := (m.at num).toNat
theorem aT.vF {m : aT} {num : Int} (h : decide (m.at num < 0) = false) : 0 ≤ m.at num := by have := of_decide_eq_false h; omega
theorem aT.vG {m : aT} {num : Int} (h : decide (m.at num < 0) = false) : m.at num = (m.dq num : Int) := by have := of_decide_eq_false h; unfold aT.dq; omega
theorem aT.dO {m : aT} {num : Int} (h : decide (m.at num < 0) = false) : m.dq num < m.fields.length := by
 have h := of_decide_eq_false h
 rcases m.jV num with ⟨h1, _⟩ | ⟨i, hi, h1, _⟩
 ·omega
 ·unfold aT.dq; rw [h1]; simpa using hi
theorem aT.ee {m : aT} {num : Int} (h : decide (m.at num < 0) = false) : m.fix num = some (m.fields[m.dq num]'(aT.dO h)) := by
 have h' := of_decide_eq_false h
 rcases m.jV num with ⟨h1, _⟩ | ⟨i, hi, h1, h2, _⟩
 ·omega
 ·rw [h2]; congr 1; have : m.dq num = i := by unfold aT.dq; rw [h1]; simp
  simp [this]
theorem aT.DH {m : aT} {num : Int} (h : decide (m.at num < 0) = true) : m.fix num = none := by
 have h := of_decide_eq_true h
 rcases m.jV num with ⟨h1, h2⟩ | ⟨i, hi, h1, _⟩
 ·exact h2
 ·omega
def aN.eS (s : aN) (name : aw) : Option aT := s.msgs.find? (fun m => m.name == name)
theorem aN.m9 (s : aN) (name : aw) : (s.bJ name = -1 ∧ s.eS name = Option.none) ∨ ∃ (i : Nat) (h : i < s.msgs.length), s.bJ name = (i : Int) ∧ s.eS name = some s.msgs[i] ∧ s.msgs[i].name = name := by
 rcases ao (fun m : aT => m.name == name) s.msgs 0 with h | ⟨i, h, h1, h2, h3⟩
 ·exact .inl h
 ·exact .inr ⟨i, h, by simpa [aN.bJ] using h1, h2, by simpa using h3⟩
def aN.dq (s : aN) (name : aw) : Nat := (s.bJ name).toNat
theorem aN.CI {s : aN} {name : aw} (h : decide (s.bJ name < 0) = false) : 0 ≤ s.bJ name := by have := of_decide_eq_false h; omega
theorem aN.CJ {s : aN} {name : aw} (h : decide (s.bJ name < 0) = false) : s.bJ name = (s.dq name : Int) := by have := of_decide_eq_false h; unfold aN.dq; omega
theorem aN.bP {s : aN} {name : aw} (h : decide (s.bJ name < 0) = false) : s.dq name < s.msgs.length := by
 have h := of_decide_eq_false h
 rcases s.m9 name with ⟨h1, _⟩ | ⟨i, hi, h1, _⟩
 ·omega
 ·unfold aN.dq; rw [h1]; simpa using hi
theorem aN.CK {s : aN} {name : aw} (h : decide (s.bJ name < 0) = false) : s.eS name = some (s.msgs[s.dq name]'(aN.bP h)) := by
 have h' := of_decide_eq_false h
 rcases s.m9 name with ⟨h1, _⟩ | ⟨i, hi, h1, h2, _⟩
 ·omega
 ·rw [h2]; congr 1; have : s.dq name = i := by unfold aN.dq; rw [h1]; simp
  simp [this]
theorem aN.G9 {s : aN} {name : aw} (h : decide (s.bJ name < 0) = true) : s.eS name = Option.none := by
 have h := of_decide_eq_true h
 rcases s.m9 name with ⟨h1, h2⟩ | ⟨i, hi, h1, _⟩
 ·exact h2
 ·omega
theorem KZ {b : Bool} (h : (!b) = true) : b = false := by cases b <;> simp_all
theorem K9 {b : Bool} (h : (!b) = false) : b = true := by cases b <;> simp_all
theorem Cv {a : Int} (h : decide (0 ≤ a) = true) : decide (a < 0) = false := by have := of_decide_eq_true h; simp; omega
theorem Lm {a : Int} (h : decide (0 ≤ a) = false) : decide (a < 0) = true := by have := of_decide_eq_false h; simp; omega
structure aN.wu (s : aN) : Prop where
 m : s.msgs.length ≤ 1000
 f : ∀ m ∈ s.msgs, m.fields.length ≤ 1000
 o : ∀ m ∈ s.msgs, ∀ f ∈ m.fields, f.one.length ≤ 1000
theorem Kg (n : Int) : (Lit.int .i64 (IntKind.i64.wrap n)).wf = true := by
 simp only [Lit.wf, IntKind.min, IntKind.max, IntKind.wrap, IntKind.bits, IntKind.signed]; simp; omega
def ag.hidden (f : ag) : Bool := !f.rep && f.one == [] && !decide (f.ty = 15)
def Rw.right (r : Rw) : Bool := iT r.num r.wire && (if r.wire = 2 then decide (r.n = 0) else r.s == [] && (!decide (r.wire = 5) || decide (r.n < 4294967296)))
def dG (m : aT) (r : Rw) : Bool := r.right && (m.fix r.num).isNone
def aT.oneOf (m : aT) (x : Slot) : aw := ((m.fix x.num).map (·.one)).getD []
def fI (ones : List aw) (one : aw) : Bool := one == [] || !ones.any (· == one)
mutual
def bD.ok (s : aN) (f : ag) : bD → Bool
 | .mk n str m =>
  if nJ f.ty then iQ f.ty n && str == [] && decide (m.length = 0)
  else if f.ty = 12 then decide (n = 0) && decide (m.length = 0) && Lib.validD str
  else if f.ty = 13 then decide (n = 0) && decide (m.length = 0)
  else if f.ty = 15 then decide (n = 0) && str == [] && eX s f.ref m
  else false
def Slot.ok (s : aN) (m : aT) : Slot → Bool
 | .mk num vs => match m.fix num with
  | none => false
  | some f => decide (0 < vs.length) && (f.rep || decide (vs.length = 1)) && gq s f vs && (!f.hidden || (!decide ((vs.head?.map bD.n).getD 0 = 0) || !((vs.head?.map bD.s).getD [] == [])))
def Tree.ok (s : aN) (name : aw) : Tree → Bool
 | .mk ss r => match s.eS name with
  | none => false
  | some m => dC s m ss none [] && r.all (dG m)
def gq (s : aN) (f : ag) : List bD → Bool
 | [] => true
 | v :: l => v.ok s f && gq s f l
def dC (s : aN) (m : aT) : List Slot → Option Int → List aw → Bool
 | [], _, _ => true
 | x :: l, last, ones => (match last with | none => true | some n => decide (n < x.num)) && x.ok s m && fI ones (m.oneOf x) && dC s m l (some x.num) (ones ++ [m.oneOf x])
def eX (s : aN) (name : aw) : List Tree → Bool
 | [t] => t.ok s name
 | _ => false
end
theorem bD.ok_eq (s : aN) (f : ag) (v : bD) : v.ok s f = if nJ f.ty then iQ f.ty v.n && v.s == [] && decide (v.m.length = 0)
  else if f.ty = 12 then decide (v.n = 0) && decide (v.m.length = 0) && Lib.validD v.s
  else if f.ty = 13 then decide (v.n = 0) && decide (v.m.length = 0)
  else if f.ty = 15 then decide (v.n = 0) && v.s == [] && eX s f.ref v.m
  else false := by cases v; simp only [bD.ok, bD.n, bD.s, bD.m]; rfl
theorem Slot.ok_eq (s : aN) (m : aT) (x : Slot) : x.ok s m = match m.fix x.num with
  | none => false
  | some f => decide (0 < x.ah.length) && (f.rep || decide (x.ah.length = 1)) && gq s f x.ah && (!f.hidden || (!decide ((x.ah.head?.map bD.n).getD 0 = 0) || !((x.ah.head?.map bD.s).getD [] == []))) := by
 cases x; simp only [Slot.ok, Slot.num, Slot.ah]; rfl
theorem Tree.ok_eq (s : aN) (name : aw) (t : Tree) : t.ok s name = match s.eS name with
  | none => false
  | some m => dC s m t.aO none [] && t.rest.all (dG m) := by cases t; simp only [Tree.ok, Tree.aO, Tree.rest]
theorem nh (s : aN) (name : aw) {l : List Tree} (h : l.length = 1) : eX s name l = (l[0]'(by omega)).ok s name := by
 match l, h with
 | [t], _ => simp [eX]
theorem oi (s : aN) (name : aw) {l : List Tree} (h : l.length ≠ 1) : eX s name l = false := by
 match l, h with
 | [], _ => simp [eX]
 | _ :: _ :: _, _ => simp [eX]
theorem oe (s : aN) (f : ag) (l : List bD) : gq s f l = l.all (bD.ok s f) := by
 induction l with
 | nil => simp [gq]
 | cons v l ih => simp [gq, ih]
def jv (l : List Slot) (i : Nat) : Option Int := if h : 0 < i ∧ i ≤ l.length then some (l[i - 1]'(by omega)).num else none
theorem wW {l : List Slot} {i : Nat} (h : i < l.length) : jv l (i + 1) = some l[i].num := by
 unfold jv; rw [dif_pos ⟨by omega, by omega⟩]; simp
theorem qD (l : List Slot) : jv l 0 = none := by unfold jv; simp
theorem jM {l : List Slot} {i : Nat} (h0 : 0 < i) (h : i < l.length) : jv l i = some (l[i - 1]'(by omega)).num := by
 unfold jv; rw [dif_pos ⟨h0, by omega⟩]
theorem Slot.oR {s : aN} {m : aT} {x : Slot} {f : ag} (hf : m.fix x.num = some f) : x.ok s m = (decide (0 < x.ah.length) && (f.rep || decide (x.ah.length = 1)) && x.ah.all fun v => v.ok s f && (!f.hidden || (!decide (v.n = 0) || !(v.s == [])))) := by
 rw [Slot.ok_eq, hf]
 simp only [oe]
 cases hv : x.ah with
 | nil => simp
 | cons v r =>
  cases hh : f.hidden with
  | false => simp
  | true =>
   have hr : f.rep = false := by unfold ag.hidden at hh; simp at hh; exact hh.1.1
   cases r with
   | nil => simp [hr]; first | done | rfl
   | cons w r => simp [hr]
theorem Slot.G6 {s : aN} {m : aT} {x : Slot} (h : x.ok s m = true) : decide (m.at x.num < 0) = false := by
 by_cases hd : decide (m.at x.num < 0) = true
 ·rw [Slot.ok_eq, aT.DH hd] at h; cases h
 ·simpa using hd
theorem KE {l : List bD} (h : 0 < l.length) : (l.head?.map bD.n).getD 0 = l[0].n := by cases l with | nil => simp at h | cons a l => rfl
theorem KD {l : List bD} (h : 0 < l.length) : (l.head?.map bD.s).getD [] = l[0].s := by cases l with | nil => simp at h | cons a l => rfl
theorem pj {m : aT} {l : List Slot} {one : aw} : fI (l.map m.oneOf) one = !(l.any fun y => !(one == []) && (m.oneOf y == one)) := by
 unfold fI
 by_cases h : one = []
 ·subst h; simp
 ·have h' : (one == []) = false := by simpa using h
  rw [h']; simp [List.any_map, Function.comp_def]
theorem AZ {l : List aw} {a : aw} : l.any (· == a) = decide (0 < l.count a) := by
 rw [Bool.eq_iff_iff]; simp [List.count_pos_iff]
theorem gj {m : aT} {x : Slot} {f : ag} (h : m.fix x.num = some f) : m.oneOf x = f.one := by unfold aT.oneOf; rw [h]; rfl
theorem um {m : aT} {l : List Slot} {i : Nat} {f : List UInt8 → Int} {one : aw} (hi : i < l.length) (hf : ∀ key, f key = ((((l.take i).map m.oneOf).count key : Nat) : Int)) (ho : m.oneOf l[i] = one) (hb : i < 9223372036854775807) :
  ∀ key, (if key = one then IntKind.i64.wrap (f one + 1) else f key) = ((((l.take (i + 1)).map m.oneOf).count key : Nat) : Int) := by
 intro key
 rw [List.take_succ_eq_append_getElem hi, List.map_append, List.count_append]
 have hle : ((l.take i).map m.oneOf).count one ≤ i := by
  have := List.count_le_length (a := one) (l := (l.take i).map m.oneOf)
  rw [List.length_map, List.length_take] at this; omega
 split
 ·rename_i e; subst e
  rw [hf, inc (by omega)]
  simp [ho]
 ·rename_i e
  rw [hf]
  have : [l[i]].map m.oneOf = [one] := by simp [ho]
  rw [this, List.count_singleton, if_neg (by simpa using Ne.symm e)]
  simp
theorem y8 {m : aT} {l : List Slot} {i : Nat} {f : List UInt8 → Int} {one : aw} (hf : ∀ key, f key = ((((l.take i).map m.oneOf).count key : Nat) : Int)) (hb : i < 9223372036854775807) :
  decide (1 < IntKind.i64.wrap (f one + 1)) = ((l.take i).map m.oneOf).any (· == one) := by
 have hle : ((l.take i).map m.oneOf).count one ≤ i := by
  have := List.count_le_length (a := one) (l := (l.take i).map m.oneOf)
  rw [List.length_map, List.length_take] at this; omega
 have key : ∀ c : Nat, decide ((1 : Int) < ((c + 1 : Nat) : Int)) = decide (0 < c) := fun c => by rw [Bool.eq_iff_iff]; simp; omega
 rw [hf, inc (by omega), AZ]
 exact key _
def gX (s : aN) (m : aT) (l : List Slot) (i : Nat) : Bool := dC s m (l.drop i) (jv l i) ((l.take i).map m.oneOf)
theorem mM {s : aN} {m : aT} {l : List Slot} {i : Nat} (h : i < l.length) : gX s m l i = ((match jv l i with | none => true | some n => decide (n < l[i].num)) && l[i].ok s m && fI ((l.take i).map m.oneOf) (m.oneOf l[i]) && gX s m l (i + 1)) := by
 unfold gX
 rw [List.drop_eq_getElem_cons h, wW h, List.take_succ_eq_append_getElem h, List.map_append]
 simp [dC]
theorem nj {s : aN} {m : aT} {l : List Slot} {i : Nat} (h : l.length ≤ i) : gX s m l i = true := by
 unfold gX; rw [List.drop_of_length_le h]; simp [dC]
theorem mL (s : aN) (m : aT) (l : List Slot) : gX s m l 0 = dC s m l none [] := by
 unfold gX jv; simp
theorem pI : ∀ {l1 l2 : List Int}, l1.Pairwise (· < ·) → (∀ a ∈ l1, a ∈ l2) → l1.length ≤ l2.length
 | [], _, _, _ => by simp
 | a :: l1, l2, h, hs => by
  have ha : a ∈ l2 := hs a (by simp)
  have h2 := List.pairwise_cons.1 h
  have := pI (l1 := l1) (l2 := l2.erase a) h2.2 fun b hb => (List.mem_erase_of_ne (by have := h2.1 b hb; omega)).2 (hs b (by simp [hb]))
  rw [List.length_erase_of_mem ha] at this
  have : 0 < l2.length := List.length_pos_of_mem ha
  simp; omega
structure mb (m : aT) (l : List Slot) (i : Nat) : Prop where
 le : i ≤ l.length
 kn : ∀ x ∈ l.take i, (m.fix x.num).isSome = true
 up : ((l.take i).map Slot.num).Pairwise (· < ·)
theorem mb.zero (m : aT) (l : List Slot) : mb m l 0 := ⟨by omega, by simp, by simp⟩
theorem mb.step {m : aT} {l : List Slot} {i : Nat} (g : mb m l i) (h : i < l.length) (hl : (match jv l i with | none => true | some n => decide (n < l[i].num)) = true) (hf : (m.fix l[i].num).isSome = true) : mb m l (i + 1) := by
 refine ⟨h, fun x hx => ?_, ?_⟩
 ·rw [List.take_succ_eq_append_getElem h] at hx
  rcases List.mem_append.1 hx with hx | hx
  ·exact g.kn x hx
  ·rw [List.mem_singleton.1 hx]; exact hf
 ·rw [List.take_succ_eq_append_getElem h, List.map_append, List.pairwise_append]
  refine ⟨g.up, by simp, fun a ha b hb => ?_⟩
  simp at hb
  subst hb
  by_cases h0 : 0 < i
  ·rw [jM h0 h] at hl
   have hlt : (l[i - 1]'(by omega)).num < l[i].num := by simpa using hl
   obtain ⟨j, hj, rfl⟩ := List.getElem_of_mem ha
   rw [List.length_map, List.length_take] at hj
   by_cases hji : j = i - 1
   ·subst hji; simpa using hlt
   ·have hp := List.pairwise_iff_getElem.1 g.up j (i - 1) (by simp; omega) (by simp; omega) (by omega)
    simp at hp
    simp
    omega
  ·have : i = 0 := by omega
   subst this
   simp at ha
theorem mb.len {m : aT} {l : List Slot} {i : Nat} (g : mb m l i) : i ≤ m.fields.length := by
 have h1 := pI (l2 := m.fields.map (·.num)) g.up fun a ha => by
  obtain ⟨x, hx, rfl⟩ := List.mem_map.1 ha
  have hk := g.kn x hx
  rcases m.jV x.num with ⟨_, h2⟩ | ⟨q, hq, _, h2, h3⟩
  ·rw [h2] at hk; cases hk
  ·exact List.mem_map.2 ⟨_, List.getElem_mem hq, h3⟩
 rw [List.length_map, List.length_map, List.length_take] at h1
 have := g.le
 omega
theorem Slot.Ey {s : aN} {m : aT} {x : Slot} (h : x.ok s m = true) : (m.fix x.num).isSome = true := by
 rw [aT.ee (Slot.G6 h)]; rfl
/- fields and places, in the program and in the document. -/
theorem Fp : aa Tryz.prog 109 = true := by kernel_rfl
theorem o4 : aa Tryz.prog 162 = true := by kernel_rfl
theorem F0 : aa Tryz.prog 214 = true := by kernel_rfl
theorem FZ : aa Tryz.prog 215 = true := by kernel_rfl
theorem FX : aa Tryz.prog 219 = true := by kernel_rfl
theorem FW : aa Tryz.prog 220 = true := by kernel_rfl
theorem I9 : aa Tryz.prog 94 = true := by kernel_rfl
theorem BM (f : ag) : Pure Tryz.prog 93 [f.av] (.bool f.hidden) := by
 refine Pure.aL Tryz.func93 rfl rfl (aF rfl) fun H => (aC.seq (aC.region (aB.run II 2 rfl (aB.nil (aC.seq (aC.region (aB.run II 4 rfl (aB.tell (d := 6) rfl (fun hg1 => ?_) (fun hg1 => ?_)))))))))
 ·refine aB.run II 5 rfl (aB.tell (d := 11) rfl (fun hg2 => ?_) (fun hg2 => ?_))
  ·exact aB.run II 5 rfl (aB.nil (aC.ret ⟨.inr rfl, (aE.r1 rfl (.tmp rfl .nil)).cast (congrArg AV.bool (by grind [ag.hidden])), rfl⟩))
  ·exact aB.run II 5 rfl (aB.nil (aC.ret ⟨.inr rfl, (aE.r1 rfl (.tmp rfl .nil)).cast (congrArg AV.bool (by grind [ag.hidden])), rfl⟩))
 ·exact aB.run II 10 rfl (aB.nil (aC.ret ⟨.inr rfl, (aE.r1 rfl (.tmp rfl .nil)).cast (congrArg AV.bool (by grind [ag.hidden])), rfl⟩))
theorem uN (f : ag) : Pure Tryz.prog 108 [f.av] (.bool f.hidden) := by
 refine Pure.aL Tryz.func108 rfl rfl (aF rfl) fun H => (aC.seq (aC.region (aB.run II 2 rfl (aB.nil (aC.seq (aC.region (aB.run II 4 rfl (aB.tell (d := 6) rfl (fun hg1 => ?_) (fun hg1 => ?_)))))))))
 ·refine aB.run II 5 rfl (aB.tell (d := 11) rfl (fun hg2 => ?_) (fun hg2 => ?_))
  ·exact aB.run II 5 rfl (aB.nil (aC.ret ⟨.inr rfl, (aE.r1 rfl (.tmp rfl .nil)).cast (congrArg AV.bool (by grind [ag.hidden])), rfl⟩))
  ·exact aB.run II 5 rfl (aB.nil (aC.ret ⟨.inr rfl, (aE.r1 rfl (.tmp rfl .nil)).cast (congrArg AV.bool (by grind [ag.hidden])), rfl⟩))
 ·exact aB.run II 10 rfl (aB.nil (aC.ret ⟨.inr rfl, (aE.r1 rfl (.tmp rfl .nil)).cast (congrArg AV.bool (by grind [ag.hidden])), rfl⟩))
theorem mR (m : aT) (num : Int) (hl : m.fields.length ≤ 1000) : Pure Tryz.prog 49 [m.av, .int .i64 num] (.int .i64 (m.at num)) := by
 refine Pure.aL Tryz.func49 rfl rfl (aF rfl) fun H => (aC.seq (aC.region (aB.run II 2 rfl (aB.nil (aC.seq (aC.seq (aC.region (aB.run II 1 rfl (aB.nil (aC.blk (aC.aK (Kept.aJ [.s 5, .h, .s 1, .s 2, .b 2] rfl (by decide) (Kept.now (aC.aX (fun (i : Nat) => [(.s 5, .sv (.v (.int .i64 (i : Int))))]) _ (fun (i : Nat) => bS (fun f : ag => f.num == num) (m.fields.drop i) i = m.at num) (fun (i : Nat) => m.fields.length - i) 0 rfl (by simp [aT.at]) ?_))))))))))))))
 rintro i hI
 refine aC.seq (aC.seq (aC.region (aB.run II 5 rfl (aB.nil (aC.cond rfl (fun hc1 => ?_) (fun hc1 => ?_))))))
 ·have hi := dD hc1
  have hS := cQ (p := (fun f : ag => f.num == num)) hi
  refine aC.skip (aC.seq (aC.blk (aC.seq (aC.region (aB.run II 3 rfl (aB.c1 rfl (aH (aF rfl) bT rfl rfl (Int.natCast_nonneg _) (cF hi) rfl) (aB.run II 4 rfl (aB.nil (aC.cond rfl (fun hc2 => ?_) (fun hc2 => ?_))))))))))
  ·exact aC.seq (aC.region (aB.run II 2 rfl (aB.nil (aC.ret ⟨.inr rfl, (aE.r1 rfl (.tmp rfl .nil)).cast (congrArg (AV.int .i64) (by grind [aT.at])), rfl⟩))))
  ·exact aC.skip (aC.region (aB.run II 3 rfl (aB.kept (Kept.aY 5 rfl (inc (by omega)) (Kept.aJ [.s 5, .h, .s 1, .s 2, .b 2] rfl (by decide) (Kept.now ⟨i + 1, by omega, by grind, rfl⟩))))))
 ·have hi := dE hc1
  have hS := dd (p := (fun f : ag => f.num == num)) hi
  exact aC.exit (aC.seq (aC.region (aB.run II 1 rfl (aB.nil (aC.ret ⟨.inr rfl, (aE.r1 rfl (.tmp rfl .nil)).cast (congrArg (AV.int .i64) (by grind [aT.at])), rfl⟩)))))
theorem BG (r : Rw) : Pure Tryz.prog 50 [r.av] (.bool r.right) := by
 refine Pure.aL Tryz.func50 rfl rfl (aF rfl) fun H => (aC.seq (aC.region (aB.run II 2 rfl (aB.nil (aC.seq (aC.seq (aC.region (aB.run II 4 rfl (aB.c1 rfl (aG (aF rfl) I9 rfl (EE _ _)) (aB.run II 1 rfl (aB.nil (aC.cond rfl (fun hc1 => ?_) (fun hc1 => ?_)))))))))))))
 ·exact aC.seq (aC.region (aB.run II 1 rfl (aB.nil (aC.ret ⟨.inr rfl, (aE.r1 rfl (.tmp rfl .nil)).cast (congrArg AV.bool (by grind [Rw.right])), rfl⟩))))
 ·refine aC.skip (aC.seq (aC.seq (aC.region (aB.run II 3 rfl (aB.nil (aC.cond rfl (fun hc2 => ?_) (fun hc2 => ?_)))))))
  ·exact aC.seq (aC.region (aB.run II 4 rfl (aB.nil (aC.ret ⟨.inr rfl, (aE.r1 rfl (.tmp rfl .nil)).cast (congrArg AV.bool (by grind [Rw.right])), rfl⟩))))
  ·refine aC.skip (aC.seq (aC.region (aB.run II 4 rfl (aB.tell (d := 18) rfl (fun hg3 => ?_) (fun hg3 => ?_)))))
   ·refine aB.run II 4 rfl (aB.tell (d := 22) rfl (fun hg4 => ?_) (fun hg4 => ?_))
    ·exact aB.run II 6 rfl (aB.nil (aC.ret ⟨.inr rfl, (aE.r1 rfl (.tmp rfl .nil)).cast (congrArg AV.bool (by grind [Rw.right])), rfl⟩))
    ·exact aB.run II 6 rfl (aB.nil (aC.ret ⟨.inr rfl, (aE.r1 rfl (.tmp rfl .nil)).cast (congrArg AV.bool (by grind [Rw.right])), rfl⟩))
   ·exact aB.run II 10 rfl (aB.nil (aC.ret ⟨.inr rfl, (aE.r1 rfl (.tmp rfl .nil)).cast (congrArg AV.bool (by grind [Rw.right])), rfl⟩))
theorem sW (n : Int) : Pure Tryz.prog 162 [.int .i64 n] (.bool (decide (1 ≤ n) && decide (n ≤ 536870911))) := by
 refine Pure.aL Tryz.func162 rfl rfl (aF rfl) fun H => (aC.seq (aC.region (aB.run II 1 rfl (aB.nil (aC.seq (aC.region (aB.run II 3 rfl (aB.tell (d := 5) rfl (fun hg1 => ?_) (fun hg1 => ?_)))))))))
 ·exact aB.run II 4 rfl (aB.nil (aC.ret ⟨.inr rfl, (aE.r1 rfl (.tmp rfl .nil)).cast (congrArg AV.bool (by grind [])), rfl⟩))
 ·exact aB.run II 4 rfl (aB.nil (aC.ret ⟨.inr rfl, (aE.r1 rfl (.tmp rfl .nil)).cast (congrArg AV.bool (by grind [])), rfl⟩))
theorem Ea (n w : Int) : Pure Tryz.prog 109 [.int .i64 n, .int .i64 w] (.bool (iT n w)) := by
 refine Pure.aL Tryz.func109 rfl rfl (aF rfl) fun H => (aC.seq (aC.region (aB.run II 1 rfl (aB.nil (aC.seq (aC.region (aB.run II 1 rfl (aB.nil (aC.seq (aC.seq (aC.region (aB.run II 1 rfl (aB.nil (aC.blk (aC.seq (aC.blk (aC.blk (aC.blk (aC.seq (aC.seq (aC.seq (aC.seq (aC.region (aB.run II 2 rfl (aB.nil (aC.cond rfl (fun hc1 => ?_) (fun hc1 => ?_)))))))))))))))))))))))))))
 ·exact aC.skip (aC.az rfl hc1 (aC.exit (aC.seq (aC.region (aB.run II 1 rfl (aB.nil (aC.exit (aC.seq (aC.region (aB.run II 3 rfl (aB.g1 rfl (aF rfl) rfl rfl (aG (aF rfl) o4 rfl (sW _)) (aB.run II 2 rfl (aB.nil (aC.ret ⟨.inr rfl, (aE.r1 rfl (.tmp rfl .nil)).cast (congrArg AV.bool (by grind [iT])), rfl⟩))))))))))))))
 ·refine aC.region (aB.run II 2 rfl (aB.nil (aC.cond rfl (fun hc2 => ?_) (fun hc2 => ?_))))
  ·exact aC.exit (aC.seq (aC.region (aB.run II 1 rfl (aB.nil (aC.exit (aC.seq (aC.region (aB.run II 3 rfl (aB.g1 rfl (aF rfl) rfl rfl (aG (aF rfl) o4 rfl (sW _)) (aB.run II 2 rfl (aB.nil (aC.ret ⟨.inr rfl, (aE.r1 rfl (.tmp rfl .nil)).cast (congrArg AV.bool (by grind [iT])), rfl⟩))))))))))))
  ·refine aC.skip (aC.seq (aC.seq (aC.region (aB.run II 2 rfl (aB.nil (aC.cond rfl (fun hc3 => ?_) (fun hc3 => ?_)))))))
   ·exact aC.exit (aC.seq (aC.region (aB.run II 1 rfl (aB.nil (aC.exit (aC.seq (aC.region (aB.run II 3 rfl (aB.g1 rfl (aF rfl) rfl rfl (aG (aF rfl) o4 rfl (sW _)) (aB.run II 2 rfl (aB.nil (aC.ret ⟨.inr rfl, (aE.r1 rfl (.tmp rfl .nil)).cast (congrArg AV.bool (by grind [iT])), rfl⟩))))))))))))
   ·refine aC.skip (aC.seq (aC.region (aB.run II 2 rfl (aB.nil (aC.cond rfl (fun hc4 => ?_) (fun hc4 => ?_))))))
    ·exact aC.exit (aC.seq (aC.region (aB.run II 1 rfl (aB.nil (aC.exit (aC.seq (aC.region (aB.run II 3 rfl (aB.g1 rfl (aF rfl) rfl rfl (aG (aF rfl) o4 rfl (sW _)) (aB.run II 2 rfl (aB.nil (aC.ret ⟨.inr rfl, (aE.r1 rfl (.tmp rfl .nil)).cast (congrArg AV.bool (by grind [iT])), rfl⟩))))))))))))
    ·exact aC.skip (aC.exit (aC.seq (aC.region (aB.run II 6 rfl (aB.nil (aC.ret ⟨.inr rfl, (aE.r1 rfl (.tmp rfl .nil)).cast (congrArg AV.bool (by grind [iT])), rfl⟩))))))
theorem uL (r : Rw) : Pure Tryz.prog 67 [r.av] (.bool r.right) := by
 have h2 : ((((r.n / 2 ^ (min ((32 : Int)).toNat IntKind.u64.bits) : Nat) : Int)) == 0) = decide (r.n < 4294967296) := (by rw [show 2 ^ (min ((32 : Int)).toNat IntKind.u64.bits) = 4294967296 by decide, Bool.eq_iff_iff]; simp; omega)
 refine Pure.aL Tryz.func67 rfl rfl (aF rfl) fun H => (aC.seq (aC.region (aB.run II 2 rfl (aB.nil (aC.seq (aC.blk (aC.seq (aC.region (aB.run II 4 rfl (aB.c1 rfl (aG (aF rfl) Fp rfl (Ea _ _)) (aB.run II 2 rfl (aB.nil (aC.cond rfl (fun hc1 => ?_) (fun hc1 => ?_))))))))))))))
 ·exact aC.seq (aC.region (aB.run II 1 rfl (aB.nil (aC.ret ⟨.inr rfl, (aE.r1 rfl (.tmp rfl .nil)).cast (congrArg AV.bool (by grind [Rw.right])), rfl⟩))))
 ·refine aC.seq (aC.region (aB.run II 4 rfl (aB.nil (aC.cond rfl (fun hc2 => ?_) (fun hc2 => ?_)))))
  ·exact aC.seq (aC.region (aB.run II 4 rfl (aB.nil (aC.ret ⟨.inr rfl, (aE.r1 rfl (.tmp rfl .nil)).cast (congrArg AV.bool (by grind [Rw.right])), rfl⟩))))
  ·refine aC.seq (aC.region (aB.run II 4 rfl (aB.tell (d := 21) rfl (fun hg3 => ?_) (fun hg3 => ?_))))
   ·refine aB.run II 2 rfl (aB.g1 rfl (aF rfl) rfl rfl (B7 (aF rfl) rfl rfl (by decide)) (aB.run II 3 rfl (aB.nil (aC.cond rfl (fun hc4 => ?_) (fun hc4 => ?_)))))
    ·exact aC.seq (aC.region (aB.run II 1 rfl (aB.nil (aC.ret ⟨.inr rfl, (aE.r1 rfl (.tmp rfl .nil)).cast (congrArg AV.bool (by grind [Rw.right])), rfl⟩))))
    ·exact aC.skip (aC.seq (aC.region (aB.run II 4 rfl (aB.nil (aC.ret ⟨.inr rfl, (aE.r1 rfl (.tmp rfl .nil)).cast (congrArg AV.bool (by grind [Rw.right])), rfl⟩)))))
   ·exact aB.run II 6 rfl (aB.nil (aC.aZ rfl rfl (aC.skip (aC.seq (aC.region (aB.run II 4 rfl (aB.nil (aC.ret ⟨.inr rfl, (aE.r1 rfl (.tmp rfl .nil)).cast (congrArg AV.bool (by grind [Rw.right])), rfl⟩))))))))
theorem Hm (l : List aT) (hl : l.length ≤ 9223372036854775807) (F : FuncId) (caps : List AV) (p : aT → Bool) (hF : aa Tryz.prog F = true) (hp : ∀ x ∈ l, Pure Tryz.prog F ([x.av] ++ caps) (.bool (p x))) : Pure Tryz.prog 214 [.sl (l.map aT.av), .fn F caps] (.int .i64 (bS p l 0)) := by
 refine Pure.aL Tryz.func214 rfl rfl (aF rfl) fun H => (aC.seq (aC.region (aB.run II 1 rfl (aB.nil (aC.seq (aC.seq (aC.region (aB.run II 3 rfl (aB.nil (aC.blk (aC.aK (Kept.aJ [.s 8, .h, .s 0, .s 1, .s 7] rfl (by decide) (Kept.now (aC.aX (fun (i : Nat) => [(.s 8, .sv (.v (.int .i64 (i : Int))))]) _ (fun (i : Nat) => bS p (l.drop i) i = bS p l 0) (fun (i : Nat) => l.length - i) 0 rfl (by simp) ?_))))))))))))))
 rintro i hI
 refine aC.seq (aC.region (aB.run II 1 rfl (aB.nil (aC.seq (aC.cond rfl (fun hc1 => ?_) (fun hc1 => ?_))))))
 ·have hi := dD hc1
  have hS := cQ (p := p) hi
  refine aC.skip (aC.seq (aC.blk (aC.seq (aC.region (aB.run II 2 rfl (aB.nil (aC.seq (aC.region (aB.run II 3 rfl (aB.c1 rfl (aH (aF rfl) bM rfl rfl (Int.natCast_nonneg _) (cF hi) rfl) (aB.run II 1 rfl (aB.c1 rfl (mX (aF rfl) hF rfl rfl (hp _ (List.getElem_mem hi))) (aB.nil (aC.cond rfl (fun hc2 => ?_) (fun hc2 => ?_)))))))))))))))
  ·exact aC.seq (aC.region (aB.run II 2 rfl (aB.nil (aC.ret ⟨.inr rfl, (aE.r1 rfl (.tmp rfl .nil)).cast (congrArg (AV.int .i64) (by grind [])), rfl⟩))))
  ·exact aC.skip (aC.region (aB.run II 2 rfl (aB.kept (Kept.aY 8 rfl (inc (by omega)) (Kept.aJ [.s 8, .h, .s 0, .s 1, .s 7] rfl (by decide) (Kept.now ⟨i + 1, by omega, by grind, rfl⟩))))))
 ·have hi := dE hc1
  have hS := dd (p := p) hi
  exact aC.exit (aC.seq (aC.region (aB.run II 1 rfl (aB.nil (aC.ret ⟨.inr rfl, (aE.r1 rfl (.tmp rfl .nil)).cast (congrArg (AV.int .i64) (by grind [])), rfl⟩)))))
theorem Hn (l : List ag) (hl : l.length ≤ 9223372036854775807) (F : FuncId) (caps : List AV) (p : ag → Bool) (hF : aa Tryz.prog F = true) (hp : ∀ x ∈ l, Pure Tryz.prog F ([x.av] ++ caps) (.bool (p x))) : Pure Tryz.prog 219 [.sl (l.map ag.av), .fn F caps] (.int .i64 (bS p l 0)) := by
 refine Pure.aL Tryz.func219 rfl rfl (aF rfl) fun H => (aC.seq (aC.region (aB.run II 1 rfl (aB.nil (aC.seq (aC.seq (aC.region (aB.run II 3 rfl (aB.nil (aC.blk (aC.aK (Kept.aJ [.s 8, .h, .s 0, .s 1, .s 7] rfl (by decide) (Kept.now (aC.aX (fun (i : Nat) => [(.s 8, .sv (.v (.int .i64 (i : Int))))]) _ (fun (i : Nat) => bS p (l.drop i) i = bS p l 0) (fun (i : Nat) => l.length - i) 0 rfl (by simp) ?_))))))))))))))
 rintro i hI
 refine aC.seq (aC.region (aB.run II 1 rfl (aB.nil (aC.seq (aC.cond rfl (fun hc1 => ?_) (fun hc1 => ?_))))))
 ·have hi := dD hc1
  have hS := cQ (p := p) hi
  refine aC.skip (aC.seq (aC.blk (aC.seq (aC.region (aB.run II 2 rfl (aB.nil (aC.seq (aC.region (aB.run II 3 rfl (aB.c1 rfl (aH (aF rfl) bT rfl rfl (Int.natCast_nonneg _) (cF hi) rfl) (aB.run II 1 rfl (aB.c1 rfl (mX (aF rfl) hF rfl rfl (hp _ (List.getElem_mem hi))) (aB.nil (aC.cond rfl (fun hc2 => ?_) (fun hc2 => ?_)))))))))))))))
  ·exact aC.seq (aC.region (aB.run II 2 rfl (aB.nil (aC.ret ⟨.inr rfl, (aE.r1 rfl (.tmp rfl .nil)).cast (congrArg (AV.int .i64) (by grind [])), rfl⟩))))
  ·exact aC.skip (aC.region (aB.run II 2 rfl (aB.kept (Kept.aY 8 rfl (inc (by omega)) (Kept.aJ [.s 8, .h, .s 0, .s 1, .s 7] rfl (by decide) (Kept.now ⟨i + 1, by omega, by grind, rfl⟩))))))
 ·have hi := dE hc1
  have hS := dd (p := p) hi
  exact aC.exit (aC.seq (aC.region (aB.run II 1 rfl (aB.nil (aC.ret ⟨.inr rfl, (aE.r1 rfl (.tmp rfl .nil)).cast (congrArg (AV.int .i64) (by grind [])), rfl⟩)))))
theorem Jn (m : aT) (name : aw) : Pure Tryz.prog 215 ([m.av] ++ [.kp [.str name]]) (.bool (m.name == name)) := by
 exact Pure.aL Tryz.func215 rfl rfl (aF rfl) fun H => (aC.seq (aC.region (aB.run II 2 rfl (aB.nil (aC.seq (aC.region (aB.run II 5 rfl (aB.nil (aC.ret ⟨.inr rfl, (aE.r1 rfl (.tmp rfl .nil)).cast rfl, rfl⟩)))))))))
theorem Jm (f : ag) (num : Int) : Pure Tryz.prog 220 ([f.av] ++ [.kp [.int .i64 num]]) (.bool (f.num == num)) := by
 exact Pure.aL Tryz.func220 rfl rfl (aF rfl) fun H => (aC.seq (aC.region (aB.run II 2 rfl (aB.nil (aC.seq (aC.region (aB.run II 5 rfl (aB.nil (aC.ret ⟨.inr rfl, (aE.r1 rfl (.tmp rfl .nil)).cast rfl, rfl⟩)))))))))
theorem Ei (s : aN) (name : aw) (hl : s.msgs.length ≤ 9223372036854775807) : Pure Tryz.prog 210 [s.av, .str name] (.int .i64 (s.bJ name)) := by
 exact Pure.aL Tryz.func210 rfl rfl (aF rfl) fun H => (aC.seq (aC.region (aB.run II 3 rfl (aB.nil (aC.seq (aC.aK (Kept.wa 3 rfl rfl (Kept.now (aC.region (aB.run II 2 rfl (aB.c1 rfl (lX (aF rfl) rfl) (aB.c1 rfl (aG (aF rfl) F0 rfl (Hm s.msgs hl _ _ (fun m => m.name == name) FZ (fun x _ => Jn x name))) (aB.run II 1 rfl (aB.nil (aC.ret ⟨.inr rfl, (aE.r1 rfl (.tmp rfl .nil)).cast rfl, rfl⟩)))))))))))))))
theorem uM (m : aT) (num : Int) (hl : m.fields.length ≤ 1000) : Pure Tryz.prog 216 [m.av, .int .i64 num] (.int .i64 (m.at num)) := by
 exact Pure.aL Tryz.func216 rfl rfl (aF rfl) fun H => (aC.seq (aC.region (aB.run II 3 rfl (aB.nil (aC.seq (aC.aK (Kept.wa 3 rfl rfl (Kept.now (aC.region (aB.run II 2 rfl (aB.c1 rfl (lX (aF rfl) rfl) (aB.c1 rfl (aG (aF rfl) FX rfl (Hn m.fields (by omega) _ _ (fun f => f.num == num) FW (fun x _ => Jm x num))) (aB.run II 1 rfl (aB.nil (aC.ret ⟨.inr rfl, (aE.r1 rfl (.tmp rfl .nil)).cast rfl, rfl⟩)))))))))))))))
end Go.Proofs.YtlijgcifhhcfaaaGreatDoor.X
