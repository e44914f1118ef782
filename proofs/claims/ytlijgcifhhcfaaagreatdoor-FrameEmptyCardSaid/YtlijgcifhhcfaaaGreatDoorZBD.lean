/- the document: what is asked of a schema. -/
import Derived.Test.YtlijgcifhhcfaaaGreatDoorZBC
import Derived.Lib.ValidU
set_option linter.unusedVariables false
set_option linter.unusedSimpArgs false
set_option linter.unusedSectionVars false
set_option maxRecDepth 100000
namespace Go.Proofs.YtlijgcifhhcfaaaGreatDoor.X
open Go Go.RowKit Go.Proofs
theorem E6 : ab Tryz.prog 111 = true := by kernel_rfl
theorem xL : ab Tryz.prog 116 = true := by kernel_rfl
theorem xK : ab Tryz.prog 117 = true := by kernel_rfl
theorem jw : ab Tryz.prog 47 = true := by kernel_rfl
theorem fO : ie Tryz.prog 113 = some 2 := by kernel_rfl
theorem bR : ie Tryz.prog 73 = some 7 := by kernel_rfl
theorem Fp (s : aN) (hs : s.dj) : Pure Tryz.prog 68 [s.av] (.bool s.many) := by
 have := hs.e
 have := hs.m
 refine Pure.aL Tryz.func68 rfl rfl (aF rfl) fun H => (aC.seq (aC.region (aB.run II 2 rfl (aB.nil (aC.cE [.h, .s 1, .b 1] (fun (b : Bool) => [(.s 3, .sv (.v (.bool b)))]) (fun (b : Bool) => b = (decide (3 < s.enums.length) || decide (6 < s.msgs.length))) rfl ?_ ?_)))))
 ·refine aC.region (aB.run II 5 rfl (aB.tell (d := 10) rfl (fun hg1 => ?_) (fun hg1 => ?_)))
  ·exact aB.run II 6 rfl (aB.kept (Kept.aI [.s 3, .h, .s 1, .b 1] rfl (by decide) (Kept.now ⟨_, by grind, rfl⟩)))
  ·exact aB.run II 6 rfl (aB.kept (Kept.aI [.s 3, .h, .s 1, .b 1] rfl (by decide) (Kept.now ⟨_, by grind, rfl⟩)))
 ·rintro b hF2
  refine aC.seq (aC.seq (aC.region (aB.run II 1 rfl (aB.nil (aC.blk (aC.aK (Kept.aI [.s 4, .s 3, .h, .s 1, .b 1] rfl (by decide) (Kept.now (aC.aX (fun ((i, b) : Nat × Bool) => [(.s 4, .sv (.v (.int .i64 (i : Int)))), (.s 3, .sv (.v (.bool b)))]) _ (fun ((i, b) : Nat × Bool) => (b || (s.enums.drop i).any (fun e : dU => decide (8 < e.values.length))) = (decide (3 < s.enums.length) || decide (6 < s.msgs.length) || s.enums.any (fun e : dU => decide (8 < e.values.length)))) (fun ((i, b) : Nat × Bool) => s.enums.length - i) (0, _) rfl (by grind) ?_)))))))))
  rintro ⟨i, b⟩ hI
  refine aC.seq (aC.seq (aC.region (aB.run II 5 rfl (aB.nil (aC.cond rfl (fun hc2 => ?_) (fun hc2 => ?_))))))
  ·have hi := ch hc2
   have hS := bZ (p := (fun e : dU => decide (8 < e.values.length))) hi
   refine aC.skip (aC.seq (aC.blk (aC.region (aB.run II 2 rfl (aB.tell (d := 24) rfl (fun hg3 => ?_) (fun hg3 => ?_))))))
   ·exact aB.run II 10 rfl (aB.nil (aC.region (aB.run II 3 rfl (aB.kept (Kept.aY 4 rfl (inc (by omega)) (Kept.aI [.s 4, .s 3, .h, .s 1, .b 1] rfl (by decide) (Kept.now ⟨(i + 1, _), (by dsimp only; omega), by grind, rfl⟩)))))))
   ·exact aB.run II 3 rfl (aB.g1 rfl (aF rfl) rfl rfl (aH (aF rfl) cp rfl rfl (Int.natCast_nonneg _) (bz hi) rfl) (aB.run II 6 rfl (aB.nil (aC.region (aB.run II 3 rfl (aB.kept (Kept.aY 4 rfl (inc (by omega)) (Kept.aI [.s 4, .s 3, .h, .s 1, .b 1] rfl (by decide) (Kept.now ⟨(i + 1, _), (by dsimp only; omega), by grind, rfl⟩)))))))))
  ·have hi := cj hc2
   have hS := cD (p := (fun e : dU => decide (8 < e.values.length))) hi
   refine aC.exit (aC.seq (aC.seq (aC.region (aB.run II 1 rfl (aB.nil (aC.blk (aC.aK (Kept.aI [.s 5, .s 3, .h, .s 1, .b 1] rfl (by decide) (Kept.now (aC.aX (fun ((k, b) : Nat × Bool) => [(.s 5, .sv (.v (.int .i64 (k : Int)))), (.s 3, .sv (.v (.bool b)))]) _ (fun ((k, b) : Nat × Bool) => (b || (s.msgs.drop k).any (fun m : aT => decide (10 < m.fields.length) || decide (8 < m.ai.length))) = s.many) (fun ((k, b) : Nat × Bool) => s.msgs.length - k) (0, _) rfl (by grind [aN.many]) ?_))))))))))
   rintro ⟨k, b⟩ hI
   refine aC.seq (aC.seq (aC.region (aB.run II 5 rfl (aB.nil (aC.cond rfl (fun hc4 => ?_) (fun hc4 => ?_))))))
   ·have hk := ch hc4
    have hS := bZ (p := (fun m : aT => decide (10 < m.fields.length) || decide (8 < m.ai.length))) hk
    refine aC.skip (aC.seq (aC.blk (aC.region (aB.run II 2 rfl (aB.tell (d := 42) rfl (fun hg5 => ?_) (fun hg5 => ?_))))))
    ·exact aB.run II 20 rfl (aB.nil (aC.region (aB.run II 3 rfl (aB.kept (Kept.aY 5 rfl (inc (by omega)) (Kept.aI [.s 5, .s 3, .h, .s 1, .b 1] rfl (by decide) (Kept.now ⟨(k + 1, _), (by dsimp only; omega), by grind, rfl⟩)))))))
    ·refine aB.run II 3 rfl (aB.g1 rfl (aF rfl) rfl rfl (aH (aF rfl) bQ rfl rfl (Int.natCast_nonneg _) (bz hk) rfl) (aB.run II 6 rfl (aB.tell (d := 52) rfl (fun hg6 => ?_) (fun hg6 => ?_))))
     ·exact aB.run II 10 rfl (aB.nil (aC.region (aB.run II 3 rfl (aB.kept (Kept.aY 5 rfl (inc (by omega)) (Kept.aI [.s 5, .s 3, .h, .s 1, .b 1] rfl (by decide) (Kept.now ⟨(k + 1, _), (by dsimp only; omega), by grind, rfl⟩)))))))
     ·exact aB.run II 3 rfl (aB.g1 rfl (aF rfl) rfl rfl (aH (aF rfl) bQ rfl rfl (Int.natCast_nonneg _) (bz hk) rfl) (aB.run II 6 rfl (aB.nil (aC.region (aB.run II 3 rfl (aB.kept (Kept.aY 5 rfl (inc (by omega)) (Kept.aI [.s 5, .s 3, .h, .s 1, .b 1] rfl (by decide) (Kept.now ⟨(k + 1, _), (by dsimp only; omega), by grind, rfl⟩)))))))))
   ·have hk := cj hc4
    have hS := cD (p := (fun m : aT => decide (10 < m.fields.length) || decide (8 < m.ai.length))) hk
    exact aC.exit (aC.seq (aC.region (aB.run II 2 rfl (aB.nil (aC.ret ⟨.inr rfl, (aE.r1 rfl (.tmp rfl .nil)).cast (congrArg AV.bool (by grind [aN.many])), rfl⟩)))))
theorem Fl (s : aN) (hs : s.sm) : Pure Tryz.prog 69 [s.av] (.bool s.none) := by
 have := hs.e
 have := hs.m
 refine Pure.aL Tryz.func69 rfl rfl (aF rfl) fun H => (aC.seq (aC.region (aB.run II 2 rfl (aB.nil (aC.seq (aC.region (aB.run II 5 rfl (aB.nil (aC.seq (aC.seq (aC.region (aB.run II 1 rfl (aB.nil (aC.blk (aC.aK (Kept.aI [.s 4, .s 3, .h, .s 1, .b 1] rfl (by decide) (Kept.now (aC.aX (fun ((i, b) : Nat × Bool) => [(.s 4, .sv (.v (.int .i64 (i : Int)))), (.s 3, .sv (.v (.bool b)))]) _ (fun ((i, b) : Nat × Bool) => (b || (s.enums.drop i).any (fun e : dU => decide (e.values.length = 0))) = s.none) (fun ((i, b) : Nat × Bool) => s.enums.length - i) (0, _) rfl (by grind [aN.none]) ?_))))))))))))))))))
 rintro ⟨i, b⟩ hI
 refine aC.seq (aC.seq (aC.region (aB.run II 5 rfl (aB.nil (aC.cond rfl (fun hc1 => ?_) (fun hc1 => ?_))))))
 ·have hi := ch hc1
  have hS := bZ (p := (fun e : dU => decide (e.values.length = 0))) hi
  refine aC.skip (aC.seq (aC.blk (aC.region (aB.run II 2 rfl (aB.tell (d := 17) rfl (fun hg2 => ?_) (fun hg2 => ?_))))))
  ·exact aB.run II 10 rfl (aB.nil (aC.region (aB.run II 3 rfl (aB.kept (Kept.aY 4 rfl (inc (by omega)) (Kept.aI [.s 4, .s 3, .h, .s 1, .b 1] rfl (by decide) (Kept.now ⟨(i + 1, _), (by dsimp only; omega), by grind, rfl⟩)))))))
  ·exact aB.run II 3 rfl (aB.g1 rfl (aF rfl) rfl rfl (aH (aF rfl) cp rfl rfl (Int.natCast_nonneg _) (bz hi) rfl) (aB.run II 6 rfl (aB.nil (aC.region (aB.run II 3 rfl (aB.kept (Kept.aY 4 rfl (inc (by omega)) (Kept.aI [.s 4, .s 3, .h, .s 1, .b 1] rfl (by decide) (Kept.now ⟨(i + 1, _), (by dsimp only; omega), by grind, rfl⟩)))))))))
 ·have hi := cj hc1
  have hS := cD (p := (fun e : dU => decide (e.values.length = 0))) hi
  exact aC.exit (aC.seq (aC.region (aB.run II 2 rfl (aB.nil (aC.ret ⟨.inr rfl, (aE.r1 rfl (.tmp rfl .nil)).cast (congrArg AV.bool (by grind [aN.none])), rfl⟩)))))
theorem Fg (s : aN) (hs : s.sm) : Pure Tryz.prog 70 [s.av] (.bool s.text) := by
 have := hs.e
 have := hs.m
 refine Pure.aL Tryz.func70 rfl rfl (aF rfl) fun H => (aC.seq (aC.region (aB.run II 2 rfl (aB.nil (aC.seq (aC.region (aB.run II 1 rfl (aB.nil (aC.seq (aC.seq (aC.region (aB.run II 1 rfl (aB.nil (aC.blk (aC.aK (Kept.aI [.s 4, .s 3, .h, .s 1, .b 1] rfl (by decide) (Kept.now (aC.aX (fun ((i, b) : Nat × Bool) => [(.s 4, .sv (.v (.int .i64 (i : Int)))), (.s 3, .sv (.v (.bool b)))]) _ (fun ((i, b) : Nat × Bool) => (b || (s.enums.drop i).any (fun e : dU => !aq e.name || e.values.any fun v => !aq v.name)) = (s.enums.any (fun e : dU => !aq e.name || e.values.any fun v => !aq v.name))) (fun ((i, b) : Nat × Bool) => s.enums.length - i) (0, _) rfl (by grind) ?_))))))))))))))))))
 rintro ⟨i, b⟩ hI
 refine aC.seq (aC.seq (aC.region (aB.run II 5 rfl (aB.nil (aC.cond rfl (fun hc1 => ?_) (fun hc1 => ?_))))))
 ·have hi := ch hc1
  have hS := bZ (p := (fun e : dU => !aq e.name || e.values.any fun v => !aq v.name)) hi
  have := hs.vi hi
  refine aC.skip (aC.seq (aC.blk (aC.cE [.h, .s 1, .b 1, .s 4] (fun (b1 : Bool) => [(.s 3, .sv (.v (.bool b1)))]) (fun (b1 : Bool) => b1 = (b || !aq s.enums[i].name)) rfl ?_ ?_)))
  ·refine aC.region (aB.run II 2 rfl (aB.tell (d := 15) rfl (fun hg2 => ?_) (fun hg2 => ?_)))
   ·exact aB.run II 10 rfl (aB.kept (Kept.aI [.s 3, .h, .s 1, .b 1, .s 4] rfl (by decide) (Kept.now ⟨_, by grind, rfl⟩)))
   ·exact aB.run II 3 rfl (aB.g1 rfl (aF rfl) rfl rfl (aH (aF rfl) cp rfl rfl (Int.natCast_nonneg _) (bz hi) rfl) (aB.run II 2 rfl (aB.g1 rfl (aF rfl) rfl rfl (aG (aF rfl) dq rfl (dB _)) (aB.run II 3 rfl (aB.kept (Kept.aI [.s 3, .h, .s 1, .b 1, .s 4] rfl (by decide) (Kept.now ⟨_, by grind, rfl⟩)))))))
  ·rintro b1 hF6
   refine aC.seq (aC.region (aB.run II 1 rfl (aB.nil (aC.blk (aC.aK (Kept.aI [.s 5, .s 3, .h, .s 1, .b 1, .s 4] rfl (by decide) (Kept.now (aC.aX (fun ((k, b) : Nat × Bool) => [(.s 5, .sv (.v (.int .i64 (k : Int)))), (.s 3, .sv (.v (.bool b)))]) _ (fun ((k, b) : Nat × Bool) => (b || ((s.enums[i]'hi).values.drop k).any (fun v : iu => !aq v.name)) = (b1 || (s.enums[i]'hi).values.any (fun v : iu => !aq v.name))) (fun ((k, b) : Nat × Bool) => (s.enums[i]'hi).values.length - k) (0, _) rfl (by grind) ?_))))))))
   rintro ⟨k, b⟩ hI
   refine aC.seq (aC.seq (aC.region (aB.run II 4 rfl (aB.c1 rfl (aH (aF rfl) cp rfl rfl (Int.natCast_nonneg _) (bz hi) rfl) (aB.run II 4 rfl (aB.nil (aC.cond rfl (fun hc3 => ?_) (fun hc3 => ?_))))))))
   ·have hk := ch hc3
    have hS := bZ (p := (fun v : iu => !aq v.name)) hk
    refine aC.skip (aC.seq (aC.blk (aC.region (aB.run II 2 rfl (aB.tell (d := 37) rfl (fun hg4 => ?_) (fun hg4 => ?_))))))
    ·exact aB.run II 14 rfl (aB.nil (aC.region (aB.run II 3 rfl (aB.kept (Kept.aY 5 rfl (inc (by omega)) (Kept.aI [.s 5, .s 3, .h, .s 1, .b 1, .s 4] rfl (by decide) (Kept.now ⟨(k + 1, _), (by dsimp only; omega), by grind, rfl⟩)))))))
    ·exact aB.run II 3 rfl (aB.g1 rfl (aF rfl) rfl rfl (aH (aF rfl) cp rfl rfl (Int.natCast_nonneg _) (bz hi) rfl) (aB.run II 3 rfl (aB.g1 rfl (aF rfl) rfl rfl (aH (aF rfl) fO rfl rfl (Int.natCast_nonneg _) (bz hk) rfl) (aB.run II 2 rfl (aB.g1 rfl (aF rfl) rfl rfl (aG (aF rfl) dq rfl (dB _)) (aB.run II 3 rfl (aB.nil (aC.region (aB.run II 3 rfl (aB.kept (Kept.aY 5 rfl (inc (by omega)) (Kept.aI [.s 5, .s 3, .h, .s 1, .b 1, .s 4] rfl (by decide) (Kept.now ⟨(k + 1, _), (by dsimp only; omega), by grind, rfl⟩)))))))))))))
   ·have hk := cj hc3
    have hS := cD (p := (fun v : iu => !aq v.name)) hk
    exact aC.exit (aC.region (aB.run II 3 rfl (aB.kept (Kept.aY 4 rfl (inc (by omega)) (Kept.aI [.s 4, .s 3, .h, .s 1, .b 1] rfl (by decide) (Kept.now ⟨(i + 1, _), (by dsimp only; omega), by grind, rfl⟩))))))
 ·have hi := cj hc1
  have hS := cD (p := (fun e : dU => !aq e.name || e.values.any fun v => !aq v.name)) hi
  refine aC.exit (aC.seq (aC.seq (aC.region (aB.run II 1 rfl (aB.nil (aC.blk (aC.aK (Kept.aI [.s 6, .s 3, .h, .s 1, .b 1] rfl (by decide) (Kept.now (aC.aX (fun ((j, b) : Nat × Bool) => [(.s 6, .sv (.v (.int .i64 (j : Int)))), (.s 3, .sv (.v (.bool b)))]) _ (fun ((j, b) : Nat × Bool) => (b || (s.msgs.drop j).any (fun m : aT => !aq m.name)) = s.text) (fun ((j, b) : Nat × Bool) => s.msgs.length - j) (0, _) rfl (by grind [aN.text]) ?_))))))))))
  rintro ⟨j, b⟩ hI
  refine aC.seq (aC.seq (aC.region (aB.run II 5 rfl (aB.nil (aC.cond rfl (fun hc5 => ?_) (fun hc5 => ?_))))))
  ·have hj := ch hc5
   have hS := bZ (p := (fun m : aT => !aq m.name)) hj
   refine aC.skip (aC.seq (aC.blk (aC.region (aB.run II 2 rfl (aB.tell (d := 59) rfl (fun hg6 => ?_) (fun hg6 => ?_))))))
   ·exact aB.run II 10 rfl (aB.nil (aC.region (aB.run II 3 rfl (aB.kept (Kept.aY 6 rfl (inc (by omega)) (Kept.aI [.s 6, .s 3, .h, .s 1, .b 1] rfl (by decide) (Kept.now ⟨(j + 1, _), (by dsimp only; omega), by grind, rfl⟩)))))))
   ·exact aB.run II 3 rfl (aB.g1 rfl (aF rfl) rfl rfl (aH (aF rfl) bQ rfl rfl (Int.natCast_nonneg _) (bz hj) rfl) (aB.run II 2 rfl (aB.g1 rfl (aF rfl) rfl rfl (aG (aF rfl) dq rfl (dB _)) (aB.run II 3 rfl (aB.nil (aC.region (aB.run II 3 rfl (aB.kept (Kept.aY 6 rfl (inc (by omega)) (Kept.aI [.s 6, .s 3, .h, .s 1, .b 1] rfl (by decide) (Kept.now ⟨(j + 1, _), (by dsimp only; omega), by grind, rfl⟩)))))))))))
  ·have hj := cj hc5
   have hS := cD (p := (fun m : aT => !aq m.name)) hj
   exact aC.exit (aC.seq (aC.region (aB.run II 2 rfl (aB.nil (aC.ret ⟨.inr rfl, (aE.r1 rfl (.tmp rfl .nil)).cast (congrArg AV.bool (by grind [aN.text])), rfl⟩)))))
theorem AF (s : aN) (hs : s.sm) : Pure Tryz.prog 71 [s.av] (.int .i64 (eO s.msgs)) := by
 have := hs.e
 have := hs.m
 refine Pure.aL Tryz.func71 rfl rfl (aF rfl) fun H => (aC.seq (aC.region (aB.run II 2 rfl (aB.nil (aC.seq (aC.seq (aC.region (aB.run II 1 rfl (aB.nil (aC.blk (aC.aK (Kept.aI [.s 3, .h, .s 1, .b 1] rfl (by decide) (Kept.now (aC.aX (fun (i : Nat) => [(.s 3, .sv (.v (.int .i64 (i : Int))))]) _ (fun (i : Nat) => eO (s.msgs.drop i) = eO s.msgs) (fun (i : Nat) => s.msgs.length - i) 0 rfl (by simp) ?_))))))))))))))
 rintro i hI
 refine aC.seq (aC.seq (aC.region (aB.run II 5 rfl (aB.nil (aC.cond rfl (fun hc1 => ?_) (fun hc1 => ?_))))))
 ·have hi := ch hc1
  have hS := sD hi
  have := hs.fi hi
  have := hs.bi hi
  refine aC.skip (aC.seq (aC.blk (aC.seq (aC.region (aB.run II 1 rfl (aB.nil (aC.blk (aC.aK (Kept.aI [.s 4, .h, .s 1, .b 1, .s 3] rfl (by decide) (Kept.now (aC.aX (fun (k : Nat) => [(.s 4, .sv (.v (.int .i64 (k : Int))))]) _ (fun (k : Nat) => c8 ((s.msgs[i]'hi).fields.drop k) = c8 (s.msgs[i]'hi).fields) (fun (k : Nat) => (s.msgs[i]'hi).fields.length - k) 0 rfl (by simp) ?_)))))))))))
  rintro k hK
  refine aC.seq (aC.seq (aC.region (aB.run II 4 rfl (aB.c1 rfl (aH (aF rfl) bQ rfl rfl (Int.natCast_nonneg _) (bz hi) rfl) (aB.run II 4 rfl (aB.nil (aC.cond rfl (fun hc2 => ?_) (fun hc2 => ?_))))))))
  ·have hk := ch hc2
   have hT := p7 hk
   refine aC.skip (aC.seq (aC.blk (aC.seq (aC.region (aB.run II 3 rfl (aB.c1 rfl (aH (aF rfl) bQ rfl rfl (Int.natCast_nonneg _) (bz hi) rfl) (aB.run II 3 rfl (aB.c1 rfl (aH (aF rfl) bR rfl rfl (Int.natCast_nonneg _) (bz hk) rfl) (aB.run II 1 rfl (aB.c1 rfl (aG (aF rfl) E6 rfl (Fy _)) (aB.run II 1 rfl (aB.nil (aC.seq (aC.region (aB.run II 2 rfl (aB.nil (aC.cond rfl (fun hc3 => ?_) (fun hc3 => ?_))))))))))))))))))
   ·exact aC.seq (aC.region (aB.run II 2 rfl (aB.nil (aC.ret ⟨.inr rfl, (aE.r1 rfl (.tmp rfl .nil)).cast (congrArg (AV.int .i64) (by grind [])), rfl⟩))))
   ·exact aC.skip (aC.region (aB.run II 3 rfl (aB.kept (Kept.aY 4 rfl (inc (by omega)) (Kept.aI [.s 4, .h, .s 1, .b 1, .s 3] rfl (by decide) (Kept.now ⟨k + 1, by omega, by grind, rfl⟩))))))
  ·have hk := cj hc2
   have hT := qE hk
   exact aC.exit (aC.region (aB.run II 3 rfl (aB.kept (Kept.aY 3 rfl (inc (by omega)) (Kept.aI [.s 3, .h, .s 1, .b 1] rfl (by decide) (Kept.now ⟨i + 1, by omega, by grind, rfl⟩))))))
 ·have hi := cj hc1
  have hS := tu hi
  exact aC.exit (aC.seq (aC.region (aB.run II 1 rfl (aB.nil (aC.ret ⟨.inr rfl, (aE.r1 rfl (.tmp rfl .nil)).cast (congrArg (AV.int .i64) (by grind [])), rfl⟩)))))
theorem AH (s : aN) (hs : s.sm) : Pure Tryz.prog 74 [s.av] (.bool s.ai) := by
 have := hs.e
 have := hs.m
 refine Pure.aL Tryz.func74 rfl rfl (aF rfl) fun H => (aC.seq (aC.region (aB.run II 2 rfl (aB.nil (aC.seq (aC.seq (aC.region (aB.run II 1 rfl (aB.nil (aC.blk (aC.aK (Kept.aI [.s 3, .h, .s 1, .b 1] rfl (by decide) (Kept.now (aC.aX (fun (i : Nat) => [(.s 3, .sv (.v (.int .i64 (i : Int))))]) _ (fun (i : Nat) => (s.msgs.drop i).any (fun m : aT => m.fields.any fun f => m.ai.any (· == f.num)) = s.ai) (fun (i : Nat) => s.msgs.length - i) 0 rfl (by simp [aN.ai]) ?_))))))))))))))
 rintro i hI
 refine aC.seq (aC.seq (aC.region (aB.run II 5 rfl (aB.nil (aC.cond rfl (fun hc1 => ?_) (fun hc1 => ?_))))))
 ·have hi := ch hc1
  have hS := bZ (p := (fun m : aT => m.fields.any fun f => m.ai.any (· == f.num))) hi
  have := hs.fi hi
  have := hs.bi hi
  refine aC.skip (aC.seq (aC.blk (aC.seq (aC.region (aB.run II 1 rfl (aB.nil (aC.blk (aC.aK (Kept.aI [.s 4, .h, .s 1, .b 1, .s 3] rfl (by decide) (Kept.now (aC.aX (fun (k : Nat) => [(.s 4, .sv (.v (.int .i64 (k : Int))))]) _ (fun (k : Nat) => ((s.msgs[i]'hi).fields.drop k).any (fun f : ah => (s.msgs[i]'hi).ai.any (· == f.num)) = (s.msgs[i]'hi).fields.any (fun f : ah => (s.msgs[i]'hi).ai.any (· == f.num))) (fun (k : Nat) => (s.msgs[i]'hi).fields.length - k) 0 rfl (by simp) ?_)))))))))))
  rintro k hK
  refine aC.seq (aC.seq (aC.region (aB.run II 4 rfl (aB.c1 rfl (aH (aF rfl) bQ rfl rfl (Int.natCast_nonneg _) (bz hi) rfl) (aB.run II 4 rfl (aB.nil (aC.cond rfl (fun hc2 => ?_) (fun hc2 => ?_))))))))
  ·have hk := ch hc2
   have hT := bZ (p := (fun f : ah => (s.msgs[i]'hi).ai.any (· == f.num))) hk
   refine aC.skip (aC.seq (aC.blk (aC.seq (aC.drawn mixed rfl (aD.run II 3 rfl (aD.c1 rfl (aH (aF rfl) bQ rfl rfl (Int.natCast_nonneg _) (bz hi) rfl) (aD.run II 5 rfl (aD.c1 rfl (aH (aF rfl) bQ rfl rfl (Int.natCast_nonneg _) (bz hi) rfl) (aD.run II 3 rfl (aD.c1 rfl (aH (aF rfl) bR rfl rfl (Int.natCast_nonneg _) (bz hk) rfl) (aD.run II 2 rfl (aD.c1 rfl (aG (aF rfl) xL rfl (Ex _ _ (by omega))) (aD.nil (by kernel_rfl) (Kept.now (aC.cond rfl (fun hc3 => ?_) (fun hc3 => ?_))))))))))))))))
   ·exact aC.seq (aC.region (aB.run II 1 rfl (aB.nil (aC.ret ⟨.inr rfl, (aE.r1 rfl (.tmp rfl .nil)).cast (congrArg AV.bool (by grind [aN.ai])), rfl⟩))))
   ·exact aC.skip (aC.region (aB.run II 3 rfl (aB.kept (Kept.aY 4 rfl (inc (by omega)) (Kept.aI [.s 4, .h, .s 1, .b 1, .s 3] rfl (by decide) (Kept.now ⟨k + 1, by omega, by grind, rfl⟩))))))
  ·have hk := cj hc2
   have hT := cD (p := (fun f : ah => (s.msgs[i]'hi).ai.any (· == f.num))) hk
   exact aC.exit (aC.region (aB.run II 3 rfl (aB.kept (Kept.aY 3 rfl (inc (by omega)) (Kept.aI [.s 3, .h, .s 1, .b 1] rfl (by decide) (Kept.now ⟨i + 1, by omega, by grind, rfl⟩))))))
 ·have hi := cj hc1
  have hS := cD (p := (fun m : aT => m.fields.any fun f => m.ai.any (· == f.num))) hi
  exact aC.exit (aC.seq (aC.region (aB.run II 1 rfl (aB.nil (aC.ret ⟨.inr rfl, (aE.r1 rfl (.tmp rfl .nil)).cast (congrArg AV.bool (by grind [aN.ai])), rfl⟩)))))
theorem Fi (s : aN) (hs : s.sm) : Pure Tryz.prog 75 [s.av] (.bool s.refs) := by
 have := hs.e
 have := hs.m
 refine Pure.aL Tryz.func75 rfl rfl (aF rfl) fun H => (aC.seq (aC.region (aB.run II 2 rfl (aB.nil (aC.seq (aC.seq (aC.region (aB.run II 1 rfl (aB.nil (aC.blk (aC.aK (Kept.aI [.s 3, .h, .s 1, .b 1] rfl (by decide) (Kept.now (aC.aX (fun (i : Nat) => [(.s 3, .sv (.v (.int .i64 (i : Int))))]) _ (fun (i : Nat) => (s.msgs.drop i).any (fun m : aT => m.fields.any fun f => (decide (f.ty = 14) && decide (s.eB f.ref < 0)) || (decide (f.ty = 15) && decide (s.bH f.ref < 0))) = s.refs) (fun (i : Nat) => s.msgs.length - i) 0 rfl (by simp [aN.refs]) ?_))))))))))))))
 rintro i hI
 refine aC.seq (aC.seq (aC.region (aB.run II 5 rfl (aB.nil (aC.cond rfl (fun hc1 => ?_) (fun hc1 => ?_))))))
 ·have hi := ch hc1
  have hS := bZ (p := (fun m : aT => m.fields.any fun f => (decide (f.ty = 14) && decide (s.eB f.ref < 0)) || (decide (f.ty = 15) && decide (s.bH f.ref < 0)))) hi
  have := hs.fi hi
  have := hs.bi hi
  refine aC.skip (aC.seq (aC.blk (aC.seq (aC.region (aB.run II 1 rfl (aB.nil (aC.blk (aC.aK (Kept.aI [.s 4, .h, .s 1, .b 1, .s 3] rfl (by decide) (Kept.now (aC.aX (fun (k : Nat) => [(.s 4, .sv (.v (.int .i64 (k : Int))))]) _ (fun (k : Nat) => ((s.msgs[i]'hi).fields.drop k).any (fun f : ah => (decide (f.ty = 14) && decide (s.eB f.ref < 0)) || (decide (f.ty = 15) && decide (s.bH f.ref < 0))) = (s.msgs[i]'hi).fields.any (fun f : ah => (decide (f.ty = 14) && decide (s.eB f.ref < 0)) || (decide (f.ty = 15) && decide (s.bH f.ref < 0)))) (fun (k : Nat) => (s.msgs[i]'hi).fields.length - k) 0 rfl (by simp) ?_)))))))))))
  rintro k hK
  refine aC.seq (aC.seq (aC.region (aB.run II 4 rfl (aB.c1 rfl (aH (aF rfl) bQ rfl rfl (Int.natCast_nonneg _) (bz hi) rfl) (aB.run II 4 rfl (aB.nil (aC.cond rfl (fun hc2 => ?_) (fun hc2 => ?_))))))))
  ·have hk := ch hc2
   have hT := bZ (p := (fun f : ah => (decide (f.ty = 14) && decide (s.eB f.ref < 0)) || (decide (f.ty = 15) && decide (s.bH f.ref < 0)))) hk
   refine aC.skip (aC.seq (aC.blk (aC.seq (aC.region (aB.run II 3 rfl (aB.c1 rfl (aH (aF rfl) bQ rfl rfl (Int.natCast_nonneg _) (bz hi) rfl) (aB.run II 3 rfl (aB.c1 rfl (aH (aF rfl) bR rfl rfl (Int.natCast_nonneg _) (bz hk) rfl) (aB.run II 3 rfl (aB.nil (aC.seq (aC.region (aB.run II 4 rfl (aB.tell (d := 36) rfl (fun hg3 => ?_) (fun hg3 => ?_)))))))))))))))
   ·refine aB.run II 3 rfl (aB.g1 rfl (aF rfl) rfl rfl (aG (aF rfl) xK rfl (sj _ _ (by omega))) (aB.run II 3 rfl (aB.tell (d := 43) rfl (fun hg4 => ?_) (fun hg4 => ?_))))
    ·exact aB.run II 11 rfl (aB.nil (aC.ar rfl rfl (aC.seq (aC.region (aB.run II 1 rfl (aB.nil (aC.ret ⟨.inr rfl, (aE.r1 rfl (.tmp rfl .nil)).cast (congrArg AV.bool (by grind [aN.refs])), rfl⟩)))))))
    ·refine aB.run II 4 rfl (aB.tell (d := 47) rfl (fun hg5 => ?_) (fun hg5 => ?_))
     ·refine aB.run II 3 rfl (aB.g1 rfl (aF rfl) rfl rfl (aG (aF rfl) jw rfl (gw _ _ (by omega))) (aB.run II 3 rfl (aB.nil (aC.cond rfl (fun hc6 => ?_) (fun hc6 => ?_)))))
      ·exact aC.seq (aC.region (aB.run II 1 rfl (aB.nil (aC.ret ⟨.inr rfl, (aE.r1 rfl (.tmp rfl .nil)).cast (congrArg AV.bool (by grind [aN.refs])), rfl⟩))))
      ·exact aC.skip (aC.region (aB.run II 3 rfl (aB.kept (Kept.aY 4 rfl (inc (by omega)) (Kept.aI [.s 4, .h, .s 1, .b 1, .s 3] rfl (by decide) (Kept.now ⟨k + 1, by omega, by grind, rfl⟩))))))
     ·exact aB.run II 7 rfl (aB.nil (aC.aZ rfl rfl (aC.skip (aC.region (aB.run II 3 rfl (aB.kept (Kept.aY 4 rfl (inc (by omega)) (Kept.aI [.s 4, .h, .s 1, .b 1, .s 3] rfl (by decide) (Kept.now ⟨k + 1, by omega, by grind, rfl⟩)))))))))
   ·refine aB.run II 11 rfl (aB.tell (d := 47) rfl (fun hg7 => ?_) (fun hg7 => ?_))
    ·refine aB.run II 3 rfl (aB.g1 rfl (aF rfl) rfl rfl (aG (aF rfl) jw rfl (gw _ _ (by omega))) (aB.run II 3 rfl (aB.nil (aC.cond rfl (fun hc8 => ?_) (fun hc8 => ?_)))))
     ·exact aC.seq (aC.region (aB.run II 1 rfl (aB.nil (aC.ret ⟨.inr rfl, (aE.r1 rfl (.tmp rfl .nil)).cast (congrArg AV.bool (by grind [aN.refs])), rfl⟩))))
     ·exact aC.skip (aC.region (aB.run II 3 rfl (aB.kept (Kept.aY 4 rfl (inc (by omega)) (Kept.aI [.s 4, .h, .s 1, .b 1, .s 3] rfl (by decide) (Kept.now ⟨k + 1, by omega, by grind, rfl⟩))))))
    ·exact aB.run II 7 rfl (aB.nil (aC.aZ rfl rfl (aC.skip (aC.region (aB.run II 3 rfl (aB.kept (Kept.aY 4 rfl (inc (by omega)) (Kept.aI [.s 4, .h, .s 1, .b 1, .s 3] rfl (by decide) (Kept.now ⟨k + 1, by omega, by grind, rfl⟩)))))))))
  ·have hk := cj hc2
   have hT := cD (p := (fun f : ah => (decide (f.ty = 14) && decide (s.eB f.ref < 0)) || (decide (f.ty = 15) && decide (s.bH f.ref < 0)))) hk
   exact aC.exit (aC.region (aB.run II 3 rfl (aB.kept (Kept.aY 3 rfl (inc (by omega)) (Kept.aI [.s 3, .h, .s 1, .b 1] rfl (by decide) (Kept.now ⟨i + 1, by omega, by grind, rfl⟩))))))
 ·have hi := cj hc1
  have hS := cD (p := (fun m : aT => m.fields.any fun f => (decide (f.ty = 14) && decide (s.eB f.ref < 0)) || (decide (f.ty = 15) && decide (s.bH f.ref < 0)))) hi
  exact aC.exit (aC.seq (aC.region (aB.run II 1 rfl (aB.nil (aC.ret ⟨.inr rfl, (aE.r1 rfl (.tmp rfl .nil)).cast (congrArg AV.bool (by grind [aN.refs])), rfl⟩)))))
/- the document: names that stand twice, order, what is asked of a schema. -/
theorem mG : ab Tryz.prog 112 = true := by kernel_rfl
theorem sA : ab Tryz.prog 113 = true := by kernel_rfl
theorem xM : ab Tryz.prog 114 = true := by kernel_rfl
theorem E5 : ab Tryz.prog 115 = true := by kernel_rfl
theorem BV : fo Tryz.prog 25 1 = some 1 := by kernel_rfl
theorem Gy : lk Tryz.prog 23 = some (false, 1) := by kernel_rfl
theorem iW : lk Tryz.prog 3 = some (false, 1) := by kernel_rfl
theorem Az : lk Tryz.prog 75 = some (true, 3) := by kernel_rfl
theorem bM : se Tryz.prog 106 = some (9, 1, 16) := by kernel_rfl
theorem ba : se Tryz.prog 46 = some (3, 1, 8) := by kernel_rfl
theorem uZ : Tryz.prog.underlying 46 = some (TypeDesc.slice 3) := Tryz.underlying46
theorem cz : bf Tryz.prog 9 = some [AV.str []] := by kernel_rfl
theorem fK : bf Tryz.prog 3 = some [AV.int IntKind.i64 (0)] := by kernel_rfl
theorem Cq (s : aN) (hs : s.sm) : Pure Tryz.prog 72 [s.av] (.bool s.gl) := by
 have := hs.e
 have := hs.m
 refine Pure.aL Tryz.func72 rfl rfl (aF rfl) fun H => (aC.seq (aC.region (aB.run II 2 rfl (aB.nil (aC.seq (aC.region (aB.c2 rfl (bD («as» := []) (aF rfl) bM cz rfl rfl rfl (fh rfl) rfl) (aB.run II 1 rfl (aB.nil (aC.seq (aC.region (aB.run II 1 rfl (aB.nil (aC.seq (aC.seq (aC.region (aB.run II 1 rfl (aB.nil (aC.blk (aC.aK (Kept.aI [.s 5, .s 4, .s 3, .t 13, .h, .s 1, .b 1] rfl (by decide) (Kept.now ?_))))))))))))))))))))))
 refine aC.aX (fun ((i, b, a) : Nat × Bool × List AV) => [(.s 5, .sv (.v (.int .i64 (i : Int)))), (.s 4, .sv (.v (.bool b))), (.s 3, .sv (.ow 13 a)), (.t 13, .tk false 9 1 a)]) _ (fun ((i, b, a) : Nat × Bool × List AV) => a = (s.enums.take i).map (fun e : dU => AV.str e.name) ∧ (b || (s.enums.drop i).any (fun e : dU => !once (e.values.map (·.name)))) = s.enums.any (fun e : dU => !once (e.values.map (·.name)))) (fun ((i, b, a) : Nat × Bool × List AV) => s.enums.length - i) (0, _, _) rfl ⟨rfl, by grind⟩ ?_
 rintro ⟨i, b, a⟩ ⟨ha, hI⟩
 refine aC.seq (aC.seq (aC.region (aB.run II 5 rfl (aB.nil (aC.cond rfl (fun hc1 => ?_) (fun hc1 => ?_))))))
 ·have hi := ch hc1
  have hS := bZ (p := (fun e : dU => !once (e.values.map (·.name)))) hi
  have := hs.vi hi
  refine aC.skip (aC.seq (aC.blk (aC.seq (aC.region (aB.run II 4 rfl (aB.c1 rfl (aH (aF rfl) cp rfl rfl (Int.natCast_nonneg _) (bz hi) rfl) (aB.run II 3 rfl (aB.c3 rfl (aW (aF rfl) bM rfl rfl rfl rfl rfl (by rw [ha]; simp; omega) (by rw [ha]; simp; omega)) ?_))))))))
  refine aB.run II 1 rfl (aB.nil (aC.seq (aC.region (aB.c2 rfl (bD («as» := []) (aF rfl) bM cz rfl rfl rfl (fh rfl) rfl) (aB.run II 1 rfl (aB.nil (aC.seq (aC.seq (aC.region (aB.run II 1 rfl (aB.nil (aC.blk (aC.aK (Kept.aI [.s 7, .s 6, .t 30, .h, .s 1, .b 1, .s 3, .t 29, .s 4, .s 5] rfl (by decide) (Kept.now (aC.aX (fun ((k, c) : Nat × List AV) => [(.s 7, .sv (.v (.int .i64 (k : Int)))), (.s 6, .sv (.ow 30 c)), (.t 30, .tk false 9 1 c)]) _ (fun ((k, c) : Nat × List AV) => c = ((s.enums[i]'hi).values.take k).map (fun v : iu => AV.str v.name)) (fun ((k, c) : Nat × List AV) => (s.enums[i]'hi).values.length - k) (0, _) rfl rfl ?_))))))))))))))))
  rintro ⟨k, c⟩ hC
  refine aC.seq (aC.seq (aC.region (aB.run II 4 rfl (aB.c1 rfl (aH (aF rfl) cp rfl rfl (Int.natCast_nonneg _) (bz hi) rfl) (aB.run II 4 rfl (aB.nil (aC.cond rfl (fun hc2 => ?_) (fun hc2 => ?_))))))))
  ·have hk := ch hc2
   refine aC.skip (aC.seq (aC.blk (aC.region (aB.run II 4 rfl (aB.c1 rfl (aH (aF rfl) cp rfl rfl (Int.natCast_nonneg _) (bz hi) rfl) (aB.run II 3 rfl (aB.c1 rfl (aH (aF rfl) fO rfl rfl (Int.natCast_nonneg _) (bz hk) rfl) (aB.run II 3 rfl (aB.c3 rfl (aW (aF rfl) bM rfl rfl rfl rfl rfl (by rw [hC]; simp; omega) (by rw [hC]; simp; omega)) ?_)))))))))
   exact aB.run II 1 rfl (aB.nil (aC.region (aB.run II 3 rfl (aB.kept (Kept.aY 7 rfl (inc (by omega)) (Kept.aI [.s 7, .s 6, .t 54, .h, .s 1, .b 1, .s 3, .t 29, .s 4, .s 5] rfl (by decide) (Kept.gB 54 30 (by decide) rfl (Kept.now ⟨(k + 1, _), (by dsimp only; omega), dd hk hC, rfl⟩))))))))
  ·have hk := cj hc2
   have hTk := fS hk
   refine aC.exit (aC.region (aB.run II 2 rfl (aB.tell (d := 56) rfl (fun hg3 => ?_) (fun hg3 => ?_))))
   ·exact aB.run II 5 rfl (aB.nil (aC.region (aB.run II 3 rfl (aB.kept (Kept.aY 5 rfl (inc (by omega)) (Kept.aI [.s 5, .s 4, .s 3, .t 29, .h, .s 1, .b 1] rfl (by decide) (Kept.gB 29 13 (by decide) rfl (Kept.now (⟨(i + 1, _, _), (by dsimp only; omega), ⟨dd hi ha, by grind⟩, rfl⟩)))))))))
   ·refine aB.run II 1 rfl (aB.g1 rfl (aF rfl) rfl rfl (aG (aF rfl) mG rfl ((oR ((s.enums[i]'hi).values.map (·.name)) (by simp; omega)).at (by rw [hC, hTk]; simp [Function.comp_def]))) ?_)
    exact aB.run II 3 rfl (aB.nil (aC.region (aB.run II 3 rfl (aB.kept (Kept.aY 5 rfl (inc (by omega)) (Kept.aI [.s 5, .s 4, .s 3, .t 29, .h, .s 1, .b 1] rfl (by decide) (Kept.gB 29 13 (by decide) rfl (Kept.now (⟨(i + 1, _, _), (by dsimp only; omega), ⟨dd hi ha, by grind⟩, rfl⟩)))))))))
 ·have hi := cj hc1
  have hS := cD (p := (fun e : dU => !once (e.values.map (·.name)))) hi
  have hT := fS hi
  refine aC.exit (aC.seq (aC.seq (aC.region (aB.run II 1 rfl (aB.nil (aC.blk (aC.aK (Kept.aI [.s 8, .s 4, .s 3, .t 13, .h, .s 1, .b 1] rfl (by decide) (Kept.now (aC.aX (fun ((i, b, a) : Nat × Bool × List AV) => [(.s 8, .sv (.v (.int .i64 (i : Int)))), (.s 4, .sv (.v (.bool b))), (.s 3, .sv (.ow 13 a)), (.t 13, .tk false 9 1 a)]) _ (fun ((i, b, a) : Nat × Bool × List AV) => a = s.enums.map (fun e : dU => AV.str e.name) ++ (s.msgs.take i).map (fun m : aT => AV.str m.name) ∧ (b || (s.msgs.drop i).any aT.gl) = (s.enums.any (fun e : dU => !once (e.values.map (·.name))) || s.msgs.any aT.gl)) (fun ((i, b, a) : Nat × Bool × List AV) => s.msgs.length - i) (0, _, _) rfl ⟨by grind, by grind⟩ ?_))))))))))
  rintro ⟨i, b, a⟩ ⟨ha, hI⟩
  refine aC.seq (aC.seq (aC.region (aB.run II 5 rfl (aB.nil (aC.cond rfl (fun hc4 => ?_) (fun hc4 => ?_))))))
  ·have hi := ch hc4
   have hS := bZ (p := aT.gl) hi
   have := hs.fi hi
   have := hs.bi hi
   refine aC.skip (aC.seq (aC.blk (aC.seq (aC.region (aB.run II 4 rfl (aB.c1 rfl (aH (aF rfl) bQ rfl rfl (Int.natCast_nonneg _) (bz hi) rfl) (aB.run II 3 rfl (aB.c3 rfl (aW (aF rfl) bM rfl rfl rfl rfl rfl (by rw [ha]; simp; omega) (by rw [ha]; simp; omega)) ?_))))))))
   refine aB.run II 1 rfl (aB.nil (aC.seq (aC.region (aB.run II 3 rfl (aB.c1 rfl (aH (aF rfl) bQ rfl rfl (Int.natCast_nonneg _) (bz hi) rfl) (aB.run II 3 rfl (aB.nil (aC.seq (aC.region (aB.c2 rfl (bD («as» := []) (aF rfl) bM cz rfl rfl rfl (fh rfl) rfl) (aB.run II 1 rfl (aB.nil (aC.seq (aC.seq (aC.region (aB.run II 1 rfl (aB.nil (aC.blk (aC.aK (Kept.aI [.s 11, .s 10, .t 83, .h, .s 1, .b 1, .s 3, .t 76, .s 4, .s 8, .s 9] rfl (by decide) (Kept.now ?_)))))))))))))))))))))
   refine aC.aX (fun ((k, c) : Nat × List AV) => [(.s 11, .sv (.v (.int .i64 (k : Int)))), (.s 10, .sv (.ow 83 c)), (.t 83, .tk false 9 1 c)]) _ (fun ((k, c) : Nat × List AV) => c = ((s.msgs[i]'hi).fields.take k).map (fun f : ah => AV.str f.name)) (fun ((k, c) : Nat × List AV) => (s.msgs[i]'hi).fields.length - k) (0, _) rfl rfl ?_
   rintro ⟨k, c⟩ hC
   refine aC.seq (aC.seq (aC.region (aB.run II 4 rfl (aB.nil (aC.cond rfl (fun hc5 => ?_) (fun hc5 => ?_))))))
   ·have hk := ch hc5
    refine aC.skip (aC.seq (aC.blk (aC.region (aB.run II 3 rfl (aB.c1 rfl (aH (aF rfl) bR rfl rfl (Int.natCast_nonneg _) (bz hk) rfl) (aB.run II 3 rfl (aB.c3 rfl (aW (aF rfl) bM rfl rfl rfl rfl rfl (by rw [hC]; simp; omega) (by rw [hC]; simp; omega)) ?_)))))))
    exact aB.run II 1 rfl (aB.nil (aC.region (aB.run II 3 rfl (aB.kept (Kept.aY 11 rfl (inc (by omega)) (Kept.aI [.s 11, .s 10, .t 97, .h, .s 1, .b 1, .s 3, .t 76, .s 4, .s 8, .s 9] rfl (by decide) (Kept.gB 97 83 (by decide) rfl (Kept.now ⟨(k + 1, _), (by dsimp only; omega), dd hk hC, rfl⟩))))))))
   ·have hk := cj hc5
    have hTk := fS hk
    refine aC.exit (aC.cE [.h, .s 1, .b 1, .s 3, .t 76, .s 8, .s 9, .s 10, .t 83] (fun (b1 : Bool) => [(.s 4, .sv (.v (.bool b1)))]) (fun (b1 : Bool) => b1 = (b || !once ((s.msgs[i]'hi).fields.map (·.name)))) rfl ?_ ?_)
    ·refine aC.region (aB.run II 2 rfl (aB.tell (d := 99) rfl (fun hg6 => ?_) (fun hg6 => ?_)))
     ·exact aB.run II 5 rfl (aB.kept (Kept.aI [.s 4, .h, .s 1, .b 1, .s 3, .t 76, .s 8, .s 9, .s 10, .t 83] rfl (by decide) (Kept.now ⟨_, by grind, rfl⟩)))
     ·refine aB.run II 1 rfl (aB.g1 rfl (aF rfl) rfl rfl (aG (aF rfl) mG rfl ((oR ((s.msgs[i]'hi).fields.map (·.name)) (by simp; omega)).at (by rw [hC, hTk]; simp [Function.comp_def]))) ?_)
      exact aB.run II 3 rfl (aB.kept (Kept.aI [.s 4, .h, .s 1, .b 1, .s 3, .t 76, .s 8, .s 9, .s 10, .t 83] rfl (by decide) (Kept.now ⟨_, by grind, rfl⟩)))
    ·rintro b1 hF24
     refine aC.seq (aC.region (aB.run II 1 rfl (aB.nil (aC.blk (aC.aK (Kept.aI [.s 12, .s 4, .h, .s 1, .b 1, .s 3, .t 76, .s 8, .s 9, .s 10, .t 83] rfl (by decide) (Kept.now (aC.aX (fun ((k, b) : Nat × Bool) => [(.s 12, .sv (.v (.int .i64 (k : Int)))), (.s 4, .sv (.v (.bool b)))]) _ (fun ((k, b) : Nat × Bool) => (b || ((s.msgs[i]'hi).fields.drop k).any (fun f : ah => !(f.one == []) && !once ((s.msgs[i]'hi).fields.map (·.name) ++ [f.one]))) = (b1 || (s.msgs[i]'hi).fields.any (fun f : ah => !(f.one == []) && !once ((s.msgs[i]'hi).fields.map (·.name) ++ [f.one])))) (fun ((k, b) : Nat × Bool) => (s.msgs[i]'hi).fields.length - k) (0, _) rfl (by grind) ?_))))))))
     rintro ⟨k, b⟩ hI
     refine aC.seq (aC.seq (aC.region (aB.run II 4 rfl (aB.nil (aC.cond rfl (fun hc7 => ?_) (fun hc7 => ?_))))))
     ·have hk := ch hc7
      have hU := bZ (p := (fun f : ah => !(f.one == []) && !once ((s.msgs[i]'hi).fields.map (·.name) ++ [f.one]))) hk
      refine aC.skip (aC.seq (aC.blk (aC.drawn mixed rfl (aD.run II 2 rfl (aD.tell (d := 111) rfl (fun hg8 => ?_) (fun hg8 => ?_))))))
      ·exact aD.run II 22 rfl (aD.nil (by kernel_rfl) (Kept.now (aC.region (aB.run II 3 rfl (aB.kept (Kept.aY 12 rfl (inc (by omega)) (Kept.aI [.s 12, .s 4, .h, .s 1, .b 1, .s 3, .t 76, .s 8, .s 9, .s 10, .t 83] rfl (by decide) (Kept.now ⟨(k + 1, _), (by dsimp only; omega), by grind, rfl⟩))))))))
      ·refine aD.run II 2 rfl (aD.g1 rfl (aF rfl) rfl rfl (aH (aF rfl) bR rfl rfl (Int.natCast_nonneg _) (bz hk) rfl) (aD.run II 4 rfl (aD.tell (d := 118) rfl (fun hg9 => ?_) (fun hg9 => ?_))))
       ·refine aD.g2 rfl (aF rfl) rfl rfl (bD («as» := []) (aF rfl) bM cz rfl rfl rfl (fh rfl) rfl) (aD.run II 1 rfl (aD.g3 rfl (aF rfl) rfl rfl (aW (aF rfl) bM rfl rfl rfl (by rw [hC]; exact qf _ _) rfl (by rw [hC]; simp; omega) (by rw [hC]; simp; omega)) ?_))
        refine aD.run II 2 rfl (aD.g1 rfl (aF rfl) rfl rfl (aH (aF rfl) bR rfl rfl (Int.natCast_nonneg _) (bz hk) rfl) (aD.run II 3 rfl (aD.g3 rfl (aF rfl) rfl rfl (aW (aF rfl) bM rfl rfl rfl rfl rfl (by rw [hC]; simp; omega) (by rw [hC]; simp; omega)) ?_)))
        refine aD.g1 rfl (aF rfl) rfl rfl (aG (aF rfl) mG rfl ((oR ((s.msgs[i]'hi).fields.map (·.name) ++ [((s.msgs[i]'hi).fields[k]'hk).one]) (by simp; omega)).at (by rw [hC, hTk]; simp [Function.comp_def]))) ?_
        exact aD.run II 4 rfl (aD.nil (by kernel_rfl) (Kept.now (aC.region (aB.run II 3 rfl (aB.kept (Kept.aY 12 rfl (inc (by omega)) (Kept.aI [.s 12, .s 4, .h, .s 1, .b 1, .s 3, .t 76, .s 8, .s 9, .s 10, .t 83] rfl (by decide) (Kept.now ⟨(k + 1, _), (by dsimp only; omega), by grind, rfl⟩))))))))
       ·exact aD.run II 15 rfl (aD.nil (by kernel_rfl) (Kept.now (aC.region (aB.run II 3 rfl (aB.kept (Kept.aY 12 rfl (inc (by omega)) (Kept.aI [.s 12, .s 4, .h, .s 1, .b 1, .s 3, .t 76, .s 8, .s 9, .s 10, .t 83] rfl (by decide) (Kept.now ⟨(k + 1, _), (by dsimp only; omega), by grind, rfl⟩))))))))
     ·have hk := cj hc7
      have hU := cD (p := (fun f : ah => !(f.one == []) && !once ((s.msgs[i]'hi).fields.map (·.name) ++ [f.one]))) hk
      exact aC.exit (aC.region (aB.run II 3 rfl (aB.kept (Kept.aY 8 rfl (inc (by omega)) (Kept.aI [.s 8, .s 4, .s 3, .t 76, .h, .s 1, .b 1] rfl (by decide) (Kept.gB 76 13 (by decide) rfl (Kept.now (⟨(i + 1, _, _), (by dsimp only; omega), ⟨xo hi ha, by grind [aT.gl]⟩, rfl⟩))))))))
  ·have hi := cj hc4
   have hS := cD (p := aT.gl) hi
   have hT := fS hi
   refine aC.exit (aC.seq (aC.region (aB.run II 2 rfl (aB.tell (d := 134) rfl (fun hg10 => ?_) (fun hg10 => ?_)))))
   ·exact aB.run II 5 rfl (aB.nil (aC.ret ⟨.inr rfl, (aE.r1 rfl (.tmp rfl .nil)).cast (congrArg AV.bool (by grind [aN.gl])), rfl⟩))
   ·refine aB.run II 1 rfl (aB.g1 rfl (aF rfl) rfl rfl (aG (aF rfl) mG rfl ((oR (s.enums.map (·.name) ++ s.msgs.map (·.name)) (by simp; omega)).at (by rw [ha, hT]; simp [Function.comp_def]))) ?_)
    exact aB.run II 3 rfl (aB.nil (aC.ret ⟨.inr rfl, (aE.r1 rfl (.tmp rfl .nil)).cast (congrArg AV.bool (by grind [aN.gl])), rfl⟩))
theorem Fk (m : aT) (hl : m.fields.length ≤ 1000) : Pure Tryz.prog 115 [m.av] (.sl (m.fields.map (fun f : ah => AV.int .i64 f.num))) := by
 refine Pure.aL Tryz.func115 rfl rfl (aF rfl) fun H => (aC.seq (aC.region (aB.run II 2 rfl (aB.nil (aC.seq (aC.region (aB.c2 rfl (bD («as» := []) (aF rfl) ba fK rfl rfl rfl (fh rfl) rfl) (aB.run II 1 rfl (aB.nil (aC.seq (aC.seq (aC.region (aB.run II 1 rfl (aB.nil (aC.blk (aC.aK (Kept.aI [.s 4, .s 3, .t 5, .h, .s 1, .b 1] rfl (by decide) (Kept.now (aC.aX (fun ((i, a) : Nat × List AV) => [(.s 4, .sv (.v (.int .i64 (i : Int)))), (.s 3, .sv (.ow 5 a)), (.t 5, .tk false 3 1 a)]) _ (fun ((i, a) : Nat × List AV) => a = (m.fields.take i).map (fun f : ah => AV.int .i64 f.num)) (fun ((i, a) : Nat × List AV) => m.fields.length - i) (0, _) rfl rfl ?_)))))))))))))))))))
 rintro ⟨i, a⟩ ha
 refine aC.seq (aC.seq (aC.region (aB.run II 5 rfl (aB.nil (aC.cond rfl (fun hc1 => ?_) (fun hc1 => ?_))))))
 ·have hi := ch hc1
  refine aC.skip (aC.seq (aC.blk (aC.region (aB.run II 4 rfl (aB.c1 rfl (aH (aF rfl) bR rfl rfl (Int.natCast_nonneg _) (bz hi) rfl) (aB.run II 3 rfl (aB.c3 rfl (aW (aF rfl) ba rfl rfl rfl rfl rfl (by rw [ha]; simp; omega) (by rw [ha]; simp; omega)) ?_)))))))
  exact aB.run II 1 rfl (aB.nil (aC.region (aB.run II 3 rfl (aB.kept (Kept.aY 4 rfl (inc (by omega)) (Kept.aI [.s 4, .s 3, .t 21, .h, .s 1, .b 1] rfl (by decide) (Kept.gB 21 5 (by decide) rfl (Kept.now ⟨(i + 1, _), (by dsimp only; omega), dd hi ha, rfl⟩))))))))
 ·have hi := cj hc1
  have hT := fS hi
  exact aC.exit (aC.seq (aC.region (aB.run II 2 rfl (aB.nil (aC.ret ⟨.inr rfl, (aE.r1 rfl (.tmp rfl .nil)).cast (by rw [ha, hT]), rfl⟩)))))
theorem DB (s : aN) (hs : s.sm) (hn : ∀ x ∈ s.enums, 0 < x.values.length) : Pure Tryz.prog 73 [s.av] (.bool s.order) := by
 have := hs.e
 have := hs.m
 refine Pure.aL Tryz.func73 rfl rfl (aF rfl) fun H => (aC.seq (aC.region (aB.run II 2 rfl (aB.nil (aC.seq (aC.region (aB.run II 1 rfl (aB.nil (aC.seq (aC.region (aB.c2 rfl (bD («as» := []) (aF rfl) bM cz rfl rfl rfl (fh rfl) rfl) (aB.run II 1 rfl (aB.nil (aC.seq (aC.seq (aC.region (aB.run II 1 rfl (aB.nil (aC.blk (aC.aK (Kept.aI [.s 5, .s 3, .s 4, .t 10, .h, .s 1, .b 1] rfl (by decide) (Kept.now ?_))))))))))))))))))))))
 refine aC.aX (fun ((i, b, a) : Nat × Bool × List AV) => [(.s 5, .sv (.v (.int .i64 (i : Int)))), (.s 3, .sv (.v (.bool b))), (.s 4, .sv (.ow 10 a)), (.t 10, .tk false 9 1 a)]) _ (fun ((i, b, a) : Nat × Bool × List AV) => a = (s.enums.take i).map (fun e : dU => AV.str e.name) ∧ (b || (s.enums.drop i).any dU.order) = s.enums.any dU.order) (fun ((i, b, a) : Nat × Bool × List AV) => s.enums.length - i) (0, _, _) rfl ⟨rfl, by simp⟩ ?_
 rintro ⟨i, b, a⟩ ⟨ha, hI⟩
 refine aC.seq (aC.seq (aC.region (aB.run II 5 rfl (aB.nil (aC.cond rfl (fun hc1 => ?_) (fun hc1 => ?_))))))
 ·have hi := ch hc1
  have hS := bZ (p := dU.order) hi
  have := hs.vi hi
  have hv0 : 0 < (s.enums[i]'hi).values.length := hn _ (List.getElem_mem hi)
  have hO := dU.mY hv0
  refine aC.skip (aC.seq (aC.blk (aC.seq (aC.region (aB.run II 4 rfl (aB.c1 rfl (aH (aF rfl) cp rfl rfl (Int.natCast_nonneg _) (bz hi) rfl) (aB.run II 3 rfl (aB.c3 rfl (aW (aF rfl) bM rfl rfl rfl rfl rfl (by rw [ha]; simp; omega) (by rw [ha]; simp; omega)) ?_))))))))
  refine aB.run II 1 rfl (aB.nil (aC.seq (aC.region (aB.c2 rfl (bD («as» := []) (aF rfl) ba fK rfl rfl rfl (fh rfl) rfl) (aB.run II 1 rfl (aB.nil (aC.seq (aC.seq (aC.region (aB.run II 1 rfl (aB.nil (aC.blk (aC.aK (Kept.aI [.s 7, .s 6, .t 27, .h, .s 1, .b 1, .s 3, .s 4, .t 26, .s 5] rfl (by decide) (Kept.now (aC.aX (fun ((k, c) : Nat × List AV) => [(.s 7, .sv (.v (.int .i64 (k : Int)))), (.s 6, .sv (.ow 27 c)), (.t 27, .tk false 3 1 c)]) _ (fun ((k, c) : Nat × List AV) => c = ((s.enums[i]'hi).values.take k).map (fun v : iu => AV.int .i64 v.num)) (fun ((k, c) : Nat × List AV) => (s.enums[i]'hi).values.length - k) (0, _) rfl rfl ?_))))))))))))))))
  rintro ⟨k, c⟩ hC
  refine aC.seq (aC.seq (aC.region (aB.run II 4 rfl (aB.c1 rfl (aH (aF rfl) cp rfl rfl (Int.natCast_nonneg _) (bz hi) rfl) (aB.run II 4 rfl (aB.nil (aC.cond rfl (fun hc2 => ?_) (fun hc2 => ?_))))))))
  ·have hk := ch hc2
   refine aC.skip (aC.seq (aC.blk (aC.region (aB.run II 4 rfl (aB.c1 rfl (aH (aF rfl) cp rfl rfl (Int.natCast_nonneg _) (bz hi) rfl) (aB.run II 3 rfl (aB.c1 rfl (aH (aF rfl) fO rfl rfl (Int.natCast_nonneg _) (bz hk) rfl) (aB.run II 3 rfl (aB.c3 rfl (aW (aF rfl) ba rfl rfl rfl rfl rfl (by rw [hC]; simp; omega) (by rw [hC]; simp; omega)) ?_)))))))))
   exact aB.run II 1 rfl (aB.nil (aC.region (aB.run II 3 rfl (aB.kept (Kept.aY 7 rfl (inc (by omega)) (Kept.aI [.s 7, .s 6, .t 51, .h, .s 1, .b 1, .s 3, .s 4, .t 26, .s 5] rfl (by decide) (Kept.gB 51 27 (by decide) rfl (Kept.now ⟨(k + 1, _), (by dsimp only; omega), dd hk hC, rfl⟩))))))))
  ·have hk := cj hc2
   have hC2 : c = (s.enums[i]'hi).values.map (fun v : iu => AV.int .i64 v.num) := by rw [hC, fS hk]
   refine aC.exit (aC.region (aB.run II 2 rfl (aB.split (d := 53) rfl (fun hg3 => ?_) (fun hg3 => ?_))))
   ·iterate 3 (refine aB.gL rfl rfl (aF rfl) (aF rfl) rfl hg3 ?_)
    exact aB.c1 rfl (dC (aF rfl) rfl hg3 rfl) (aB.run II 16 rfl (aB.nil (aC.region (aB.run II 3 rfl (aB.kept (Kept.aY 5 rfl (inc (by omega)) (Kept.aI [.s 5, .s 3, .s 4, .t 26, .h, .s 1, .b 1] rfl (by decide) (Kept.gB 26 10 (by decide) rfl (Kept.now (⟨(i + 1, _, _), (by dsimp only; omega), ⟨dd hi ha, by clear ha hC hC2 hn; grind⟩, rfl⟩))))))))))
   ·refine aB.g1 rfl (aF rfl) rfl hg3 (eG (aF rfl) rfl) (aB.g1 rfl (aF rfl) rfl hg3 (aG (aF rfl) sA rfl ((rK ((s.enums[i]'hi).values.map (·.num)) (by simp; omega)).at (by rw [hC2]; simp [jQ, Function.comp_def]))) ?_)
    refine aB.g1 rfl (aF rfl) rfl hg3 (nG (aF rfl) rfl rfl) (aB.c1 rfl (cJ (aF rfl) rfl hg3 rfl) (aB.run II 1 rfl (aB.split (d := 58) rfl (fun hg4 => ?_) (fun hg4 => ?_))))
    ·iterate 4 (refine aB.gL rfl rfl (aF rfl) (aF rfl) rfl hg4 ?_)
     exact aB.c1 rfl (dC (aF rfl) rfl hg4 rfl) (aB.run II 10 rfl (aB.nil (aC.region (aB.run II 3 rfl (aB.kept (Kept.aY 5 rfl (inc (by omega)) (Kept.aI [.s 5, .s 3, .s 4, .t 26, .h, .s 1, .b 1] rfl (by decide) (Kept.gB 26 10 (by decide) rfl (Kept.now (⟨(i + 1, _, _), (by dsimp only; omega), ⟨dd hi ha, by clear ha hC hC2 hn; grind⟩, rfl⟩))))))))))
    ·refine aB.g1 rfl (aF rfl) rfl hg4 (eG (aF rfl) rfl) (aB.g1 rfl (aF rfl) rfl hg4 (aH (aF rfl) cY rfl rfl (by decide) (Jk (i := 0) hC2 hv0) rfl) (aB.g1 rfl (aF rfl) rfl hg4 (kq (aF rfl) iW rfl rfl) (aB.g1 rfl (aF rfl) rfl hg4 (dM (aF rfl) rfl rfl rfl) (aB.c1 rfl (cJ (aF rfl) rfl hg4 rfl) (aB.run II 1 rfl (aB.split (d := 64) rfl (fun hg5 => ?_) (fun hg5 => ?_)))))))
     ·iterate 7 (refine aB.gL rfl rfl (aF rfl) (aF rfl) rfl hg5 ?_)
      exact aB.c1 rfl (dC (aF rfl) rfl hg5 rfl) (aB.run II 1 rfl (aB.nil (aC.region (aB.run II 3 rfl (aB.kept (Kept.aY 5 rfl (inc (by omega)) (Kept.aI [.s 5, .s 3, .s 4, .t 26, .h, .s 1, .b 1] rfl (by decide) (Kept.gB 26 10 (by decide) rfl (Kept.now (⟨(i + 1, _, _), (by dsimp only; omega), ⟨dd hi ha, by clear ha hC hC2 hn; grind⟩, rfl⟩))))))))))
     ·iterate 2 (refine aB.g1 rfl (aF rfl) rfl hg5 (eG (aF rfl) rfl) ?_)
      refine aB.g1 rfl (aF rfl) rfl hg5 (lj (aF rfl) uZ rfl) (aB.g1 rfl (aF rfl) rfl hg5 (dM (aF rfl) rfl rfl rfl) (aB.g1 rfl (aF rfl) rfl hg5 (aH (aF rfl) cY rfl rfl (by rw [hC2, List.length_map, nX hv0 (by omega)]; exact Int.natCast_nonneg _) (Io (i := (s.enums[i]'hi).values.length - 1) (by rw [hC2, List.length_map]; exact nX hv0 (by omega)) hC2 (by omega)) rfl) ?_))
      exact aB.g1 rfl (aF rfl) rfl hg5 (kq (aF rfl) iW rfl rfl) (aB.g1 rfl (aF rfl) rfl hg5 (dM (aF rfl) rfl rfl rfl) (aB.c1 rfl (cJ (aF rfl) rfl hg5 rfl) (aB.run II 1 rfl (aB.nil (aC.region (aB.run II 3 rfl (aB.kept (Kept.aY 5 rfl (inc (by omega)) (Kept.aI [.s 5, .s 3, .s 4, .t 26, .h, .s 1, .b 1] rfl (by decide) (Kept.gB 26 10 (by decide) rfl (Kept.now (⟨(i + 1, _, _), (by dsimp only; omega), ⟨dd hi ha, by clear ha hC hC2 hn; grind⟩, rfl⟩))))))))))))
 ·have hi := cj hc1
  have hS := cD (p := dU.order) hi
  have hT := fS hi
  refine aC.exit (aC.cE [.h, .s 1, .b 1] (fun (b1 : Bool) => [(.s 3, .sv (.v (.bool b1)))]) (fun (b1 : Bool) => b1 = (s.enums.any dU.order || !je (s.enums.map (·.name)))) rfl ?_ ?_)
  ·refine aC.region (aB.run II 2 rfl (aB.split (d := 74) rfl (fun hg6 => ?_) (fun hg6 => ?_)))
   ·iterate 3 (refine aB.gL rfl rfl (aF rfl) (aF rfl) rfl hg6 ?_)
    exact aB.c1 rfl (dC (aF rfl) rfl hg6 rfl) (aB.run II 1 rfl (aB.kept (Kept.aI [.s 3, .h, .s 1, .b 1] rfl (by decide) (Kept.now ⟨_, by grind, rfl⟩))))
   ·refine aB.g1 rfl (aF rfl) rfl hg6 (eG (aF rfl) rfl) (aB.g1 rfl (aF rfl) rfl hg6 (aG (aF rfl) xM rfl ((wM (s.enums.map (·.name)) (by simp; omega)).at (by rw [ha, hT]; simp [Function.comp_def]))) ?_)
    exact aB.g1 rfl (aF rfl) rfl hg6 (nG (aF rfl) rfl rfl) (aB.c1 rfl (cJ (aF rfl) rfl hg6 rfl) (aB.run II 1 rfl (aB.kept (Kept.aI [.s 3, .h, .s 1, .b 1] rfl (by decide) (Kept.now ⟨_, by grind, rfl⟩)))))
  ·rintro b1 hF14
   refine aC.seq (aC.region (aB.c2 rfl (bD («as» := []) (aF rfl) bM cz rfl rfl rfl (fh rfl) rfl) (aB.run II 1 rfl (aB.nil (aC.seq (aC.seq (aC.region (aB.run II 1 rfl (aB.nil (aC.blk (aC.aK (Kept.aI [.s 8, .s 3, .s 4, .t 79, .h, .s 1, .b 1] rfl (by decide) (Kept.now (aC.aX (fun ((i, b, a) : Nat × Bool × List AV) => [(.s 8, .sv (.v (.int .i64 (i : Int)))), (.s 3, .sv (.v (.bool b))), (.s 4, .sv (.ow 79 a)), (.t 79, .tk false 9 1 a)]) _ (fun ((i, b, a) : Nat × Bool × List AV) => a = ((s.msgs.take i).drop 1).map (fun m : aT => AV.str m.name) ∧ (b || (s.msgs.drop i).any aT.order) = (s.enums.any dU.order || !je (s.enums.map (·.name)) || s.msgs.any aT.order)) (fun ((i, b, a) : Nat × Bool × List AV) => s.msgs.length - i) (0, _, _) rfl ⟨by simp, by grind⟩ ?_))))))))))))))
   rintro ⟨i, b, a⟩ ⟨ha, hI⟩
   refine aC.seq (aC.seq (aC.region (aB.run II 5 rfl (aB.nil (aC.cond rfl (fun hc7 => ?_) (fun hc7 => ?_))))))
   ·have hi := ch hc7
    have hS := bZ (p := aT.order) hi
    have := hs.fi hi
    have := hs.bi hi
    have hO1 := aT.mY (m := (s.msgs[i]'hi))
    have hO2 := aT.yW (m := (s.msgs[i]'hi))
    refine aC.skip (aC.seq (aC.blk (aC.cE [.h, .s 1, .b 1, .s 3, .s 8] (fun (a2 : List AV) => [(.s 4, .sv (.ow 79 a2)), (.t 79, .tk false 9 1 a2)]) (fun (a2 : List AV) => a2 = ((s.msgs.take (i + 1)).drop 1).map (fun m : aT => AV.str m.name)) rfl ?_ ?_)))
    ·refine aC.seq (aC.region (aB.run II 2 rfl (aB.nil (aC.cond rfl (fun hc8 => ?_) (fun hc8 => ?_)))))
     ·refine aC.region (aB.run II 4 rfl (aB.c1 rfl (aH (aF rfl) bQ rfl rfl (Int.natCast_nonneg _) (bz hi) rfl) (aB.run II 3 rfl (aB.c3 rfl (aW (aF rfl) bM rfl rfl rfl rfl rfl (by rw [ha]; simp; omega) (by rw [ha]; simp; omega)) ?_))))
      exact aB.run II 1 rfl (aB.kept (Kept.aI [.s 4, .t 97, .h, .s 1, .b 1, .s 3, .s 8] rfl (by decide) (Kept.gB 97 79 (by decide) rfl (Kept.now ⟨a ++ [AV.str (s.msgs[i]'hi).name], (by rw [u0 (by have := of_decide_eq_true hc8; omega) hi, List.map_append, ha]; rfl), rfl⟩))))
     ·exact aC.aK (Kept.aI [.s 4, .t 79, .h, .s 1, .b 1, .s 3, .s 8] rfl (by decide) (Kept.now (aC.skip ⟨a, (by have h0 : i = 0 := (by have := of_decide_eq_false hc8; omega); subst h0; rw [u1, ha]; simp), rfl⟩)))
    ·rintro a2 ha2
     refine aC.seq (aC.region (aB.run II 3 rfl (aB.c1 rfl (aH (aF rfl) bQ rfl rfl (Int.natCast_nonneg _) (bz hi) rfl) (aB.run II 3 rfl (aB.nil (aC.cE [.h, .s 1, .b 1, .s 4, .t 79, .s 8, .s 9] (fun (b1 : Bool) => [(.s 3, .sv (.v (.bool b1)))]) (fun (b1 : Bool) => b1 = (b || !eR ((s.msgs[i]'hi).fields.map (·.num)) || !eR (s.msgs[i]'hi).ai)) rfl ?_ ?_))))))
     ·refine aC.region (aB.run II 2 rfl (aB.split (d := 105) rfl (fun hg9 => ?_) (fun hg9 => ?_)))
      ·iterate 8 (refine aB.gL rfl rfl (aF rfl) (aF rfl) rfl hg9 ?_)
       exact aB.c1 rfl (dC (aF rfl) rfl hg9 rfl) (aB.run II 6 rfl (aB.kept (Kept.aI [.s 3, .h, .s 1, .b 1, .s 4, .t 79, .s 8, .s 9] rfl (by decide) (Kept.now ⟨_, by grind, rfl⟩))))
      ·refine aB.g1 rfl (aF rfl) rfl hg9 (o9 (aF rfl) BV rfl) (aB.g1 rfl (aF rfl) rfl hg9 (ko (aF rfl) Gy rfl rfl rfl) (aB.g1 rfl (aF rfl) rfl hg9 (eG (aF rfl) rfl) (aB.g1 rfl (aF rfl) rfl hg9 (aH (aF rfl) bQ rfl rfl (Int.natCast_nonneg _) (bz hi) rfl) (aB.g1 rfl (aF rfl) rfl hg9 (kq (aF rfl) Az rfl rfl) (aB.g1 rfl (aF rfl) rfl hg9 (aG (aF rfl) E5 rfl (Fk _ (by omega))) (aB.g1 rfl (aF rfl) rfl hg9 (aG (aF rfl) sA rfl ((rK ((s.msgs[i]'hi).fields.map (·.num)) (by simp; omega)).at (by simp [jQ, Function.comp_def]))) ?_))))))
       refine aB.g1 rfl (aF rfl) rfl hg9 (nG (aF rfl) rfl rfl) (aB.c1 rfl (cJ (aF rfl) rfl hg9 rfl) (aB.run II 1 rfl (aB.split (d := 115) rfl (fun hg10 => ?_) (fun hg10 => ?_))))
       ·iterate 3 (refine aB.gL rfl rfl (aF rfl) (aF rfl) rfl hg10 ?_)
        exact aB.c1 rfl (dC (aF rfl) rfl hg10 rfl) (aB.run II 1 rfl (aB.kept (Kept.aI [.s 3, .h, .s 1, .b 1, .s 4, .t 79, .s 8, .s 9] rfl (by decide) (Kept.now ⟨_, by grind, rfl⟩))))
       ·exact aB.g1 rfl (aF rfl) rfl hg10 (eG (aF rfl) rfl) (aB.g1 rfl (aF rfl) rfl hg10 (aG (aF rfl) sA rfl (rK (s.msgs[i]'hi).ai (by omega))) (aB.g1 rfl (aF rfl) rfl hg10 (nG (aF rfl) rfl rfl) (aB.c1 rfl (cJ (aF rfl) rfl hg10 rfl) (aB.run II 1 rfl (aB.kept (Kept.aI [.s 3, .h, .s 1, .b 1, .s 4, .t 79, .s 8, .s 9] rfl (by decide) (Kept.now ⟨_, by grind, rfl⟩)))))))
     ·rintro b1 hF22
      refine aC.region (aB.run II 2 rfl (aB.split (d := 121) rfl (fun hg11 => ?_) (fun hg11 => ?_)))
      ·iterate 4 (refine aB.gL rfl rfl (aF rfl) (aF rfl) rfl hg11 ?_)
       exact aB.run II 13 rfl (aB.gL rfl rfl (aF rfl) (aF rfl) rfl hg11 (aB.c1 rfl (dC (aF rfl) rfl hg11 rfl) (aB.run II 1 rfl (aB.nil (aC.region (aB.run II 3 rfl (aB.kept (Kept.aY 8 rfl (inc (by omega)) (Kept.aI [.s 8, .s 3, .s 4, .t 79, .h, .s 1, .b 1] rfl (by decide) (Kept.now (⟨(i + 1, _, _), (by dsimp only; omega), ⟨ha2, by clear ha ha2 hn; grind⟩, rfl⟩)))))))))))
      ·refine aB.g1 rfl (aF rfl) rfl hg11 (eG (aF rfl) rfl) (aB.g1 rfl (aF rfl) rfl hg11 (lj (aF rfl) uZ rfl) (aB.g1 rfl (aF rfl) rfl hg11 (dM (aF rfl) rfl rfl rfl) (aB.g1 rfl (aF rfl) rfl hg11 (eG (aF rfl) rfl) (aB.split (d := 125) rfl (fun hg12 => ?_) (fun hg12 => ?_)))))
       ·refine aB.g1 rfl (aF rfl) rfl hg12 (eG (aF rfl) rfl) (aB.g1 rfl (aF rfl) rfl hg12 (aH (aF rfl) cY rfl rfl (by decide) (bz (i := 0) (by have := of_decide_eq_true hg12; rw [List.length_map] at this; omega)) rfl) ?_)
        refine aB.g1 rfl (aF rfl) rfl hg12 (kq (aF rfl) iW rfl rfl) (aB.g1 rfl (aF rfl) rfl hg12 (dM (aF rfl) rfl rfl rfl) (aB.g1 rfl (aF rfl) rfl hg12 (eG (aF rfl) rfl) (aB.split (d := 130) rfl (fun hg13 => ?_) (fun hg13 => ?_))))
        ·iterate 7 (refine aB.gL rfl rfl (aF rfl) (aF rfl) rfl hg13 ?_)
         exact aB.g1 rfl (aF rfl) rfl hg12 (dC (aF rfl) rfl hg13 rfl) (aB.g1 rfl (aF rfl) rfl hg11 (dC (aF rfl) rfl hg12 rfl) (aB.c1 rfl (cJ (aF rfl) rfl hg11 rfl) (aB.run II 1 rfl (aB.nil (aC.region (aB.run II 3 rfl (aB.kept (Kept.aY 8 rfl (inc (by omega)) (Kept.aI [.s 8, .s 3, .s 4, .t 79, .h, .s 1, .b 1] rfl (by decide) (Kept.now (⟨(i + 1, _, _), (by dsimp only; omega), ⟨ha2, by clear ha ha2 hn; grind⟩, rfl⟩)))))))))))
        ·iterate 2 (refine aB.g1 rfl (aF rfl) rfl hg13 (eG (aF rfl) rfl) ?_)
         refine aB.g1 rfl (aF rfl) rfl hg13 (lj (aF rfl) uZ rfl) (aB.g1 rfl (aF rfl) rfl hg13 (dM (aF rfl) rfl rfl rfl) (aB.g1 rfl (aF rfl) rfl hg13 (aH (aF rfl) cY rfl rfl (by rw [List.length_map, nX (by have := of_decide_eq_true hg12; rw [List.length_map] at this; omega) (by omega)]; exact Int.natCast_nonneg _) (pI (i := (s.msgs[i]'hi).ai.length - 1) (by rw [List.length_map]; exact nX (by have := of_decide_eq_true hg12; rw [List.length_map] at this; omega) (by omega)) (by have := of_decide_eq_true hg12; rw [List.length_map] at this; omega)) rfl) ?_))
         exact aB.g1 rfl (aF rfl) rfl hg13 (kq (aF rfl) iW rfl rfl) (aB.g1 rfl (aF rfl) rfl hg13 (dM (aF rfl) rfl rfl rfl) (aB.g1 rfl (aF rfl) rfl hg12 (cJ (aF rfl) rfl hg13 rfl) (aB.g1 rfl (aF rfl) rfl hg11 (dC (aF rfl) rfl hg12 rfl) (aB.c1 rfl (cJ (aF rfl) rfl hg11 rfl) (aB.run II 1 rfl (aB.nil (aC.region (aB.run II 3 rfl (aB.kept (Kept.aY 8 rfl (inc (by omega)) (Kept.aI [.s 8, .s 3, .s 4, .t 79, .h, .s 1, .b 1] rfl (by decide) (Kept.now (⟨(i + 1, _, _), (by dsimp only; omega), ⟨ha2, by clear ha ha2 hn; grind⟩, rfl⟩)))))))))))))
       ·iterate 5 (refine aB.gL rfl rfl (aF rfl) (aF rfl) rfl hg12 ?_)
        exact aB.run II 7 rfl (aB.gL rfl rfl (aF rfl) (aF rfl) rfl hg12 (aB.g1 rfl (aF rfl) rfl hg11 (cJ (aF rfl) rfl hg12 rfl) (aB.c1 rfl (cJ (aF rfl) rfl hg11 rfl) (aB.run II 1 rfl (aB.nil (aC.region (aB.run II 3 rfl (aB.kept (Kept.aY 8 rfl (inc (by omega)) (Kept.aI [.s 8, .s 3, .s 4, .t 79, .h, .s 1, .b 1] rfl (by decide) (Kept.now (⟨(i + 1, _, _), (by dsimp only; omega), ⟨ha2, by clear ha ha2 hn; grind⟩, rfl⟩))))))))))))
   ·have hi := cj hc7
    have hS := cD (p := aT.order) hi
    have hT := fS hi
    refine aC.exit (aC.seq (aC.region (aB.run II 2 rfl (aB.split (d := 142) rfl (fun hg14 => ?_) (fun hg14 => ?_)))))
    ·iterate 3 (refine aB.gL rfl rfl (aF rfl) (aF rfl) rfl hg14 ?_)
     exact aB.c1 rfl (dC (aF rfl) rfl hg14 rfl) (aB.run II 1 rfl (aB.nil (aC.ret ⟨.inr rfl, (aE.r1 rfl (.tmp rfl .nil)).cast (congrArg AV.bool (by grind [aN.order])), rfl⟩)))
    ·refine aB.g1 rfl (aF rfl) rfl hg14 (eG (aF rfl) rfl) (aB.g1 rfl (aF rfl) rfl hg14 (aG (aF rfl) xM rfl ((wM ((s.msgs.drop 1).map (·.name)) (by simp; omega)).at (by rw [ha, hT]; simp [Function.comp_def]))) ?_)
     exact aB.g1 rfl (aF rfl) rfl hg14 (nG (aF rfl) rfl rfl) (aB.c1 rfl (cJ (aF rfl) rfl hg14 rfl) (aB.run II 1 rfl (aB.nil (aC.ret ⟨.inr rfl, (aE.r1 rfl (.tmp rfl .nil)).cast (congrArg AV.bool (by grind [aN.order])), rfl⟩))))
/- the document: a schema checked; values: how great, the same, how deep. -/
theorem Ba : ab Tryz.prog 37 = true := by kernel_rfl
theorem H5 : ab Tryz.prog 68 = true := by kernel_rfl
theorem H4 : ab Tryz.prog 69 = true := by kernel_rfl
theorem HZ : ab Tryz.prog 70 = true := by kernel_rfl
theorem HY : ab Tryz.prog 71 = true := by kernel_rfl
theorem HX : ab Tryz.prog 72 = true := by kernel_rfl
theorem HW : ab Tryz.prog 73 = true := by kernel_rfl
theorem HV : ab Tryz.prog 74 = true := by kernel_rfl
theorem HU : ab Tryz.prog 75 = true := by kernel_rfl
theorem dX : ie Tryz.prog 29 = some 2 := by kernel_rfl
theorem lB : ie Tryz.prog 30 = some 4 := by kernel_rfl
theorem kz : ie Tryz.prog 67 = some 2 := by kernel_rfl
theorem di : ie Tryz.prog 83 = some 3 := by kernel_rfl
theorem wS (s : aN) (hs : s.dj) : Pure Tryz.prog 43 [s.av] (.int .i64 s.fb) := by
 refine Pure.aL Tryz.func43 rfl rfl (aF rfl) fun H => (aC.seq (aC.region (aB.run II 2 rfl (aB.nil (aC.seq (aC.seq (aC.region (aB.run II 1 rfl (aB.c1 rfl (aG (aF rfl) H5 rfl (Fp _ hs)) (aB.nil (aC.cond rfl (fun hc1 => ?_) (fun hc1 => ?_))))))))))))
 ·exact aC.seq (aC.region (aB.run II 1 rfl (aB.nil (aC.ret ⟨.inr rfl, (aE.r1 rfl (.tmp rfl .nil)).cast (congrArg (AV.int .i64) (by grind [aN.fb])), rfl⟩))))
 ·have hs2 := aN.Eu hc1
  refine aC.skip (aC.seq (aC.seq (aC.region (aB.run II 1 rfl (aB.c1 rfl (aG (aF rfl) H4 rfl (Fl _ hs2)) (aB.nil (aC.cond rfl (fun hc2 => ?_) (fun hc2 => ?_))))))))
  ·exact aC.seq (aC.region (aB.run II 1 rfl (aB.nil (aC.ret ⟨.inr rfl, (aE.r1 rfl (.tmp rfl .nil)).cast (congrArg (AV.int .i64) (by grind [aN.fb])), rfl⟩))))
  ·have hn2 := (aN.wb hc2).2
   refine aC.skip (aC.seq (aC.seq (aC.region (aB.run II 1 rfl (aB.c1 rfl (aG (aF rfl) HZ rfl (Fg _ hs2)) (aB.nil (aC.cond rfl (fun hc3 => ?_) (fun hc3 => ?_))))))))
   ·exact aC.seq (aC.region (aB.run II 1 rfl (aB.nil (aC.ret ⟨.inr rfl, (aE.r1 rfl (.tmp rfl .nil)).cast (congrArg (AV.int .i64) (by grind [aN.fb])), rfl⟩))))
   ·refine aC.skip (aC.seq (aC.seq (aC.region (aB.run II 1 rfl (aB.c1 rfl (aG (aF rfl) HY rfl (AF _ hs2)) (aB.run II 1 rfl (aB.nil (aC.seq (aC.region (aB.run II 2 rfl (aB.nil (aC.cond rfl (fun hc4 => ?_) (fun hc4 => ?_)))))))))))))
    ·exact aC.seq (aC.region (aB.run II 2 rfl (aB.nil (aC.ret ⟨.inr rfl, (aE.r1 rfl (.tmp rfl .nil)).cast (congrArg (AV.int .i64) (by grind [aN.fb])), rfl⟩))))
    ·refine aC.skip (aC.seq (aC.seq (aC.region (aB.run II 1 rfl (aB.c1 rfl (aG (aF rfl) HX rfl (Cq _ hs2)) (aB.nil (aC.cond rfl (fun hc5 => ?_) (fun hc5 => ?_))))))))
     ·exact aC.seq (aC.region (aB.run II 1 rfl (aB.nil (aC.ret ⟨.inr rfl, (aE.r1 rfl (.tmp rfl .nil)).cast (congrArg (AV.int .i64) (by grind [aN.fb])), rfl⟩))))
     ·refine aC.skip (aC.seq (aC.seq (aC.region (aB.run II 1 rfl (aB.c1 rfl (aG (aF rfl) HW rfl (DB _ hs2 hn2)) (aB.nil (aC.cond rfl (fun hc6 => ?_) (fun hc6 => ?_))))))))
      ·exact aC.seq (aC.region (aB.run II 1 rfl (aB.nil (aC.ret ⟨.inr rfl, (aE.r1 rfl (.tmp rfl .nil)).cast (congrArg (AV.int .i64) (by grind [aN.fb])), rfl⟩))))
      ·refine aC.skip (aC.seq (aC.seq (aC.region (aB.run II 1 rfl (aB.c1 rfl (aG (aF rfl) HV rfl (AH _ hs2)) (aB.nil (aC.cond rfl (fun hc7 => ?_) (fun hc7 => ?_))))))))
       ·exact aC.seq (aC.region (aB.run II 1 rfl (aB.nil (aC.ret ⟨.inr rfl, (aE.r1 rfl (.tmp rfl .nil)).cast (congrArg (AV.int .i64) (by grind [aN.fb])), rfl⟩))))
       ·refine aC.skip (aC.seq (aC.seq (aC.region (aB.run II 1 rfl (aB.c1 rfl (aG (aF rfl) HU rfl (Fi _ hs2)) (aB.nil (aC.cond rfl (fun hc8 => ?_) (fun hc8 => ?_))))))))
        ·exact aC.seq (aC.region (aB.run II 1 rfl (aB.nil (aC.ret ⟨.inr rfl, (aE.r1 rfl (.tmp rfl .nil)).cast (congrArg (AV.int .i64) (by grind [aN.fb])), rfl⟩))))
        ·exact aC.skip (aC.seq (aC.region (aB.run II 1 rfl (aB.nil (aC.ret ⟨.inr rfl, (aE.r1 rfl (.tmp rfl .nil)).cast (congrArg (AV.int .i64) (by grind [aN.fb])), rfl⟩)))))
theorem DH (t : Tree) (hb : t.dj) (ih : ∀ x ∈ t.aU, ∀ v ∈ x.bT, ∀ u ∈ v.m, ∀ n d : Int, Pure Tryz.prog 37 [.agg u.cells, .int .i64 n, .int .i64 d] (.int .i64 (u.left n d))) (n d : Int) : Pure Tryz.prog 37 [.agg t.cells, .int .i64 n, .int .i64 d] (.int .i64 (t.left n d)) := by
 have hb1 := hb.here.s
 have hb2 := hb.here.r
 refine Pure.aL Tryz.func37 rfl rfl (aF rfl) fun H => (aC.seq (aC.region (aB.run II 2 rfl (aB.nil (aC.seq (aC.region (aB.run II 10 rfl (aB.nil (aC.seq (aC.seq (aC.region (aB.run II 2 rfl (aB.nil (aC.cond rfl (fun hc1 => ?_) (fun hc1 => ?_)))))))))))))))
 ·exact aC.seq (aC.region (aB.run II 1 rfl (aB.nil (aC.ret ⟨.inr rfl, (aE.r1 rfl (.tmp rfl .nil)).cast (congrArg (AV.int .i64) (by grind [Tree.left_eq, mb, m9, ma, iX])), rfl⟩))))
 ·refine aC.skip (aC.cE [.h, .s 2, .s 3, .b 3] (fun (m : Int) => [(.s 1, .sv (.v (.int .i64 m)))]) (fun (m : Int) => m = jo t.rest (dm (dm (n - (t.rest.length : Int)) - (t.aU.length : Int)))) rfl ?_ ?_)
  ·refine aC.seq (aC.region (aB.run II 1 rfl (aB.nil (aC.blk (aC.aK (Kept.aI [.s 7, .s 1, .h, .s 2, .s 3, .b 3] rfl (by decide) (Kept.now (aC.aX (fun ((i, m) : Nat × Int) => [(.s 7, .sv (.v (.int .i64 (i : Int)))), (.s 1, .sv (.v (.int .i64 m)))]) _ (fun ((i, m) : Nat × Int) => jo (t.rest.drop i) m = jo t.rest (dm (dm (n - (t.rest.length : Int)) - (t.aU.length : Int)))) (fun ((i, m) : Nat × Int) => t.rest.length - i) (0, _) rfl (by simp) ?_))))))))
   rintro ⟨i, m⟩ hI
   refine aC.seq (aC.seq (aC.region (aB.run II 6 rfl (aB.tell (d := 27) rfl (fun hg2 => ?_) (fun hg2 => ?_)))))
   ·have hi := ch hg2
    have hS := @vM t.rest i m hi
    refine aB.run II 3 rfl (aB.nil (aC.cond rfl (fun hc3 => ?_) (fun hc3 => ?_)))
    ·exact aC.skip (aC.seq (aC.blk (aC.region (aB.run II 4 rfl (aB.c1 rfl (aH (aF rfl) lB rfl rfl (Int.natCast_nonneg _) (bz hi) rfl) (aB.run II 6 rfl (aB.nil (aC.region (aB.run II 3 rfl (aB.kept (Kept.aY 7 rfl (inc (by omega)) (Kept.aI [.s 7, .s 1, .h, .s 2, .s 3, .b 3] rfl (by decide) (Kept.now ⟨(i + 1, _), (by dsimp only; omega), by grind, rfl⟩)))))))))))))
    ·exact aC.aK (Kept.aI [.s 1, .h, .s 2, .s 3, .b 3] rfl (by decide) (Kept.now (aC.exit ⟨_, by grind [iX], rfl⟩)))
   ·have hi := cj hg2
    have hS := @ym t.rest i m hi
    exact aB.run II 3 rfl (aB.nil (aC.aZ rfl rfl (aC.aK (Kept.aI [.s 1, .h, .s 2, .s 3, .b 3] rfl (by decide) (Kept.now (aC.exit ⟨_, by grind [iX], rfl⟩))))))
  ·rintro m hF8
   refine aC.seq (aC.seq (aC.region (aB.run II 1 rfl (aB.nil (aC.blk (aC.aK (Kept.aI [.s 8, .s 1, .h, .s 2, .s 3, .b 3] rfl (by decide) (Kept.now (aC.aX (fun ((j, m) : Nat × Int) => [(.s 8, .sv (.v (.int .i64 (j : Int)))), (.s 1, .sv (.v (.int .i64 m)))]) _ (fun ((j, m) : Nat × Int) => jn (t.aU.drop j) m d = t.left n d) (fun ((j, m) : Nat × Int) => t.aU.length - j) (0, _) rfl (by rw [Tree.left_eq, if_neg (by have := of_decide_eq_false hc1; omega)]; grind) ?_)))))))))
   rintro ⟨j, m⟩ hI
   refine aC.seq (aC.seq (aC.region (aB.run II 6 rfl (aB.tell (d := 48) rfl (fun hg4 => ?_) (fun hg4 => ?_)))))
   ·have hj := ch hg4
    have hS := @vL t.aU j m d hj
    have hSl := Slot.left_eq (t.aU[j]'hj) m d
    have hv := hb.here.v _ (List.getElem_mem hj)
    refine aB.run II 3 rfl (aB.nil (aC.cond rfl (fun hc5 => ?_) (fun hc5 => ?_)))
    ·refine aC.skip (aC.seq (aC.blk (aC.seq (aC.region (aB.run II 4 rfl (aB.c1 rfl (aH (aF rfl) dX rfl rfl (Int.natCast_nonneg _) (dF Slot.bK hj) rfl) (aB.run II 5 rfl (aB.nil (aC.seq (aC.region (aB.run II 1 rfl (aB.nil (aC.blk (aC.aK (Kept.aI [.s 9, .s 1, .h, .s 2, .s 3, .b 3, .s 8] rfl (by decide) (Kept.now (aC.aX (fun ((k, p) : Nat × Int) => [(.s 9, .sv (.v (.int .i64 (k : Int)))), (.s 1, .sv (.v (.int .i64 p)))]) _ (fun ((k, p) : Nat × Int) => jl ((t.aU[j]'hj).bT.drop k) p d = (t.aU[j]'hj).left m d) (fun ((k, p) : Nat × Int) => (t.aU[j]'hj).bT.length - k) (0, _) rfl (by rw [hSl]; simp) ?_)))))))))))))))))
     rintro ⟨k, p⟩ hI
     refine aC.seq (aC.seq (aC.region (aB.run II 4 rfl (aB.c1 rfl (aH (aF rfl) dX rfl rfl (Int.natCast_nonneg _) (dF Slot.bK hj) rfl) (aB.run II 5 rfl (aB.tell (d := 72) rfl (fun hg6 => ?_) (fun hg6 => ?_)))))))
     ·have hk := ch hg6
      have hT := @vJ (t.aU[j]'hj).bT k p d hk
      have hVl := bS.left_eq ((t.aU[j]'hj).bT[k]'hk) p d
      have hm := hb.here.m _ (List.getElem_mem hj) _ (List.getElem_mem hk)
      refine aB.run II 3 rfl (aB.nil (aC.cond rfl (fun hc7 => ?_) (fun hc7 => ?_)))
      ·refine aC.skip (aC.seq (aC.blk (aC.seq (aC.region (aB.run II 4 rfl (aB.c1 rfl (aH (aF rfl) dX rfl rfl (Int.natCast_nonneg _) (dF Slot.bK hj) rfl) (aB.run II 3 rfl (aB.c1 rfl (aH (aF rfl) di rfl rfl (Int.natCast_nonneg _) (dF bS.bK hk) rfl) (aB.run II 6 rfl (aB.nil (aC.seq (aC.region (aB.run II 1 rfl (aB.nil (aC.blk (aC.aK (Kept.aI [.s 10, .s 1, .h, .s 2, .s 3, .b 3, .s 8, .s 9] rfl (by decide) (Kept.now (aC.aX (fun ((l, q) : Nat × Int) => [(.s 10, .sv (.v (.int .i64 (l : Int)))), (.s 1, .sv (.v (.int .i64 q)))]) _ (fun ((l, q) : Nat × Int) => jm (((t.aU[j]'hj).bT[k]'hk).m.drop l) q d = ((t.aU[j]'hj).bT[k]'hk).left p d) (fun ((l, q) : Nat × Int) => ((t.aU[j]'hj).bT[k]'hk).m.length - l) (0, _) rfl (by rw [hVl]; simp) ?_)))))))))))))))))))
       rintro ⟨l, q⟩ hI
       refine aC.seq (aC.seq (aC.region (aB.run II 4 rfl (aB.c1 rfl (aH (aF rfl) dX rfl rfl (Int.natCast_nonneg _) (dF Slot.bK hj) rfl) (aB.run II 3 rfl (aB.c1 rfl (aH (aF rfl) di rfl rfl (Int.natCast_nonneg _) (dF bS.bK hk) rfl) (aB.run II 5 rfl (aB.tell (d := 105) rfl (fun hg8 => ?_) (fun hg8 => ?_)))))))))
       ·have hl := ch hg8
        have hU := @vK ((t.aU[j]'hj).bT[k]'hk).m l q d hl
        refine aB.run II 3 rfl (aB.nil (aC.cond rfl (fun hc9 => ?_) (fun hc9 => ?_)))
        ·refine aC.skip (aC.seq (aC.blk (aC.region (aB.run II 3 rfl (aB.c1 rfl (aH (aF rfl) dX rfl rfl (Int.natCast_nonneg _) (dF Slot.bK hj) rfl) (aB.run II 3 rfl (aB.c1 rfl (aH (aF rfl) di rfl rfl (Int.natCast_nonneg _) (dF bS.bK hk) rfl) (aB.run II 3 rfl (aB.c1 rfl (aH (aF rfl) kz rfl rfl (Int.natCast_nonneg _) (dF Tree.bK hl) rfl) (aB.run II 5 rfl (aB.c1 rfl (aG (aF rfl) Ba rfl (ih _ (List.getElem_mem hj) _ (List.getElem_mem hk) _ (List.getElem_mem hl) _ _)) (aB.run II 1 rfl (aB.nil (aC.region (aB.run II 3 rfl ?_)))))))))))))))
         exact aB.kept (Kept.aY 10 rfl (inc (by omega)) (Kept.aI [.s 10, .s 1, .h, .s 2, .s 3, .b 3, .s 8, .s 9] rfl (by decide) (Kept.now ⟨(l + 1, _), (by dsimp only; omega), by grind, rfl⟩)))
        ·exact aC.exit (aC.region (aB.run II 3 rfl (aB.kept (Kept.aY 9 rfl (inc (by omega)) (Kept.aI [.s 9, .s 1, .h, .s 2, .s 3, .b 3, .s 8] rfl (by decide) (Kept.now ⟨(k + 1, _), (by dsimp only; omega), by grind, rfl⟩))))))
       ·have hl := cj hg8
        have hU := @yk ((t.aU[j]'hj).bT[k]'hk).m l q d hl
        exact aB.run II 3 rfl (aB.nil (aC.aZ rfl rfl (aC.exit (aC.region (aB.run II 3 rfl (aB.kept (Kept.aY 9 rfl (inc (by omega)) (Kept.aI [.s 9, .s 1, .h, .s 2, .s 3, .b 3, .s 8] rfl (by decide) (Kept.now ⟨(k + 1, _), (by dsimp only; omega), by grind, rfl⟩)))))))))
      ·exact aC.exit (aC.region (aB.run II 3 rfl (aB.kept (Kept.aY 8 rfl (inc (by omega)) (Kept.aI [.s 8, .s 1, .h, .s 2, .s 3, .b 3] rfl (by decide) (Kept.now ⟨(j + 1, _), (by dsimp only; omega), by grind, rfl⟩))))))
     ·have hk := cj hg6
      have hT := @yj (t.aU[j]'hj).bT k p d hk
      exact aB.run II 3 rfl (aB.nil (aC.aZ rfl rfl (aC.exit (aC.region (aB.run II 3 rfl (aB.kept (Kept.aY 8 rfl (inc (by omega)) (Kept.aI [.s 8, .s 1, .h, .s 2, .s 3, .b 3] rfl (by decide) (Kept.now ⟨(j + 1, _), (by dsimp only; omega), by grind, rfl⟩)))))))))
    ·exact aC.exit (aC.seq (aC.region (aB.run II 2 rfl (aB.nil (aC.ret ⟨.inr rfl, (aE.r1 rfl (.tmp rfl .nil)).cast (congrArg (AV.int .i64) (by grind [Tree.left_eq, mb, m9, ma, iX])), rfl⟩)))))
   ·have hj := cj hg4
    have hS := @yl t.aU j m d hj
    exact aB.run II 3 rfl (aB.nil (aC.aZ rfl rfl (aC.exit (aC.seq (aC.region (aB.run II 2 rfl (aB.nil (aC.ret ⟨.inr rfl, (aE.r1 rfl (.tmp rfl .nil)).cast (congrArg (AV.int .i64) (by grind [Tree.left_eq, mb, m9, ma, iX])), rfl⟩))))))))
theorem Ft (t : Tree) (hb : t.dj) (n d : Int) : Pure Tryz.prog 37 [.agg t.cells, .int .i64 n, .int .i64 d] (.int .i64 (t.left n d)) :=
 Tree.ind (Q := fun t => t.dj → ∀ n d : Int, Pure Tryz.prog 37 [.agg t.cells, .int .i64 n, .int .i64 d] (.int .i64 (t.left n d))) (fun t ih hb n d => DH t hb (fun x hx v hv u hu => ih x hx v hv u hu (hb.sub hu hv hx)) n d) t hb n d
def Tree.small (t : Tree) : Bool := decide (0 ≤ t.left 400 40)
theorem sd (t : Tree) (hb : t.dj) : Pure Tryz.prog 21 [.agg t.cells] (.bool t.small) := by
 exact Pure.aL Tryz.func21 rfl rfl (aF rfl) fun H => (aC.seq (aC.region (aB.run II 2 rfl (aB.nil (aC.seq (aC.region (aB.run II 1 rfl (aB.c1 rfl (aG (aF rfl) Ba rfl (Ft _ hb _ _)) (aB.run II 2 rfl (aB.nil (aC.ret ⟨.inr rfl, (aE.r1 rfl (.tmp rfl .nil)).cast rfl, rfl⟩)))))))))))
set_option maxHeartbeats 400000
/- the document: values: the same, how deep. -/
theorem Be : ab Tryz.prog 14 = true := by kernel_rfl
theorem Hg : ab Tryz.prog 31 = true := by kernel_rfl
theorem Hf : ab Tryz.prog 32 = true := by kernel_rfl
theorem zE : Tryz.prog.eqGuardType Tryz.prog.depth 102 = false := by kernel_rfl
theorem ya (a b : Rw) (w : World) : (binOp .neq 102 (.agg #[.int .i64 a.num, .int .i64 a.wire, .int .u64 (a.n : Int), .string ⟨a.s.toArray⟩]) (.agg #[.int .i64 b.num, .int .i64 b.wire, .int .u64 (b.n : Int), .string ⟨b.s.toArray⟩])).run Tryz.prog w = .ok (.bool (!decide (a = b))) w := by
 obtain ⟨a0, a1, a2, a3⟩ := a
 obtain ⟨b0, b1, b2, b3⟩ := b
 go_simp
 by_cases h0 : a0 = b0
 ·by_cases h1 : a1 = b1
  ·by_cases h2 : a2 = b2
   ·by_cases h3 : a3 = b3
    ·simp [h0, h1, h2, h3, Int.natCast_inj]
    ·simp [h0, h1, h2, h3, Int.natCast_inj]
   ·simp [h0, h1, h2, Int.natCast_inj]
  ·simp [h0, h1, Int.natCast_inj]
 ·simp [h0, Int.natCast_inj]
theorem CM {G : Gh} {v : Value} {t : Rw} (h : V G v (.agg t.cells)) : v = (.agg #[.int .i64 t.num, .int .i64 t.wire, .int .u64 (t.n : Int), .string ⟨t.s.toArray⟩]) := by
 unfold Rw.cells at h
 cases h with
 | agg vs cs hl hf hv =>
  obtain ⟨l⟩ := vs
  match l, hl with
  | [x0, x1, x2, x3], _ =>
   have h0 : V G x0 (.int .i64 t.num) := hv 0 _ rfl
   cases h0
   have h1 : V G x1 (.int .i64 t.wire) := hv 1 _ rfl
   cases h1
   have h2 : V G x2 (.int .u64 (t.n : Int)) := hv 2 _ rfl
   cases h2
   have h3 : V G x3 (.str t.s) := hv 3 _ rfl
   cases h3
   rfl
theorem yY {N : Nat} {s : St} {d : Nat} {ty : TypeId} {pos : String} {af : Array Edge} {g : Option (Nat × Bool)} {t2 : TypeId} {x y : Operand} {u v : AV} (a b : Rw) (hN : d < N) (hx : cW x s = some u) (hy : cW y s = some v) (hu : u = .agg a.cells) (hv : v = .agg b.cells) :
  aa Tryz.prog N ⟨some d, .binOp .neq 102 x y t2, ty, pos, af, g⟩ s (rd x ++ rd y) [(.s d, .sv (.v (.bool (!decide (a = b)))))] := by
 subst hu hv
 exact aa.val rfl hN fun E G L c w tt hr hR => by
  refine ⟨.bool (!decide (a = b)), ?_, .bool _⟩
  have h1 := CM (aR hr hR.left hx)
  have h2 := CM (aR hr hR.right hy)
  have hgd := run_eqGuard_agg (P := Tryz.prog) w .neq 102 x y #[.int .i64 a.num, .int .i64 a.wire, .int .u64 (a.n : Int), .string ⟨a.s.toArray⟩] #[.int .i64 b.num, .int .i64 b.wire, .int .u64 (b.n : Int), .string ⟨b.s.toArray⟩] zE
  simp only [execOp, Sem.run_bind, h1, h2, hgd, Result.andThen_ok, ya, Sem.run_pure]
theorem Cx (a b : List Rw) (ha : a.length ≤ 9223372036854775807) : Pure Tryz.prog 31 [.sl (a.map Rw.av), .sl (b.map Rw.av)] (.bool (zU a b)) := by
 refine Pure.aL Tryz.func31 rfl rfl (aF rfl) fun H => (aC.seq (aC.region (aB.run II 1 rfl (aB.nil (aC.cE [.h, .s 0, .s 1] (fun (_ : Unit) => []) (fun (_ : Unit) => a.length = b.length) rfl ?_ ?_)))))
 ·refine aC.seq (aC.region (aB.run II 5 rfl (aB.nil (aC.cond rfl (fun hc1 => ?_) (fun hc1 => ?_)))))
  ·exact aC.seq (aC.region (aB.run II 1 rfl (aB.nil (aC.ret ⟨.inr rfl, (aE.r1 rfl (.tmp rfl .nil)).cast (congrArg AV.bool (by have hE := @bG _ a b; have hF := @bF _ a b; grind)), rfl⟩))))
  ·exact aC.aK (Kept.aI [.h, .s 0, .s 1] rfl (by decide) (Kept.now (aC.skip ⟨(), by have h : (!((a.map Rw.av).length : Int) == ((b.map Rw.av).length : Int)) = false := hc1; simp at h; omega, rfl⟩)))
 ·rintro _ hF3
  refine aC.seq (aC.seq (aC.region (aB.run II 1 rfl (aB.nil (aC.blk (aC.aK (Kept.aI [.s 5, .h, .s 0, .s 1] rfl (by decide) (Kept.now (aC.aX (fun (i : Nat) => [(.s 5, .sv (.v (.int .i64 (i : Int))))]) _ (fun (i : Nat) => a.take i = b.take i) (fun (i : Nat) => a.length - i) 0 rfl rfl ?_)))))))))
  rintro i hI
  refine aC.seq (aC.seq (aC.region (aB.run II 4 rfl (aB.nil (aC.cond rfl (fun hc2 => ?_) (fun hc2 => ?_))))))
  ·have hi := ch hc2
   have hN := @wg _ a b i hi (by omega)
   refine aC.skip (aC.seq (aC.blk (aC.seq (aC.drawn mixed rfl (aD.run II 2 rfl (aD.c1 rfl (aH (aF rfl) lB rfl rfl (Int.natCast_nonneg _) (bz (by omega)) rfl) (aD.run II 3 rfl (aD.c1 rfl (aH (aF rfl) lB rfl rfl (Int.natCast_nonneg _) (bz (by omega)) rfl) (aD.run II 1 rfl (aD.c1 rfl (yY (a[i]'hi) (b[i]'(by omega)) (aF rfl) rfl rfl rfl rfl) (aD.nil (by kernel_rfl) (Kept.now (aC.cond rfl (fun hc3 => ?_) (fun hc3 => ?_))))))))))))))
   ·exact aC.seq (aC.region (aB.run II 1 rfl (aB.nil (aC.ret ⟨.inr rfl, (aE.r1 rfl (.tmp rfl .nil)).cast (congrArg AV.bool (by have hE := @bG _ a b; have hF := @bF _ a b; grind)), rfl⟩))))
   ·exact aC.skip (aC.region (aB.run II 3 rfl (aB.kept (Kept.aY 5 rfl (inc (by omega)) (Kept.aI [.s 5, .h, .s 0, .s 1] rfl (by decide) (Kept.now ⟨i + 1, by omega, ft hi (by omega) hI (by grind), rfl⟩))))))
  ·have hi := cj hc2
   have hE2 := gm (a := a) (b := b) (by omega) hi hI
   exact aC.exit (aC.seq (aC.region (aB.run II 1 rfl (aB.nil (aC.ret ⟨.inr rfl, (aE.r1 rfl (.tmp rfl .nil)).cast (congrArg AV.bool (by have hE := @bG _ a b; have hF := @bF _ a b; grind)), rfl⟩)))))
theorem sg (a b : List bS) (ha : a.length ≤ 9223372036854775807) (hm : ∀ v ∈ a, v.m.length ≤ 9223372036854775807) (ih : ∀ v ∈ a, ∀ u ∈ v.m, ∀ w : Tree, Pure Tryz.prog 14 [.agg u.cells, .agg w.cells] (.bool (zU u w))) : Pure Tryz.prog 32 [.sl (a.map bS.av), .sl (b.map bS.av)] (.bool (zU a b)) := by
 refine Pure.aL Tryz.func32 rfl rfl (aF rfl) fun H => (aC.seq (aC.region (aB.run II 1 rfl (aB.nil (aC.cE [.h, .s 0, .s 1] (fun (_ : Unit) => []) (fun (_ : Unit) => a.length = b.length) rfl ?_ ?_)))))
 ·refine aC.seq (aC.region (aB.run II 5 rfl (aB.nil (aC.cond rfl (fun hc1 => ?_) (fun hc1 => ?_)))))
  ·exact aC.seq (aC.region (aB.run II 1 rfl (aB.nil (aC.ret ⟨.inr rfl, (aE.r1 rfl (.tmp rfl .nil)).cast (congrArg AV.bool (by have hE := @bG _ a b; have hF := @bF _ a b; grind [bG, bF])), rfl⟩))))
  ·exact aC.aK (Kept.aI [.h, .s 0, .s 1] rfl (by decide) (Kept.now (aC.skip ⟨(), by have h : (!((a.map bS.av).length : Int) == ((b.map bS.av).length : Int)) = false := hc1; simp at h; omega, rfl⟩)))
 ·rintro _ hF3
  refine aC.seq (aC.seq (aC.region (aB.run II 1 rfl (aB.nil (aC.blk (aC.aK (Kept.aI [.s 5, .h, .s 0, .s 1] rfl (by decide) (Kept.now (aC.aX (fun (i : Nat) => [(.s 5, .sv (.v (.int .i64 (i : Int))))]) _ (fun (i : Nat) => a.take i = b.take i) (fun (i : Nat) => a.length - i) 0 rfl rfl ?_)))))))))
  rintro i hI
  refine aC.seq (aC.seq (aC.region (aB.run II 4 rfl (aB.nil (aC.cond rfl (fun hc2 => ?_) (fun hc2 => ?_))))))
  ·have hi := ch hc2
   have hN := @wg _ a b i hi (by omega)
   have hm1 := hm _ (List.getElem_mem hi)
   refine aC.skip (aC.seq (aC.blk (aC.cE [.h, .s 0, .s 1, .s 5] (fun (_ : Unit) => []) (fun (_ : Unit) => (a[i]'hi).n = (b[i]'(by omega)).n ∧ (a[i]'hi).s = (b[i]'(by omega)).s ∧ (a[i]'hi).m.length = (b[i]'(by omega)).m.length) rfl ?_ ?_)))
   ·refine aC.seq (aC.drawn mixed rfl (aD.run II 2 rfl (aD.c1 rfl (aH (aF rfl) di rfl rfl (Int.natCast_nonneg _) (dF bS.bK (by omega)) rfl) (aD.run II 4 rfl (aD.c1 rfl (aH (aF rfl) di rfl rfl (Int.natCast_nonneg _) (dF bS.bK (by omega)) rfl) (aD.run II 4 rfl (aD.tell (d := 29) rfl (fun hg3 => ?_) (fun hg3 => ?_))))))))
    ·exact aD.run II 27 rfl (aD.nil (by kernel_rfl) (Kept.now (aC.ar rfl rfl (aC.seq (aC.region (aB.run II 1 rfl (aB.nil (aC.ret ⟨.inr rfl, (aE.r1 rfl (.tmp rfl .nil)).cast (congrArg AV.bool (by have hE := @bG _ a b; have hF := @bF _ a b; grind [bG, bF])), rfl⟩))))))))
    ·refine aD.run II 2 rfl (aD.g1 rfl (aF rfl) rfl rfl (aH (aF rfl) di rfl rfl (Int.natCast_nonneg _) (dF bS.bK (by omega)) rfl) (aD.run II 4 rfl (aD.g1 rfl (aF rfl) rfl rfl (aH (aF rfl) di rfl rfl (Int.natCast_nonneg _) (dF bS.bK (by omega)) rfl) (aD.run II 5 rfl (aD.tell (d := 42) rfl (fun hg4 => ?_) (fun hg4 => ?_))))))
     ·exact aD.run II 14 rfl (aD.nil (by kernel_rfl) (Kept.now (aC.ar rfl rfl (aC.seq (aC.region (aB.run II 1 rfl (aB.nil (aC.ret ⟨.inr rfl, (aE.r1 rfl (.tmp rfl .nil)).cast (congrArg AV.bool (by have hE := @bG _ a b; have hF := @bF _ a b; grind [bG, bF])), rfl⟩))))))))
     ·refine aD.run II 2 rfl (aD.g1 rfl (aF rfl) rfl rfl (aH (aF rfl) di rfl rfl (Int.natCast_nonneg _) (dF bS.bK (by omega)) rfl) (aD.run II 5 rfl (aD.g1 rfl (aF rfl) rfl rfl (aH (aF rfl) di rfl rfl (Int.natCast_nonneg _) (dF bS.bK (by omega)) rfl) (aD.run II 5 rfl (aD.nil (by kernel_rfl) (Kept.now (aC.cond rfl (fun hc5 => ?_) (fun hc5 => ?_))))))))
      ·exact aC.seq (aC.region (aB.run II 1 rfl (aB.nil (aC.ret ⟨.inr rfl, (aE.r1 rfl (.tmp rfl .nil)).cast (congrArg AV.bool (by have hE := @bG _ a b; have hF := @bF _ a b; grind [bG, bF])), rfl⟩))))
      ·exact aC.aK (Kept.aI [.h, .s 0, .s 1, .s 5] rfl (by decide) (Kept.now (aC.skip ⟨(), by grind, rfl⟩)))
   ·rintro _ hF8
    refine aC.seq (aC.region (aB.run II 1 rfl (aB.nil (aC.blk (aC.aK (Kept.aI [.s 6, .h, .s 0, .s 1, .s 5] rfl (by decide) (Kept.now (aC.aX (fun (l : Nat) => [(.s 6, .sv (.v (.int .i64 (l : Int))))]) _ (fun (l : Nat) => (a[i]'hi).m.take l = (b[i]'(by omega)).m.take l) (fun (l : Nat) => (a[i]'hi).m.length - l) 0 rfl rfl ?_))))))))
    rintro l hL
    refine aC.seq (aC.seq (aC.region (aB.run II 3 rfl (aB.c1 rfl (aH (aF rfl) di rfl rfl (Int.natCast_nonneg _) (dF bS.bK (by omega)) rfl) (aB.run II 4 rfl (aB.nil (aC.cond rfl (fun hc6 => ?_) (fun hc6 => ?_))))))))
    ·have hl := ch hc6
     have hM := @wg _ (a[i]'hi).m (b[i]'(by omega)).m l hl (by omega)
     refine aC.skip (aC.seq (aC.blk (aC.seq (aC.drawn mixed rfl (aD.run II 2 rfl (aD.c1 rfl (aH (aF rfl) di rfl rfl (Int.natCast_nonneg _) (dF bS.bK (by omega)) rfl) (aD.run II 3 rfl (aD.c1 rfl (aH (aF rfl) kz rfl rfl (Int.natCast_nonneg _) (dF Tree.bK (by omega)) rfl) (aD.run II 3 rfl (aD.c1 rfl (aH (aF rfl) di rfl rfl (Int.natCast_nonneg _) (dF bS.bK (by omega)) rfl) (aD.run II 3 rfl (aD.c1 rfl (aH (aF rfl) kz rfl rfl (Int.natCast_nonneg _) (dF Tree.bK (by omega)) rfl) (aD.run II 1 rfl (aD.c1 rfl (aG (aF rfl) Be rfl (ih _ (List.getElem_mem hi) _ (List.getElem_mem hl) _)) ?_))))))))))))))
     refine aD.run II 1 rfl (aD.nil (by kernel_rfl) (Kept.now (aC.cond rfl (fun hc7 => ?_) (fun hc7 => ?_))))
     ·exact aC.seq (aC.region (aB.run II 1 rfl (aB.nil (aC.ret ⟨.inr rfl, (aE.r1 rfl (.tmp rfl .nil)).cast (congrArg AV.bool (by have hE := @bG _ a b; have hF := @bF _ a b; grind [bG, bF])), rfl⟩))))
     ·exact aC.skip (aC.region (aB.run II 3 rfl (aB.kept (Kept.aY 6 rfl (inc (by omega)) (Kept.aI [.s 6, .h, .s 0, .s 1, .s 5] rfl (by decide) (Kept.now ⟨l + 1, by omega, ft hl (by omega) hL (by grind [bG]), rfl⟩))))))
    ·have hl := cj hc6
     have hE3 := gm (a := (a[i]'hi).m) (b := (b[i]'(by omega)).m) (by omega) hl hL
     have hQ := bS.ext (a := (a[i]'hi)) (b := (b[i]'(by omega))) hF8.1 hF8.2.1 hE3
     exact aC.exit (aC.region (aB.run II 3 rfl (aB.kept (Kept.aY 5 rfl (inc (by omega)) (Kept.aI [.s 5, .h, .s 0, .s 1] rfl (by decide) (Kept.now ⟨i + 1, by omega, ft hi (by omega) hI hQ, rfl⟩))))))
  ·have hi := cj hc2
   have hE2 := gm (a := a) (b := b) (by omega) hi hI
   exact aC.exit (aC.seq (aC.region (aB.run II 1 rfl (aB.nil (aC.ret ⟨.inr rfl, (aE.r1 rfl (.tmp rfl .nil)).cast (congrArg AV.bool (by have hE := @bG _ a b; have hF := @bF _ a b; grind [bG, bF])), rfl⟩)))))
theorem Cw (a b : Tree) (hb : a.dj) (ih : ∀ x ∈ a.aU, ∀ v ∈ x.bT, ∀ u ∈ v.m, ∀ w : Tree, Pure Tryz.prog 14 [.agg u.cells, .agg w.cells] (.bool (zU u w))) : Pure Tryz.prog 14 [.agg a.cells, .agg b.cells] (.bool (zU a b)) := by
 have hs := hb.here.s
 have hr := hb.here.r
 refine Pure.aL Tryz.func14 rfl rfl (aF rfl) fun H => (aC.seq (aC.region (aB.run II 3 rfl (aB.nil (aC.cE [.h, .s 2, .b 2, .s 3, .b 3] (fun (_ : Unit) => []) (fun (_ : Unit) => a.aU.length = b.aU.length ∧ a.rest = b.rest) rfl ?_ ?_)))))
 ·refine aC.seq (aC.region (aB.run II 8 rfl (aB.tell (d := 13) rfl (fun hg1 => ?_) (fun hg1 => ?_))))
  ·exact aB.run II 7 rfl (aB.nil (aC.ar rfl rfl (aC.seq (aC.region (aB.run II 1 rfl (aB.nil (aC.ret ⟨.inr rfl, (aE.r1 rfl (.tmp rfl .nil)).cast (congrArg AV.bool (by have hE := @bG _ a b; have hF := @bF _ a b; grind [bG, bF, Tree.ext])), rfl⟩)))))))
  ·refine aB.run II 4 rfl (aB.g1 rfl (aF rfl) rfl rfl (aG (aF rfl) Hg rfl (Cx _ _ (by omega))) (aB.run II 2 rfl (aB.nil (aC.cond rfl (fun hc2 => ?_) (fun hc2 => ?_)))))
   ·exact aC.seq (aC.region (aB.run II 1 rfl (aB.nil (aC.ret ⟨.inr rfl, (aE.r1 rfl (.tmp rfl .nil)).cast (congrArg AV.bool (by have hE := @bG _ a b; have hF := @bF _ a b; grind [bG, bF, Tree.ext])), rfl⟩))))
   ·exact aC.aK (Kept.aI [.h, .s 2, .b 2, .s 3, .b 3] rfl (by decide) (Kept.now (aC.skip ⟨(), by grind [bG], rfl⟩)))
 ·rintro _ hF3
  refine aC.seq (aC.seq (aC.region (aB.run II 1 rfl (aB.nil (aC.blk (aC.aK (Kept.aI [.s 5, .h, .s 2, .b 2, .s 3, .b 3] rfl (by decide) (Kept.now (aC.aX (fun (i : Nat) => [(.s 5, .sv (.v (.int .i64 (i : Int))))]) _ (fun (i : Nat) => a.aU.take i = b.aU.take i) (fun (i : Nat) => a.aU.length - i) 0 rfl rfl ?_)))))))))
  rintro i hI
  refine aC.seq (aC.seq (aC.region (aB.run II 5 rfl (aB.nil (aC.cond rfl (fun hc3 => ?_) (fun hc3 => ?_))))))
  ·have hi := ch hc3
   have hN := @wg _ a.aU b.aU i hi (by omega)
   refine aC.skip (aC.seq (aC.blk (aC.seq (aC.drawn mixed rfl (aD.run II 3 rfl (aD.c1 rfl (aH (aF rfl) dX rfl rfl (Int.natCast_nonneg _) (dF Slot.bK (by omega)) rfl) (aD.run II 5 rfl (aD.c1 rfl (aH (aF rfl) dX rfl rfl (Int.natCast_nonneg _) (dF Slot.bK (by omega)) rfl) (aD.run II 4 rfl (aD.tell (d := 41) rfl (fun hg4 => ?_) (fun hg4 => ?_)))))))))))
   ·exact aD.run II 15 rfl (aD.nil (by kernel_rfl) (Kept.now (aC.ar rfl rfl (aC.seq (aC.region (aB.run II 1 rfl (aB.nil (aC.ret ⟨.inr rfl, (aE.r1 rfl (.tmp rfl .nil)).cast (congrArg AV.bool (by have hE := @bG _ a b; have hF := @bF _ a b; grind [bG, bF, Tree.ext])), rfl⟩))))))))
   ·refine aD.run II 3 rfl (aD.g1 rfl (aF rfl) rfl rfl (aH (aF rfl) dX rfl rfl (Int.natCast_nonneg _) (dF Slot.bK (by omega)) rfl) (aD.run II 5 rfl (aD.g1 rfl (aF rfl) rfl rfl (aH (aF rfl) dX rfl rfl (Int.natCast_nonneg _) (dF Slot.bK (by omega)) rfl) (aD.run II 2 rfl (aD.g1 rfl (aF rfl) rfl rfl (aG (aF rfl) Hf rfl (sg _ _ (hb.here.v _ (List.getElem_mem hi)) (hb.here.m _ (List.getElem_mem hi)) (ih _ (List.getElem_mem hi)))) (aD.run II 2 rfl (aD.nil (by kernel_rfl) (Kept.now (aC.cond rfl (fun hc5 => ?_) (fun hc5 => ?_))))))))))
    ·exact aC.seq (aC.region (aB.run II 1 rfl (aB.nil (aC.ret ⟨.inr rfl, (aE.r1 rfl (.tmp rfl .nil)).cast (congrArg AV.bool (by have hE := @bG _ a b; have hF := @bF _ a b; grind [bG, bF, Tree.ext])), rfl⟩))))
    ·exact aC.skip (aC.region (aB.run II 3 rfl (aB.kept (Kept.aY 5 rfl (inc (by omega)) (Kept.aI [.s 5, .h, .s 2, .b 2, .s 3, .b 3] rfl (by decide) (Kept.now ⟨i + 1, by omega, ft hi (by omega) hI (Slot.ext (by grind) (by grind [bG])), rfl⟩))))))
  ·have hi := cj hc3
   have hE2 := gm (a := a.aU) (b := b.aU) (by omega) hi hI
   have hQ := Tree.ext (a := a) (b := b) hE2 hF3.2
   exact aC.exit (aC.seq (aC.region (aB.run II 1 rfl (aB.nil (aC.ret ⟨.inr rfl, (aE.r1 rfl (.tmp rfl .nil)).cast (congrArg AV.bool (by have hE := @bG _ a b; have hF := @bF _ a b; grind [bG, bF, Tree.ext])), rfl⟩)))))
theorem Fh (a b : Tree) (hb : a.dj) : Pure Tryz.prog 14 [.agg a.cells, .agg b.cells] (.bool (zU a b)) :=
 Tree.ind (Q := fun a => a.dj → ∀ b : Tree, Pure Tryz.prog 14 [.agg a.cells, .agg b.cells] (.bool (zU a b))) (fun t ih hb b => Cw t b hb (fun x hx v hv u hu => ih x hx v hv u hu (hb.sub hu hv hx))) a hb b
/- numbers of types, in the program and in the document. -/
theorem uK : JD Tryz.prog 277 = some (16, 3, 1) := by kernel_rfl
theorem nj : ab Tryz.prog 173 = true := by kernel_rfl
theorem ni : ab Tryz.prog 174 = true := by kernel_rfl
theorem EX : ab Tryz.prog 175 = true := by kernel_rfl
theorem ET : ab Tryz.prog 194 = true := by kernel_rfl
theorem ES : ab Tryz.prog 195 = true := by kernel_rfl
theorem ER : ab Tryz.prog 196 = true := by kernel_rfl
theorem nh : ab Tryz.prog 208 = true := by kernel_rfl
theorem EP : ab Tryz.prog 209 = true := by kernel_rfl
theorem C2 : bf Tryz.prog 277 = some [AV.int IntKind.i64 (0), AV.int IntKind.i64 (0), AV.int IntKind.i64 (0), AV.int IntKind.i64 (0), AV.int IntKind.i64 (0), AV.int IntKind.i64 (0), AV.int IntKind.i64 (0), AV.int IntKind.i64 (0), AV.int IntKind.i64 (0), AV.int IntKind.i64 (0), AV.int IntKind.i64 (0), AV.int IntKind.i64 (0), AV.int IntKind.i64 (0), AV.int IntKind.i64 (0), AV.int IntKind.i64 (0), AV.int IntKind.i64 (0)] := by kernel_rfl
theorem Fx (z : Int) : Pure Tryz.prog 175 [.int .i64 z] (.bool (gX z)) := by
 refine Pure.aL Tryz.func175 rfl rfl (aF rfl) fun H => (aC.seq (aC.region (aB.run II 1 rfl (aB.nil (aC.seq (aC.region (aB.run II 3 rfl (aB.tell (d := 5) rfl (fun hg1 => ?_) (fun hg1 => ?_)))))))))
 ·exact aB.run II 4 rfl (aB.nil (aC.ret ⟨.inr rfl, (aE.r1 rfl (.tmp rfl .nil)).cast (congrArg AV.bool (by grind [gX])), rfl⟩))
 ·exact aB.run II 4 rfl (aB.nil (aC.ret ⟨.inr rfl, (aE.r1 rfl (.tmp rfl .nil)).cast (congrArg AV.bool (by grind [gX])), rfl⟩))
theorem I3 (t : Int) (n : Nat) : Pure Tryz.prog 138 [.int .i64 t, .int .u64 (n : Int)] (.bool (gk t n)) := by
 refine Pure.aL Tryz.func138 rfl rfl (aF rfl) fun H => (aC.seq (aC.region (aB.run II 1 rfl (aB.nil (aC.seq (aC.seq (aC.region (aB.run II 3 rfl (aB.tell (d := 7) rfl (fun hg1 => ?_) (fun hg1 => ?_))))))))))
 ·exact aB.run II 3 rfl (aB.nil (aC.ar rfl rfl (aC.seq (aC.region (aB.run II 1 rfl (aB.nil (aC.ret ⟨.inr rfl, (aE.r1 rfl (.tmp rfl .nil)).cast (congrArg AV.bool (by grind [gk, CQ, gX])), rfl⟩)))))))
 ·refine aB.run II 3 rfl (aB.nil (aC.cond rfl (fun hc2 => ?_) (fun hc2 => ?_)))
  ·exact aC.seq (aC.region (aB.run II 1 rfl (aB.nil (aC.ret ⟨.inr rfl, (aE.r1 rfl (.tmp rfl .nil)).cast (congrArg AV.bool (by grind [gk, CQ, gX])), rfl⟩))))
  ·refine aC.skip (aC.seq (aC.seq (aC.region (aB.run II 1 rfl (aB.c1 rfl (aG (aF rfl) nj rfl (n5 _)) (aB.nil (aC.cond rfl (fun hc3 => ?_) (fun hc3 => ?_))))))))
   ·exact aC.seq (aC.region (aB.run II 1 rfl (aB.nil (aC.ret ⟨.inr rfl, (aE.r1 rfl (.tmp rfl .nil)).cast (congrArg AV.bool (by grind [gk, CQ, gX])), rfl⟩))))
   ·refine aC.skip (aC.seq (aC.seq (aC.region (aB.run II 1 rfl (aB.c1 rfl (aG (aF rfl) ni rfl (n7 _)) (aB.nil (aC.cond rfl (fun hc4 => ?_) (fun hc4 => ?_))))))))
    ·exact aC.seq (aC.region (aB.run II 2 rfl (aB.c1 rfl (aG (aF rfl) EX rfl (Fx _)) (aB.run II 1 rfl (aB.nil (aC.ret ⟨.inr rfl, (aE.r1 rfl (.tmp rfl .nil)).cast (congrArg AV.bool (by grind [gk, CQ, gX])), rfl⟩))))))
    ·refine aC.skip (aC.seq (aC.seq (aC.region (aB.run II 3 rfl (aB.tell (d := 20) rfl (fun hg5 => ?_) (fun hg5 => ?_))))))
     ·exact aB.run II 3 rfl (aB.nil (aC.ar rfl rfl (aC.seq (aC.region (aB.run II 3 rfl (aB.nil (aC.ret ⟨.inr rfl, (aE.r1 rfl (.tmp rfl .nil)).cast (congrArg AV.bool (by grind [gk, CQ, gX])), rfl⟩)))))))
     ·refine aB.run II 3 rfl (aB.nil (aC.cond rfl (fun hc6 => ?_) (fun hc6 => ?_)))
      ·exact aC.seq (aC.region (aB.run II 3 rfl (aB.nil (aC.ret ⟨.inr rfl, (aE.r1 rfl (.tmp rfl .nil)).cast (congrArg AV.bool (by grind [gk, CQ, gX])), rfl⟩))))
      ·refine aC.skip (aC.seq (aC.seq (aC.region (aB.run II 2 rfl (aB.nil (aC.cond rfl (fun hc7 => ?_) (fun hc7 => ?_)))))))
       ·exact aC.seq (aC.region (aB.run II 3 rfl (aB.nil (aC.ret ⟨.inr rfl, (aE.r1 rfl (.tmp rfl .nil)).cast (congrArg AV.bool (by grind [gk, CQ, gX])), rfl⟩))))
       ·exact aC.skip (aC.seq (aC.region (aB.run II 3 rfl (aB.nil (aC.ret ⟨.inr rfl, (aE.r1 rfl (.tmp rfl .nil)).cast (congrArg AV.bool (by grind [gk, CQ, gX])), rfl⟩)))))
theorem rT (t : Int) : Pure Tryz.prog 208 [.int .i64 t] (.int .i64 (nK t)) := by
 refine Pure.aL Tryz.func208 rfl rfl (aF rfl) fun H => (aC.seq (aC.region (aB.run II 1 rfl (aB.nil (aC.seq (aC.seq (aC.region (aB.run II 3 rfl (aB.tell (d := 5) rfl (fun hg1 => ?_) (fun hg1 => ?_))))))))))
 ·exact aB.run II 3 rfl (aB.nil (aC.ar rfl rfl (aC.seq (aC.region (aB.run II 1 rfl (aB.nil (aC.ret ⟨.inr rfl, (aE.r1 rfl (.tmp rfl .nil)).cast (congrArg (AV.int .i64) (by grind [fF])), rfl⟩)))))))
 ·refine aB.run II 3 rfl (aB.nil (aC.cond rfl (fun hc2 => ?_) (fun hc2 => ?_)))
  ·exact aC.seq (aC.region (aB.run II 1 rfl (aB.nil (aC.ret ⟨.inr rfl, (aE.r1 rfl (.tmp rfl .nil)).cast (congrArg (AV.int .i64) (by grind [fF])), rfl⟩))))
  ·exact aC.skip (aC.seq (aC.region (aB.c1 rfl (Dd (aF rfl) uK C2 rfl rfl) (aB.run II 1 rfl (aB.c1 rfl (Gg (aF rfl) uK iW rfl rfl (by grind) (by grind) (yr (by grind) (by grind))) (aB.run II 1 rfl (aB.nil (aC.ret ⟨.inr rfl, (aE.r1 rfl (.tmp rfl .nil)).cast (congrArg (AV.int .i64) (by grind [fF])), rfl⟩))))))))
theorem GR (t : Int) : Pure Tryz.prog 191 [.int .i64 t] (.bool (nU t)) := by
 exact Pure.aL Tryz.func191 rfl rfl (aF rfl) fun H => (aC.seq (aC.region (aB.run II 1 rfl (aB.nil (aC.seq (aC.region (aB.run II 1 rfl (aB.c1 rfl (aG (aF rfl) nh rfl (rT _)) (aB.run II 3 rfl (aB.nil (aC.ret ⟨.inr rfl, (aE.r1 rfl (.tmp rfl .nil)).cast (congrArg AV.bool (BE t)), rfl⟩)))))))))))
theorem AP (t : Int) : Pure Tryz.prog 195 [.int .i64 t] (.bool (cI t)) := by
 exact Pure.aL Tryz.func195 rfl rfl (aF rfl) fun H => (aC.seq (aC.region (aB.run II 1 rfl (aB.nil (aC.seq (aC.region (aB.run II 1 rfl (aB.c1 rfl (aG (aF rfl) nh rfl (rT _)) (aB.run II 3 rfl (aB.nil (aC.ret ⟨.inr rfl, (aE.r1 rfl (.tmp rfl .nil)).cast (congrArg AV.bool (vP t)), rfl⟩)))))))))))
theorem D0 (t : Int) : Pure Tryz.prog 196 [.int .i64 t] (.bool (de t)) := by
 exact Pure.aL Tryz.func196 rfl rfl (aF rfl) fun H => (aC.seq (aC.region (aB.run II 1 rfl (aB.nil (aC.seq (aC.region (aB.run II 1 rfl (aB.c1 rfl (aG (aF rfl) nh rfl (rT _)) (aB.run II 3 rfl (aB.nil (aC.ret ⟨.inr rfl, (aE.r1 rfl (.tmp rfl .nil)).cast (congrArg AV.bool (yq t)), rfl⟩)))))))))))
theorem DT (t : Int) : Pure Tryz.prog 194 [.int .i64 t] (.bool (fe t)) := by
 exact Pure.aL Tryz.func194 rfl rfl (aF rfl) fun H => (aC.seq (aC.region (aB.run II 1 rfl (aB.nil (aC.seq (aC.region (aB.run II 1 rfl (aB.c1 rfl (aG (aF rfl) nh rfl (rT _)) (aB.run II 3 rfl (aB.nil (aC.ret ⟨.inr rfl, (aE.r1 rfl (.tmp rfl .nil)).cast (congrArg AV.bool (yp t)), rfl⟩)))))))))))
theorem GY (z : Int) : Pure Tryz.prog 209 [.int .i64 z] (.bool (gX z)) := by
 exact Pure.aL Tryz.func209 rfl rfl (aF rfl) fun H => (aC.seq (aC.region (aB.run II 1 rfl (aB.nil (aC.seq (aC.region (aB.run II 6 rfl (aB.nil (aC.ret ⟨.inr rfl, (aE.r1 rfl (.tmp rfl .nil)).cast (congrArg AV.bool (zA z)), rfl⟩)))))))))
theorem I7 (t : Int) (n : Nat) : Pure Tryz.prog 192 [.int .i64 t, .int .u64 (n : Int)] (.bool (gk t n)) := by
 refine Pure.aL Tryz.func192 rfl rfl (aF rfl) fun H => (aC.seq (aC.region (aB.run II 1 rfl (aB.nil (aC.seq (aC.blk (aC.seq (aC.region (aB.run II 3 rfl (aB.tell (d := 8) rfl (fun hg1 => ?_) (fun hg1 => ?_)))))))))))
 ·exact aB.run II 4 rfl (aB.nil (aC.ar rfl rfl (aC.seq (aC.region (aB.run II 1 rfl (aB.nil (aC.ret ⟨.inr rfl, (aE.r1 rfl (.tmp rfl .nil)).cast (congrArg AV.bool (by grind [gk])), rfl⟩)))))))
 ·refine aB.run II 4 rfl (aB.nil (aC.cond rfl (fun hc2 => ?_) (fun hc2 => ?_)))
  ·exact aC.seq (aC.region (aB.run II 1 rfl (aB.nil (aC.ret ⟨.inr rfl, (aE.r1 rfl (.tmp rfl .nil)).cast (congrArg AV.bool (by grind [gk])), rfl⟩))))
  ·refine aC.seq (aC.region (aB.run II 1 rfl (aB.c1 rfl (aG (aF rfl) ET rfl (DT _)) (aB.run II 1 rfl (aB.nil (aC.cond rfl (fun hc3 => ?_) (fun hc3 => ?_)))))))
   ·exact aC.seq (aC.region (aB.run II 1 rfl (aB.nil (aC.ret ⟨.inr rfl, (aE.r1 rfl (.tmp rfl .nil)).cast (congrArg AV.bool (by grind [gk])), rfl⟩))))
   ·refine aC.seq (aC.region (aB.run II 1 rfl (aB.c1 rfl (aG (aF rfl) ER rfl (D0 _)) (aB.run II 1 rfl (aB.nil (aC.cond rfl (fun hc4 => ?_) (fun hc4 => ?_)))))))
    ·exact aC.seq (aC.region (aB.run II 2 rfl (aB.c1 rfl (aG (aF rfl) EP rfl (GY _)) (aB.run II 1 rfl (aB.nil (aC.ret ⟨.inr rfl, (aE.r1 rfl (.tmp rfl .nil)).cast (congrArg AV.bool (by have := fR t; grind [gk, CQ])), rfl⟩))))))
    ·refine aC.seq (aC.region (aB.run II 1 rfl (aB.c1 rfl (aG (aF rfl) ES rfl (AP _)) (aB.run II 1 rfl (aB.nil (aC.cond rfl (fun hc5 => ?_) (fun hc5 => ?_)))))))
     ·exact aC.seq (aC.region (aB.run II 1 rfl (aB.c1 rfl (A2 (aF rfl) rfl rfl (by decide)) (aB.run II 2 rfl (aB.nil (aC.ret ⟨.inr rfl, (aE.r1 rfl (.tmp rfl .nil)).cast (congrArg AV.bool (by have h2 : ((((n / 2 ^ (min ((32 : Int)).toNat IntKind.u64.bits) : Nat) : Int)) == 0) = decide (n < 4294967296) := (by rw [show 2 ^ (min ((32 : Int)).toNat IntKind.u64.bits) = 4294967296 by decide, Bool.eq_iff_iff]; simp; omega); rw [h2]; have := fR t; grind [gk, cI, fe, de])), rfl⟩))))))
     ·refine aC.seq (aC.region (aB.run II 3 rfl (aB.nil (aC.cond rfl (fun hc6 => ?_) (fun hc6 => ?_)))))
      ·exact aC.seq (aC.region (aB.run II 3 rfl (aB.nil (aC.ret ⟨.inr rfl, (aE.r1 rfl (.tmp rfl .nil)).cast (congrArg AV.bool (by have := fR t; grind [gk, cI, fe, de])), rfl⟩))))
      ·exact aC.skip (aC.seq (aC.region (aB.run II 3 rfl (aB.nil (aC.ret ⟨.inr rfl, (aE.r1 rfl (.tmp rfl .nil)).cast (congrArg AV.bool (by have := fR t; grind [gk, cI, fe, de])), rfl⟩)))))
open Go Go.RowKit
/- Plain laws: which values are values of a message of a schema. No condition. -/
theorem an {α : Type} (p : α → Bool) : ∀ (l : List α) (k : Nat), (bP p l k = -1 ∧ l.find? p = none) ∨ ∃ (i : Nat) (h : i < l.length), bP p l k = ((k + i : Nat) : Int) ∧ l.find? p = some l[i] ∧ p l[i] = true
 | [], k => .inl ⟨rfl, rfl⟩
 | a :: l, k => by
  by_cases h : p a = true
  ·refine .inr ⟨0, by simp, ?_, ?_, h⟩
   ·simp [bP, h]
   ·simp [h]
  ·have h' : p a = false := by simpa using h
   rcases an p l (k + 1) with ⟨h1, h2⟩ | ⟨i, hi, h1, h2, h3⟩
   ·exact .inl ⟨by simp [bP, h', h1], by simp [h', h2]⟩
   ·exact .inr ⟨i + 1, by simp; omega, by simp [bP, h', h1]; omega, by simp [h', h2], by simpa using h3⟩
def aT.fix (m : aT) (num : Int) : Option ah := m.fields.find? (fun f => f.num == num)
def aT.at (m : aT) (num : Int) : Int := bP (fun f : ah => f.num == num) m.fields 0
theorem aT.iq (m : aT) (num : Int) : (m.at num = -1 ∧ m.fix num = none) ∨ ∃ (i : Nat) (h : i < m.fields.length), m.at num = (i : Int) ∧ m.fix num = some m.fields[i] ∧ m.fields[i].num = num := by
 rcases an (fun f : ah => f.num == num) m.fields 0 with h | ⟨i, h, h1, h2, h3⟩
 ·exact .inl h
 ·exact .inr ⟨i, h, by simpa [aT.at] using h1, h2, by simpa using h3⟩
def aT.db (m : aT) (num : Int) : Nat := (m.at num).toNat
theorem aT.uH {m : aT} {num : Int} (h : decide (m.at num < 0) = false) : 0 ≤ m.at num := by have := of_decide_eq_false h; omega
theorem aT.uI {m : aT} {num : Int} (h : decide (m.at num < 0) = false) : m.at num = (m.db num : Int) := by have := of_decide_eq_false h; unfold aT.db; omega
theorem aT.cr {m : aT} {num : Int} (h : decide (m.at num < 0) = false) : m.db num < m.fields.length := by
 have h := of_decide_eq_false h
 rcases m.iq num with ⟨h1, _⟩ | ⟨i, hi, h1, _⟩
 ·omega
 ·unfold aT.db; rw [h1]; simpa using hi
theorem aT.eP {m : aT} {num : Int} (h : decide (m.at num < 0) = false) : m.fix num = some (m.fields[m.db num]'(aT.cr h)) := by
 have h' := of_decide_eq_false h
 rcases m.iq num with ⟨h1, _⟩ | ⟨i, hi, h1, h2, _⟩
 ·omega
 ·rw [h2]; congr 1; have : m.db num = i := by unfold aT.db; rw [h1]; simp
  simp [this]
theorem aT.CA {m : aT} {num : Int} (h : decide (m.at num < 0) = true) : m.fix num = none := by
 have h := of_decide_eq_true h
 rcases m.iq num with ⟨h1, h2⟩ | ⟨i, hi, h1, _⟩
 ·exact h2
 ·omega
def aN.iT (s : aN) (name : au) : Option aT := s.msgs.find? (fun m => m.name == name)
theorem aN.pJ (s : aN) (name : au) : (s.bH name = -1 ∧ s.iT name = Option.none) ∨ ∃ (i : Nat) (h : i < s.msgs.length), s.bH name = (i : Int) ∧ s.iT name = some s.msgs[i] ∧ s.msgs[i].name = name := by
 rcases an (fun m : aT => m.name == name) s.msgs 0 with h | ⟨i, h, h1, h2, h3⟩
 ·exact .inl h
 ·exact .inr ⟨i, h, by simpa [aN.bH] using h1, h2, by simpa using h3⟩
def aN.db (s : aN) (name : au) : Nat := (s.bH name).toNat
theorem aN.BF {s : aN} {name : au} (h : decide (s.bH name < 0) = false) : 0 ≤ s.bH name := by have := of_decide_eq_false h; omega
theorem aN.BG {s : aN} {name : au} (h : decide (s.bH name < 0) = false) : s.bH name = (s.db name : Int) := by have := of_decide_eq_false h; unfold aN.db; omega
theorem aN.bN {s : aN} {name : au} (h : decide (s.bH name < 0) = false) : s.db name < s.msgs.length := by
 have h := of_decide_eq_false h
 rcases s.pJ name with ⟨h1, _⟩ | ⟨i, hi, h1, _⟩
 ·omega
 ·unfold aN.db; rw [h1]; simpa using hi
theorem aN.BH {s : aN} {name : au} (h : decide (s.bH name < 0) = false) : s.iT name = some (s.msgs[s.db name]'(aN.bN h)) := by
 have h' := of_decide_eq_false h
 rcases s.pJ name with ⟨h1, _⟩ | ⟨i, hi, h1, h2, _⟩
 ·omega
 ·rw [h2]; congr 1; have : s.db name = i := by unfold aN.db; rw [h1]; simp
  simp [this]
theorem aN.FJ {s : aN} {name : au} (h : decide (s.bH name < 0) = true) : s.iT name = Option.none := by
 have h := of_decide_eq_true h
 rcases s.pJ name with ⟨h1, h2⟩ | ⟨i, hi, h1, _⟩
 ·exact h2
 ·omega
theorem JL {b : Bool} (h : (!b) = true) : b = false := by cases b <;> simp_all
theorem JM {b : Bool} (h : (!b) = false) : b = true := by cases b <;> simp_all
theorem Bo {a : Int} (h : decide (0 ≤ a) = true) : decide (a < 0) = false := by have := of_decide_eq_true h; simp; omega
theorem KT {a : Int} (h : decide (0 ≤ a) = false) : decide (a < 0) = true := by have := of_decide_eq_false h; simp; omega
structure aN.zC (s : aN) : Prop where
 m : s.msgs.length ≤ 1000
 f : ∀ m ∈ s.msgs, m.fields.length ≤ 1000
 o : ∀ m ∈ s.msgs, ∀ f ∈ m.fields, f.one.length ≤ 1000
theorem JT (n : Int) : (Lit.int .i64 (IntKind.i64.wrap n)).wf = true := by
 simp only [Lit.wf, IntKind.min, IntKind.max, IntKind.wrap, IntKind.bits, IntKind.signed]; simp; omega
def ah.hidden (f : ah) : Bool := !f.rep && f.one == [] && !decide (f.ty = 15)
def Rw.right (r : Rw) : Bool := gn r.num r.wire && (if r.wire = 2 then decide (r.n = 0) else r.s == [] && (!decide (r.wire = 5) || decide (r.n < 4294967296)))
def dV (m : aT) (r : Rw) : Bool := r.right && (m.fix r.num).isNone
def aT.oneOf (m : aT) (x : Slot) : au := ((m.fix x.num).map (·.one)).getD []
def iH (ones : List au) (one : au) : Bool := one == [] || !ones.any (· == one)
mutual
def bS.ok (s : aN) (f : ah) : bS → Bool
 | .mk n str m =>
  if nU f.ty then gk f.ty n && str == [] && decide (m.length = 0)
  else if f.ty = 12 then decide (n = 0) && decide (m.length = 0) && Lib.validD str
  else if f.ty = 13 then decide (n = 0) && decide (m.length = 0)
  else if f.ty = 15 then decide (n = 0) && str == [] && iz s f.ref m
  else false
def Slot.ok (s : aN) (m : aT) : Slot → Bool
 | .mk num vs => match m.fix num with
  | none => false
  | some f => decide (0 < vs.length) && (f.rep || decide (vs.length = 1)) && mQ s f vs && (!f.hidden || (!decide ((vs.head?.map bS.n).getD 0 = 0) || !((vs.head?.map bS.s).getD [] == [])))
def Tree.ok (s : aN) (name : au) : Tree → Bool
 | .mk ss r => match s.iT name with
  | none => false
  | some m => fM s m ss none [] && r.all (dV m)
def mQ (s : aN) (f : ah) : List bS → Bool
 | [] => true
 | v :: l => v.ok s f && mQ s f l
def fM (s : aN) (m : aT) : List Slot → Option Int → List au → Bool
 | [], _, _ => true
 | x :: l, last, ones => (match last with | none => true | some n => decide (n < x.num)) && x.ok s m && iH ones (m.oneOf x) && fM s m l (some x.num) (ones ++ [m.oneOf x])
def iz (s : aN) (name : au) : List Tree → Bool
 | [t] => t.ok s name
 | _ => false
end
theorem bS.ok_eq (s : aN) (f : ah) (v : bS) : v.ok s f = if nU f.ty then gk f.ty v.n && v.s == [] && decide (v.m.length = 0)
  else if f.ty = 12 then decide (v.n = 0) && decide (v.m.length = 0) && Lib.validD v.s
  else if f.ty = 13 then decide (v.n = 0) && decide (v.m.length = 0)
  else if f.ty = 15 then decide (v.n = 0) && v.s == [] && iz s f.ref v.m
  else false := by cases v; simp only [bS.ok, bS.n, bS.s, bS.m]; rfl
theorem Slot.ok_eq (s : aN) (m : aT) (x : Slot) : x.ok s m = match m.fix x.num with
  | none => false
  | some f => decide (0 < x.bT.length) && (f.rep || decide (x.bT.length = 1)) && mQ s f x.bT && (!f.hidden || (!decide ((x.bT.head?.map bS.n).getD 0 = 0) || !((x.bT.head?.map bS.s).getD [] == []))) := by
 cases x; simp only [Slot.ok, Slot.num, Slot.bT]; rfl
theorem Tree.ok_eq (s : aN) (name : au) (t : Tree) : t.ok s name = match s.iT name with
  | none => false
  | some m => fM s m t.aU none [] && t.rest.all (dV m) := by cases t; simp only [Tree.ok, Tree.aU, Tree.rest]
theorem nA (s : aN) (name : au) {l : List Tree} (h : l.length = 1) : iz s name l = (l[0]'(by omega)).ok s name := by
 match l, h with
 | [t], _ => simp [iz]
theorem oA (s : aN) (name : au) {l : List Tree} (h : l.length ≠ 1) : iz s name l = false := by
 match l, h with
 | [], _ => simp [iz]
 | _ :: _ :: _, _ => simp [iz]
theorem ny (s : aN) (f : ah) (l : List bS) : mQ s f l = l.all (bS.ok s f) := by
 induction l with
 | nil => simp [mQ]
 | cons v l ih => simp [mQ, ih]
def j5 (l : List Slot) (i : Nat) : Option Int := if h : 0 < i ∧ i ≤ l.length then some (l[i - 1]'(by omega)).num else none
theorem vN {l : List Slot} {i : Nat} (h : i < l.length) : j5 l (i + 1) = some l[i].num := by
 unfold j5; rw [dif_pos ⟨by omega, by omega⟩]; simp
theorem pG (l : List Slot) : j5 l 0 = none := by unfold j5; simp
theorem iY {l : List Slot} {i : Nat} (h0 : 0 < i) (h : i < l.length) : j5 l i = some (l[i - 1]'(by omega)).num := by
 unfold j5; rw [dif_pos ⟨h0, by omega⟩]
theorem Slot.n9 {s : aN} {m : aT} {x : Slot} {f : ah} (hf : m.fix x.num = some f) : x.ok s m = (decide (0 < x.bT.length) && (f.rep || decide (x.bT.length = 1)) && x.bT.all fun v => v.ok s f && (!f.hidden || (!decide (v.n = 0) || !(v.s == [])))) := by
 rw [Slot.ok_eq, hf]
 simp only [ny]
 cases hv : x.bT with
 | nil => simp
 | cons v r =>
  cases hh : f.hidden with
  | false => simp
  | true =>
   have hr : f.rep = false := by unfold ah.hidden at hh; simp at hh; exact hh.1.1
   cases r with
   | nil => simp [hr]; first | done | rfl
   | cons w r => simp [hr]
theorem Slot.FE {s : aN} {m : aT} {x : Slot} (h : x.ok s m = true) : decide (m.at x.num < 0) = false := by
 by_cases hd : decide (m.at x.num < 0) = true
 ·rw [Slot.ok_eq, aT.CA hd] at h; cases h
 ·simpa using hd
theorem Ir {l : List bS} (h : 0 < l.length) : (l.head?.map bS.n).getD 0 = l[0].n := by cases l with | nil => simp at h | cons a l => rfl
theorem Iq {l : List bS} (h : 0 < l.length) : (l.head?.map bS.s).getD [] = l[0].s := by cases l with | nil => simp at h | cons a l => rfl
theorem ou {m : aT} {l : List Slot} {one : au} : iH (l.map m.oneOf) one = !(l.any fun y => !(one == []) && (m.oneOf y == one)) := by
 unfold iH
 by_cases h : one = []
 ·subst h; simp
 ·have h' : (one == []) = false := by simpa using h
  rw [h']; simp [List.any_map, Function.comp_def]
theorem zQ {l : List au} {a : au} : l.any (· == a) = decide (0 < l.count a) := by
 rw [Bool.eq_iff_iff]; simp [List.count_pos_iff]
theorem gC {m : aT} {x : Slot} {f : ah} (h : m.fix x.num = some f) : m.oneOf x = f.one := by unfold aT.oneOf; rw [h]; rfl
theorem tr {m : aT} {l : List Slot} {i : Nat} {f : List UInt8 → Int} {one : au} (hi : i < l.length) (hf : ∀ key, f key = ((((l.take i).map m.oneOf).count key : Nat) : Int)) (ho : m.oneOf l[i] = one) (hb : i < 9223372036854775807) :
  ∀ key, (if key = one then IntKind.i64.wrap (f one + 1) else f key) = ((((l.take (i + 1)).map m.oneOf).count key : Nat) : Int) := by
 intro key
 rw [List.take_succ_eq_append_getElem hi, List.map_append, List.count_append]
 have hle : ((l.take i).map m.oneOf).count one ≤ i := by
  have := List.count_le_length (a := one) (l := (l.take i).map m.oneOf)
  rw [List.length_map, List.length_take] at this; omega
 split
 ·rename_i e; subst e
  rw [hf, inc (by omega)]
  simp [ho]
 ·rename_i e
  rw [hf]
  have : [l[i]].map m.oneOf = [one] := by simp [ho]
  rw [this, List.count_singleton, if_neg (by simpa using Ne.symm e)]
  simp
theorem xT {m : aT} {l : List Slot} {i : Nat} {f : List UInt8 → Int} {one : au} (hf : ∀ key, f key = ((((l.take i).map m.oneOf).count key : Nat) : Int)) (hb : i < 9223372036854775807) :
  decide (1 < IntKind.i64.wrap (f one + 1)) = ((l.take i).map m.oneOf).any (· == one) := by
 have hle : ((l.take i).map m.oneOf).count one ≤ i := by
  have := List.count_le_length (a := one) (l := (l.take i).map m.oneOf)
  rw [List.length_map, List.length_take] at this; omega
 have key : ∀ c : Nat, decide ((1 : Int) < ((c + 1 : Nat) : Int)) = decide (0 < c) := fun c => by rw [Bool.eq_iff_iff]; simp; omega
 rw [hf, inc (by omega), zQ]
 exact key _
def fu (s : aN) (m : aT) (l : List Slot) (i : Nat) : Bool := fM s m (l.drop i) (j5 l i) ((l.take i).map m.oneOf)
theorem lX {s : aN} {m : aT} {l : List Slot} {i : Nat} (h : i < l.length) : fu s m l i = ((match j5 l i with | none => true | some n => decide (n < l[i].num)) && l[i].ok s m && iH ((l.take i).map m.oneOf) (m.oneOf l[i]) && fu s m l (i + 1)) := by
 unfold fu
 rw [List.drop_eq_getElem_cons h, vN h, List.take_succ_eq_append_getElem h, List.map_append]
 simp [fM]
theorem nB {s : aN} {m : aT} {l : List Slot} {i : Nat} (h : l.length ≤ i) : fu s m l i = true := by
 unfold fu; rw [List.drop_of_length_le h]; simp [fM]
theorem lW (s : aN) (m : aT) (l : List Slot) : fu s m l 0 = fM s m l none [] := by
 unfold fu j5; simp
theorem oO : ∀ {l1 l2 : List Int}, l1.Pairwise (· < ·) → (∀ a ∈ l1, a ∈ l2) → l1.length ≤ l2.length
 | [], _, _, _ => by simp
 | a :: l1, l2, h, hs => by
  have ha : a ∈ l2 := hs a (by simp)
  have h2 := List.pairwise_cons.1 h
  have := oO (l1 := l1) (l2 := l2.erase a) h2.2 fun b hb => (List.mem_erase_of_ne (by have := h2.1 b hb; omega)).2 (hs b (by simp [hb]))
  rw [List.length_erase_of_mem ha] at this
  have : 0 < l2.length := List.length_pos_of_mem ha
  simp; omega
structure mA (m : aT) (l : List Slot) (i : Nat) : Prop where
 le : i ≤ l.length
 kn : ∀ x ∈ l.take i, (m.fix x.num).isSome = true
 up : ((l.take i).map Slot.num).Pairwise (· < ·)
theorem mA.zero (m : aT) (l : List Slot) : mA m l 0 := ⟨by omega, by simp, by simp⟩
theorem mA.step {m : aT} {l : List Slot} {i : Nat} (g : mA m l i) (h : i < l.length) (hl : (match j5 l i with | none => true | some n => decide (n < l[i].num)) = true) (hf : (m.fix l[i].num).isSome = true) : mA m l (i + 1) := by
 refine ⟨h, fun x hx => ?_, ?_⟩
 ·rw [List.take_succ_eq_append_getElem h] at hx
  rcases List.mem_append.1 hx with hx | hx
  ·exact g.kn x hx
  ·rw [List.mem_singleton.1 hx]; exact hf
 ·rw [List.take_succ_eq_append_getElem h, List.map_append, List.pairwise_append]
  refine ⟨g.up, by simp, fun a ha b hb => ?_⟩
  simp at hb
  subst hb
  by_cases h0 : 0 < i
  ·rw [iY h0 h] at hl
   have hlt : (l[i - 1]'(by omega)).num < l[i].num := by simpa using hl
   obtain ⟨j, hj, rfl⟩ := List.getElem_of_mem ha
   rw [List.length_map, List.length_take] at hj
   by_cases hji : j = i - 1
   ·subst hji; simpa using hlt
   ·have hp := List.pairwise_iff_getElem.1 g.up j (i - 1) (by simp; omega) (by simp; omega) (by omega)
    simp at hp
    simp
    omega
  ·have : i = 0 := by omega
   subst this
   simp at ha
theorem mA.len {m : aT} {l : List Slot} {i : Nat} (g : mA m l i) : i ≤ m.fields.length := by
 have h1 := oO (l2 := m.fields.map (·.num)) g.up fun a ha => by
  obtain ⟨x, hx, rfl⟩ := List.mem_map.1 ha
  have hk := g.kn x hx
  rcases m.iq x.num with ⟨_, h2⟩ | ⟨q, hq, _, h2, h3⟩
  ·rw [h2] at hk; cases hk
  ·exact List.mem_map.2 ⟨_, List.getElem_mem hq, h3⟩
 rw [List.length_map, List.length_map, List.length_take] at h1
 have := g.le
 omega
theorem Slot.Dj {s : aN} {m : aT} {x : Slot} (h : x.ok s m = true) : (m.fix x.num).isSome = true := by
 rw [aT.eP (Slot.FE h)]; rfl
/- fields and places, in the program and in the document. -/
theorem E7 : ab Tryz.prog 109 = true := by kernel_rfl
theorem nk : ab Tryz.prog 162 = true := by kernel_rfl
theorem EL : ab Tryz.prog 214 = true := by kernel_rfl
theorem EK : ab Tryz.prog 215 = true := by kernel_rfl
theorem EI : ab Tryz.prog 219 = true := by kernel_rfl
theorem EH : ab Tryz.prog 220 = true := by kernel_rfl
theorem HK : ab Tryz.prog 94 = true := by kernel_rfl
theorem AE (f : ah) : Pure Tryz.prog 93 [f.av] (.bool f.hidden) := by
 refine Pure.aL Tryz.func93 rfl rfl (aF rfl) fun H => (aC.seq (aC.region (aB.run II 2 rfl (aB.nil (aC.seq (aC.region (aB.run II 4 rfl (aB.tell (d := 6) rfl (fun hg1 => ?_) (fun hg1 => ?_)))))))))
 ·refine aB.run II 5 rfl (aB.tell (d := 11) rfl (fun hg2 => ?_) (fun hg2 => ?_))
  ·exact aB.run II 5 rfl (aB.nil (aC.ret ⟨.inr rfl, (aE.r1 rfl (.tmp rfl .nil)).cast (congrArg AV.bool (by grind [ah.hidden])), rfl⟩))
  ·exact aB.run II 5 rfl (aB.nil (aC.ret ⟨.inr rfl, (aE.r1 rfl (.tmp rfl .nil)).cast (congrArg AV.bool (by grind [ah.hidden])), rfl⟩))
 ·exact aB.run II 10 rfl (aB.nil (aC.ret ⟨.inr rfl, (aE.r1 rfl (.tmp rfl .nil)).cast (congrArg AV.bool (by grind [ah.hidden])), rfl⟩))
theorem tB (f : ah) : Pure Tryz.prog 108 [f.av] (.bool f.hidden) := by
 refine Pure.aL Tryz.func108 rfl rfl (aF rfl) fun H => (aC.seq (aC.region (aB.run II 2 rfl (aB.nil (aC.seq (aC.region (aB.run II 4 rfl (aB.tell (d := 6) rfl (fun hg1 => ?_) (fun hg1 => ?_)))))))))
 ·refine aB.run II 5 rfl (aB.tell (d := 11) rfl (fun hg2 => ?_) (fun hg2 => ?_))
  ·exact aB.run II 5 rfl (aB.nil (aC.ret ⟨.inr rfl, (aE.r1 rfl (.tmp rfl .nil)).cast (congrArg AV.bool (by grind [ah.hidden])), rfl⟩))
  ·exact aB.run II 5 rfl (aB.nil (aC.ret ⟨.inr rfl, (aE.r1 rfl (.tmp rfl .nil)).cast (congrArg AV.bool (by grind [ah.hidden])), rfl⟩))
 ·exact aB.run II 10 rfl (aB.nil (aC.ret ⟨.inr rfl, (aE.r1 rfl (.tmp rfl .nil)).cast (congrArg AV.bool (by grind [ah.hidden])), rfl⟩))
theorem l7 (m : aT) (num : Int) (hl : m.fields.length ≤ 1000) : Pure Tryz.prog 49 [m.av, .int .i64 num] (.int .i64 (m.at num)) := by
 refine Pure.aL Tryz.func49 rfl rfl (aF rfl) fun H => (aC.seq (aC.region (aB.run II 2 rfl (aB.nil (aC.seq (aC.seq (aC.region (aB.run II 1 rfl (aB.nil (aC.blk (aC.aK (Kept.aI [.s 5, .h, .s 1, .s 2, .b 2] rfl (by decide) (Kept.now (aC.aX (fun (i : Nat) => [(.s 5, .sv (.v (.int .i64 (i : Int))))]) _ (fun (i : Nat) => bP (fun f : ah => f.num == num) (m.fields.drop i) i = m.at num) (fun (i : Nat) => m.fields.length - i) 0 rfl (by simp [aT.at]) ?_))))))))))))))
 rintro i hI
 refine aC.seq (aC.seq (aC.region (aB.run II 5 rfl (aB.nil (aC.cond rfl (fun hc1 => ?_) (fun hc1 => ?_))))))
 ·have hi := ch hc1
  have hS := cM (p := (fun f : ah => f.num == num)) hi
  refine aC.skip (aC.seq (aC.blk (aC.seq (aC.region (aB.run II 3 rfl (aB.c1 rfl (aH (aF rfl) bR rfl rfl (Int.natCast_nonneg _) (bz hi) rfl) (aB.run II 4 rfl (aB.nil (aC.cond rfl (fun hc2 => ?_) (fun hc2 => ?_))))))))))
  ·exact aC.seq (aC.region (aB.run II 2 rfl (aB.nil (aC.ret ⟨.inr rfl, (aE.r1 rfl (.tmp rfl .nil)).cast (congrArg (AV.int .i64) (by grind [aT.at])), rfl⟩))))
  ·exact aC.skip (aC.region (aB.run II 3 rfl (aB.kept (Kept.aY 5 rfl (inc (by omega)) (Kept.aI [.s 5, .h, .s 1, .s 2, .b 2] rfl (by decide) (Kept.now ⟨i + 1, by omega, by grind, rfl⟩))))))
 ·have hi := cj hc1
  have hS := dO (p := (fun f : ah => f.num == num)) hi
  exact aC.exit (aC.seq (aC.region (aB.run II 1 rfl (aB.nil (aC.ret ⟨.inr rfl, (aE.r1 rfl (.tmp rfl .nil)).cast (congrArg (AV.int .i64) (by grind [aT.at])), rfl⟩)))))
theorem zx (r : Rw) : Pure Tryz.prog 50 [r.av] (.bool r.right) := by
 refine Pure.aL Tryz.func50 rfl rfl (aF rfl) fun H => (aC.seq (aC.region (aB.run II 2 rfl (aB.nil (aC.seq (aC.seq (aC.region (aB.run II 4 rfl (aB.c1 rfl (aG (aF rfl) HK rfl (Ct _ _)) (aB.run II 1 rfl (aB.nil (aC.cond rfl (fun hc1 => ?_) (fun hc1 => ?_)))))))))))))
 ·exact aC.seq (aC.region (aB.run II 1 rfl (aB.nil (aC.ret ⟨.inr rfl, (aE.r1 rfl (.tmp rfl .nil)).cast (congrArg AV.bool (by grind [Rw.right])), rfl⟩))))
 ·refine aC.skip (aC.seq (aC.seq (aC.region (aB.run II 3 rfl (aB.nil (aC.cond rfl (fun hc2 => ?_) (fun hc2 => ?_)))))))
  ·exact aC.seq (aC.region (aB.run II 4 rfl (aB.nil (aC.ret ⟨.inr rfl, (aE.r1 rfl (.tmp rfl .nil)).cast (congrArg AV.bool (by grind [Rw.right])), rfl⟩))))
  ·refine aC.skip (aC.seq (aC.region (aB.run II 4 rfl (aB.tell (d := 18) rfl (fun hg3 => ?_) (fun hg3 => ?_)))))
   ·refine aB.run II 4 rfl (aB.tell (d := 22) rfl (fun hg4 => ?_) (fun hg4 => ?_))
    ·exact aB.run II 6 rfl (aB.nil (aC.ret ⟨.inr rfl, (aE.r1 rfl (.tmp rfl .nil)).cast (congrArg AV.bool (by grind [Rw.right])), rfl⟩))
    ·exact aB.run II 6 rfl (aB.nil (aC.ret ⟨.inr rfl, (aE.r1 rfl (.tmp rfl .nil)).cast (congrArg AV.bool (by grind [Rw.right])), rfl⟩))
   ·exact aB.run II 10 rfl (aB.nil (aC.ret ⟨.inr rfl, (aE.r1 rfl (.tmp rfl .nil)).cast (congrArg AV.bool (by grind [Rw.right])), rfl⟩))
theorem rQ (n : Int) : Pure Tryz.prog 162 [.int .i64 n] (.bool (decide (1 ≤ n) && decide (n ≤ 536870911))) := by
 refine Pure.aL Tryz.func162 rfl rfl (aF rfl) fun H => (aC.seq (aC.region (aB.run II 1 rfl (aB.nil (aC.seq (aC.region (aB.run II 3 rfl (aB.tell (d := 5) rfl (fun hg1 => ?_) (fun hg1 => ?_)))))))))
 ·exact aB.run II 4 rfl (aB.nil (aC.ret ⟨.inr rfl, (aE.r1 rfl (.tmp rfl .nil)).cast (congrArg AV.bool (by grind [])), rfl⟩))
 ·exact aB.run II 4 rfl (aB.nil (aC.ret ⟨.inr rfl, (aE.r1 rfl (.tmp rfl .nil)).cast (congrArg AV.bool (by grind [])), rfl⟩))
theorem DV (n w : Int) : Pure Tryz.prog 109 [.int .i64 n, .int .i64 w] (.bool (gn n w)) := by
 refine Pure.aL Tryz.func109 rfl rfl (aF rfl) fun H => (aC.seq (aC.region (aB.run II 1 rfl (aB.nil (aC.seq (aC.region (aB.run II 1 rfl (aB.nil (aC.seq (aC.seq (aC.region (aB.run II 1 rfl (aB.nil (aC.blk (aC.seq (aC.blk (aC.blk (aC.blk (aC.seq (aC.seq (aC.seq (aC.seq (aC.region (aB.run II 2 rfl (aB.nil (aC.cond rfl (fun hc1 => ?_) (fun hc1 => ?_)))))))))))))))))))))))))))
 ·exact aC.skip (aC.ar rfl hc1 (aC.exit (aC.seq (aC.region (aB.run II 1 rfl (aB.nil (aC.exit (aC.seq (aC.region (aB.run II 3 rfl (aB.g1 rfl (aF rfl) rfl rfl (aG (aF rfl) nk rfl (rQ _)) (aB.run II 2 rfl (aB.nil (aC.ret ⟨.inr rfl, (aE.r1 rfl (.tmp rfl .nil)).cast (congrArg AV.bool (by grind [gn])), rfl⟩))))))))))))))
 ·refine aC.region (aB.run II 2 rfl (aB.nil (aC.cond rfl (fun hc2 => ?_) (fun hc2 => ?_))))
  ·exact aC.exit (aC.seq (aC.region (aB.run II 1 rfl (aB.nil (aC.exit (aC.seq (aC.region (aB.run II 3 rfl (aB.g1 rfl (aF rfl) rfl rfl (aG (aF rfl) nk rfl (rQ _)) (aB.run II 2 rfl (aB.nil (aC.ret ⟨.inr rfl, (aE.r1 rfl (.tmp rfl .nil)).cast (congrArg AV.bool (by grind [gn])), rfl⟩))))))))))))
  ·refine aC.skip (aC.seq (aC.seq (aC.region (aB.run II 2 rfl (aB.nil (aC.cond rfl (fun hc3 => ?_) (fun hc3 => ?_)))))))
   ·exact aC.exit (aC.seq (aC.region (aB.run II 1 rfl (aB.nil (aC.exit (aC.seq (aC.region (aB.run II 3 rfl (aB.g1 rfl (aF rfl) rfl rfl (aG (aF rfl) nk rfl (rQ _)) (aB.run II 2 rfl (aB.nil (aC.ret ⟨.inr rfl, (aE.r1 rfl (.tmp rfl .nil)).cast (congrArg AV.bool (by grind [gn])), rfl⟩))))))))))))
   ·refine aC.skip (aC.seq (aC.region (aB.run II 2 rfl (aB.nil (aC.cond rfl (fun hc4 => ?_) (fun hc4 => ?_))))))
    ·exact aC.exit (aC.seq (aC.region (aB.run II 1 rfl (aB.nil (aC.exit (aC.seq (aC.region (aB.run II 3 rfl (aB.g1 rfl (aF rfl) rfl rfl (aG (aF rfl) nk rfl (rQ _)) (aB.run II 2 rfl (aB.nil (aC.ret ⟨.inr rfl, (aE.r1 rfl (.tmp rfl .nil)).cast (congrArg AV.bool (by grind [gn])), rfl⟩))))))))))))
    ·exact aC.skip (aC.exit (aC.seq (aC.region (aB.run II 6 rfl (aB.nil (aC.ret ⟨.inr rfl, (aE.r1 rfl (.tmp rfl .nil)).cast (congrArg AV.bool (by grind [gn])), rfl⟩))))))
theorem sy (r : Rw) : Pure Tryz.prog 67 [r.av] (.bool r.right) := by
 have h2 : ((((r.n / 2 ^ (min ((32 : Int)).toNat IntKind.u64.bits) : Nat) : Int)) == 0) = decide (r.n < 4294967296) := (by rw [show 2 ^ (min ((32 : Int)).toNat IntKind.u64.bits) = 4294967296 by decide, Bool.eq_iff_iff]; simp; omega)
 refine Pure.aL Tryz.func67 rfl rfl (aF rfl) fun H => (aC.seq (aC.region (aB.run II 2 rfl (aB.nil (aC.seq (aC.blk (aC.seq (aC.region (aB.run II 4 rfl (aB.c1 rfl (aG (aF rfl) E7 rfl (DV _ _)) (aB.run II 2 rfl (aB.nil (aC.cond rfl (fun hc1 => ?_) (fun hc1 => ?_))))))))))))))
 ·exact aC.seq (aC.region (aB.run II 1 rfl (aB.nil (aC.ret ⟨.inr rfl, (aE.r1 rfl (.tmp rfl .nil)).cast (congrArg AV.bool (by grind [Rw.right])), rfl⟩))))
 ·refine aC.seq (aC.region (aB.run II 4 rfl (aB.nil (aC.cond rfl (fun hc2 => ?_) (fun hc2 => ?_)))))
  ·exact aC.seq (aC.region (aB.run II 4 rfl (aB.nil (aC.ret ⟨.inr rfl, (aE.r1 rfl (.tmp rfl .nil)).cast (congrArg AV.bool (by grind [Rw.right])), rfl⟩))))
  ·refine aC.seq (aC.region (aB.run II 4 rfl (aB.tell (d := 21) rfl (fun hg3 => ?_) (fun hg3 => ?_))))
   ·refine aB.run II 2 rfl (aB.g1 rfl (aF rfl) rfl rfl (A2 (aF rfl) rfl rfl (by decide)) (aB.run II 3 rfl (aB.nil (aC.cond rfl (fun hc4 => ?_) (fun hc4 => ?_)))))
    ·exact aC.seq (aC.region (aB.run II 1 rfl (aB.nil (aC.ret ⟨.inr rfl, (aE.r1 rfl (.tmp rfl .nil)).cast (congrArg AV.bool (by grind [Rw.right])), rfl⟩))))
    ·exact aC.skip (aC.seq (aC.region (aB.run II 4 rfl (aB.nil (aC.ret ⟨.inr rfl, (aE.r1 rfl (.tmp rfl .nil)).cast (congrArg AV.bool (by grind [Rw.right])), rfl⟩)))))
   ·exact aB.run II 6 rfl (aB.nil (aC.aZ rfl rfl (aC.skip (aC.seq (aC.region (aB.run II 4 rfl (aB.nil (aC.ret ⟨.inr rfl, (aE.r1 rfl (.tmp rfl .nil)).cast (congrArg AV.bool (by grind [Rw.right])), rfl⟩))))))))
theorem GW (l : List aT) (hl : l.length ≤ 9223372036854775807) (F : FuncId) (caps : List AV) (p : aT → Bool) (hF : ab Tryz.prog F = true) (hp : ∀ x ∈ l, Pure Tryz.prog F ([x.av] ++ caps) (.bool (p x))) : Pure Tryz.prog 214 [.sl (l.map aT.av), .fn F caps] (.int .i64 (bP p l 0)) := by
 refine Pure.aL Tryz.func214 rfl rfl (aF rfl) fun H => (aC.seq (aC.region (aB.run II 1 rfl (aB.nil (aC.seq (aC.seq (aC.region (aB.run II 3 rfl (aB.nil (aC.blk (aC.aK (Kept.aI [.s 8, .h, .s 0, .s 1, .s 7] rfl (by decide) (Kept.now (aC.aX (fun (i : Nat) => [(.s 8, .sv (.v (.int .i64 (i : Int))))]) _ (fun (i : Nat) => bP p (l.drop i) i = bP p l 0) (fun (i : Nat) => l.length - i) 0 rfl (by simp) ?_))))))))))))))
 rintro i hI
 refine aC.seq (aC.region (aB.run II 1 rfl (aB.nil (aC.seq (aC.cond rfl (fun hc1 => ?_) (fun hc1 => ?_))))))
 ·have hi := ch hc1
  have hS := cM (p := p) hi
  refine aC.skip (aC.seq (aC.blk (aC.seq (aC.region (aB.run II 2 rfl (aB.nil (aC.seq (aC.region (aB.run II 3 rfl (aB.c1 rfl (aH (aF rfl) bQ rfl rfl (Int.natCast_nonneg _) (bz hi) rfl) (aB.run II 1 rfl (aB.c1 rfl (ll (aF rfl) hF rfl rfl (hp _ (List.getElem_mem hi))) (aB.nil (aC.cond rfl (fun hc2 => ?_) (fun hc2 => ?_)))))))))))))))
  ·exact aC.seq (aC.region (aB.run II 2 rfl (aB.nil (aC.ret ⟨.inr rfl, (aE.r1 rfl (.tmp rfl .nil)).cast (congrArg (AV.int .i64) (by grind [])), rfl⟩))))
  ·exact aC.skip (aC.region (aB.run II 2 rfl (aB.kept (Kept.aY 8 rfl (inc (by omega)) (Kept.aI [.s 8, .h, .s 0, .s 1, .s 7] rfl (by decide) (Kept.now ⟨i + 1, by omega, by grind, rfl⟩))))))
 ·have hi := cj hc1
  have hS := dO (p := p) hi
  exact aC.exit (aC.seq (aC.region (aB.run II 1 rfl (aB.nil (aC.ret ⟨.inr rfl, (aE.r1 rfl (.tmp rfl .nil)).cast (congrArg (AV.int .i64) (by grind [])), rfl⟩)))))
theorem GX (l : List ah) (hl : l.length ≤ 9223372036854775807) (F : FuncId) (caps : List AV) (p : ah → Bool) (hF : ab Tryz.prog F = true) (hp : ∀ x ∈ l, Pure Tryz.prog F ([x.av] ++ caps) (.bool (p x))) : Pure Tryz.prog 219 [.sl (l.map ah.av), .fn F caps] (.int .i64 (bP p l 0)) := by
 refine Pure.aL Tryz.func219 rfl rfl (aF rfl) fun H => (aC.seq (aC.region (aB.run II 1 rfl (aB.nil (aC.seq (aC.seq (aC.region (aB.run II 3 rfl (aB.nil (aC.blk (aC.aK (Kept.aI [.s 8, .h, .s 0, .s 1, .s 7] rfl (by decide) (Kept.now (aC.aX (fun (i : Nat) => [(.s 8, .sv (.v (.int .i64 (i : Int))))]) _ (fun (i : Nat) => bP p (l.drop i) i = bP p l 0) (fun (i : Nat) => l.length - i) 0 rfl (by simp) ?_))))))))))))))
 rintro i hI
 refine aC.seq (aC.region (aB.run II 1 rfl (aB.nil (aC.seq (aC.cond rfl (fun hc1 => ?_) (fun hc1 => ?_))))))
 ·have hi := ch hc1
  have hS := cM (p := p) hi
  refine aC.skip (aC.seq (aC.blk (aC.seq (aC.region (aB.run II 2 rfl (aB.nil (aC.seq (aC.region (aB.run II 3 rfl (aB.c1 rfl (aH (aF rfl) bR rfl rfl (Int.natCast_nonneg _) (bz hi) rfl) (aB.run II 1 rfl (aB.c1 rfl (ll (aF rfl) hF rfl rfl (hp _ (List.getElem_mem hi))) (aB.nil (aC.cond rfl (fun hc2 => ?_) (fun hc2 => ?_)))))))))))))))
  ·exact aC.seq (aC.region (aB.run II 2 rfl (aB.nil (aC.ret ⟨.inr rfl, (aE.r1 rfl (.tmp rfl .nil)).cast (congrArg (AV.int .i64) (by grind [])), rfl⟩))))
  ·exact aC.skip (aC.region (aB.run II 2 rfl (aB.kept (Kept.aY 8 rfl (inc (by omega)) (Kept.aI [.s 8, .h, .s 0, .s 1, .s 7] rfl (by decide) (Kept.now ⟨i + 1, by omega, by grind, rfl⟩))))))
 ·have hi := cj hc1
  have hS := dO (p := p) hi
  exact aC.exit (aC.seq (aC.region (aB.run II 1 rfl (aB.nil (aC.ret ⟨.inr rfl, (aE.r1 rfl (.tmp rfl .nil)).cast (congrArg (AV.int .i64) (by grind [])), rfl⟩)))))
theorem I9 (m : aT) (name : au) : Pure Tryz.prog 215 ([m.av] ++ [.kp [.str name]]) (.bool (m.name == name)) := by
 exact Pure.aL Tryz.func215 rfl rfl (aF rfl) fun H => (aC.seq (aC.region (aB.run II 2 rfl (aB.nil (aC.seq (aC.region (aB.run II 5 rfl (aB.nil (aC.ret ⟨.inr rfl, (aE.r1 rfl (.tmp rfl .nil)).cast rfl, rfl⟩)))))))))
theorem I8 (f : ah) (num : Int) : Pure Tryz.prog 220 ([f.av] ++ [.kp [.int .i64 num]]) (.bool (f.num == num)) := by
 exact Pure.aL Tryz.func220 rfl rfl (aF rfl) fun H => (aC.seq (aC.region (aB.run II 2 rfl (aB.nil (aC.seq (aC.region (aB.run II 5 rfl (aB.nil (aC.ret ⟨.inr rfl, (aE.r1 rfl (.tmp rfl .nil)).cast rfl, rfl⟩)))))))))
theorem D3 (s : aN) (name : au) (hl : s.msgs.length ≤ 9223372036854775807) : Pure Tryz.prog 210 [s.av, .str name] (.int .i64 (s.bH name)) := by
 exact Pure.aL Tryz.func210 rfl rfl (aF rfl) fun H => (aC.seq (aC.region (aB.run II 3 rfl (aB.nil (aC.seq (aC.aK (Kept.vV 3 rfl rfl (Kept.now (aC.region (aB.run II 2 rfl (aB.c1 rfl (km (aF rfl) rfl) (aB.c1 rfl (aG (aF rfl) EL rfl (GW s.msgs hl _ _ (fun m => m.name == name) EK (fun x _ => I9 x name))) (aB.run II 1 rfl (aB.nil (aC.ret ⟨.inr rfl, (aE.r1 rfl (.tmp rfl .nil)).cast rfl, rfl⟩)))))))))))))))
theorem tA (m : aT) (num : Int) (hl : m.fields.length ≤ 1000) : Pure Tryz.prog 216 [m.av, .int .i64 num] (.int .i64 (m.at num)) := by
 exact Pure.aL Tryz.func216 rfl rfl (aF rfl) fun H => (aC.seq (aC.region (aB.run II 3 rfl (aB.nil (aC.seq (aC.aK (Kept.vV 3 rfl rfl (Kept.now (aC.region (aB.run II 2 rfl (aB.c1 rfl (km (aF rfl) rfl) (aB.c1 rfl (aG (aF rfl) EI rfl (GX m.fields (by omega) _ _ (fun f => f.num == num) EH (fun x _ => I8 x num))) (aB.run II 1 rfl (aB.nil (aC.ret ⟨.inr rfl, (aE.r1 rfl (.tmp rfl .nil)).cast rfl, rfl⟩)))))))))))))))
end Go.Proofs.YtlijgcifhhcfaaaGreatDoor.X
