/- the document: what is asked of a schema. -/
import Derived.Test.YtpifnegikoldmaaGreatDoorZDC
import Derived.Lib.ValidU
set_option linter.unusedVariables false
set_option linter.unusedSimpArgs false
set_option linter.unusedSectionVars false
set_option maxRecDepth 100000
namespace Go.Proofs.YtpifnegikoldmaaGreatDoor.X
open Go Go.RowKit Go.Proofs
theorem kA : aa Tryz.prog 40 = true := by kernel_rfl
theorem Ft : aa Tryz.prog 65 = true := by kernel_rfl
theorem At : aa Tryz.prog 70 = true := by kernel_rfl
theorem As : aa Tryz.prog 71 = true := by kernel_rfl
theorem iH : ie Tryz.prog 68 = some 2 := by kernel_rfl
theorem bQ : ie Tryz.prog 71 = some 7 := by kernel_rfl
theorem E7 (s : aM) (hs : s.fT) : Pure Tryz.prog 31 [s.av] (.bool s.many) := by
 have := hs.e
 have := hs.m
 refine Pure.aN Tryz.func31 rfl rfl (aF rfl) fun H => (aC.seq (aC.region (aB.run II 2 rfl (aB.nil (aC.c8 [.h, .s 1, .b 1] (fun (b : Bool) => [(.s 3, .sv (.v (.bool b)))]) (fun (b : Bool) => b = (decide (3 < s.enums.length) || decide (6 < s.msgs.length))) rfl ?_ ?_)))))
 ·refine aC.region (aB.run II 5 rfl (aB.tell (d := 10) rfl (fun hg1 => ?_) (fun hg1 => ?_)))
  ·exact aB.run II 6 rfl (aB.kept (Kept.aH [.s 3, .h, .s 1, .b 1] rfl (by decide) (Kept.now ⟨_, by grind, rfl⟩)))
  ·exact aB.run II 6 rfl (aB.kept (Kept.aH [.s 3, .h, .s 1, .b 1] rfl (by decide) (Kept.now ⟨_, by grind, rfl⟩)))
 ·rintro b hF2
  refine aC.seq (aC.seq (aC.region (aB.run II 1 rfl (aB.nil (aC.blk (aC.aJ (Kept.aH [.s 4, .s 3, .h, .s 1, .b 1] rfl (by decide) (Kept.now (aC.aW (fun ((i, b) : Nat × Bool) => [(.s 4, .sv (.v (.int .i64 (i : Int)))), (.s 3, .sv (.v (.bool b)))]) _ (fun ((i, b) : Nat × Bool) => (b || (s.enums.drop i).any (fun e : dP => decide (8 < e.values.length))) = (decide (3 < s.enums.length) || decide (6 < s.msgs.length) || s.enums.any (fun e : dP => decide (8 < e.values.length)))) (fun ((i, b) : Nat × Bool) => s.enums.length - i) (0, _) rfl (by grind) ?_)))))))))
  rintro ⟨i, b⟩ hI
  refine aC.seq (aC.seq (aC.region (aB.run II 5 rfl (aB.nil (aC.cond rfl (fun hc2 => ?_) (fun hc2 => ?_))))))
  ·have hi := ch hc2
   have hS := bS (p := (fun e : dP => decide (8 < e.values.length))) hi
   refine aC.skip (aC.seq (aC.blk (aC.region (aB.run II 2 rfl (aB.tell (d := 24) rfl (fun hg3 => ?_) (fun hg3 => ?_))))))
   ·exact aB.run II 10 rfl (aB.nil (aC.region (aB.run II 3 rfl (aB.kept (Kept.aX 4 rfl (inc (by omega)) (Kept.aH [.s 4, .s 3, .h, .s 1, .b 1] rfl (by decide) (Kept.now ⟨(i + 1, _), (by dsimp only; omega), by grind, rfl⟩)))))))
   ·exact aB.run II 3 rfl (aB.g1 rfl (aF rfl) rfl rfl (aI (aF rfl) cn rfl rfl (Int.natCast_nonneg _) (bz hi) rfl) (aB.run II 6 rfl (aB.nil (aC.region (aB.run II 3 rfl (aB.kept (Kept.aX 4 rfl (inc (by omega)) (Kept.aH [.s 4, .s 3, .h, .s 1, .b 1] rfl (by decide) (Kept.now ⟨(i + 1, _), (by dsimp only; omega), by grind, rfl⟩)))))))))
  ·have hi := ck hc2
   have hS := bq (p := (fun e : dP => decide (8 < e.values.length))) hi
   refine aC.exit (aC.seq (aC.seq (aC.region (aB.run II 1 rfl (aB.nil (aC.blk (aC.aJ (Kept.aH [.s 5, .s 3, .h, .s 1, .b 1] rfl (by decide) (Kept.now (aC.aW (fun ((k, b) : Nat × Bool) => [(.s 5, .sv (.v (.int .i64 (k : Int)))), (.s 3, .sv (.v (.bool b)))]) _ (fun ((k, b) : Nat × Bool) => (b || (s.msgs.drop k).any (fun m : aU => decide (10 < m.fields.length) || decide (8 < m.ab.length))) = s.many) (fun ((k, b) : Nat × Bool) => s.msgs.length - k) (0, _) rfl (by grind [aM.many]) ?_))))))))))
   rintro ⟨k, b⟩ hI
   refine aC.seq (aC.seq (aC.region (aB.run II 5 rfl (aB.nil (aC.cond rfl (fun hc4 => ?_) (fun hc4 => ?_))))))
   ·have hk := ch hc4
    have hS := bS (p := (fun m : aU => decide (10 < m.fields.length) || decide (8 < m.ab.length))) hk
    refine aC.skip (aC.seq (aC.blk (aC.region (aB.run II 2 rfl (aB.tell (d := 42) rfl (fun hg5 => ?_) (fun hg5 => ?_))))))
    ·exact aB.run II 20 rfl (aB.nil (aC.region (aB.run II 3 rfl (aB.kept (Kept.aX 5 rfl (inc (by omega)) (Kept.aH [.s 5, .s 3, .h, .s 1, .b 1] rfl (by decide) (Kept.now ⟨(k + 1, _), (by dsimp only; omega), by grind, rfl⟩)))))))
    ·refine aB.run II 3 rfl (aB.g1 rfl (aF rfl) rfl rfl (aI (aF rfl) bL rfl rfl (Int.natCast_nonneg _) (bz hk) rfl) (aB.run II 6 rfl (aB.tell (d := 52) rfl (fun hg6 => ?_) (fun hg6 => ?_))))
     ·exact aB.run II 10 rfl (aB.nil (aC.region (aB.run II 3 rfl (aB.kept (Kept.aX 5 rfl (inc (by omega)) (Kept.aH [.s 5, .s 3, .h, .s 1, .b 1] rfl (by decide) (Kept.now ⟨(k + 1, _), (by dsimp only; omega), by grind, rfl⟩)))))))
     ·exact aB.run II 3 rfl (aB.g1 rfl (aF rfl) rfl rfl (aI (aF rfl) bL rfl rfl (Int.natCast_nonneg _) (bz hk) rfl) (aB.run II 6 rfl (aB.nil (aC.region (aB.run II 3 rfl (aB.kept (Kept.aX 5 rfl (inc (by omega)) (Kept.aH [.s 5, .s 3, .h, .s 1, .b 1] rfl (by decide) (Kept.now ⟨(k + 1, _), (by dsimp only; omega), by grind, rfl⟩)))))))))
   ·have hk := ck hc4
    have hS := bq (p := (fun m : aU => decide (10 < m.fields.length) || decide (8 < m.ab.length))) hk
    exact aC.exit (aC.seq (aC.region (aB.run II 2 rfl (aB.nil (aC.ret ⟨.inr rfl, (aE.r1 rfl (.tmp rfl .nil)).cast (congrArg AV.bool (by grind [aM.many])), rfl⟩)))))
theorem E5 (s : aM) (hs : s.sm) : Pure Tryz.prog 32 [s.av] (.bool s.none) := by
 have := hs.e
 have := hs.m
 refine Pure.aN Tryz.func32 rfl rfl (aF rfl) fun H => (aC.seq (aC.region (aB.run II 2 rfl (aB.nil (aC.seq (aC.region (aB.run II 5 rfl (aB.nil (aC.seq (aC.seq (aC.region (aB.run II 1 rfl (aB.nil (aC.blk (aC.aJ (Kept.aH [.s 4, .s 3, .h, .s 1, .b 1] rfl (by decide) (Kept.now (aC.aW (fun ((i, b) : Nat × Bool) => [(.s 4, .sv (.v (.int .i64 (i : Int)))), (.s 3, .sv (.v (.bool b)))]) _ (fun ((i, b) : Nat × Bool) => (b || (s.enums.drop i).any (fun e : dP => decide (e.values.length = 0))) = s.none) (fun ((i, b) : Nat × Bool) => s.enums.length - i) (0, _) rfl (by grind [aM.none]) ?_))))))))))))))))))
 rintro ⟨i, b⟩ hI
 refine aC.seq (aC.seq (aC.region (aB.run II 5 rfl (aB.nil (aC.cond rfl (fun hc1 => ?_) (fun hc1 => ?_))))))
 ·have hi := ch hc1
  have hS := bS (p := (fun e : dP => decide (e.values.length = 0))) hi
  refine aC.skip (aC.seq (aC.blk (aC.region (aB.run II 2 rfl (aB.tell (d := 17) rfl (fun hg2 => ?_) (fun hg2 => ?_))))))
  ·exact aB.run II 10 rfl (aB.nil (aC.region (aB.run II 3 rfl (aB.kept (Kept.aX 4 rfl (inc (by omega)) (Kept.aH [.s 4, .s 3, .h, .s 1, .b 1] rfl (by decide) (Kept.now ⟨(i + 1, _), (by dsimp only; omega), by grind, rfl⟩)))))))
  ·exact aB.run II 3 rfl (aB.g1 rfl (aF rfl) rfl rfl (aI (aF rfl) cn rfl rfl (Int.natCast_nonneg _) (bz hi) rfl) (aB.run II 6 rfl (aB.nil (aC.region (aB.run II 3 rfl (aB.kept (Kept.aX 4 rfl (inc (by omega)) (Kept.aH [.s 4, .s 3, .h, .s 1, .b 1] rfl (by decide) (Kept.now ⟨(i + 1, _), (by dsimp only; omega), by grind, rfl⟩)))))))))
 ·have hi := ck hc1
  have hS := bq (p := (fun e : dP => decide (e.values.length = 0))) hi
  exact aC.exit (aC.seq (aC.region (aB.run II 2 rfl (aB.nil (aC.ret ⟨.inr rfl, (aE.r1 rfl (.tmp rfl .nil)).cast (congrArg AV.bool (by grind [aM.none])), rfl⟩)))))
theorem E2 (s : aM) (hs : s.sm) : Pure Tryz.prog 33 [s.av] (.bool s.text) := by
 have := hs.e
 have := hs.m
 refine Pure.aN Tryz.func33 rfl rfl (aF rfl) fun H => (aC.seq (aC.region (aB.run II 2 rfl (aB.nil (aC.seq (aC.region (aB.run II 1 rfl (aB.nil (aC.seq (aC.seq (aC.region (aB.run II 1 rfl (aB.nil (aC.blk (aC.aJ (Kept.aH [.s 4, .s 3, .h, .s 1, .b 1] rfl (by decide) (Kept.now (aC.aW (fun ((i, b) : Nat × Bool) => [(.s 4, .sv (.v (.int .i64 (i : Int)))), (.s 3, .sv (.v (.bool b)))]) _ (fun ((i, b) : Nat × Bool) => (b || (s.enums.drop i).any (fun e : dP => !an e.name || e.values.any fun v => !an v.name)) = (s.enums.any (fun e : dP => !an e.name || e.values.any fun v => !an v.name))) (fun ((i, b) : Nat × Bool) => s.enums.length - i) (0, _) rfl (by grind) ?_))))))))))))))))))
 rintro ⟨i, b⟩ hI
 refine aC.seq (aC.seq (aC.region (aB.run II 5 rfl (aB.nil (aC.cond rfl (fun hc1 => ?_) (fun hc1 => ?_))))))
 ·have hi := ch hc1
  have hS := bS (p := (fun e : dP => !an e.name || e.values.any fun v => !an v.name)) hi
  have := hs.vi hi
  refine aC.skip (aC.seq (aC.blk (aC.c8 [.h, .s 1, .b 1, .s 4] (fun (b1 : Bool) => [(.s 3, .sv (.v (.bool b1)))]) (fun (b1 : Bool) => b1 = (b || !an s.enums[i].name)) rfl ?_ ?_)))
  ·refine aC.region (aB.run II 2 rfl (aB.tell (d := 15) rfl (fun hg2 => ?_) (fun hg2 => ?_)))
   ·exact aB.run II 10 rfl (aB.kept (Kept.aH [.s 3, .h, .s 1, .b 1, .s 4] rfl (by decide) (Kept.now ⟨_, by grind, rfl⟩)))
   ·exact aB.run II 3 rfl (aB.g1 rfl (aF rfl) rfl rfl (aI (aF rfl) cn rfl rfl (Int.natCast_nonneg _) (bz hi) rfl) (aB.run II 2 rfl (aB.g1 rfl (aF rfl) rfl rfl (aG (aF rfl) fQ rfl (cu _)) (aB.run II 3 rfl (aB.kept (Kept.aH [.s 3, .h, .s 1, .b 1, .s 4] rfl (by decide) (Kept.now ⟨_, by grind, rfl⟩)))))))
  ·rintro b1 hF6
   refine aC.seq (aC.region (aB.run II 1 rfl (aB.nil (aC.blk (aC.aJ (Kept.aH [.s 5, .s 3, .h, .s 1, .b 1, .s 4] rfl (by decide) (Kept.now (aC.aW (fun ((k, b) : Nat × Bool) => [(.s 5, .sv (.v (.int .i64 (k : Int)))), (.s 3, .sv (.v (.bool b)))]) _ (fun ((k, b) : Nat × Bool) => (b || ((s.enums[i]'hi).values.drop k).any (fun v : iy => !an v.name)) = (b1 || (s.enums[i]'hi).values.any (fun v : iy => !an v.name))) (fun ((k, b) : Nat × Bool) => (s.enums[i]'hi).values.length - k) (0, _) rfl (by grind) ?_))))))))
   rintro ⟨k, b⟩ hI
   refine aC.seq (aC.seq (aC.region (aB.run II 4 rfl (aB.c1 rfl (aI (aF rfl) cn rfl rfl (Int.natCast_nonneg _) (bz hi) rfl) (aB.run II 4 rfl (aB.nil (aC.cond rfl (fun hc3 => ?_) (fun hc3 => ?_))))))))
   ·have hk := ch hc3
    have hS := bS (p := (fun v : iy => !an v.name)) hk
    refine aC.skip (aC.seq (aC.blk (aC.region (aB.run II 2 rfl (aB.tell (d := 37) rfl (fun hg4 => ?_) (fun hg4 => ?_))))))
    ·exact aB.run II 14 rfl (aB.nil (aC.region (aB.run II 3 rfl (aB.kept (Kept.aX 5 rfl (inc (by omega)) (Kept.aH [.s 5, .s 3, .h, .s 1, .b 1, .s 4] rfl (by decide) (Kept.now ⟨(k + 1, _), (by dsimp only; omega), by grind, rfl⟩)))))))
    ·exact aB.run II 3 rfl (aB.g1 rfl (aF rfl) rfl rfl (aI (aF rfl) cn rfl rfl (Int.natCast_nonneg _) (bz hi) rfl) (aB.run II 3 rfl (aB.g1 rfl (aF rfl) rfl rfl (aI (aF rfl) iH rfl rfl (Int.natCast_nonneg _) (bz hk) rfl) (aB.run II 2 rfl (aB.g1 rfl (aF rfl) rfl rfl (aG (aF rfl) fQ rfl (cu _)) (aB.run II 3 rfl (aB.nil (aC.region (aB.run II 3 rfl (aB.kept (Kept.aX 5 rfl (inc (by omega)) (Kept.aH [.s 5, .s 3, .h, .s 1, .b 1, .s 4] rfl (by decide) (Kept.now ⟨(k + 1, _), (by dsimp only; omega), by grind, rfl⟩)))))))))))))
   ·have hk := ck hc3
    have hS := bq (p := (fun v : iy => !an v.name)) hk
    exact aC.exit (aC.region (aB.run II 3 rfl (aB.kept (Kept.aX 4 rfl (inc (by omega)) (Kept.aH [.s 4, .s 3, .h, .s 1, .b 1] rfl (by decide) (Kept.now ⟨(i + 1, _), (by dsimp only; omega), by grind, rfl⟩))))))
 ·have hi := ck hc1
  have hS := bq (p := (fun e : dP => !an e.name || e.values.any fun v => !an v.name)) hi
  refine aC.exit (aC.seq (aC.seq (aC.region (aB.run II 1 rfl (aB.nil (aC.blk (aC.aJ (Kept.aH [.s 6, .s 3, .h, .s 1, .b 1] rfl (by decide) (Kept.now (aC.aW (fun ((j, b) : Nat × Bool) => [(.s 6, .sv (.v (.int .i64 (j : Int)))), (.s 3, .sv (.v (.bool b)))]) _ (fun ((j, b) : Nat × Bool) => (b || (s.msgs.drop j).any (fun m : aU => !an m.name)) = s.text) (fun ((j, b) : Nat × Bool) => s.msgs.length - j) (0, _) rfl (by grind [aM.text]) ?_))))))))))
  rintro ⟨j, b⟩ hI
  refine aC.seq (aC.seq (aC.region (aB.run II 5 rfl (aB.nil (aC.cond rfl (fun hc5 => ?_) (fun hc5 => ?_))))))
  ·have hj := ch hc5
   have hS := bS (p := (fun m : aU => !an m.name)) hj
   refine aC.skip (aC.seq (aC.blk (aC.region (aB.run II 2 rfl (aB.tell (d := 59) rfl (fun hg6 => ?_) (fun hg6 => ?_))))))
   ·exact aB.run II 10 rfl (aB.nil (aC.region (aB.run II 3 rfl (aB.kept (Kept.aX 6 rfl (inc (by omega)) (Kept.aH [.s 6, .s 3, .h, .s 1, .b 1] rfl (by decide) (Kept.now ⟨(j + 1, _), (by dsimp only; omega), by grind, rfl⟩)))))))
   ·exact aB.run II 3 rfl (aB.g1 rfl (aF rfl) rfl rfl (aI (aF rfl) bL rfl rfl (Int.natCast_nonneg _) (bz hj) rfl) (aB.run II 2 rfl (aB.g1 rfl (aF rfl) rfl rfl (aG (aF rfl) fQ rfl (cu _)) (aB.run II 3 rfl (aB.nil (aC.region (aB.run II 3 rfl (aB.kept (Kept.aX 6 rfl (inc (by omega)) (Kept.aH [.s 6, .s 3, .h, .s 1, .b 1] rfl (by decide) (Kept.now ⟨(j + 1, _), (by dsimp only; omega), by grind, rfl⟩)))))))))))
  ·have hj := ck hc5
   have hS := bq (p := (fun m : aU => !an m.name)) hj
   exact aC.exit (aC.seq (aC.region (aB.run II 2 rfl (aB.nil (aC.ret ⟨.inr rfl, (aE.r1 rfl (.tmp rfl .nil)).cast (congrArg AV.bool (by grind [aM.text])), rfl⟩)))))
theorem zX (s : aM) (hs : s.sm) : Pure Tryz.prog 34 [s.av] (.int .i64 (eI s.msgs)) := by
 have := hs.e
 have := hs.m
 refine Pure.aN Tryz.func34 rfl rfl (aF rfl) fun H => (aC.seq (aC.region (aB.run II 2 rfl (aB.nil (aC.seq (aC.seq (aC.region (aB.run II 1 rfl (aB.nil (aC.blk (aC.aJ (Kept.aH [.s 3, .h, .s 1, .b 1] rfl (by decide) (Kept.now (aC.aW (fun (i : Nat) => [(.s 3, .sv (.v (.int .i64 (i : Int))))]) _ (fun (i : Nat) => eI (s.msgs.drop i) = eI s.msgs) (fun (i : Nat) => s.msgs.length - i) 0 rfl (by simp) ?_))))))))))))))
 rintro i hI
 refine aC.seq (aC.seq (aC.region (aB.run II 5 rfl (aB.nil (aC.cond rfl (fun hc1 => ?_) (fun hc1 => ?_))))))
 ·have hi := ch hc1
  have hS := sO hi
  have := hs.fi hi
  have := hs.bi hi
  refine aC.skip (aC.seq (aC.blk (aC.seq (aC.region (aB.run II 1 rfl (aB.nil (aC.blk (aC.aJ (Kept.aH [.s 4, .h, .s 1, .b 1, .s 3] rfl (by decide) (Kept.now (aC.aW (fun (k : Nat) => [(.s 4, .sv (.v (.int .i64 (k : Int))))]) _ (fun (k : Nat) => cV ((s.msgs[i]'hi).fields.drop k) = cV (s.msgs[i]'hi).fields) (fun (k : Nat) => (s.msgs[i]'hi).fields.length - k) 0 rfl (by simp) ?_)))))))))))
  rintro k hK
  refine aC.seq (aC.seq (aC.region (aB.run II 4 rfl (aB.c1 rfl (aI (aF rfl) bL rfl rfl (Int.natCast_nonneg _) (bz hi) rfl) (aB.run II 4 rfl (aB.nil (aC.cond rfl (fun hc2 => ?_) (fun hc2 => ?_))))))))
  ·have hk := ch hc2
   have hT := pY hk
   refine aC.skip (aC.seq (aC.blk (aC.seq (aC.region (aB.run II 3 rfl (aB.c1 rfl (aI (aF rfl) bL rfl rfl (Int.natCast_nonneg _) (bz hi) rfl) (aB.run II 3 rfl (aB.c1 rfl (aI (aF rfl) bQ rfl rfl (Int.natCast_nonneg _) (bz hk) rfl) (aB.run II 1 rfl (aB.c1 rfl (aG (aF rfl) Ft rfl (Ef _)) (aB.run II 1 rfl (aB.nil (aC.seq (aC.region (aB.run II 2 rfl (aB.nil (aC.cond rfl (fun hc3 => ?_) (fun hc3 => ?_))))))))))))))))))
   ·exact aC.seq (aC.region (aB.run II 2 rfl (aB.nil (aC.ret ⟨.inr rfl, (aE.r1 rfl (.tmp rfl .nil)).cast (congrArg (AV.int .i64) (by grind [])), rfl⟩))))
   ·exact aC.skip (aC.region (aB.run II 3 rfl (aB.kept (Kept.aX 4 rfl (inc (by omega)) (Kept.aH [.s 4, .h, .s 1, .b 1, .s 3] rfl (by decide) (Kept.now ⟨k + 1, by omega, by grind, rfl⟩))))))
  ·have hk := ck hc2
   have hT := qE hk
   exact aC.exit (aC.region (aB.run II 3 rfl (aB.kept (Kept.aX 3 rfl (inc (by omega)) (Kept.aH [.s 3, .h, .s 1, .b 1] rfl (by decide) (Kept.now ⟨i + 1, by omega, by grind, rfl⟩))))))
 ·have hi := ck hc1
  have hS := uC hi
  exact aC.exit (aC.seq (aC.region (aB.run II 1 rfl (aB.nil (aC.ret ⟨.inr rfl, (aE.r1 rfl (.tmp rfl .nil)).cast (congrArg (AV.int .i64) (by grind [])), rfl⟩)))))
theorem zZ (s : aM) (hs : s.sm) : Pure Tryz.prog 37 [s.av] (.bool s.ab) := by
 have := hs.e
 have := hs.m
 refine Pure.aN Tryz.func37 rfl rfl (aF rfl) fun H => (aC.seq (aC.region (aB.run II 2 rfl (aB.nil (aC.seq (aC.seq (aC.region (aB.run II 1 rfl (aB.nil (aC.blk (aC.aJ (Kept.aH [.s 3, .h, .s 1, .b 1] rfl (by decide) (Kept.now (aC.aW (fun (i : Nat) => [(.s 3, .sv (.v (.int .i64 (i : Int))))]) _ (fun (i : Nat) => (s.msgs.drop i).any (fun m : aU => m.fields.any fun f => m.ab.any (· == f.num)) = s.ab) (fun (i : Nat) => s.msgs.length - i) 0 rfl (by simp [aM.ab]) ?_))))))))))))))
 rintro i hI
 refine aC.seq (aC.seq (aC.region (aB.run II 5 rfl (aB.nil (aC.cond rfl (fun hc1 => ?_) (fun hc1 => ?_))))))
 ·have hi := ch hc1
  have hS := bS (p := (fun m : aU => m.fields.any fun f => m.ab.any (· == f.num))) hi
  have := hs.fi hi
  have := hs.bi hi
  refine aC.skip (aC.seq (aC.blk (aC.seq (aC.region (aB.run II 1 rfl (aB.nil (aC.blk (aC.aJ (Kept.aH [.s 4, .h, .s 1, .b 1, .s 3] rfl (by decide) (Kept.now (aC.aW (fun (k : Nat) => [(.s 4, .sv (.v (.int .i64 (k : Int))))]) _ (fun (k : Nat) => ((s.msgs[i]'hi).fields.drop k).any (fun f : ag => (s.msgs[i]'hi).ab.any (· == f.num)) = (s.msgs[i]'hi).fields.any (fun f : ag => (s.msgs[i]'hi).ab.any (· == f.num))) (fun (k : Nat) => (s.msgs[i]'hi).fields.length - k) 0 rfl (by simp) ?_)))))))))))
  rintro k hK
  refine aC.seq (aC.seq (aC.region (aB.run II 4 rfl (aB.c1 rfl (aI (aF rfl) bL rfl rfl (Int.natCast_nonneg _) (bz hi) rfl) (aB.run II 4 rfl (aB.nil (aC.cond rfl (fun hc2 => ?_) (fun hc2 => ?_))))))))
  ·have hk := ch hc2
   have hT := bS (p := (fun f : ag => (s.msgs[i]'hi).ab.any (· == f.num))) hk
   refine aC.skip (aC.seq (aC.blk (aC.seq (aC.drawn mixed rfl (aD.run II 3 rfl (aD.c1 rfl (aI (aF rfl) bL rfl rfl (Int.natCast_nonneg _) (bz hi) rfl) (aD.run II 5 rfl (aD.c1 rfl (aI (aF rfl) bL rfl rfl (Int.natCast_nonneg _) (bz hi) rfl) (aD.run II 3 rfl (aD.c1 rfl (aI (aF rfl) bQ rfl rfl (Int.natCast_nonneg _) (bz hk) rfl) (aD.run II 2 rfl (aD.c1 rfl (aG (aF rfl) At rfl (Dm _ _ (by omega))) (aD.nil (by kernel_rfl) (Kept.now (aC.cond rfl (fun hc3 => ?_) (fun hc3 => ?_))))))))))))))))
   ·exact aC.seq (aC.region (aB.run II 1 rfl (aB.nil (aC.ret ⟨.inr rfl, (aE.r1 rfl (.tmp rfl .nil)).cast (congrArg AV.bool (by grind [aM.ab])), rfl⟩))))
   ·exact aC.skip (aC.region (aB.run II 3 rfl (aB.kept (Kept.aX 4 rfl (inc (by omega)) (Kept.aH [.s 4, .h, .s 1, .b 1, .s 3] rfl (by decide) (Kept.now ⟨k + 1, by omega, by grind, rfl⟩))))))
  ·have hk := ck hc2
   have hT := bq (p := (fun f : ag => (s.msgs[i]'hi).ab.any (· == f.num))) hk
   exact aC.exit (aC.region (aB.run II 3 rfl (aB.kept (Kept.aX 3 rfl (inc (by omega)) (Kept.aH [.s 3, .h, .s 1, .b 1] rfl (by decide) (Kept.now ⟨i + 1, by omega, by grind, rfl⟩))))))
 ·have hi := ck hc1
  have hS := bq (p := (fun m : aU => m.fields.any fun f => m.ab.any (· == f.num))) hi
  exact aC.exit (aC.seq (aC.region (aB.run II 1 rfl (aB.nil (aC.ret ⟨.inr rfl, (aE.r1 rfl (.tmp rfl .nil)).cast (congrArg AV.bool (by grind [aM.ab])), rfl⟩)))))
theorem E3 (s : aM) (hs : s.sm) : Pure Tryz.prog 38 [s.av] (.bool s.refs) := by
 have := hs.e
 have := hs.m
 refine Pure.aN Tryz.func38 rfl rfl (aF rfl) fun H => (aC.seq (aC.region (aB.run II 2 rfl (aB.nil (aC.seq (aC.seq (aC.region (aB.run II 1 rfl (aB.nil (aC.blk (aC.aJ (Kept.aH [.s 3, .h, .s 1, .b 1] rfl (by decide) (Kept.now (aC.aW (fun (i : Nat) => [(.s 3, .sv (.v (.int .i64 (i : Int))))]) _ (fun (i : Nat) => (s.msgs.drop i).any (fun m : aU => m.fields.any fun f => (decide (f.ty = 14) && decide (s.dy f.ref < 0)) || (decide (f.ty = 15) && decide (s.bD f.ref < 0))) = s.refs) (fun (i : Nat) => s.msgs.length - i) 0 rfl (by simp [aM.refs]) ?_))))))))))))))
 rintro i hI
 refine aC.seq (aC.seq (aC.region (aB.run II 5 rfl (aB.nil (aC.cond rfl (fun hc1 => ?_) (fun hc1 => ?_))))))
 ·have hi := ch hc1
  have hS := bS (p := (fun m : aU => m.fields.any fun f => (decide (f.ty = 14) && decide (s.dy f.ref < 0)) || (decide (f.ty = 15) && decide (s.bD f.ref < 0)))) hi
  have := hs.fi hi
  have := hs.bi hi
  refine aC.skip (aC.seq (aC.blk (aC.seq (aC.region (aB.run II 1 rfl (aB.nil (aC.blk (aC.aJ (Kept.aH [.s 4, .h, .s 1, .b 1, .s 3] rfl (by decide) (Kept.now (aC.aW (fun (k : Nat) => [(.s 4, .sv (.v (.int .i64 (k : Int))))]) _ (fun (k : Nat) => ((s.msgs[i]'hi).fields.drop k).any (fun f : ag => (decide (f.ty = 14) && decide (s.dy f.ref < 0)) || (decide (f.ty = 15) && decide (s.bD f.ref < 0))) = (s.msgs[i]'hi).fields.any (fun f : ag => (decide (f.ty = 14) && decide (s.dy f.ref < 0)) || (decide (f.ty = 15) && decide (s.bD f.ref < 0)))) (fun (k : Nat) => (s.msgs[i]'hi).fields.length - k) 0 rfl (by simp) ?_)))))))))))
  rintro k hK
  refine aC.seq (aC.seq (aC.region (aB.run II 4 rfl (aB.c1 rfl (aI (aF rfl) bL rfl rfl (Int.natCast_nonneg _) (bz hi) rfl) (aB.run II 4 rfl (aB.nil (aC.cond rfl (fun hc2 => ?_) (fun hc2 => ?_))))))))
  ·have hk := ch hc2
   have hT := bS (p := (fun f : ag => (decide (f.ty = 14) && decide (s.dy f.ref < 0)) || (decide (f.ty = 15) && decide (s.bD f.ref < 0)))) hk
   refine aC.skip (aC.seq (aC.blk (aC.seq (aC.region (aB.run II 3 rfl (aB.c1 rfl (aI (aF rfl) bL rfl rfl (Int.natCast_nonneg _) (bz hi) rfl) (aB.run II 3 rfl (aB.c1 rfl (aI (aF rfl) bQ rfl rfl (Int.natCast_nonneg _) (bz hk) rfl) (aB.run II 3 rfl (aB.nil (aC.seq (aC.region (aB.run II 4 rfl (aB.tell (d := 36) rfl (fun hg3 => ?_) (fun hg3 => ?_)))))))))))))))
   ·refine aB.run II 3 rfl (aB.g1 rfl (aF rfl) rfl rfl (aG (aF rfl) As rfl (tB _ _ (by omega))) (aB.run II 3 rfl (aB.tell (d := 43) rfl (fun hg4 => ?_) (fun hg4 => ?_))))
    ·exact aB.run II 11 rfl (aB.nil (aC.bG rfl rfl (aC.seq (aC.region (aB.run II 1 rfl (aB.nil (aC.ret ⟨.inr rfl, (aE.r1 rfl (.tmp rfl .nil)).cast (congrArg AV.bool (by grind [aM.refs])), rfl⟩)))))))
    ·refine aB.run II 4 rfl (aB.tell (d := 47) rfl (fun hg5 => ?_) (fun hg5 => ?_))
     ·refine aB.run II 3 rfl (aB.g1 rfl (aF rfl) rfl rfl (aG (aF rfl) kA rfl (gv _ _ (by omega))) (aB.run II 3 rfl (aB.nil (aC.cond rfl (fun hc6 => ?_) (fun hc6 => ?_)))))
      ·exact aC.seq (aC.region (aB.run II 1 rfl (aB.nil (aC.ret ⟨.inr rfl, (aE.r1 rfl (.tmp rfl .nil)).cast (congrArg AV.bool (by grind [aM.refs])), rfl⟩))))
      ·exact aC.skip (aC.region (aB.run II 3 rfl (aB.kept (Kept.aX 4 rfl (inc (by omega)) (Kept.aH [.s 4, .h, .s 1, .b 1, .s 3] rfl (by decide) (Kept.now ⟨k + 1, by omega, by grind, rfl⟩))))))
     ·exact aB.run II 7 rfl (aB.nil (aC.bR rfl rfl (aC.skip (aC.region (aB.run II 3 rfl (aB.kept (Kept.aX 4 rfl (inc (by omega)) (Kept.aH [.s 4, .h, .s 1, .b 1, .s 3] rfl (by decide) (Kept.now ⟨k + 1, by omega, by grind, rfl⟩)))))))))
   ·refine aB.run II 11 rfl (aB.tell (d := 47) rfl (fun hg7 => ?_) (fun hg7 => ?_))
    ·refine aB.run II 3 rfl (aB.g1 rfl (aF rfl) rfl rfl (aG (aF rfl) kA rfl (gv _ _ (by omega))) (aB.run II 3 rfl (aB.nil (aC.cond rfl (fun hc8 => ?_) (fun hc8 => ?_)))))
     ·exact aC.seq (aC.region (aB.run II 1 rfl (aB.nil (aC.ret ⟨.inr rfl, (aE.r1 rfl (.tmp rfl .nil)).cast (congrArg AV.bool (by grind [aM.refs])), rfl⟩))))
     ·exact aC.skip (aC.region (aB.run II 3 rfl (aB.kept (Kept.aX 4 rfl (inc (by omega)) (Kept.aH [.s 4, .h, .s 1, .b 1, .s 3] rfl (by decide) (Kept.now ⟨k + 1, by omega, by grind, rfl⟩))))))
    ·exact aB.run II 7 rfl (aB.nil (aC.bR rfl rfl (aC.skip (aC.region (aB.run II 3 rfl (aB.kept (Kept.aX 4 rfl (inc (by omega)) (Kept.aH [.s 4, .h, .s 1, .b 1, .s 3] rfl (by decide) (Kept.now ⟨k + 1, by omega, by grind, rfl⟩)))))))))
  ·have hk := ck hc2
   have hT := bq (p := (fun f : ag => (decide (f.ty = 14) && decide (s.dy f.ref < 0)) || (decide (f.ty = 15) && decide (s.bD f.ref < 0)))) hk
   exact aC.exit (aC.region (aB.run II 3 rfl (aB.kept (Kept.aX 3 rfl (inc (by omega)) (Kept.aH [.s 3, .h, .s 1, .b 1] rfl (by decide) (Kept.now ⟨i + 1, by omega, by grind, rfl⟩))))))
 ·have hi := ck hc1
  have hS := bq (p := (fun m : aU => m.fields.any fun f => (decide (f.ty = 14) && decide (s.dy f.ref < 0)) || (decide (f.ty = 15) && decide (s.bD f.ref < 0)))) hi
  exact aC.exit (aC.seq (aC.region (aB.run II 1 rfl (aB.nil (aC.ret ⟨.inr rfl, (aE.r1 rfl (.tmp rfl .nil)).cast (congrArg AV.bool (by grind [aM.refs])), rfl⟩)))))
/- the document: names that stand twice, order, what is asked of a schema. -/
theorem pJ : aa Tryz.prog 66 = true := by kernel_rfl
theorem vb : aa Tryz.prog 67 = true := by kernel_rfl
theorem Au : aa Tryz.prog 68 = true := by kernel_rfl
theorem Fs : aa Tryz.prog 69 = true := by kernel_rfl
theorem Ak : fo Tryz.prog 25 1 = some 1 := by kernel_rfl
theorem F5 : lk Tryz.prog 23 = some (false, 1) := by kernel_rfl
theorem de : lk Tryz.prog 3 = some (false, 1) := by kernel_rfl
theorem A2 : lk Tryz.prog 73 = some (true, 3) := by kernel_rfl
theorem bK : se Tryz.prog 50 = some (3, 1, 8) := by kernel_rfl
theorem bT : se Tryz.prog 78 = some (9, 1, 16) := by kernel_rfl
theorem rK : Tryz.prog.underlying 50 = some (TypeDesc.slice 3) := Tryz.underlying50
theorem dm : bu Tryz.prog 3 = some [AV.int IntKind.i64 (0)] := by kernel_rfl
theorem dk : bu Tryz.prog 9 = some [AV.str []] := by kernel_rfl
theorem CK (s : aM) (hs : s.sm) : Pure Tryz.prog 35 [s.av] (.bool s.gl) := by
 have := hs.e
 have := hs.m
 refine Pure.aN Tryz.func35 rfl rfl (aF rfl) fun H => (aC.seq (aC.region (aB.run II 2 rfl (aB.nil (aC.seq (aC.region (aB.c2 rfl (az («as» := []) (aF rfl) bT dk rfl rfl rfl (ft rfl) rfl) (aB.run II 1 rfl (aB.nil (aC.seq (aC.region (aB.run II 1 rfl (aB.nil (aC.seq (aC.seq (aC.region (aB.run II 1 rfl (aB.nil (aC.blk (aC.aJ (Kept.aH [.s 5, .s 4, .s 3, .t 13, .h, .s 1, .b 1] rfl (by decide) (Kept.now ?_))))))))))))))))))))))
 refine aC.aW (fun ((i, b, a) : Nat × Bool × List AV) => [(.s 5, .sv (.v (.int .i64 (i : Int)))), (.s 4, .sv (.v (.bool b))), (.s 3, .sv (.ow 13 a)), (.t 13, .tk false 9 1 a)]) _ (fun ((i, b, a) : Nat × Bool × List AV) => a = (s.enums.take i).map (fun e : dP => AV.str e.name) ∧ (b || (s.enums.drop i).any (fun e : dP => !once (e.values.map (·.name)))) = s.enums.any (fun e : dP => !once (e.values.map (·.name)))) (fun ((i, b, a) : Nat × Bool × List AV) => s.enums.length - i) (0, _, _) rfl ⟨rfl, by grind⟩ ?_
 rintro ⟨i, b, a⟩ ⟨ha, hI⟩
 refine aC.seq (aC.seq (aC.region (aB.run II 5 rfl (aB.nil (aC.cond rfl (fun hc1 => ?_) (fun hc1 => ?_))))))
 ·have hi := ch hc1
  have hS := bS (p := (fun e : dP => !once (e.values.map (·.name)))) hi
  have := hs.vi hi
  refine aC.skip (aC.seq (aC.blk (aC.seq (aC.region (aB.run II 4 rfl (aB.c1 rfl (aI (aF rfl) cn rfl rfl (Int.natCast_nonneg _) (bz hi) rfl) (aB.run II 3 rfl (aB.c3 rfl (aV (aF rfl) bT rfl rfl rfl rfl rfl (by rw [ha]; simp; omega) (by rw [ha]; simp; omega)) ?_))))))))
  refine aB.run II 1 rfl (aB.nil (aC.seq (aC.region (aB.c2 rfl (az («as» := []) (aF rfl) bT dk rfl rfl rfl (ft rfl) rfl) (aB.run II 1 rfl (aB.nil (aC.seq (aC.seq (aC.region (aB.run II 1 rfl (aB.nil (aC.blk (aC.aJ (Kept.aH [.s 7, .s 6, .t 30, .h, .s 1, .b 1, .s 3, .t 29, .s 4, .s 5] rfl (by decide) (Kept.now (aC.aW (fun ((k, c) : Nat × List AV) => [(.s 7, .sv (.v (.int .i64 (k : Int)))), (.s 6, .sv (.ow 30 c)), (.t 30, .tk false 9 1 c)]) _ (fun ((k, c) : Nat × List AV) => c = ((s.enums[i]'hi).values.take k).map (fun v : iy => AV.str v.name)) (fun ((k, c) : Nat × List AV) => (s.enums[i]'hi).values.length - k) (0, _) rfl rfl ?_))))))))))))))))
  rintro ⟨k, c⟩ hC
  refine aC.seq (aC.seq (aC.region (aB.run II 4 rfl (aB.c1 rfl (aI (aF rfl) cn rfl rfl (Int.natCast_nonneg _) (bz hi) rfl) (aB.run II 4 rfl (aB.nil (aC.cond rfl (fun hc2 => ?_) (fun hc2 => ?_))))))))
  ·have hk := ch hc2
   refine aC.skip (aC.seq (aC.blk (aC.region (aB.run II 4 rfl (aB.c1 rfl (aI (aF rfl) cn rfl rfl (Int.natCast_nonneg _) (bz hi) rfl) (aB.run II 3 rfl (aB.c1 rfl (aI (aF rfl) iH rfl rfl (Int.natCast_nonneg _) (bz hk) rfl) (aB.run II 3 rfl (aB.c3 rfl (aV (aF rfl) bT rfl rfl rfl rfl rfl (by rw [hC]; simp; omega) (by rw [hC]; simp; omega)) ?_)))))))))
   exact aB.run II 1 rfl (aB.nil (aC.region (aB.run II 3 rfl (aB.kept (Kept.aX 7 rfl (inc (by omega)) (Kept.aH [.s 7, .s 6, .t 54, .h, .s 1, .b 1, .s 3, .t 29, .s 4, .s 5] rfl (by decide) (Kept.cS 54 30 (by decide) rfl (Kept.now ⟨(k + 1, _), (by dsimp only; omega), dZ hk hC, rfl⟩))))))))
  ·have hk := ck hc2
   have hTk := fX hk
   refine aC.exit (aC.region (aB.run II 2 rfl (aB.tell (d := 56) rfl (fun hg3 => ?_) (fun hg3 => ?_))))
   ·exact aB.run II 5 rfl (aB.nil (aC.region (aB.run II 3 rfl (aB.kept (Kept.aX 5 rfl (inc (by omega)) (Kept.aH [.s 5, .s 4, .s 3, .t 29, .h, .s 1, .b 1] rfl (by decide) (Kept.cS 29 13 (by decide) rfl (Kept.now (⟨(i + 1, _, _), (by dsimp only; omega), ⟨dZ hi ha, by grind⟩, rfl⟩)))))))))
   ·refine aB.run II 1 rfl (aB.g1 rfl (aF rfl) rfl rfl (aG (aF rfl) pJ rfl ((oI ((s.enums[i]'hi).values.map (·.name)) (by simp; omega)).at (by rw [hC, hTk]; simp [Function.comp_def]))) ?_)
    exact aB.run II 3 rfl (aB.nil (aC.region (aB.run II 3 rfl (aB.kept (Kept.aX 5 rfl (inc (by omega)) (Kept.aH [.s 5, .s 4, .s 3, .t 29, .h, .s 1, .b 1] rfl (by decide) (Kept.cS 29 13 (by decide) rfl (Kept.now (⟨(i + 1, _, _), (by dsimp only; omega), ⟨dZ hi ha, by grind⟩, rfl⟩)))))))))
 ·have hi := ck hc1
  have hS := bq (p := (fun e : dP => !once (e.values.map (·.name)))) hi
  have hT := fX hi
  refine aC.exit (aC.seq (aC.seq (aC.region (aB.run II 1 rfl (aB.nil (aC.blk (aC.aJ (Kept.aH [.s 8, .s 4, .s 3, .t 13, .h, .s 1, .b 1] rfl (by decide) (Kept.now (aC.aW (fun ((i, b, a) : Nat × Bool × List AV) => [(.s 8, .sv (.v (.int .i64 (i : Int)))), (.s 4, .sv (.v (.bool b))), (.s 3, .sv (.ow 13 a)), (.t 13, .tk false 9 1 a)]) _ (fun ((i, b, a) : Nat × Bool × List AV) => a = s.enums.map (fun e : dP => AV.str e.name) ++ (s.msgs.take i).map (fun m : aU => AV.str m.name) ∧ (b || (s.msgs.drop i).any aU.gl) = (s.enums.any (fun e : dP => !once (e.values.map (·.name))) || s.msgs.any aU.gl)) (fun ((i, b, a) : Nat × Bool × List AV) => s.msgs.length - i) (0, _, _) rfl ⟨by grind, by grind⟩ ?_))))))))))
  rintro ⟨i, b, a⟩ ⟨ha, hI⟩
  refine aC.seq (aC.seq (aC.region (aB.run II 5 rfl (aB.nil (aC.cond rfl (fun hc4 => ?_) (fun hc4 => ?_))))))
  ·have hi := ch hc4
   have hS := bS (p := aU.gl) hi
   have := hs.fi hi
   have := hs.bi hi
   refine aC.skip (aC.seq (aC.blk (aC.seq (aC.region (aB.run II 4 rfl (aB.c1 rfl (aI (aF rfl) bL rfl rfl (Int.natCast_nonneg _) (bz hi) rfl) (aB.run II 3 rfl (aB.c3 rfl (aV (aF rfl) bT rfl rfl rfl rfl rfl (by rw [ha]; simp; omega) (by rw [ha]; simp; omega)) ?_))))))))
   refine aB.run II 1 rfl (aB.nil (aC.seq (aC.region (aB.run II 3 rfl (aB.c1 rfl (aI (aF rfl) bL rfl rfl (Int.natCast_nonneg _) (bz hi) rfl) (aB.run II 3 rfl (aB.nil (aC.seq (aC.region (aB.c2 rfl (az («as» := []) (aF rfl) bT dk rfl rfl rfl (ft rfl) rfl) (aB.run II 1 rfl (aB.nil (aC.seq (aC.seq (aC.region (aB.run II 1 rfl (aB.nil (aC.blk (aC.aJ (Kept.aH [.s 11, .s 10, .t 83, .h, .s 1, .b 1, .s 3, .t 76, .s 4, .s 8, .s 9] rfl (by decide) (Kept.now ?_)))))))))))))))))))))
   refine aC.aW (fun ((k, c) : Nat × List AV) => [(.s 11, .sv (.v (.int .i64 (k : Int)))), (.s 10, .sv (.ow 83 c)), (.t 83, .tk false 9 1 c)]) _ (fun ((k, c) : Nat × List AV) => c = ((s.msgs[i]'hi).fields.take k).map (fun f : ag => AV.str f.name)) (fun ((k, c) : Nat × List AV) => (s.msgs[i]'hi).fields.length - k) (0, _) rfl rfl ?_
   rintro ⟨k, c⟩ hC
   refine aC.seq (aC.seq (aC.region (aB.run II 4 rfl (aB.nil (aC.cond rfl (fun hc5 => ?_) (fun hc5 => ?_))))))
   ·have hk := ch hc5
    refine aC.skip (aC.seq (aC.blk (aC.region (aB.run II 3 rfl (aB.c1 rfl (aI (aF rfl) bQ rfl rfl (Int.natCast_nonneg _) (bz hk) rfl) (aB.run II 3 rfl (aB.c3 rfl (aV (aF rfl) bT rfl rfl rfl rfl rfl (by rw [hC]; simp; omega) (by rw [hC]; simp; omega)) ?_)))))))
    exact aB.run II 1 rfl (aB.nil (aC.region (aB.run II 3 rfl (aB.kept (Kept.aX 11 rfl (inc (by omega)) (Kept.aH [.s 11, .s 10, .t 97, .h, .s 1, .b 1, .s 3, .t 76, .s 4, .s 8, .s 9] rfl (by decide) (Kept.cS 97 83 (by decide) rfl (Kept.now ⟨(k + 1, _), (by dsimp only; omega), dZ hk hC, rfl⟩))))))))
   ·have hk := ck hc5
    have hTk := fX hk
    refine aC.exit (aC.c8 [.h, .s 1, .b 1, .s 3, .t 76, .s 8, .s 9, .s 10, .t 83] (fun (b1 : Bool) => [(.s 4, .sv (.v (.bool b1)))]) (fun (b1 : Bool) => b1 = (b || !once ((s.msgs[i]'hi).fields.map (·.name)))) rfl ?_ ?_)
    ·refine aC.region (aB.run II 2 rfl (aB.tell (d := 99) rfl (fun hg6 => ?_) (fun hg6 => ?_)))
     ·exact aB.run II 5 rfl (aB.kept (Kept.aH [.s 4, .h, .s 1, .b 1, .s 3, .t 76, .s 8, .s 9, .s 10, .t 83] rfl (by decide) (Kept.now ⟨_, by grind, rfl⟩)))
     ·refine aB.run II 1 rfl (aB.g1 rfl (aF rfl) rfl rfl (aG (aF rfl) pJ rfl ((oI ((s.msgs[i]'hi).fields.map (·.name)) (by simp; omega)).at (by rw [hC, hTk]; simp [Function.comp_def]))) ?_)
      exact aB.run II 3 rfl (aB.kept (Kept.aH [.s 4, .h, .s 1, .b 1, .s 3, .t 76, .s 8, .s 9, .s 10, .t 83] rfl (by decide) (Kept.now ⟨_, by grind, rfl⟩)))
    ·rintro b1 hF24
     refine aC.seq (aC.region (aB.run II 1 rfl (aB.nil (aC.blk (aC.aJ (Kept.aH [.s 12, .s 4, .h, .s 1, .b 1, .s 3, .t 76, .s 8, .s 9, .s 10, .t 83] rfl (by decide) (Kept.now (aC.aW (fun ((k, b) : Nat × Bool) => [(.s 12, .sv (.v (.int .i64 (k : Int)))), (.s 4, .sv (.v (.bool b)))]) _ (fun ((k, b) : Nat × Bool) => (b || ((s.msgs[i]'hi).fields.drop k).any (fun f : ag => !(f.one == []) && !once ((s.msgs[i]'hi).fields.map (·.name) ++ [f.one]))) = (b1 || (s.msgs[i]'hi).fields.any (fun f : ag => !(f.one == []) && !once ((s.msgs[i]'hi).fields.map (·.name) ++ [f.one])))) (fun ((k, b) : Nat × Bool) => (s.msgs[i]'hi).fields.length - k) (0, _) rfl (by grind) ?_))))))))
     rintro ⟨k, b⟩ hI
     refine aC.seq (aC.seq (aC.region (aB.run II 4 rfl (aB.nil (aC.cond rfl (fun hc7 => ?_) (fun hc7 => ?_))))))
     ·have hk := ch hc7
      have hU := bS (p := (fun f : ag => !(f.one == []) && !once ((s.msgs[i]'hi).fields.map (·.name) ++ [f.one]))) hk
      refine aC.skip (aC.seq (aC.blk (aC.drawn mixed rfl (aD.run II 2 rfl (aD.tell (d := 111) rfl (fun hg8 => ?_) (fun hg8 => ?_))))))
      ·exact aD.run II 22 rfl (aD.nil (by kernel_rfl) (Kept.now (aC.region (aB.run II 3 rfl (aB.kept (Kept.aX 12 rfl (inc (by omega)) (Kept.aH [.s 12, .s 4, .h, .s 1, .b 1, .s 3, .t 76, .s 8, .s 9, .s 10, .t 83] rfl (by decide) (Kept.now ⟨(k + 1, _), (by dsimp only; omega), by grind, rfl⟩))))))))
      ·refine aD.run II 2 rfl (aD.g1 rfl (aF rfl) rfl rfl (aI (aF rfl) bQ rfl rfl (Int.natCast_nonneg _) (bz hk) rfl) (aD.run II 4 rfl (aD.tell (d := 118) rfl (fun hg9 => ?_) (fun hg9 => ?_))))
       ·refine aD.g2 rfl (aF rfl) rfl rfl (az («as» := []) (aF rfl) bT dk rfl rfl rfl (ft rfl) rfl) (aD.run II 1 rfl (aD.g3 rfl (aF rfl) rfl rfl (aV (aF rfl) bT rfl rfl rfl (by rw [hC]; exact qi _ _) rfl (by rw [hC]; simp; omega) (by rw [hC]; simp; omega)) ?_))
        refine aD.run II 2 rfl (aD.g1 rfl (aF rfl) rfl rfl (aI (aF rfl) bQ rfl rfl (Int.natCast_nonneg _) (bz hk) rfl) (aD.run II 3 rfl (aD.g3 rfl (aF rfl) rfl rfl (aV (aF rfl) bT rfl rfl rfl rfl rfl (by rw [hC]; simp; omega) (by rw [hC]; simp; omega)) ?_)))
        refine aD.g1 rfl (aF rfl) rfl rfl (aG (aF rfl) pJ rfl ((oI ((s.msgs[i]'hi).fields.map (·.name) ++ [((s.msgs[i]'hi).fields[k]'hk).one]) (by simp; omega)).at (by rw [hC, hTk]; simp [Function.comp_def]))) ?_
        exact aD.run II 4 rfl (aD.nil (by kernel_rfl) (Kept.now (aC.region (aB.run II 3 rfl (aB.kept (Kept.aX 12 rfl (inc (by omega)) (Kept.aH [.s 12, .s 4, .h, .s 1, .b 1, .s 3, .t 76, .s 8, .s 9, .s 10, .t 83] rfl (by decide) (Kept.now ⟨(k + 1, _), (by dsimp only; omega), by grind, rfl⟩))))))))
       ·exact aD.run II 15 rfl (aD.nil (by kernel_rfl) (Kept.now (aC.region (aB.run II 3 rfl (aB.kept (Kept.aX 12 rfl (inc (by omega)) (Kept.aH [.s 12, .s 4, .h, .s 1, .b 1, .s 3, .t 76, .s 8, .s 9, .s 10, .t 83] rfl (by decide) (Kept.now ⟨(k + 1, _), (by dsimp only; omega), by grind, rfl⟩))))))))
     ·have hk := ck hc7
      have hU := bq (p := (fun f : ag => !(f.one == []) && !once ((s.msgs[i]'hi).fields.map (·.name) ++ [f.one]))) hk
      exact aC.exit (aC.region (aB.run II 3 rfl (aB.kept (Kept.aX 8 rfl (inc (by omega)) (Kept.aH [.s 8, .s 4, .s 3, .t 76, .h, .s 1, .b 1] rfl (by decide) (Kept.cS 76 13 (by decide) rfl (Kept.now (⟨(i + 1, _, _), (by dsimp only; omega), ⟨x5 hi ha, by grind [aU.gl]⟩, rfl⟩))))))))
  ·have hi := ck hc4
   have hS := bq (p := aU.gl) hi
   have hT := fX hi
   refine aC.exit (aC.seq (aC.region (aB.run II 2 rfl (aB.tell (d := 134) rfl (fun hg10 => ?_) (fun hg10 => ?_)))))
   ·exact aB.run II 5 rfl (aB.nil (aC.ret ⟨.inr rfl, (aE.r1 rfl (.tmp rfl .nil)).cast (congrArg AV.bool (by grind [aM.gl])), rfl⟩))
   ·refine aB.run II 1 rfl (aB.g1 rfl (aF rfl) rfl rfl (aG (aF rfl) pJ rfl ((oI (s.enums.map (·.name) ++ s.msgs.map (·.name)) (by simp; omega)).at (by rw [ha, hT]; simp [Function.comp_def]))) ?_)
    exact aB.run II 3 rfl (aB.nil (aC.ret ⟨.inr rfl, (aE.r1 rfl (.tmp rfl .nil)).cast (congrArg AV.bool (by grind [aM.gl])), rfl⟩))
theorem E4 (m : aU) (hl : m.fields.length ≤ 1000) : Pure Tryz.prog 69 [m.av] (.sl (m.fields.map (fun f : ag => AV.int .i64 f.num))) := by
 refine Pure.aN Tryz.func69 rfl rfl (aF rfl) fun H => (aC.seq (aC.region (aB.run II 2 rfl (aB.nil (aC.seq (aC.region (aB.c2 rfl (az («as» := []) (aF rfl) bK dm rfl rfl rfl (ft rfl) rfl) (aB.run II 1 rfl (aB.nil (aC.seq (aC.seq (aC.region (aB.run II 1 rfl (aB.nil (aC.blk (aC.aJ (Kept.aH [.s 4, .s 3, .t 5, .h, .s 1, .b 1] rfl (by decide) (Kept.now (aC.aW (fun ((i, a) : Nat × List AV) => [(.s 4, .sv (.v (.int .i64 (i : Int)))), (.s 3, .sv (.ow 5 a)), (.t 5, .tk false 3 1 a)]) _ (fun ((i, a) : Nat × List AV) => a = (m.fields.take i).map (fun f : ag => AV.int .i64 f.num)) (fun ((i, a) : Nat × List AV) => m.fields.length - i) (0, _) rfl rfl ?_)))))))))))))))))))
 rintro ⟨i, a⟩ ha
 refine aC.seq (aC.seq (aC.region (aB.run II 5 rfl (aB.nil (aC.cond rfl (fun hc1 => ?_) (fun hc1 => ?_))))))
 ·have hi := ch hc1
  refine aC.skip (aC.seq (aC.blk (aC.region (aB.run II 4 rfl (aB.c1 rfl (aI (aF rfl) bQ rfl rfl (Int.natCast_nonneg _) (bz hi) rfl) (aB.run II 3 rfl (aB.c3 rfl (aV (aF rfl) bK rfl rfl rfl rfl rfl (by rw [ha]; simp; omega) (by rw [ha]; simp; omega)) ?_)))))))
  exact aB.run II 1 rfl (aB.nil (aC.region (aB.run II 3 rfl (aB.kept (Kept.aX 4 rfl (inc (by omega)) (Kept.aH [.s 4, .s 3, .t 21, .h, .s 1, .b 1] rfl (by decide) (Kept.cS 21 5 (by decide) rfl (Kept.now ⟨(i + 1, _), (by dsimp only; omega), dZ hi ha, rfl⟩))))))))
 ·have hi := ck hc1
  have hT := fX hi
  exact aC.exit (aC.seq (aC.region (aB.run II 2 rfl (aB.nil (aC.ret ⟨.inr rfl, (aE.r1 rfl (.tmp rfl .nil)).cast (by rw [ha, hT]), rfl⟩)))))
theorem CR (s : aM) (hs : s.sm) (hn : ∀ x ∈ s.enums, 0 < x.values.length) : Pure Tryz.prog 36 [s.av] (.bool s.order) := by
 have := hs.e
 have := hs.m
 refine Pure.aN Tryz.func36 rfl rfl (aF rfl) fun H => (aC.seq (aC.region (aB.run II 2 rfl (aB.nil (aC.seq (aC.region (aB.run II 1 rfl (aB.nil (aC.seq (aC.region (aB.c2 rfl (az («as» := []) (aF rfl) bT dk rfl rfl rfl (ft rfl) rfl) (aB.run II 1 rfl (aB.nil (aC.seq (aC.seq (aC.region (aB.run II 1 rfl (aB.nil (aC.blk (aC.aJ (Kept.aH [.s 5, .s 3, .s 4, .t 10, .h, .s 1, .b 1] rfl (by decide) (Kept.now ?_))))))))))))))))))))))
 refine aC.aW (fun ((i, b, a) : Nat × Bool × List AV) => [(.s 5, .sv (.v (.int .i64 (i : Int)))), (.s 3, .sv (.v (.bool b))), (.s 4, .sv (.ow 10 a)), (.t 10, .tk false 9 1 a)]) _ (fun ((i, b, a) : Nat × Bool × List AV) => a = (s.enums.take i).map (fun e : dP => AV.str e.name) ∧ (b || (s.enums.drop i).any dP.order) = s.enums.any dP.order) (fun ((i, b, a) : Nat × Bool × List AV) => s.enums.length - i) (0, _, _) rfl ⟨rfl, by simp⟩ ?_
 rintro ⟨i, b, a⟩ ⟨ha, hI⟩
 refine aC.seq (aC.seq (aC.region (aB.run II 5 rfl (aB.nil (aC.cond rfl (fun hc1 => ?_) (fun hc1 => ?_))))))
 ·have hi := ch hc1
  have hS := bS (p := dP.order) hi
  have := hs.vi hi
  have hv0 : 0 < (s.enums[i]'hi).values.length := hn _ (List.getElem_mem hi)
  have hO := dP.mO hv0
  refine aC.skip (aC.seq (aC.blk (aC.seq (aC.region (aB.run II 4 rfl (aB.c1 rfl (aI (aF rfl) cn rfl rfl (Int.natCast_nonneg _) (bz hi) rfl) (aB.run II 3 rfl (aB.c3 rfl (aV (aF rfl) bT rfl rfl rfl rfl rfl (by rw [ha]; simp; omega) (by rw [ha]; simp; omega)) ?_))))))))
  refine aB.run II 1 rfl (aB.nil (aC.seq (aC.region (aB.c2 rfl (az («as» := []) (aF rfl) bK dm rfl rfl rfl (ft rfl) rfl) (aB.run II 1 rfl (aB.nil (aC.seq (aC.seq (aC.region (aB.run II 1 rfl (aB.nil (aC.blk (aC.aJ (Kept.aH [.s 7, .s 6, .t 27, .h, .s 1, .b 1, .s 3, .s 4, .t 26, .s 5] rfl (by decide) (Kept.now (aC.aW (fun ((k, c) : Nat × List AV) => [(.s 7, .sv (.v (.int .i64 (k : Int)))), (.s 6, .sv (.ow 27 c)), (.t 27, .tk false 3 1 c)]) _ (fun ((k, c) : Nat × List AV) => c = ((s.enums[i]'hi).values.take k).map (fun v : iy => AV.int .i64 v.num)) (fun ((k, c) : Nat × List AV) => (s.enums[i]'hi).values.length - k) (0, _) rfl rfl ?_))))))))))))))))
  rintro ⟨k, c⟩ hC
  refine aC.seq (aC.seq (aC.region (aB.run II 4 rfl (aB.c1 rfl (aI (aF rfl) cn rfl rfl (Int.natCast_nonneg _) (bz hi) rfl) (aB.run II 4 rfl (aB.nil (aC.cond rfl (fun hc2 => ?_) (fun hc2 => ?_))))))))
  ·have hk := ch hc2
   refine aC.skip (aC.seq (aC.blk (aC.region (aB.run II 4 rfl (aB.c1 rfl (aI (aF rfl) cn rfl rfl (Int.natCast_nonneg _) (bz hi) rfl) (aB.run II 3 rfl (aB.c1 rfl (aI (aF rfl) iH rfl rfl (Int.natCast_nonneg _) (bz hk) rfl) (aB.run II 3 rfl (aB.c3 rfl (aV (aF rfl) bK rfl rfl rfl rfl rfl (by rw [hC]; simp; omega) (by rw [hC]; simp; omega)) ?_)))))))))
   exact aB.run II 1 rfl (aB.nil (aC.region (aB.run II 3 rfl (aB.kept (Kept.aX 7 rfl (inc (by omega)) (Kept.aH [.s 7, .s 6, .t 51, .h, .s 1, .b 1, .s 3, .s 4, .t 26, .s 5] rfl (by decide) (Kept.cS 51 27 (by decide) rfl (Kept.now ⟨(k + 1, _), (by dsimp only; omega), dZ hk hC, rfl⟩))))))))
  ·have hk := ck hc2
   have hC2 : c = (s.enums[i]'hi).values.map (fun v : iy => AV.int .i64 v.num) := by rw [hC, fX hk]
   refine aC.exit (aC.region (aB.run II 2 rfl (aB.split (d := 53) rfl (fun hg3 => ?_) (fun hg3 => ?_))))
   ·iterate 3 (refine aB.iQ rfl rfl (aF rfl) (aF rfl) rfl hg3 ?_)
    exact aB.c1 rfl (cJ (aF rfl) rfl hg3 rfl) (aB.run II 16 rfl (aB.nil (aC.region (aB.run II 3 rfl (aB.kept (Kept.aX 5 rfl (inc (by omega)) (Kept.aH [.s 5, .s 3, .s 4, .t 26, .h, .s 1, .b 1] rfl (by decide) (Kept.cS 26 10 (by decide) rfl (Kept.now (⟨(i + 1, _, _), (by dsimp only; omega), ⟨dZ hi ha, by clear ha hC hC2 hn; grind⟩, rfl⟩))))))))))
   ·refine aB.g1 rfl (aF rfl) rfl hg3 (fx (aF rfl) rfl) (aB.g1 rfl (aF rfl) rfl hg3 (aG (aF rfl) vb rfl ((rZ ((s.enums[i]'hi).values.map (·.num)) (by simp; omega)).at (by rw [hC2]; simp [dL, Function.comp_def]))) ?_)
    refine aB.g1 rfl (aF rfl) rfl hg3 (oX (aF rfl) rfl rfl) (aB.c1 rfl (cC (aF rfl) rfl hg3 rfl) (aB.run II 1 rfl (aB.split (d := 58) rfl (fun hg4 => ?_) (fun hg4 => ?_))))
    ·iterate 4 (refine aB.iQ rfl rfl (aF rfl) (aF rfl) rfl hg4 ?_)
     exact aB.c1 rfl (cJ (aF rfl) rfl hg4 rfl) (aB.run II 10 rfl (aB.nil (aC.region (aB.run II 3 rfl (aB.kept (Kept.aX 5 rfl (inc (by omega)) (Kept.aH [.s 5, .s 3, .s 4, .t 26, .h, .s 1, .b 1] rfl (by decide) (Kept.cS 26 10 (by decide) rfl (Kept.now (⟨(i + 1, _, _), (by dsimp only; omega), ⟨dZ hi ha, by clear ha hC hC2 hn; grind⟩, rfl⟩))))))))))
    ·refine aB.g1 rfl (aF rfl) rfl hg4 (fx (aF rfl) rfl) (aB.g1 rfl (aF rfl) rfl hg4 (aI (aF rfl) cA rfl rfl (by decide) (I4 (i := 0) hC2 hv0) rfl) (aB.g1 rfl (aF rfl) rfl hg4 (mP (aF rfl) de rfl rfl) (aB.g1 rfl (aF rfl) rfl hg4 (bI (aF rfl) rfl rfl rfl) (aB.c1 rfl (cC (aF rfl) rfl hg4 rfl) (aB.run II 1 rfl (aB.split (d := 64) rfl (fun hg5 => ?_) (fun hg5 => ?_)))))))
     ·iterate 7 (refine aB.iQ rfl rfl (aF rfl) (aF rfl) rfl hg5 ?_)
      exact aB.c1 rfl (cJ (aF rfl) rfl hg5 rfl) (aB.run II 1 rfl (aB.nil (aC.region (aB.run II 3 rfl (aB.kept (Kept.aX 5 rfl (inc (by omega)) (Kept.aH [.s 5, .s 3, .s 4, .t 26, .h, .s 1, .b 1] rfl (by decide) (Kept.cS 26 10 (by decide) rfl (Kept.now (⟨(i + 1, _, _), (by dsimp only; omega), ⟨dZ hi ha, by clear ha hC hC2 hn; grind⟩, rfl⟩))))))))))
     ·iterate 2 (refine aB.g1 rfl (aF rfl) rfl hg5 (fx (aF rfl) rfl) ?_)
      refine aB.g1 rfl (aF rfl) rfl hg5 (l5 (aF rfl) rK rfl) (aB.g1 rfl (aF rfl) rfl hg5 (bI (aF rfl) rfl rfl rfl) (aB.g1 rfl (aF rfl) rfl hg5 (aI (aF rfl) cA rfl rfl (by rw [hC2, List.length_map, qB hv0 (by omega)]; exact Int.natCast_nonneg _) (HO (i := (s.enums[i]'hi).values.length - 1) (by rw [hC2, List.length_map]; exact qB hv0 (by omega)) hC2 (by omega)) rfl) ?_))
      exact aB.g1 rfl (aF rfl) rfl hg5 (mP (aF rfl) de rfl rfl) (aB.g1 rfl (aF rfl) rfl hg5 (bI (aF rfl) rfl rfl rfl) (aB.c1 rfl (cC (aF rfl) rfl hg5 rfl) (aB.run II 1 rfl (aB.nil (aC.region (aB.run II 3 rfl (aB.kept (Kept.aX 5 rfl (inc (by omega)) (Kept.aH [.s 5, .s 3, .s 4, .t 26, .h, .s 1, .b 1] rfl (by decide) (Kept.cS 26 10 (by decide) rfl (Kept.now (⟨(i + 1, _, _), (by dsimp only; omega), ⟨dZ hi ha, by clear ha hC hC2 hn; grind⟩, rfl⟩))))))))))))
 ·have hi := ck hc1
  have hS := bq (p := dP.order) hi
  have hT := fX hi
  refine aC.exit (aC.c8 [.h, .s 1, .b 1] (fun (b1 : Bool) => [(.s 3, .sv (.v (.bool b1)))]) (fun (b1 : Bool) => b1 = (s.enums.any dP.order || !ji (s.enums.map (·.name)))) rfl ?_ ?_)
  ·refine aC.region (aB.run II 2 rfl (aB.split (d := 74) rfl (fun hg6 => ?_) (fun hg6 => ?_)))
   ·iterate 3 (refine aB.iQ rfl rfl (aF rfl) (aF rfl) rfl hg6 ?_)
    exact aB.c1 rfl (cJ (aF rfl) rfl hg6 rfl) (aB.run II 1 rfl (aB.kept (Kept.aH [.s 3, .h, .s 1, .b 1] rfl (by decide) (Kept.now ⟨_, by grind, rfl⟩))))
   ·refine aB.g1 rfl (aF rfl) rfl hg6 (fx (aF rfl) rfl) (aB.g1 rfl (aF rfl) rfl hg6 (aG (aF rfl) Au rfl ((wO (s.enums.map (·.name)) (by simp; omega)).at (by rw [ha, hT]; simp [Function.comp_def]))) ?_)
    exact aB.g1 rfl (aF rfl) rfl hg6 (oX (aF rfl) rfl rfl) (aB.c1 rfl (cC (aF rfl) rfl hg6 rfl) (aB.run II 1 rfl (aB.kept (Kept.aH [.s 3, .h, .s 1, .b 1] rfl (by decide) (Kept.now ⟨_, by grind, rfl⟩)))))
  ·rintro b1 hF14
   refine aC.seq (aC.region (aB.c2 rfl (az («as» := []) (aF rfl) bT dk rfl rfl rfl (ft rfl) rfl) (aB.run II 1 rfl (aB.nil (aC.seq (aC.seq (aC.region (aB.run II 1 rfl (aB.nil (aC.blk (aC.aJ (Kept.aH [.s 8, .s 3, .s 4, .t 79, .h, .s 1, .b 1] rfl (by decide) (Kept.now (aC.aW (fun ((i, b, a) : Nat × Bool × List AV) => [(.s 8, .sv (.v (.int .i64 (i : Int)))), (.s 3, .sv (.v (.bool b))), (.s 4, .sv (.ow 79 a)), (.t 79, .tk false 9 1 a)]) _ (fun ((i, b, a) : Nat × Bool × List AV) => a = ((s.msgs.take i).drop 1).map (fun m : aU => AV.str m.name) ∧ (b || (s.msgs.drop i).any aU.order) = (s.enums.any dP.order || !ji (s.enums.map (·.name)) || s.msgs.any aU.order)) (fun ((i, b, a) : Nat × Bool × List AV) => s.msgs.length - i) (0, _, _) rfl ⟨by simp, by grind⟩ ?_))))))))))))))
   rintro ⟨i, b, a⟩ ⟨ha, hI⟩
   refine aC.seq (aC.seq (aC.region (aB.run II 5 rfl (aB.nil (aC.cond rfl (fun hc7 => ?_) (fun hc7 => ?_))))))
   ·have hi := ch hc7
    have hS := bS (p := aU.order) hi
    have := hs.fi hi
    have := hs.bi hi
    have hO1 := aU.mO (m := (s.msgs[i]'hi))
    have hO2 := aU.xv (m := (s.msgs[i]'hi))
    refine aC.skip (aC.seq (aC.blk (aC.c8 [.h, .s 1, .b 1, .s 3, .s 8] (fun (a2 : List AV) => [(.s 4, .sv (.ow 79 a2)), (.t 79, .tk false 9 1 a2)]) (fun (a2 : List AV) => a2 = ((s.msgs.take (i + 1)).drop 1).map (fun m : aU => AV.str m.name)) rfl ?_ ?_)))
    ·refine aC.seq (aC.region (aB.run II 2 rfl (aB.nil (aC.cond rfl (fun hc8 => ?_) (fun hc8 => ?_)))))
     ·refine aC.region (aB.run II 4 rfl (aB.c1 rfl (aI (aF rfl) bL rfl rfl (Int.natCast_nonneg _) (bz hi) rfl) (aB.run II 3 rfl (aB.c3 rfl (aV (aF rfl) bT rfl rfl rfl rfl rfl (by rw [ha]; simp; omega) (by rw [ha]; simp; omega)) ?_))))
      exact aB.run II 1 rfl (aB.kept (Kept.aH [.s 4, .t 97, .h, .s 1, .b 1, .s 3, .s 8] rfl (by decide) (Kept.cS 97 79 (by decide) rfl (Kept.now ⟨a ++ [AV.str (s.msgs[i]'hi).name], (by rw [u1 (by have := of_decide_eq_true hc8; omega) hi, List.map_append, ha]; rfl), rfl⟩))))
     ·exact aC.aJ (Kept.aH [.s 4, .t 79, .h, .s 1, .b 1, .s 3, .s 8] rfl (by decide) (Kept.now (aC.skip ⟨a, (by have h0 : i = 0 := (by have := of_decide_eq_false hc8; omega); subst h0; rw [u2, ha]; simp), rfl⟩)))
    ·rintro a2 ha2
     refine aC.seq (aC.region (aB.run II 3 rfl (aB.c1 rfl (aI (aF rfl) bL rfl rfl (Int.natCast_nonneg _) (bz hi) rfl) (aB.run II 3 rfl (aB.nil (aC.c8 [.h, .s 1, .b 1, .s 4, .t 79, .s 8, .s 9] (fun (b1 : Bool) => [(.s 3, .sv (.v (.bool b1)))]) (fun (b1 : Bool) => b1 = (b || !eQ ((s.msgs[i]'hi).fields.map (·.num)) || !eQ (s.msgs[i]'hi).ab)) rfl ?_ ?_))))))
     ·refine aC.region (aB.run II 2 rfl (aB.split (d := 105) rfl (fun hg9 => ?_) (fun hg9 => ?_)))
      ·iterate 8 (refine aB.iQ rfl rfl (aF rfl) (aF rfl) rfl hg9 ?_)
       exact aB.c1 rfl (cJ (aF rfl) rfl hg9 rfl) (aB.run II 6 rfl (aB.kept (Kept.aH [.s 3, .h, .s 1, .b 1, .s 4, .t 79, .s 8, .s 9] rfl (by decide) (Kept.now ⟨_, by grind, rfl⟩))))
      ·refine aB.g1 rfl (aF rfl) rfl hg9 (zw (aF rfl) Ak rfl) (aB.g1 rfl (aF rfl) rfl hg9 (eJ (aF rfl) F5 rfl rfl rfl) (aB.g1 rfl (aF rfl) rfl hg9 (fx (aF rfl) rfl) (aB.g1 rfl (aF rfl) rfl hg9 (aI (aF rfl) bL rfl rfl (Int.natCast_nonneg _) (bz hi) rfl) (aB.g1 rfl (aF rfl) rfl hg9 (mP (aF rfl) A2 rfl rfl) (aB.g1 rfl (aF rfl) rfl hg9 (aG (aF rfl) Fs rfl (E4 _ (by omega))) (aB.g1 rfl (aF rfl) rfl hg9 (aG (aF rfl) vb rfl ((rZ ((s.msgs[i]'hi).fields.map (·.num)) (by simp; omega)).at (by simp [dL, Function.comp_def]))) ?_))))))
       refine aB.g1 rfl (aF rfl) rfl hg9 (oX (aF rfl) rfl rfl) (aB.c1 rfl (cC (aF rfl) rfl hg9 rfl) (aB.run II 1 rfl (aB.split (d := 115) rfl (fun hg10 => ?_) (fun hg10 => ?_))))
       ·iterate 3 (refine aB.iQ rfl rfl (aF rfl) (aF rfl) rfl hg10 ?_)
        exact aB.c1 rfl (cJ (aF rfl) rfl hg10 rfl) (aB.run II 1 rfl (aB.kept (Kept.aH [.s 3, .h, .s 1, .b 1, .s 4, .t 79, .s 8, .s 9] rfl (by decide) (Kept.now ⟨_, by grind, rfl⟩))))
       ·exact aB.g1 rfl (aF rfl) rfl hg10 (fx (aF rfl) rfl) (aB.g1 rfl (aF rfl) rfl hg10 (aG (aF rfl) vb rfl (rZ (s.msgs[i]'hi).ab (by omega))) (aB.g1 rfl (aF rfl) rfl hg10 (oX (aF rfl) rfl rfl) (aB.c1 rfl (cC (aF rfl) rfl hg10 rfl) (aB.run II 1 rfl (aB.kept (Kept.aH [.s 3, .h, .s 1, .b 1, .s 4, .t 79, .s 8, .s 9] rfl (by decide) (Kept.now ⟨_, by grind, rfl⟩)))))))
     ·rintro b1 hF22
      refine aC.region (aB.run II 2 rfl (aB.split (d := 121) rfl (fun hg11 => ?_) (fun hg11 => ?_)))
      ·iterate 4 (refine aB.iQ rfl rfl (aF rfl) (aF rfl) rfl hg11 ?_)
       exact aB.run II 13 rfl (aB.iQ rfl rfl (aF rfl) (aF rfl) rfl hg11 (aB.c1 rfl (cJ (aF rfl) rfl hg11 rfl) (aB.run II 1 rfl (aB.nil (aC.region (aB.run II 3 rfl (aB.kept (Kept.aX 8 rfl (inc (by omega)) (Kept.aH [.s 8, .s 3, .s 4, .t 79, .h, .s 1, .b 1] rfl (by decide) (Kept.now (⟨(i + 1, _, _), (by dsimp only; omega), ⟨ha2, by clear ha ha2 hn; grind⟩, rfl⟩)))))))))))
      ·refine aB.g1 rfl (aF rfl) rfl hg11 (fx (aF rfl) rfl) (aB.g1 rfl (aF rfl) rfl hg11 (l5 (aF rfl) rK rfl) (aB.g1 rfl (aF rfl) rfl hg11 (bI (aF rfl) rfl rfl rfl) (aB.g1 rfl (aF rfl) rfl hg11 (fx (aF rfl) rfl) (aB.split (d := 125) rfl (fun hg12 => ?_) (fun hg12 => ?_)))))
       ·refine aB.g1 rfl (aF rfl) rfl hg12 (fx (aF rfl) rfl) (aB.g1 rfl (aF rfl) rfl hg12 (aI (aF rfl) cA rfl rfl (by decide) (bz (i := 0) (by have := of_decide_eq_true hg12; rw [List.length_map] at this; omega)) rfl) ?_)
        refine aB.g1 rfl (aF rfl) rfl hg12 (mP (aF rfl) de rfl rfl) (aB.g1 rfl (aF rfl) rfl hg12 (bI (aF rfl) rfl rfl rfl) (aB.g1 rfl (aF rfl) rfl hg12 (fx (aF rfl) rfl) (aB.split (d := 130) rfl (fun hg13 => ?_) (fun hg13 => ?_))))
        ·iterate 7 (refine aB.iQ rfl rfl (aF rfl) (aF rfl) rfl hg13 ?_)
         exact aB.g1 rfl (aF rfl) rfl hg12 (cJ (aF rfl) rfl hg13 rfl) (aB.g1 rfl (aF rfl) rfl hg11 (cJ (aF rfl) rfl hg12 rfl) (aB.c1 rfl (cC (aF rfl) rfl hg11 rfl) (aB.run II 1 rfl (aB.nil (aC.region (aB.run II 3 rfl (aB.kept (Kept.aX 8 rfl (inc (by omega)) (Kept.aH [.s 8, .s 3, .s 4, .t 79, .h, .s 1, .b 1] rfl (by decide) (Kept.now (⟨(i + 1, _, _), (by dsimp only; omega), ⟨ha2, by clear ha ha2 hn; grind⟩, rfl⟩)))))))))))
        ·iterate 2 (refine aB.g1 rfl (aF rfl) rfl hg13 (fx (aF rfl) rfl) ?_)
         refine aB.g1 rfl (aF rfl) rfl hg13 (l5 (aF rfl) rK rfl) (aB.g1 rfl (aF rfl) rfl hg13 (bI (aF rfl) rfl rfl rfl) (aB.g1 rfl (aF rfl) rfl hg13 (aI (aF rfl) cA rfl rfl (by rw [List.length_map, qB (by have := of_decide_eq_true hg12; rw [List.length_map] at this; omega) (by omega)]; exact Int.natCast_nonneg _) (yX (i := (s.msgs[i]'hi).ab.length - 1) (by rw [List.length_map]; exact qB (by have := of_decide_eq_true hg12; rw [List.length_map] at this; omega) (by omega)) (by have := of_decide_eq_true hg12; rw [List.length_map] at this; omega)) rfl) ?_))
         exact aB.g1 rfl (aF rfl) rfl hg13 (mP (aF rfl) de rfl rfl) (aB.g1 rfl (aF rfl) rfl hg13 (bI (aF rfl) rfl rfl rfl) (aB.g1 rfl (aF rfl) rfl hg12 (cC (aF rfl) rfl hg13 rfl) (aB.g1 rfl (aF rfl) rfl hg11 (cJ (aF rfl) rfl hg12 rfl) (aB.c1 rfl (cC (aF rfl) rfl hg11 rfl) (aB.run II 1 rfl (aB.nil (aC.region (aB.run II 3 rfl (aB.kept (Kept.aX 8 rfl (inc (by omega)) (Kept.aH [.s 8, .s 3, .s 4, .t 79, .h, .s 1, .b 1] rfl (by decide) (Kept.now (⟨(i + 1, _, _), (by dsimp only; omega), ⟨ha2, by clear ha ha2 hn; grind⟩, rfl⟩)))))))))))))
       ·iterate 5 (refine aB.iQ rfl rfl (aF rfl) (aF rfl) rfl hg12 ?_)
        exact aB.run II 7 rfl (aB.iQ rfl rfl (aF rfl) (aF rfl) rfl hg12 (aB.g1 rfl (aF rfl) rfl hg11 (cC (aF rfl) rfl hg12 rfl) (aB.c1 rfl (cC (aF rfl) rfl hg11 rfl) (aB.run II 1 rfl (aB.nil (aC.region (aB.run II 3 rfl (aB.kept (Kept.aX 8 rfl (inc (by omega)) (Kept.aH [.s 8, .s 3, .s 4, .t 79, .h, .s 1, .b 1] rfl (by decide) (Kept.now (⟨(i + 1, _, _), (by dsimp only; omega), ⟨ha2, by clear ha ha2 hn; grind⟩, rfl⟩))))))))))))
   ·have hi := ck hc7
    have hS := bq (p := aU.order) hi
    have hT := fX hi
    refine aC.exit (aC.seq (aC.region (aB.run II 2 rfl (aB.split (d := 142) rfl (fun hg14 => ?_) (fun hg14 => ?_)))))
    ·iterate 3 (refine aB.iQ rfl rfl (aF rfl) (aF rfl) rfl hg14 ?_)
     exact aB.c1 rfl (cJ (aF rfl) rfl hg14 rfl) (aB.run II 1 rfl (aB.nil (aC.ret ⟨.inr rfl, (aE.r1 rfl (.tmp rfl .nil)).cast (congrArg AV.bool (by grind [aM.order])), rfl⟩)))
    ·refine aB.g1 rfl (aF rfl) rfl hg14 (fx (aF rfl) rfl) (aB.g1 rfl (aF rfl) rfl hg14 (aG (aF rfl) Au rfl ((wO ((s.msgs.drop 1).map (·.name)) (by simp; omega)).at (by rw [ha, hT]; simp [Function.comp_def]))) ?_)
     exact aB.g1 rfl (aF rfl) rfl hg14 (oX (aF rfl) rfl rfl) (aB.c1 rfl (cC (aF rfl) rfl hg14 rfl) (aB.run II 1 rfl (aB.nil (aC.ret ⟨.inr rfl, (aE.r1 rfl (.tmp rfl .nil)).cast (congrArg AV.bool (by grind [aM.order])), rfl⟩))))
/- the document: a schema checked; values: how great, the same, how deep. -/
theorem BC : aa Tryz.prog 21 = true := by kernel_rfl
theorem GP : aa Tryz.prog 31 = true := by kernel_rfl
theorem GO : aa Tryz.prog 32 = true := by kernel_rfl
theorem GN : aa Tryz.prog 33 = true := by kernel_rfl
theorem GM : aa Tryz.prog 34 = true := by kernel_rfl
theorem GL : aa Tryz.prog 35 = true := by kernel_rfl
theorem GK : aa Tryz.prog 36 = true := by kernel_rfl
theorem GJ : aa Tryz.prog 37 = true := by kernel_rfl
theorem GI : aa Tryz.prog 38 = true := by kernel_rfl
theorem vY : ie Tryz.prog 40 = some 2 := by kernel_rfl
theorem iI : ie Tryz.prog 42 = some 2 := by kernel_rfl
theorem vX : ie Tryz.prog 43 = some 4 := by kernel_rfl
theorem m5 : ie Tryz.prog 81 = some 3 := by kernel_rfl
theorem wQ (s : aM) (hs : s.fT) : Pure Tryz.prog 22 [s.av] (.int .i64 s.fu) := by
 refine Pure.aN Tryz.func22 rfl rfl (aF rfl) fun H => (aC.seq (aC.region (aB.run II 2 rfl (aB.nil (aC.seq (aC.seq (aC.region (aB.run II 1 rfl (aB.c1 rfl (aG (aF rfl) GP rfl (E7 _ hs)) (aB.nil (aC.cond rfl (fun hc1 => ?_) (fun hc1 => ?_))))))))))))
 ·exact aC.seq (aC.region (aB.run II 1 rfl (aB.nil (aC.ret ⟨.inr rfl, (aE.r1 rfl (.tmp rfl .nil)).cast (congrArg (AV.int .i64) (by grind [aM.fu])), rfl⟩))))
 ·have hs2 := aM.Dk hc1
  refine aC.skip (aC.seq (aC.seq (aC.region (aB.run II 1 rfl (aB.c1 rfl (aG (aF rfl) GO rfl (E5 _ hs2)) (aB.nil (aC.cond rfl (fun hc2 => ?_) (fun hc2 => ?_))))))))
  ·exact aC.seq (aC.region (aB.run II 1 rfl (aB.nil (aC.ret ⟨.inr rfl, (aE.r1 rfl (.tmp rfl .nil)).cast (congrArg (AV.int .i64) (by grind [aM.fu])), rfl⟩))))
  ·have hn2 := (aM.wb hc2).2
   refine aC.skip (aC.seq (aC.seq (aC.region (aB.run II 1 rfl (aB.c1 rfl (aG (aF rfl) GN rfl (E2 _ hs2)) (aB.nil (aC.cond rfl (fun hc3 => ?_) (fun hc3 => ?_))))))))
   ·exact aC.seq (aC.region (aB.run II 1 rfl (aB.nil (aC.ret ⟨.inr rfl, (aE.r1 rfl (.tmp rfl .nil)).cast (congrArg (AV.int .i64) (by grind [aM.fu])), rfl⟩))))
   ·refine aC.skip (aC.seq (aC.seq (aC.region (aB.run II 1 rfl (aB.c1 rfl (aG (aF rfl) GM rfl (zX _ hs2)) (aB.run II 1 rfl (aB.nil (aC.seq (aC.region (aB.run II 2 rfl (aB.nil (aC.cond rfl (fun hc4 => ?_) (fun hc4 => ?_)))))))))))))
    ·exact aC.seq (aC.region (aB.run II 2 rfl (aB.nil (aC.ret ⟨.inr rfl, (aE.r1 rfl (.tmp rfl .nil)).cast (congrArg (AV.int .i64) (by grind [aM.fu])), rfl⟩))))
    ·refine aC.skip (aC.seq (aC.seq (aC.region (aB.run II 1 rfl (aB.c1 rfl (aG (aF rfl) GL rfl (CK _ hs2)) (aB.nil (aC.cond rfl (fun hc5 => ?_) (fun hc5 => ?_))))))))
     ·exact aC.seq (aC.region (aB.run II 1 rfl (aB.nil (aC.ret ⟨.inr rfl, (aE.r1 rfl (.tmp rfl .nil)).cast (congrArg (AV.int .i64) (by grind [aM.fu])), rfl⟩))))
     ·refine aC.skip (aC.seq (aC.seq (aC.region (aB.run II 1 rfl (aB.c1 rfl (aG (aF rfl) GK rfl (CR _ hs2 hn2)) (aB.nil (aC.cond rfl (fun hc6 => ?_) (fun hc6 => ?_))))))))
      ·exact aC.seq (aC.region (aB.run II 1 rfl (aB.nil (aC.ret ⟨.inr rfl, (aE.r1 rfl (.tmp rfl .nil)).cast (congrArg (AV.int .i64) (by grind [aM.fu])), rfl⟩))))
      ·refine aC.skip (aC.seq (aC.seq (aC.region (aB.run II 1 rfl (aB.c1 rfl (aG (aF rfl) GJ rfl (zZ _ hs2)) (aB.nil (aC.cond rfl (fun hc7 => ?_) (fun hc7 => ?_))))))))
       ·exact aC.seq (aC.region (aB.run II 1 rfl (aB.nil (aC.ret ⟨.inr rfl, (aE.r1 rfl (.tmp rfl .nil)).cast (congrArg (AV.int .i64) (by grind [aM.fu])), rfl⟩))))
       ·refine aC.skip (aC.seq (aC.seq (aC.region (aB.run II 1 rfl (aB.c1 rfl (aG (aF rfl) GI rfl (E3 _ hs2)) (aB.nil (aC.cond rfl (fun hc8 => ?_) (fun hc8 => ?_))))))))
        ·exact aC.seq (aC.region (aB.run II 1 rfl (aB.nil (aC.ret ⟨.inr rfl, (aE.r1 rfl (.tmp rfl .nil)).cast (congrArg (AV.int .i64) (by grind [aM.fu])), rfl⟩))))
        ·exact aC.skip (aC.seq (aC.region (aB.run II 1 rfl (aB.nil (aC.ret ⟨.inr rfl, (aE.r1 rfl (.tmp rfl .nil)).cast (congrArg (AV.int .i64) (by grind [aM.fu])), rfl⟩)))))
theorem CX (t : Tree) (hb : t.fT) (ih : ∀ x ∈ t.ak, ∀ v ∈ x.cI, ∀ u ∈ v.m, ∀ n d : Int, Pure Tryz.prog 21 [.agg u.cells, .int .i64 n, .int .i64 d] (.int .i64 (u.left n d))) (n d : Int) : Pure Tryz.prog 21 [.agg t.cells, .int .i64 n, .int .i64 d] (.int .i64 (t.left n d)) := by
 have hb1 := hb.here.s
 have hb2 := hb.here.r
 refine Pure.aN Tryz.func21 rfl rfl (aF rfl) fun H => (aC.seq (aC.region (aB.run II 2 rfl (aB.nil (aC.seq (aC.region (aB.run II 10 rfl (aB.nil (aC.seq (aC.seq (aC.region (aB.run II 2 rfl (aB.nil (aC.cond rfl (fun hc1 => ?_) (fun hc1 => ?_)))))))))))))))
 ·exact aC.seq (aC.region (aB.run II 1 rfl (aB.nil (aC.ret ⟨.inr rfl, (aE.r1 rfl (.tmp rfl .nil)).cast (congrArg (AV.int .i64) (by grind [Tree.left_eq, mX, mV, mW, iZ])), rfl⟩))))
 ·refine aC.skip (aC.c8 [.h, .s 2, .s 3, .b 3] (fun (m : Int) => [(.s 1, .sv (.v (.int .i64 m)))]) (fun (m : Int) => m = ju t.rest (gj (gj (n - (t.rest.length : Int)) - (t.ak.length : Int)))) rfl ?_ ?_)
  ·refine aC.seq (aC.region (aB.run II 1 rfl (aB.nil (aC.blk (aC.aJ (Kept.aH [.s 7, .s 1, .h, .s 2, .s 3, .b 3] rfl (by decide) (Kept.now (aC.aW (fun ((i, m) : Nat × Int) => [(.s 7, .sv (.v (.int .i64 (i : Int)))), (.s 1, .sv (.v (.int .i64 m)))]) _ (fun ((i, m) : Nat × Int) => ju (t.rest.drop i) m = ju t.rest (gj (gj (n - (t.rest.length : Int)) - (t.ak.length : Int)))) (fun ((i, m) : Nat × Int) => t.rest.length - i) (0, _) rfl (by simp) ?_))))))))
   rintro ⟨i, m⟩ hI
   refine aC.seq (aC.seq (aC.region (aB.run II 6 rfl (aB.tell (d := 27) rfl (fun hg2 => ?_) (fun hg2 => ?_)))))
   ·have hi := ch hg2
    have hS := @vN t.rest i m hi
    refine aB.run II 3 rfl (aB.nil (aC.cond rfl (fun hc3 => ?_) (fun hc3 => ?_)))
    ·exact aC.skip (aC.seq (aC.blk (aC.region (aB.run II 4 rfl (aB.c1 rfl (aI (aF rfl) vX rfl rfl (Int.natCast_nonneg _) (bz hi) rfl) (aB.run II 6 rfl (aB.nil (aC.region (aB.run II 3 rfl (aB.kept (Kept.aX 7 rfl (inc (by omega)) (Kept.aH [.s 7, .s 1, .h, .s 2, .s 3, .b 3] rfl (by decide) (Kept.now ⟨(i + 1, _), (by dsimp only; omega), by grind, rfl⟩)))))))))))))
    ·exact aC.aJ (Kept.aH [.s 1, .h, .s 2, .s 3, .b 3] rfl (by decide) (Kept.now (aC.exit ⟨_, by grind [iZ], rfl⟩)))
   ·have hi := ck hg2
    have hS := @yR t.rest i m hi
    exact aB.run II 3 rfl (aB.nil (aC.bR rfl rfl (aC.aJ (Kept.aH [.s 1, .h, .s 2, .s 3, .b 3] rfl (by decide) (Kept.now (aC.exit ⟨_, by grind [iZ], rfl⟩))))))
  ·rintro m hF8
   refine aC.seq (aC.seq (aC.region (aB.run II 1 rfl (aB.nil (aC.blk (aC.aJ (Kept.aH [.s 8, .s 1, .h, .s 2, .s 3, .b 3] rfl (by decide) (Kept.now (aC.aW (fun ((j, m) : Nat × Int) => [(.s 8, .sv (.v (.int .i64 (j : Int)))), (.s 1, .sv (.v (.int .i64 m)))]) _ (fun ((j, m) : Nat × Int) => jt (t.ak.drop j) m d = t.left n d) (fun ((j, m) : Nat × Int) => t.ak.length - j) (0, _) rfl (by rw [Tree.left_eq, if_neg (by have := of_decide_eq_false hc1; omega)]; grind) ?_)))))))))
   rintro ⟨j, m⟩ hI
   refine aC.seq (aC.seq (aC.region (aB.run II 6 rfl (aB.tell (d := 48) rfl (fun hg4 => ?_) (fun hg4 => ?_)))))
   ·have hj := ch hg4
    have hS := @vM t.ak j m d hj
    have hSl := Slot.left_eq (t.ak[j]'hj) m d
    have hv := hb.here.v _ (List.getElem_mem hj)
    refine aB.run II 3 rfl (aB.nil (aC.cond rfl (fun hc5 => ?_) (fun hc5 => ?_)))
    ·refine aC.skip (aC.seq (aC.blk (aC.seq (aC.region (aB.run II 4 rfl (aB.c1 rfl (aI (aF rfl) iI rfl rfl (Int.natCast_nonneg _) (ic Slot.dE hj) rfl) (aB.run II 5 rfl (aB.nil (aC.seq (aC.region (aB.run II 1 rfl (aB.nil (aC.blk (aC.aJ (Kept.aH [.s 9, .s 1, .h, .s 2, .s 3, .b 3, .s 8] rfl (by decide) (Kept.now (aC.aW (fun ((k, p) : Nat × Int) => [(.s 9, .sv (.v (.int .i64 (k : Int)))), (.s 1, .sv (.v (.int .i64 p)))]) _ (fun ((k, p) : Nat × Int) => jr ((t.ak[j]'hj).cI.drop k) p d = (t.ak[j]'hj).left m d) (fun ((k, p) : Nat × Int) => (t.ak[j]'hj).cI.length - k) (0, _) rfl (by rw [hSl]; simp) ?_)))))))))))))))))
     rintro ⟨k, p⟩ hI
     refine aC.seq (aC.seq (aC.region (aB.run II 4 rfl (aB.c1 rfl (aI (aF rfl) iI rfl rfl (Int.natCast_nonneg _) (ic Slot.dE hj) rfl) (aB.run II 5 rfl (aB.tell (d := 72) rfl (fun hg6 => ?_) (fun hg6 => ?_)))))))
     ·have hk := ch hg6
      have hT := @vK (t.ak[j]'hj).cI k p d hk
      have hVl := cf.left_eq ((t.ak[j]'hj).cI[k]'hk) p d
      have hm := hb.here.m _ (List.getElem_mem hj) _ (List.getElem_mem hk)
      refine aB.run II 3 rfl (aB.nil (aC.cond rfl (fun hc7 => ?_) (fun hc7 => ?_)))
      ·refine aC.skip (aC.seq (aC.blk (aC.seq (aC.region (aB.run II 4 rfl (aB.c1 rfl (aI (aF rfl) iI rfl rfl (Int.natCast_nonneg _) (ic Slot.dE hj) rfl) (aB.run II 3 rfl (aB.c1 rfl (aI (aF rfl) m5 rfl rfl (Int.natCast_nonneg _) (ic cf.dE hk) rfl) (aB.run II 6 rfl (aB.nil (aC.seq (aC.region (aB.run II 1 rfl (aB.nil (aC.blk (aC.aJ (Kept.aH [.s 10, .s 1, .h, .s 2, .s 3, .b 3, .s 8, .s 9] rfl (by decide) (Kept.now (aC.aW (fun ((l, q) : Nat × Int) => [(.s 10, .sv (.v (.int .i64 (l : Int)))), (.s 1, .sv (.v (.int .i64 q)))]) _ (fun ((l, q) : Nat × Int) => js (((t.ak[j]'hj).cI[k]'hk).m.drop l) q d = ((t.ak[j]'hj).cI[k]'hk).left p d) (fun ((l, q) : Nat × Int) => ((t.ak[j]'hj).cI[k]'hk).m.length - l) (0, _) rfl (by rw [hVl]; simp) ?_)))))))))))))))))))
       rintro ⟨l, q⟩ hI
       refine aC.seq (aC.seq (aC.region (aB.run II 4 rfl (aB.c1 rfl (aI (aF rfl) iI rfl rfl (Int.natCast_nonneg _) (ic Slot.dE hj) rfl) (aB.run II 3 rfl (aB.c1 rfl (aI (aF rfl) m5 rfl rfl (Int.natCast_nonneg _) (ic cf.dE hk) rfl) (aB.run II 5 rfl (aB.tell (d := 105) rfl (fun hg8 => ?_) (fun hg8 => ?_)))))))))
       ·have hl := ch hg8
        have hU := @vL ((t.ak[j]'hj).cI[k]'hk).m l q d hl
        refine aB.run II 3 rfl (aB.nil (aC.cond rfl (fun hc9 => ?_) (fun hc9 => ?_)))
        ·refine aC.skip (aC.seq (aC.blk (aC.region (aB.run II 3 rfl (aB.c1 rfl (aI (aF rfl) iI rfl rfl (Int.natCast_nonneg _) (ic Slot.dE hj) rfl) (aB.run II 3 rfl (aB.c1 rfl (aI (aF rfl) m5 rfl rfl (Int.natCast_nonneg _) (ic cf.dE hk) rfl) (aB.run II 3 rfl (aB.c1 rfl (aI (aF rfl) vY rfl rfl (Int.natCast_nonneg _) (ic Tree.dE hl) rfl) (aB.run II 5 rfl (aB.c1 rfl (aG (aF rfl) BC rfl (ih _ (List.getElem_mem hj) _ (List.getElem_mem hk) _ (List.getElem_mem hl) _ _)) (aB.run II 1 rfl (aB.nil (aC.region (aB.run II 3 rfl ?_)))))))))))))))
         exact aB.kept (Kept.aX 10 rfl (inc (by omega)) (Kept.aH [.s 10, .s 1, .h, .s 2, .s 3, .b 3, .s 8, .s 9] rfl (by decide) (Kept.now ⟨(l + 1, _), (by dsimp only; omega), by grind, rfl⟩)))
        ·exact aC.exit (aC.region (aB.run II 3 rfl (aB.kept (Kept.aX 9 rfl (inc (by omega)) (Kept.aH [.s 9, .s 1, .h, .s 2, .s 3, .b 3, .s 8] rfl (by decide) (Kept.now ⟨(k + 1, _), (by dsimp only; omega), by grind, rfl⟩))))))
       ·have hl := ck hg8
        have hU := @yP ((t.ak[j]'hj).cI[k]'hk).m l q d hl
        exact aB.run II 3 rfl (aB.nil (aC.bR rfl rfl (aC.exit (aC.region (aB.run II 3 rfl (aB.kept (Kept.aX 9 rfl (inc (by omega)) (Kept.aH [.s 9, .s 1, .h, .s 2, .s 3, .b 3, .s 8] rfl (by decide) (Kept.now ⟨(k + 1, _), (by dsimp only; omega), by grind, rfl⟩)))))))))
      ·exact aC.exit (aC.region (aB.run II 3 rfl (aB.kept (Kept.aX 8 rfl (inc (by omega)) (Kept.aH [.s 8, .s 1, .h, .s 2, .s 3, .b 3] rfl (by decide) (Kept.now ⟨(j + 1, _), (by dsimp only; omega), by grind, rfl⟩))))))
     ·have hk := ck hg6
      have hT := @yO (t.ak[j]'hj).cI k p d hk
      exact aB.run II 3 rfl (aB.nil (aC.bR rfl rfl (aC.exit (aC.region (aB.run II 3 rfl (aB.kept (Kept.aX 8 rfl (inc (by omega)) (Kept.aH [.s 8, .s 1, .h, .s 2, .s 3, .b 3] rfl (by decide) (Kept.now ⟨(j + 1, _), (by dsimp only; omega), by grind, rfl⟩)))))))))
    ·exact aC.exit (aC.seq (aC.region (aB.run II 2 rfl (aB.nil (aC.ret ⟨.inr rfl, (aE.r1 rfl (.tmp rfl .nil)).cast (congrArg (AV.int .i64) (by grind [Tree.left_eq, mX, mV, mW, iZ])), rfl⟩)))))
   ·have hj := ck hg4
    have hS := @yQ t.ak j m d hj
    exact aB.run II 3 rfl (aB.nil (aC.bR rfl rfl (aC.exit (aC.seq (aC.region (aB.run II 2 rfl (aB.nil (aC.ret ⟨.inr rfl, (aE.r1 rfl (.tmp rfl .nil)).cast (congrArg (AV.int .i64) (by grind [Tree.left_eq, mX, mV, mW, iZ])), rfl⟩))))))))
theorem E9 (t : Tree) (hb : t.fT) (n d : Int) : Pure Tryz.prog 21 [.agg t.cells, .int .i64 n, .int .i64 d] (.int .i64 (t.left n d)) :=
 Tree.ind (Q := fun t => t.fT → ∀ n d : Int, Pure Tryz.prog 21 [.agg t.cells, .int .i64 n, .int .i64 d] (.int .i64 (t.left n d))) (fun t ih hb n d => CX t hb (fun x hx v hv u hu => ih x hx v hv u hu (hb.sub hu hv hx)) n d) t hb n d
def Tree.small (t : Tree) : Bool := decide (0 ≤ t.left 400 40)
theorem sx (t : Tree) (hb : t.fT) : Pure Tryz.prog 14 [.agg t.cells] (.bool t.small) := by
 exact Pure.aN Tryz.func14 rfl rfl (aF rfl) fun H => (aC.seq (aC.region (aB.run II 2 rfl (aB.nil (aC.seq (aC.region (aB.run II 1 rfl (aB.c1 rfl (aG (aF rfl) BC rfl (E9 _ hb _ _)) (aB.run II 2 rfl (aB.nil (aC.ret ⟨.inr rfl, (aE.r1 rfl (.tmp rfl .nil)).cast rfl, rfl⟩)))))))))))
set_option maxHeartbeats 400000
/- the document: values: the same, how deep. -/
/- numbers of types, in the program and in the document. -/
theorem uL : Hi Tryz.prog 180 = some (16, 3, 1) := by kernel_rfl
theorem n7 : aa Tryz.prog 111 = true := by kernel_rfl
theorem n5 : aa Tryz.prog 112 = true := by kernel_rfl
theorem DS : aa Tryz.prog 113 = true := by kernel_rfl
theorem sJ : aa Tryz.prog 126 = true := by kernel_rfl
theorem Bf : bu Tryz.prog 180 = some [AV.int IntKind.i64 (0), AV.int IntKind.i64 (0), AV.int IntKind.i64 (0), AV.int IntKind.i64 (0), AV.int IntKind.i64 (0), AV.int IntKind.i64 (0), AV.int IntKind.i64 (0), AV.int IntKind.i64 (0), AV.int IntKind.i64 (0), AV.int IntKind.i64 (0), AV.int IntKind.i64 (0), AV.int IntKind.i64 (0), AV.int IntKind.i64 (0), AV.int IntKind.i64 (0), AV.int IntKind.i64 (0), AV.int IntKind.i64 (0)] := by kernel_rfl
theorem Ee (z : Int) : Pure Tryz.prog 113 [.int .i64 z] (.bool (j7 z)) := by
 refine Pure.aN Tryz.func113 rfl rfl (aF rfl) fun H => (aC.seq (aC.region (aB.run II 1 rfl (aB.nil (aC.seq (aC.region (aB.run II 3 rfl (aB.tell (d := 5) rfl (fun hg1 => ?_) (fun hg1 => ?_)))))))))
 ·exact aB.run II 4 rfl (aB.nil (aC.ret ⟨.inr rfl, (aE.r1 rfl (.tmp rfl .nil)).cast (congrArg AV.bool (by grind [j7])), rfl⟩))
 ·exact aB.run II 4 rfl (aB.nil (aC.ret ⟨.inr rfl, (aE.r1 rfl (.tmp rfl .nil)).cast (congrArg AV.bool (by grind [j7])), rfl⟩))
theorem Gw (t : Int) (n : Nat) : Pure Tryz.prog 98 [.int .i64 t, .int .u64 (n : Int)] (.bool (ld t n)) := by
 refine Pure.aN Tryz.func98 rfl rfl (aF rfl) fun H => (aC.seq (aC.region (aB.run II 1 rfl (aB.nil (aC.seq (aC.seq (aC.region (aB.run II 3 rfl (aB.tell (d := 7) rfl (fun hg1 => ?_) (fun hg1 => ?_))))))))))
 ·exact aB.run II 3 rfl (aB.nil (aC.bG rfl rfl (aC.seq (aC.region (aB.run II 1 rfl (aB.nil (aC.ret ⟨.inr rfl, (aE.r1 rfl (.tmp rfl .nil)).cast (congrArg AV.bool (by grind [ld, CA, j7])), rfl⟩)))))))
 ·refine aB.run II 3 rfl (aB.nil (aC.cond rfl (fun hc2 => ?_) (fun hc2 => ?_)))
  ·exact aC.seq (aC.region (aB.run II 1 rfl (aB.nil (aC.ret ⟨.inr rfl, (aE.r1 rfl (.tmp rfl .nil)).cast (congrArg AV.bool (by grind [ld, CA, j7])), rfl⟩))))
  ·refine aC.skip (aC.seq (aC.seq (aC.region (aB.run II 1 rfl (aB.c1 rfl (aG (aF rfl) n7 rfl (nO _)) (aB.nil (aC.cond rfl (fun hc3 => ?_) (fun hc3 => ?_))))))))
   ·exact aC.seq (aC.region (aB.run II 1 rfl (aB.nil (aC.ret ⟨.inr rfl, (aE.r1 rfl (.tmp rfl .nil)).cast (congrArg AV.bool (by grind [ld, CA, j7])), rfl⟩))))
   ·refine aC.skip (aC.seq (aC.seq (aC.region (aB.run II 1 rfl (aB.c1 rfl (aG (aF rfl) n5 rfl (nP _)) (aB.nil (aC.cond rfl (fun hc4 => ?_) (fun hc4 => ?_))))))))
    ·exact aC.seq (aC.region (aB.run II 2 rfl (aB.c1 rfl (aG (aF rfl) DS rfl (Ee _)) (aB.run II 1 rfl (aB.nil (aC.ret ⟨.inr rfl, (aE.r1 rfl (.tmp rfl .nil)).cast (congrArg AV.bool (by grind [ld, CA, j7])), rfl⟩))))))
    ·refine aC.skip (aC.seq (aC.seq (aC.region (aB.run II 3 rfl (aB.tell (d := 20) rfl (fun hg5 => ?_) (fun hg5 => ?_))))))
     ·exact aB.run II 3 rfl (aB.nil (aC.bG rfl rfl (aC.seq (aC.region (aB.run II 3 rfl (aB.nil (aC.ret ⟨.inr rfl, (aE.r1 rfl (.tmp rfl .nil)).cast (congrArg AV.bool (by grind [ld, CA, j7])), rfl⟩)))))))
     ·refine aB.run II 3 rfl (aB.nil (aC.cond rfl (fun hc6 => ?_) (fun hc6 => ?_)))
      ·exact aC.seq (aC.region (aB.run II 3 rfl (aB.nil (aC.ret ⟨.inr rfl, (aE.r1 rfl (.tmp rfl .nil)).cast (congrArg AV.bool (by grind [ld, CA, j7])), rfl⟩))))
      ·refine aC.skip (aC.seq (aC.seq (aC.region (aB.run II 2 rfl (aB.nil (aC.cond rfl (fun hc7 => ?_) (fun hc7 => ?_)))))))
       ·exact aC.seq (aC.region (aB.run II 3 rfl (aB.nil (aC.ret ⟨.inr rfl, (aE.r1 rfl (.tmp rfl .nil)).cast (congrArg AV.bool (by grind [ld, CA, j7])), rfl⟩))))
       ·exact aC.skip (aC.seq (aC.region (aB.run II 3 rfl (aB.nil (aC.ret ⟨.inr rfl, (aE.r1 rfl (.tmp rfl .nil)).cast (congrArg AV.bool (by grind [ld, CA, j7])), rfl⟩)))))
theorem ur (t : Int) : Pure Tryz.prog 126 [.int .i64 t] (.int .i64 (oz t)) := by
 refine Pure.aN Tryz.func126 rfl rfl (aF rfl) fun H => (aC.seq (aC.region (aB.run II 1 rfl (aB.nil (aC.seq (aC.seq (aC.region (aB.run II 3 rfl (aB.tell (d := 5) rfl (fun hg1 => ?_) (fun hg1 => ?_))))))))))
 ·exact aB.run II 3 rfl (aB.nil (aC.bG rfl rfl (aC.seq (aC.region (aB.run II 1 rfl (aB.nil (aC.ret ⟨.inr rfl, (aE.r1 rfl (.tmp rfl .nil)).cast (congrArg (AV.int .i64) (by grind [gK])), rfl⟩)))))))
 ·refine aB.run II 3 rfl (aB.nil (aC.cond rfl (fun hc2 => ?_) (fun hc2 => ?_)))
  ·exact aC.seq (aC.region (aB.run II 1 rfl (aB.nil (aC.ret ⟨.inr rfl, (aE.r1 rfl (.tmp rfl .nil)).cast (congrArg (AV.int .i64) (by grind [gK])), rfl⟩))))
  ·exact aC.skip (aC.seq (aC.region (aB.c1 rfl (Cl (aF rfl) uL Bf rfl rfl) (aB.run II 1 rfl (aB.c1 rfl (FL (aF rfl) uL de rfl rfl (by grind) (by grind) (yW (by grind) (by grind))) (aB.run II 1 rfl (aB.nil (aC.ret ⟨.inr rfl, (aE.r1 rfl (.tmp rfl .nil)).cast (congrArg (AV.int .i64) (by grind [gK])), rfl⟩))))))))
theorem tJ (t : Int) : Pure Tryz.prog 118 [.int .i64 t] (.bool (cW t)) := by
 exact Pure.aN Tryz.func118 rfl rfl (aF rfl) fun H => (aC.seq (aC.region (aB.run II 1 rfl (aB.nil (aC.seq (aC.region (aB.run II 1 rfl (aB.c1 rfl (aG (aF rfl) sJ rfl (ur _)) (aB.run II 3 rfl (aB.nil (aC.ret ⟨.inr rfl, (aE.r1 rfl (.tmp rfl .nil)).cast (congrArg AV.bool (vS t)), rfl⟩)))))))))))
theorem wV (t : Int) : Pure Tryz.prog 119 [.int .i64 t] (.bool (eO t)) := by
 exact Pure.aN Tryz.func119 rfl rfl (aF rfl) fun H => (aC.seq (aC.region (aB.run II 1 rfl (aB.nil (aC.seq (aC.region (aB.run II 1 rfl (aB.c1 rfl (aG (aF rfl) sJ rfl (ur _)) (aB.run II 3 rfl (aB.nil (aC.ret ⟨.inr rfl, (aE.r1 rfl (.tmp rfl .nil)).cast (congrArg AV.bool (yV t)), rfl⟩)))))))))))
theorem C8 (t : Int) : Pure Tryz.prog 117 [.int .i64 t] (.bool (iN t)) := by
 exact Pure.aN Tryz.func117 rfl rfl (aF rfl) fun H => (aC.seq (aC.region (aB.run II 1 rfl (aB.nil (aC.seq (aC.region (aB.run II 1 rfl (aB.c1 rfl (aG (aF rfl) sJ rfl (ur _)) (aB.run II 3 rfl (aB.nil (aC.ret ⟨.inr rfl, (aE.r1 rfl (.tmp rfl .nil)).cast (congrArg AV.bool (yU t)), rfl⟩)))))))))))
open Go Go.RowKit
/- Plain laws: which values are values of a message of a schema. No condition. -/
theorem bB {α : Type} (p : α → Bool) : ∀ (l : List α) (k : Nat), (bU p l k = -1 ∧ l.find? p = none) ∨ ∃ (i : Nat) (h : i < l.length), bU p l k = ((k + i : Nat) : Int) ∧ l.find? p = some l[i] ∧ p l[i] = true
 | [], k => .inl ⟨rfl, rfl⟩
 | a :: l, k => by
  by_cases h : p a = true
  ·refine .inr ⟨0, by simp, ?_, ?_, h⟩
   ·simp [bU, h]
   ·simp [h]
  ·have h' : p a = false := by simpa using h
   rcases bB p l (k + 1) with ⟨h1, h2⟩ | ⟨i, hi, h1, h2, h3⟩
   ·exact .inl ⟨by simp [bU, h', h1], by simp [h', h2]⟩
   ·exact .inr ⟨i + 1, by simp; omega, by simp [bU, h', h1]; omega, by simp [h', h2], by simpa using h3⟩
def aU.fix (m : aU) (num : Int) : Option ag := m.fields.find? (fun f => f.num == num)
def aU.at (m : aU) (num : Int) : Int := bU (fun f : ag => f.num == num) m.fields 0
theorem aU.kG (m : aU) (num : Int) : (m.at num = -1 ∧ m.fix num = none) ∨ ∃ (i : Nat) (h : i < m.fields.length), m.at num = (i : Int) ∧ m.fix num = some m.fields[i] ∧ m.fields[i].num = num := by
 rcases bB (fun f : ag => f.num == num) m.fields 0 with h | ⟨i, h, h1, h2, h3⟩
 ·exact .inl h
 ·exact .inr ⟨i, h, by simpa [aU.at] using h1, h2, by simpa using h3⟩
def aU.dp (m : aU) (num : Int) : Nat := (m.at num).toNat
theorem aU.EI {m : aU} {num : Int} (h : decide (m.at num < 0) = false) : 0 ≤ m.at num := by have := of_decide_eq_false h; omega
theorem aU.EJ {m : aU} {num : Int} (h : decide (m.at num < 0) = false) : m.at num = (m.dp num : Int) := by have := of_decide_eq_false h; unfold aU.dp; omega
theorem aU.fA {m : aU} {num : Int} (h : decide (m.at num < 0) = false) : m.dp num < m.fields.length := by
 have h := of_decide_eq_false h
 rcases m.kG num with ⟨h1, _⟩ | ⟨i, hi, h1, _⟩
 ·omega
 ·unfold aU.dp; rw [h1]; simpa using hi
theorem aU.mb {m : aU} {num : Int} (h : decide (m.at num < 0) = false) : m.fix num = some (m.fields[m.dp num]'(aU.fA h)) := by
 have h' := of_decide_eq_false h
 rcases m.kG num with ⟨h1, _⟩ | ⟨i, hi, h1, h2, _⟩
 ·omega
 ·rw [h2]; congr 1; have : m.dp num = i := by unfold aU.dp; rw [h1]; simp
  simp [this]
theorem aU.EH {m : aU} {num : Int} (h : decide (m.at num < 0) = true) : m.fix num = none := by
 have h := of_decide_eq_true h
 rcases m.kG num with ⟨h1, h2⟩ | ⟨i, hi, h1, _⟩
 ·exact h2
 ·omega
def aM.iV (s : aM) (name : aw) : Option aU := s.msgs.find? (fun m => m.name == name)
theorem aM.pA (s : aM) (name : aw) : (s.bD name = -1 ∧ s.iV name = Option.none) ∨ ∃ (i : Nat) (h : i < s.msgs.length), s.bD name = (i : Int) ∧ s.iV name = some s.msgs[i] ∧ s.msgs[i].name = name := by
 rcases bB (fun m : aU => m.name == name) s.msgs 0 with h | ⟨i, h, h1, h2, h3⟩
 ·exact .inl h
 ·exact .inr ⟨i, h, by simpa [aM.bD] using h1, h2, by simpa using h3⟩
def aM.dp (s : aM) (name : aw) : Nat := (s.bD name).toNat
theorem aM.HQ {s : aM} {name : aw} (h : decide (s.bD name < 0) = false) : 0 ≤ s.bD name := by have := of_decide_eq_false h; omega
theorem aM.HR {s : aM} {name : aw} (h : decide (s.bD name < 0) = false) : s.bD name = (s.dp name : Int) := by have := of_decide_eq_false h; unfold aM.dp; omega
theorem aM.bJ {s : aM} {name : aw} (h : decide (s.bD name < 0) = false) : s.dp name < s.msgs.length := by
 have h := of_decide_eq_false h
 rcases s.pA name with ⟨h1, _⟩ | ⟨i, hi, h1, _⟩
 ·omega
 ·unfold aM.dp; rw [h1]; simpa using hi
theorem aM.HS {s : aM} {name : aw} (h : decide (s.bD name < 0) = false) : s.iV name = some (s.msgs[s.dp name]'(aM.bJ h)) := by
 have h' := of_decide_eq_false h
 rcases s.pA name with ⟨h1, _⟩ | ⟨i, hi, h1, h2, _⟩
 ·omega
 ·rw [h2]; congr 1; have : s.dp name = i := by unfold aM.dp; rw [h1]; simp
  simp [this]
theorem aM.HP {s : aM} {name : aw} (h : decide (s.bD name < 0) = true) : s.iV name = Option.none := by
 have h := of_decide_eq_true h
 rcases s.pA name with ⟨h1, h2⟩ | ⟨i, hi, h1, _⟩
 ·exact h2
 ·omega
theorem Ir {b : Bool} (h : (!b) = true) : b = false := by cases b <;> simp_all
theorem Is {b : Bool} (h : (!b) = false) : b = true := by cases b <;> simp_all
structure aM.G4 (s : aM) : Prop where
 m : s.msgs.length ≤ 1000
 f : ∀ m ∈ s.msgs, m.fields.length ≤ 1000
 o : ∀ m ∈ s.msgs, ∀ f ∈ m.fields, f.one.length ≤ 1000
def ag.hidden (f : ag) : Bool := !f.rep && f.one == [] && !decide (f.ty = 15)
def Rw.right (r : Rw) : Bool := mj r.num r.wire && (if r.wire = 2 then decide (r.n = 0) else r.s == [] && (!decide (r.wire = 5) || decide (r.n < 4294967296)))
def jI (m : aU) (r : Rw) : Bool := r.right && (m.fix r.num).isNone
def aU.oneOf (m : aU) (x : Slot) : aw := ((m.fix x.num).map (·.one)).getD []
def rp (ones : List aw) (one : aw) : Bool := one == [] || !ones.any (· == one)
mutual
def cf.ok (s : aM) (f : ag) : cf → Bool
 | .mk n str m =>
  if vB f.ty then ld f.ty n && str == [] && decide (m.length = 0)
  else if f.ty = 12 then decide (n = 0) && decide (m.length = 0) && Lib.validD str
  else if f.ty = 13 then decide (n = 0) && decide (m.length = 0)
  else if f.ty = 15 then decide (n = 0) && str == [] && jB s f.ref m
  else false
def Slot.ok (s : aM) (m : aU) : Slot → Bool
 | .mk num vs => match m.fix num with
  | none => false
  | some f => decide (0 < vs.length) && (f.rep || decide (vs.length = 1)) && mE s f vs && (!f.hidden || (!decide ((vs.head?.map cf.n).getD 0 = 0) || !((vs.head?.map cf.s).getD [] == [])))
def Tree.ok (s : aM) (name : aw) : Tree → Bool
 | .mk ss r => match s.iV name with
  | none => false
  | some m => gn s m ss none [] && r.all (jI m)
def mE (s : aM) (f : ag) : List cf → Bool
 | [] => true
 | v :: l => v.ok s f && mE s f l
def gn (s : aM) (m : aU) : List Slot → Option Int → List aw → Bool
 | [], _, _ => true
 | x :: l, last, ones => (match last with | none => true | some n => decide (n < x.num)) && x.ok s m && rp ones (m.oneOf x) && gn s m l (some x.num) (ones ++ [m.oneOf x])
def jB (s : aM) (name : aw) : List Tree → Bool
 | [t] => t.ok s name
 | _ => false
end
theorem cf.ok_eq (s : aM) (f : ag) (v : cf) : v.ok s f = if vB f.ty then ld f.ty v.n && v.s == [] && decide (v.m.length = 0)
  else if f.ty = 12 then decide (v.n = 0) && decide (v.m.length = 0) && Lib.validD v.s
  else if f.ty = 13 then decide (v.n = 0) && decide (v.m.length = 0)
  else if f.ty = 15 then decide (v.n = 0) && v.s == [] && jB s f.ref v.m
  else false := by cases v; simp only [cf.ok, cf.n, cf.s, cf.m]; rfl
theorem Slot.ok_eq (s : aM) (m : aU) (x : Slot) : x.ok s m = match m.fix x.num with
  | none => false
  | some f => decide (0 < x.cI.length) && (f.rep || decide (x.cI.length = 1)) && mE s f x.cI && (!f.hidden || (!decide ((x.cI.head?.map cf.n).getD 0 = 0) || !((x.cI.head?.map cf.s).getD [] == []))) := by
 cases x; simp only [Slot.ok, Slot.num, Slot.cI]; rfl
theorem Tree.ok_eq (s : aM) (name : aw) (t : Tree) : t.ok s name = match s.iV name with
  | none => false
  | some m => gn s m t.ak none [] && t.rest.all (jI m) := by cases t; simp only [Tree.ok, Tree.ak, Tree.rest]
theorem sg (s : aM) (name : aw) {l : List Tree} (h : l.length = 1) : jB s name l = (l[0]'(by omega)).ok s name := by
 match l, h with
 | [t], _ => simp [jB]
theorem u0 (s : aM) (name : aw) {l : List Tree} (h : l.length ≠ 1) : jB s name l = false := by
 match l, h with
 | [], _ => simp [jB]
 | _ :: _ :: _, _ => simp [jB]
theorem uX (s : aM) (f : ag) (l : List cf) : mE s f l = l.all (cf.ok s f) := by
 induction l with
 | nil => simp [mE]
 | cons v l ih => simp [mE, ih]
def jv (l : List Slot) (i : Nat) : Option Int := if h : 0 < i ∧ i ≤ l.length then some (l[i - 1]'(by omega)).num else none
theorem vQ {l : List Slot} {i : Nat} (h : i < l.length) : jv l (i + 1) = some l[i].num := by
 unfold jv; rw [dif_pos ⟨by omega, by omega⟩]; simp
theorem vP (l : List Slot) : jv l 0 = none := by unfold jv; simp
theorem mY {l : List Slot} {i : Nat} (h0 : 0 < i) (h : i < l.length) : jv l i = some (l[i - 1]'(by omega)).num := by
 unfold jv; rw [dif_pos ⟨h0, by omega⟩]
theorem Slot.Dz {s : aM} {m : aU} {x : Slot} (h : x.ok s m = true) : decide (m.at x.num < 0) = false := by
 by_cases hd : decide (m.at x.num < 0) = true
 ·rw [Slot.ok_eq, aU.EH hd] at h; cases h
 ·simpa using hd
theorem HW {l : List cf} (h : 0 < l.length) : (l.head?.map cf.n).getD 0 = l[0].n := by cases l with | nil => simp at h | cons a l => rfl
theorem HV {l : List cf} (h : 0 < l.length) : (l.head?.map cf.s).getD [] = l[0].s := by cases l with | nil => simp at h | cons a l => rfl
theorem od {m : aU} {l : List Slot} {one : aw} : rp (l.map m.oneOf) one = !(l.any fun y => !(one == []) && (m.oneOf y == one)) := by
 unfold rp
 by_cases h : one = []
 ·subst h; simp
 ·have h' : (one == []) = false := by simpa using h
  rw [h']; simp [List.any_map, Function.comp_def]
theorem yE {m : aU} {x : Slot} {f : ag} (h : m.fix x.num = some f) : m.oneOf x = f.one := by unfold aU.oneOf; rw [h]; rfl
def gp (s : aM) (m : aU) (l : List Slot) (i : Nat) : Bool := gn s m (l.drop i) (jv l i) ((l.take i).map m.oneOf)
theorem rT {s : aM} {m : aU} {l : List Slot} {i : Nat} (h : i < l.length) : gp s m l i = ((match jv l i with | none => true | some n => decide (n < l[i].num)) && l[i].ok s m && rp ((l.take i).map m.oneOf) (m.oneOf l[i]) && gp s m l (i + 1)) := by
 unfold gp
 rw [List.drop_eq_getElem_cons h, vQ h, List.take_succ_eq_append_getElem h, List.map_append]
 simp [gn]
theorem sn {s : aM} {m : aU} {l : List Slot} {i : Nat} (h : l.length ≤ i) : gp s m l i = true := by
 unfold gp; rw [List.drop_of_length_le h]; simp [gn]
theorem rS (s : aM) (m : aU) (l : List Slot) : gp s m l 0 = gn s m l none [] := by
 unfold gp jv; simp
theorem oB : ∀ {l1 l2 : List Int}, l1.Pairwise (· < ·) → (∀ a ∈ l1, a ∈ l2) → l1.length ≤ l2.length
 | [], _, _, _ => by simp
 | a :: l1, l2, h, hs => by
  have ha : a ∈ l2 := hs a (by simp)
  have h2 := List.pairwise_cons.1 h
  have := oB (l1 := l1) (l2 := l2.erase a) h2.2 fun b hb => (List.mem_erase_of_ne (by have := h2.1 b hb; omega)).2 (hs b (by simp [hb]))
  rw [List.length_erase_of_mem ha] at this
  have : 0 < l2.length := List.length_pos_of_mem ha
  simp; omega
structure lg (m : aU) (l : List Slot) (i : Nat) : Prop where
 le : i ≤ l.length
 kn : ∀ x ∈ l.take i, (m.fix x.num).isSome = true
 up : ((l.take i).map Slot.num).Pairwise (· < ·)
theorem lg.zero (m : aU) (l : List Slot) : lg m l 0 := ⟨by omega, by simp, by simp⟩
theorem lg.step {m : aU} {l : List Slot} {i : Nat} (g : lg m l i) (h : i < l.length) (hl : (match jv l i with | none => true | some n => decide (n < l[i].num)) = true) (hf : (m.fix l[i].num).isSome = true) : lg m l (i + 1) := by
 refine ⟨h, fun x hx => ?_, ?_⟩
 ·rw [List.take_succ_eq_append_getElem h] at hx
  rcases List.mem_append.1 hx with hx | hx
  ·exact g.kn x hx
  ·rw [List.mem_singleton.1 hx]; exact hf
 ·rw [List.take_succ_eq_append_getElem h, List.map_append, List.pairwise_append]
  refine ⟨g.up, by simp, fun a ha b hb => ?_⟩
  simp at hb
  subst hb
  by_cases h0 : 0 < i
  ·rw [mY h0 h] at hl
   have hlt : (l[i - 1]'(by omega)).num < l[i].num := by simpa using hl
   obtain ⟨j, hj, rfl⟩ := List.getElem_of_mem ha
   rw [List.length_map, List.length_take] at hj
   by_cases hji : j = i - 1
   ·subst hji; simpa using hlt
   ·have hp := List.pairwise_iff_getElem.1 g.up j (i - 1) (by simp; omega) (by simp; omega) (by omega)
    simp at hp
    simp
    omega
  ·have : i = 0 := by omega
   subst this
   simp at ha
theorem lg.len {m : aU} {l : List Slot} {i : Nat} (g : lg m l i) : i ≤ m.fields.length := by
 have h1 := oB (l2 := m.fields.map (·.num)) g.up fun a ha => by
  obtain ⟨x, hx, rfl⟩ := List.mem_map.1 ha
  have hk := g.kn x hx
  rcases m.kG x.num with ⟨_, h2⟩ | ⟨q, hq, _, h2, h3⟩
  ·rw [h2] at hk; cases hk
  ·exact List.mem_map.2 ⟨_, List.getElem_mem hq, h3⟩
 rw [List.length_map, List.length_map, List.length_take] at h1
 have := g.le
 omega
theorem Slot.Cs {s : aM} {m : aU} {x : Slot} (h : x.ok s m = true) : (m.fix x.num).isSome = true := by
 rw [aU.mb (Slot.Dz h)]; rfl
/- fields and places, in the program and in the document. -/
theorem DM : aa Tryz.prog 125 = true := by kernel_rfl
theorem zW (f : ag) : Pure Tryz.prog 124 [f.av] (.bool f.hidden) := by
 refine Pure.aN Tryz.func124 rfl rfl (aF rfl) fun H => (aC.seq (aC.region (aB.run II 2 rfl (aB.nil (aC.seq (aC.region (aB.run II 4 rfl (aB.tell (d := 6) rfl (fun hg1 => ?_) (fun hg1 => ?_)))))))))
 ·refine aB.run II 5 rfl (aB.tell (d := 11) rfl (fun hg2 => ?_) (fun hg2 => ?_))
  ·exact aB.run II 5 rfl (aB.nil (aC.ret ⟨.inr rfl, (aE.r1 rfl (.tmp rfl .nil)).cast (congrArg AV.bool (by grind [ag.hidden])), rfl⟩))
  ·exact aB.run II 5 rfl (aB.nil (aC.ret ⟨.inr rfl, (aE.r1 rfl (.tmp rfl .nil)).cast (congrArg AV.bool (by grind [ag.hidden])), rfl⟩))
 ·exact aB.run II 10 rfl (aB.nil (aC.ret ⟨.inr rfl, (aE.r1 rfl (.tmp rfl .nil)).cast (congrArg AV.bool (by grind [ag.hidden])), rfl⟩))
theorem lV (m : aU) (num : Int) (hl : m.fields.length ≤ 1000) : Pure Tryz.prog 102 [m.av, .int .i64 num] (.int .i64 (m.at num)) := by
 refine Pure.aN Tryz.func102 rfl rfl (aF rfl) fun H => (aC.seq (aC.region (aB.run II 2 rfl (aB.nil (aC.seq (aC.seq (aC.region (aB.run II 1 rfl (aB.nil (aC.blk (aC.aJ (Kept.aH [.s 5, .h, .s 1, .s 2, .b 2] rfl (by decide) (Kept.now (aC.aW (fun (i : Nat) => [(.s 5, .sv (.v (.int .i64 (i : Int))))]) _ (fun (i : Nat) => bU (fun f : ag => f.num == num) (m.fields.drop i) i = m.at num) (fun (i : Nat) => m.fields.length - i) 0 rfl (by simp [aU.at]) ?_))))))))))))))
 rintro i hI
 refine aC.seq (aC.seq (aC.region (aB.run II 5 rfl (aB.nil (aC.cond rfl (fun hc1 => ?_) (fun hc1 => ?_))))))
 ·have hi := ch hc1
  have hS := cj (p := (fun f : ag => f.num == num)) hi
  refine aC.skip (aC.seq (aC.blk (aC.seq (aC.region (aB.run II 3 rfl (aB.c1 rfl (aI (aF rfl) bQ rfl rfl (Int.natCast_nonneg _) (bz hi) rfl) (aB.run II 4 rfl (aB.nil (aC.cond rfl (fun hc2 => ?_) (fun hc2 => ?_))))))))))
  ·exact aC.seq (aC.region (aB.run II 2 rfl (aB.nil (aC.ret ⟨.inr rfl, (aE.r1 rfl (.tmp rfl .nil)).cast (congrArg (AV.int .i64) (by grind [aU.at])), rfl⟩))))
  ·exact aC.skip (aC.region (aB.run II 3 rfl (aB.kept (Kept.aX 5 rfl (inc (by omega)) (Kept.aH [.s 5, .h, .s 1, .s 2, .b 2] rfl (by decide) (Kept.now ⟨i + 1, by omega, by grind, rfl⟩))))))
 ·have hi := ck hc1
  have hS := eN (p := (fun f : ag => f.num == num)) hi
  exact aC.exit (aC.seq (aC.region (aB.run II 1 rfl (aB.nil (aC.ret ⟨.inr rfl, (aE.r1 rfl (.tmp rfl .nil)).cast (congrArg (AV.int .i64) (by grind [aU.at])), rfl⟩)))))
theorem zR (r : Rw) : Pure Tryz.prog 116 [r.av] (.bool r.right) := by
 refine Pure.aN Tryz.func116 rfl rfl (aF rfl) fun H => (aC.seq (aC.region (aB.run II 2 rfl (aB.nil (aC.seq (aC.seq (aC.region (aB.run II 4 rfl (aB.c1 rfl (aG (aF rfl) DM rfl (CN _ _)) (aB.run II 1 rfl (aB.nil (aC.cond rfl (fun hc1 => ?_) (fun hc1 => ?_)))))))))))))
 ·exact aC.seq (aC.region (aB.run II 1 rfl (aB.nil (aC.ret ⟨.inr rfl, (aE.r1 rfl (.tmp rfl .nil)).cast (congrArg AV.bool (by grind [Rw.right])), rfl⟩))))
 ·refine aC.skip (aC.seq (aC.seq (aC.region (aB.run II 3 rfl (aB.nil (aC.cond rfl (fun hc2 => ?_) (fun hc2 => ?_)))))))
  ·exact aC.seq (aC.region (aB.run II 4 rfl (aB.nil (aC.ret ⟨.inr rfl, (aE.r1 rfl (.tmp rfl .nil)).cast (congrArg AV.bool (by grind [Rw.right])), rfl⟩))))
  ·refine aC.skip (aC.seq (aC.region (aB.run II 4 rfl (aB.tell (d := 18) rfl (fun hg3 => ?_) (fun hg3 => ?_)))))
   ·refine aB.run II 4 rfl (aB.tell (d := 22) rfl (fun hg4 => ?_) (fun hg4 => ?_))
    ·exact aB.run II 6 rfl (aB.nil (aC.ret ⟨.inr rfl, (aE.r1 rfl (.tmp rfl .nil)).cast (congrArg AV.bool (by grind [Rw.right])), rfl⟩))
    ·exact aB.run II 6 rfl (aB.nil (aC.ret ⟨.inr rfl, (aE.r1 rfl (.tmp rfl .nil)).cast (congrArg AV.bool (by grind [Rw.right])), rfl⟩))
   ·exact aB.run II 10 rfl (aB.nil (aC.ret ⟨.inr rfl, (aE.r1 rfl (.tmp rfl .nil)).cast (congrArg AV.bool (by grind [Rw.right])), rfl⟩))
end Go.Proofs.YtpifnegikoldmaaGreatDoor.X
