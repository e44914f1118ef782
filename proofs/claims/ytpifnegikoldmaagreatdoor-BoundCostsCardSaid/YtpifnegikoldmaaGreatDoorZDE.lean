/- unicode/utf8.ValidString: the library's contract laid at this program. No condition. -/
import Derived.Test.YtpifnegikoldmaaGreatDoorZDD
import Derived.Shelf.Unicode.ValidAny
import Derived.Test.YtpifnegikoldmaaGreatDoorZDC
namespace Go.Proofs
open Go.Shelf
def Tryz.ox : Go.Shelf.Ren := ⟨fun | 196 => 99 | 259 => 114 | n => n, fun | 0 => 0 | 3 => 3 | 4 => 4 | 5 => 5 | 9 => 9 | 12 => 12 | 46 => 174 | 53 => 62 | 119 => 170 | 138 => 172 | 139 => 173 | n => n, fun | 3 => 0 | 4 => 1 | n => n⟩
theorem Tryz.A4 : Go.Proofs.Lays.n196 Tryz.prog Tryz.ox := {
 mixed := by kernel_rfl
 f196 := Tryz.func99.trans (congrArg some (by kernel_rfl))
 f259 := Tryz.func114.trans (congrArg some (by kernel_rfl))
 t0 := Tryz.underlying0
 a0 := Tryz.isAgg0
 z0 := Tryz.sizeOf0
 v0 := Tryz.zeroValue0
 t3 := Tryz.underlying3
 a3 := Tryz.isAgg3
 z3 := Tryz.sizeOf3
 v3 := Tryz.zeroValue3
 t4 := Tryz.underlying4
 a4 := Tryz.isAgg4
 z4 := Tryz.sizeOf4
 v4 := Tryz.zeroValue4
 t5 := Tryz.underlying5
 a5 := Tryz.isAgg5
 z5 := Tryz.sizeOf5
 v5 := Tryz.zeroValue5
 t9 := Tryz.underlying9
 a9 := Tryz.isAgg9
 z9 := Tryz.sizeOf9
 v9 := Tryz.zeroValue9
 t12 := Tryz.underlying12
 a12 := Tryz.isAgg12
 z12 := Tryz.sizeOf12
 v12 := Tryz.zeroValue12
 t46 := Tryz.underlying174
 a46 := Tryz.isAgg174
 z46 := Tryz.sizeOf174
 v46 := Tryz.zeroValue174
 t53 := Tryz.underlying62
 a53 := Tryz.isAgg62
 z53 := Tryz.sizeOf62
 v53 := Tryz.zeroValue62
 t119 := Tryz.underlying170
 a119 := Tryz.isAgg170
 z119 := Tryz.sizeOf170
 t138 := Tryz.underlying172
 a138 := Tryz.isAgg172
 z138 := Tryz.sizeOf172
 v138 := Tryz.zeroValue172
 t139 := Tryz.underlying173
 a139 := Tryz.isAgg173
 z139 := Tryz.sizeOf173
 v139 := Tryz.zeroValue173
 g3 := by kernel_rfl
 g4 := by kernel_rfl }
end Go.Proofs
namespace Go.Proofs.YtpifnegikoldmaaGreatDoor.X
open Go Go.RowKit Go.Proofs
theorem zd (s : aw) (hs : s.length ≤ 9223372036854775807) : Pure Tryz.prog 99 [.str s] (.bool (Lib.validD s)) :=
 Pure.AF fun G w cargs hg hn hk hV => by
  obtain ⟨x, rfl, hx⟩ := hV.one
  have e := hx.EY
  subst e
  refine (Any.utf8_ValidString Tryz.A4 ⟨s.toArray⟩ w (by simpa [ByteArray.size] using hs) (Fc hg)).mono ?_
  rintro e w' ⟨rfl, hb⟩
  exact ⟨_, rfl, .bool _, hb⟩
set_option linter.unusedVariables false
set_option linter.unusedSimpArgs false
set_option linter.unusedSectionVars false
set_option maxRecDepth 100000
/- which values are values of a message of a schema, in the program. -/
/- which values are values of a message of a schema, in the program and in the document. -/
theorem DY : aa Tryz.prog 100 = true := by kernel_rfl
theorem n8 : aa Tryz.prog 102 = true := by kernel_rfl
theorem xC : aa Tryz.prog 115 = true := by kernel_rfl
theorem DR : aa Tryz.prog 116 = true := by kernel_rfl
theorem DN : aa Tryz.prog 124 = true := by kernel_rfl
theorem Aq : aa Tryz.prog 76 = true := by kernel_rfl
theorem Fg : aa Tryz.prog 98 = true := by kernel_rfl
theorem Ff : aa Tryz.prog 99 = true := by kernel_rfl
theorem Dl (s : aM) (f : ag) (v : cf) (hvs : v.s.length ≤ 9223372036854775807) (ih : ∀ u ∈ v.m, ∀ name : aw, Pure Tryz.prog 100 [s.av, .str name, .agg u.cells] (.bool (u.ok s name))) : Pure Tryz.prog 76 [s.av, f.av, .agg v.cells] (.bool (v.ok s f)) := by
 have hE := cf.ok_eq s f v
 have hT1 := @sg s f.ref v.m
 have hT0 := @u0 s f.ref v.m
 have hn0 : ((v.n : Int) == 0) = decide (v.n = 0) := by rw [Bool.eq_iff_iff]; simp
 have hml : (((v.m.map Tree.av).length : Int) == 0) = decide (v.m.length = 0) := by rw [Bool.eq_iff_iff]; simp
 refine Pure.aN Tryz.func76 rfl rfl (aF rfl) fun H => (aC.seq (aC.region (aB.run II 4 rfl (aB.nil (aC.seq (aC.seq (aC.region (aB.run II 2 rfl (aB.c1 rfl (aG (aF rfl) Al rfl (zV _)) (aB.nil (aC.cond rfl (fun hc1 => ?_) (fun hc1 => ?_))))))))))))
 ·refine aC.seq (aC.region (aB.run II 4 rfl (aB.c1 rfl (aG (aF rfl) Fg rfl (Gw _ _)) (aB.run II 1 rfl (aB.tell (d := 15) rfl (fun hg2 => ?_) (fun hg2 => ?_))))))
  ·refine aB.run II 5 rfl (aB.tell (d := 20) rfl (fun hg3 => ?_) (fun hg3 => ?_))
   ·exact aB.run II 6 rfl (aB.nil (aC.ret ⟨.inr rfl, (aE.r1 rfl (.tmp rfl .nil)).cast (congrArg AV.bool (by grind [])), rfl⟩))
   ·exact aB.run II 6 rfl (aB.nil (aC.ret ⟨.inr rfl, (aE.r1 rfl (.tmp rfl .nil)).cast (congrArg AV.bool (by grind [])), rfl⟩))
  ·exact aB.run II 11 rfl (aB.nil (aC.ret ⟨.inr rfl, (aE.r1 rfl (.tmp rfl .nil)).cast (congrArg AV.bool (by grind [])), rfl⟩))
 ·refine aC.skip (aC.seq (aC.seq (aC.region (aB.run II 2 rfl (aB.nil (aC.blk (aC.seq (aC.region (aB.run II 2 rfl (aB.nil (aC.cond rfl (fun hc4 => ?_) (fun hc4 => ?_))))))))))))
  ·refine aC.seq (aC.region (aB.run II 4 rfl (aB.tell (d := 33) rfl (fun hg5 => ?_) (fun hg5 => ?_))))
   ·refine aB.run II 6 rfl (aB.tell (d := 39) rfl (fun hg6 => ?_) (fun hg6 => ?_))
    ·exact aB.run II 2 rfl (aB.g1 rfl (aF rfl) rfl rfl (aG (aF rfl) Ff rfl (zd _ hvs)) (aB.run II 2 rfl (aB.nil (aC.ret ⟨.inr rfl, (aE.r1 rfl (.tmp rfl .nil)).cast (congrArg AV.bool (by grind [])), rfl⟩))))
    ·exact aB.run II 5 rfl (aB.nil (aC.ret ⟨.inr rfl, (aE.r1 rfl (.tmp rfl .nil)).cast (congrArg AV.bool (by grind [])), rfl⟩))
   ·exact aB.run II 11 rfl (aB.nil (aC.ret ⟨.inr rfl, (aE.r1 rfl (.tmp rfl .nil)).cast (congrArg AV.bool (by grind [])), rfl⟩))
  ·refine aC.seq (aC.region (aB.run II 2 rfl (aB.nil (aC.cond rfl (fun hc7 => ?_) (fun hc7 => ?_)))))
   ·refine aC.seq (aC.region (aB.run II 4 rfl (aB.tell (d := 49) rfl (fun hg8 => ?_) (fun hg8 => ?_))))
    ·exact aB.run II 6 rfl (aB.nil (aC.ret ⟨.inr rfl, (aE.r1 rfl (.tmp rfl .nil)).cast (congrArg AV.bool (by grind [])), rfl⟩))
    ·exact aB.run II 6 rfl (aB.nil (aC.ret ⟨.inr rfl, (aE.r1 rfl (.tmp rfl .nil)).cast (congrArg AV.bool (by grind [])), rfl⟩))
   ·refine aC.seq (aC.region (aB.run II 2 rfl (aB.nil (aC.cond rfl (fun hc9 => ?_) (fun hc9 => ?_)))))
    ·refine aC.seq (aC.drawn mixed rfl (aD.run II 4 rfl (aD.tell (d := 60) rfl (fun hg10 => ?_) (fun hg10 => ?_))))
     ·refine aD.run II 5 rfl (aD.tell (d := 65) rfl (fun hg11 => ?_) (fun hg11 => ?_))
      ·refine aD.run II 6 rfl (aD.tell (d := 71) rfl (fun hg12 => ?_) (fun hg12 => ?_))
       ·exact aD.run II 5 rfl (aD.g1 rfl (aF rfl) rfl rfl (aI (aF rfl) vY rfl rfl (by decide) (ic (i := 0) Tree.dE (by grind)) rfl) (aD.run II 1 rfl (aD.g1 rfl (aF rfl) rfl rfl (aG (aF rfl) DY rfl (ih _ (List.getElem_mem (by grind)) _)) (aD.run II 2 rfl (aD.nil (by kernel_rfl) (Kept.now (aC.ret ⟨.inr rfl, (aE.r1 rfl (.tmp rfl .nil)).cast (congrArg AV.bool (by have hm1 : v.m.length = 1 := (by have h := hg12; simp at h; omega); have hq := hT1 hm1; have h0 : v.n = 0 := (by simpa using hg10); have hs0 : v.s = [] := (by simpa using hg11); have hty : f.ty = 15 := (by simpa using hc9); rw [hE, if_neg (by simp [hc1]), if_neg (by omega), if_neg (by omega), if_pos hty, hq, h0, hs0]; simp)), rfl⟩)))))))
       ·exact aD.run II 10 rfl (aD.nil (by kernel_rfl) (Kept.now (aC.ret ⟨.inr rfl, (aE.r1 rfl (.tmp rfl .nil)).cast (congrArg AV.bool (by grind [])), rfl⟩)))
      ·exact aD.run II 16 rfl (aD.nil (by kernel_rfl) (Kept.now (aC.ret ⟨.inr rfl, (aE.r1 rfl (.tmp rfl .nil)).cast (congrArg AV.bool (by grind [])), rfl⟩)))
     ·exact aD.run II 21 rfl (aD.nil (by kernel_rfl) (Kept.now (aC.ret ⟨.inr rfl, (aE.r1 rfl (.tmp rfl .nil)).cast (congrArg AV.bool (by grind [])), rfl⟩)))
    ·exact aC.skip (aC.seq (aC.region (aB.run II 1 rfl (aB.nil (aC.ret ⟨.inr rfl, (aE.r1 rfl (.tmp rfl .nil)).cast (congrArg AV.bool (by grind [])), rfl⟩)))))
theorem zQ (s : aM) (m : aU) (x : Slot) (hm : m.fields.length ≤ 1000) (hl : x.cI.length ≤ 9223372036854775807) (hvs : ∀ v ∈ x.cI, v.s.length ≤ 9223372036854775807) (ih : ∀ v ∈ x.cI, ∀ u ∈ v.m, ∀ name : aw, Pure Tryz.prog 100 [s.av, .str name, .agg u.cells] (.bool (u.ok s name))) : Pure Tryz.prog 115 [s.av, m.av, .agg x.cells] (.bool (x.ok s m)) := by
 have hE := Slot.ok_eq s m x
 have hVA := fun f => uX s f x.cI
 refine Pure.aN Tryz.func115 rfl rfl (aF rfl) fun H => (aC.seq (aC.region (aB.run II 4 rfl (aB.nil (aC.seq (aC.region (aB.run II 3 rfl (aB.c1 rfl (aG (aF rfl) n8 rfl (lV _ _ hm)) (aB.run II 1 rfl (aB.nil (aC.c8 [.h, .s 3, .b 3, .s 4, .b 4, .s 5, .b 5, .s 7] (fun (_ : Unit) => []) (fun (_ : Unit) => decide (m.at x.num < 0) = false ∧ 0 < x.cI.length) rfl ?_ ?_)))))))))))
 ·refine aC.seq (aC.region (aB.run II 3 rfl (aB.tell (d := 16) rfl (fun hg1 => ?_) (fun hg1 => ?_))))
  ·exact aB.run II 5 rfl (aB.nil (aC.bG rfl rfl (aC.seq (aC.region (aB.run II 1 rfl (aB.nil (aC.ret ⟨.inr rfl, (aE.r1 rfl (.tmp rfl .nil)).cast (congrArg AV.bool (by rw [hE, aU.EH hg1])), rfl⟩)))))))
  ·refine aB.run II 5 rfl (aB.nil (aC.cond rfl (fun hc2 => ?_) (fun hc2 => ?_)))
   ·exact aC.seq (aC.region (aB.run II 1 rfl (aB.nil (aC.ret ⟨.inr rfl, (aE.r1 rfl (.tmp rfl .nil)).cast (congrArg AV.bool (by rw [hE, aU.mb hg1]; grind)), rfl⟩))))
   ·exact aC.aJ (Kept.aH [.h, .s 3, .b 3, .s 4, .b 4, .s 5, .b 5, .s 7] rfl (by decide) (Kept.now (aC.skip ⟨(), by grind, rfl⟩)))
 ·rintro _ hF4
  refine aC.seq (aC.region (aB.run II 3 rfl (aB.c1 rfl (aI (aF rfl) bQ rfl rfl (aU.EI hF4.1) (yX (aU.EJ hF4.1) (aU.fA hF4.1)) rfl) (aB.run II 3 rfl (aB.nil (aC.c8 [.h, .s 3, .b 3, .s 5, .b 5, .s 8, .b 8] (fun (_ : Unit) => []) (fun (_ : Unit) => ((m.fields[m.dp x.num]'(aU.fA hF4.1)).rep = true ∨ x.cI.length = 1)) rfl ?_ ?_))))))
  ·refine aC.seq (aC.region (aB.run II 4 rfl (aB.tell (d := 30) rfl (fun hg3 => ?_) (fun hg3 => ?_))))
   ·refine aB.run II 5 rfl (aB.nil (aC.cond rfl (fun hc4 => ?_) (fun hc4 => ?_)))
    ·exact aC.seq (aC.region (aB.run II 1 rfl (aB.nil (aC.ret ⟨.inr rfl, (aE.r1 rfl (.tmp rfl .nil)).cast (congrArg AV.bool (by rw [hE, aU.mb hF4.1]; grind)), rfl⟩))))
    ·exact aC.aJ (Kept.aH [.h, .s 3, .b 3, .s 5, .b 5, .s 8, .b 8] rfl (by decide) (Kept.now (aC.skip ⟨(), by grind, rfl⟩)))
   ·exact aB.run II 5 rfl (aB.nil (aC.bR rfl rfl (aC.aJ (Kept.aH [.h, .s 3, .b 3, .s 5, .b 5, .s 8, .b 8] rfl (by decide) (Kept.now (aC.skip ⟨(), by grind, rfl⟩))))))
  ·rintro _ hF7
   refine aC.seq (aC.seq (aC.region (aB.run II 1 rfl (aB.nil (aC.blk (aC.aJ (Kept.aH [.s 9, .h, .s 3, .b 3, .s 5, .b 5, .s 8, .b 8] rfl (by decide) (Kept.now (aC.aW (fun (i : Nat) => [(.s 9, .sv (.v (.int .i64 (i : Int))))]) _ (fun (i : Nat) => (x.cI.drop i).all (cf.ok s (m.fields[m.dp x.num]'(aU.fA hF4.1))) = x.cI.all (cf.ok s (m.fields[m.dp x.num]'(aU.fA hF4.1)))) (fun (i : Nat) => x.cI.length - i) 0 rfl (by simp) ?_)))))))))
   rintro i hI
   refine aC.seq (aC.seq (aC.region (aB.run II 5 rfl (aB.nil (aC.cond rfl (fun hc5 => ?_) (fun hc5 => ?_))))))
   ·have hi := ch hc5
    have hS := iw (p := cf.ok s (m.fields[m.dp x.num]'(aU.fA hF4.1))) hi
    refine aC.skip (aC.seq (aC.blk (aC.seq (aC.drawn mixed rfl (aD.run II 5 rfl (aD.c1 rfl (aI (aF rfl) m5 rfl rfl (Int.natCast_nonneg _) (ic cf.dE hi) rfl) (aD.run II 1 rfl (aD.c1 rfl (aG (aF rfl) Aq rfl (Dl _ _ _ (hvs _ (List.getElem_mem hi)) (ih _ (List.getElem_mem hi)))) (aD.run II 1 rfl (aD.nil (by kernel_rfl) (Kept.now (aC.cond rfl (fun hc6 => ?_) (fun hc6 => ?_)))))))))))))
    ·exact aC.seq (aC.region (aB.run II 1 rfl (aB.nil (aC.ret ⟨.inr rfl, (aE.r1 rfl (.tmp rfl .nil)).cast (congrArg AV.bool (by rw [hE, aU.mb hF4.1]; grind)), rfl⟩))))
    ·exact aC.skip (aC.region (aB.run II 3 rfl (aB.kept (Kept.aX 9 rfl (inc (by omega)) (Kept.aH [.s 9, .h, .s 3, .b 3, .s 5, .b 5, .s 8, .b 8] rfl (by decide) (Kept.now ⟨i + 1, by omega, by grind, rfl⟩))))))
   ·have hi := ck hc5
    have hS := lz (p := cf.ok s (m.fields[m.dp x.num]'(aU.fA hF4.1))) hi
    rw [aU.mb hF4.1] at hE
    have hN := HW hF4.2
    have hNs := HV hF4.2
    refine aC.exit (aC.seq (aC.region (aB.run II 1 rfl (aB.c1 rfl (aG (aF rfl) DN rfl (zW _)) (aB.run II 2 rfl (aB.tell (d := 55) rfl (fun hg7 => ?_) (fun hg7 => ?_)))))))
    ·exact aB.run II 16 rfl (aB.nil (aC.ret ⟨.inr rfl, (aE.r1 rfl (.tmp rfl .nil)).cast (congrArg AV.bool (by grind)), rfl⟩))
    ·refine aB.run II 2 rfl (aB.g1 rfl (aF rfl) rfl rfl (aI (aF rfl) m5 rfl rfl (by decide) (ic (i := 0) cf.dE hF4.2) rfl) (aB.run II 5 rfl (aB.tell (d := 63) rfl (fun hg8 => ?_) (fun hg8 => ?_))))
     ·exact aB.run II 8 rfl (aB.nil (aC.ret ⟨.inr rfl, (aE.r1 rfl (.tmp rfl .nil)).cast (congrArg AV.bool (by grind)), rfl⟩))
     ·exact aB.run II 2 rfl (aB.g1 rfl (aF rfl) rfl rfl (aI (aF rfl) m5 rfl rfl (by decide) (ic (i := 0) cf.dE hF4.2) rfl) (aB.run II 5 rfl (aB.nil (aC.ret ⟨.inr rfl, (aE.r1 rfl (.tmp rfl .nil)).cast (congrArg AV.bool (by grind)), rfl⟩))))
theorem CL (s : aM) (hs : s.G4) (name : aw) (t : Tree) (hb : t.fT) (ih : ∀ x ∈ t.ak, ∀ v ∈ x.cI, ∀ u ∈ v.m, ∀ name : aw, Pure Tryz.prog 100 [s.av, .str name, .agg u.cells] (.bool (u.ok s name))) : Pure Tryz.prog 100 [s.av, .str name, .agg t.cells] (.bool (t.ok s name)) := by
 have hsm := hs.m
 have hbs := hb.here.s
 have hbr := hb.here.r
 have hT := t.ok_eq s name
 refine Pure.aN Tryz.func100 rfl rfl (aF rfl) fun H => (aC.seq (aC.region (aB.run II 3 rfl (aB.nil (aC.seq (aC.region (aB.run II 2 rfl (aB.c1 rfl (aG (aF rfl) kA rfl (gv _ _ (by omega))) (aB.run II 1 rfl (aB.nil (aC.seq (aC.seq (aC.region (aB.run II 2 rfl (aB.nil (aC.cond rfl (fun hc1 => ?_) (fun hc1 => ?_)))))))))))))))))
 ·exact aC.seq (aC.region (aB.run II 1 rfl (aB.nil (aC.ret ⟨.inr rfl, (aE.r1 rfl (.tmp rfl .nil)).cast (congrArg AV.bool (by rw [hT, aM.HP hc1])), rfl⟩))))
 ·rw [aM.HS hc1] at hT
  refine aC.skip (aC.seq (aC.region (aB.run II 3 rfl (aB.c1 rfl (aI (aF rfl) bL rfl rfl (aM.HQ hc1) (yX (aM.HR hc1) (aM.bJ hc1)) rfl) (aB.run II 3 rfl (aB.nil (aC.seq (aC.region (aB.c2 rfl (az («as» := []) (aF rfl) bT dk rfl rfl rfl (ft rfl) rfl) (aB.run II 1 rfl (aB.nil (aC.seq (aC.seq (aC.region (aB.run II 1 rfl (aB.nil (aC.blk (aC.aJ (Kept.aH [.s 10, .s 9, .t 24, .h, .s 3, .b 3, .s 5, .b 5, .s 8, .b 8] rfl (by decide) (Kept.now (aC.aW (fun ((i, a) : Nat × List AV) => [(.s 10, .sv (.v (.int .i64 (i : Int)))), (.s 9, .sv (.ow 24 a)), (.t 24, .tk false 9 1 a)]) _ (fun ((i, a) : Nat × List AV) => a = (t.ak.take i).map (fun y => AV.str ((s.msgs[s.dp name]'(aM.bJ hc1)).oneOf y)) ∧ gp s (s.msgs[s.dp name]'(aM.bJ hc1)) t.ak i = gn s (s.msgs[s.dp name]'(aM.bJ hc1)) t.ak none [] ∧ lg (s.msgs[s.dp name]'(aM.bJ hc1)) t.ak i) (fun ((i, a) : Nat × List AV) => t.ak.length - i) (0, _) rfl ⟨rfl, rS s (s.msgs[s.dp name]'(aM.bJ hc1)) t.ak, lg.zero _ _⟩ ?_)))))))))))))))))))))
  rintro ⟨i, a⟩ ⟨rfl, hI, hG⟩
  refine aC.seq (aC.seq (aC.region (aB.run II 5 rfl (aB.nil (aC.cond rfl (fun hc2 => ?_) (fun hc2 => ?_))))))
  ·have hi := ch hc2
   have hS := @rT s (s.msgs[s.dp name]'(aM.bJ hc1)) t.ak i hi
   refine aC.skip (aC.seq (aC.blk (aC.c8 [.h, .s 3, .b 3, .s 5, .b 5, .s 8, .b 8, .s 9, .t 24, .s 10] (fun (_ : Unit) => []) (fun (_ : Unit) => (match jv t.ak i with | none => true | some n => decide (n < (t.ak[i]'hi).num)) = true ∧ (t.ak[i]'hi).ok s (s.msgs[s.dp name]'(aM.bJ hc1)) = true) rfl ?_ ?_)))
   ·refine aC.seq (aC.drawn mixed rfl (aD.run II 3 rfl (aD.tell (d := 34) rfl (fun hg3 => ?_) (fun hg3 => ?_))))
    ·refine aD.run II 4 rfl (aD.g1 rfl (aF rfl) rfl rfl (aI (aF rfl) iI rfl rfl (by rw [qB (by have := of_decide_eq_true hg3; omega) (by omega)]; exact Int.natCast_nonneg _) (HN Slot.dE (qB (by have := of_decide_eq_true hg3; omega) (by omega)) (show i - 1 < t.ak.length by omega)) rfl) ?_)
     refine aD.run II 5 rfl (aD.g1 rfl (aF rfl) rfl rfl (aI (aF rfl) iI rfl rfl (Int.natCast_nonneg _) (ic Slot.dE hi) rfl) (aD.run II 5 rfl (aD.tell (d := 50) rfl (fun hg4 => ?_) (fun hg4 => ?_))))
     ·exact aD.run II 10 rfl (aD.nil (by kernel_rfl) (Kept.now (aC.bG rfl rfl (aC.seq (aC.region (aB.run II 1 rfl (aB.nil (aC.ret ⟨.inr rfl, (aE.r1 rfl (.tmp rfl .nil)).cast (congrArg AV.bool (by rw [mY (by have := of_decide_eq_true hg3; omega) hi] at hS; grind)), rfl⟩))))))))
     ·refine aD.run II 5 rfl (aD.g1 rfl (aF rfl) rfl rfl (aI (aF rfl) iI rfl rfl (Int.natCast_nonneg _) (ic Slot.dE hi) rfl) (aD.run II 1 rfl (aD.g1 rfl (aF rfl) rfl rfl (aG (aF rfl) xC rfl (zQ _ _ _ (hs.f _ (List.getElem_mem (aM.bJ hc1))) (hb.here.v _ (List.getElem_mem hi)) (hb.here.vs _ (List.getElem_mem hi)) (ih _ (List.getElem_mem hi)))) (aD.run II 2 rfl (aD.nil (by kernel_rfl) (Kept.now (aC.cond rfl (fun hc5 => ?_) (fun hc5 => ?_))))))))
      ·exact aC.seq (aC.region (aB.run II 1 rfl (aB.nil (aC.ret ⟨.inr rfl, (aE.r1 rfl (.tmp rfl .nil)).cast (congrArg AV.bool (by have := Ir hc5; grind)), rfl⟩))))
      ·exact aC.aJ (Kept.aH [.h, .s 3, .b 3, .s 5, .b 5, .s 8, .b 8, .s 9, .t 24, .s 10] rfl (by decide) (Kept.now (aC.skip (⟨(), ⟨by rw [mY (by have := of_decide_eq_true hg3; omega) hi]; simpa using hg4, Is hc5⟩, rfl⟩))))
    ·refine aD.run II 21 rfl (aD.g1 rfl (aF rfl) rfl rfl (aI (aF rfl) iI rfl rfl (Int.natCast_nonneg _) (ic Slot.dE hi) rfl) (aD.run II 1 rfl (aD.g1 rfl (aF rfl) rfl rfl (aG (aF rfl) xC rfl (zQ _ _ _ (hs.f _ (List.getElem_mem (aM.bJ hc1))) (hb.here.v _ (List.getElem_mem hi)) (hb.here.vs _ (List.getElem_mem hi)) (ih _ (List.getElem_mem hi)))) (aD.run II 2 rfl (aD.nil (by kernel_rfl) (Kept.now (aC.cond rfl (fun hc6 => ?_) (fun hc6 => ?_))))))))
     ·exact aC.seq (aC.region (aB.run II 1 rfl (aB.nil (aC.ret ⟨.inr rfl, (aE.r1 rfl (.tmp rfl .nil)).cast (congrArg AV.bool (by have := Ir hc6; grind)), rfl⟩))))
     ·exact aC.aJ (Kept.aH [.h, .s 3, .b 3, .s 5, .b 5, .s 8, .b 8, .s 9, .t 24, .s 10] rfl (by decide) (Kept.now (aC.skip (⟨(), ⟨by have h0 : i = 0 := (by have := of_decide_eq_false hg3; omega); subst h0; rw [vP], Is hc6⟩, rfl⟩))))
   ·rintro _ hF11
    have hat := Slot.Dz hF11.2
    have hone := yE (aU.mb hat)
    refine aC.seq (aC.drawn mixed rfl (aD.run II 6 rfl (aD.c1 rfl (aI (aF rfl) iI rfl rfl (Int.natCast_nonneg _) (ic Slot.dE hi) rfl) (aD.run II 2 rfl (aD.c1 rfl (aG (aF rfl) n8 rfl (lV _ _ (hs.f _ (List.getElem_mem (aM.bJ hc1))))) (aD.c1 rfl (aI (aF rfl) bQ rfl rfl (aU.EI hat) (yX (aU.EJ hat) (aU.fA hat)) rfl) (aD.run II 3 rfl (aD.nil (by kernel_rfl) (Kept.now (aC.seq (aC.seq (aC.region (aB.run II 1 rfl (aB.nil (aC.blk ?_)))))))))))))))
    refine aC.aJ (Kept.aH [.s 12, .h, .s 3, .b 3, .s 5, .b 5, .s 8, .b 8, .s 9, .t 24, .s 10, .s 11] rfl (by decide) (Kept.now (aC.aW (fun (k : Nat) => [(.s 12, .sv (.v (.int .i64 (k : Int))))]) _ (fun (k : Nat) => ((t.ak.take i).drop k).any (fun y => !(((s.msgs[s.dp name]'(aM.bJ hc1)).fields[(s.msgs[s.dp name]'(aM.bJ hc1)).dp (t.ak[i]'hi).num]'(aU.fA hat)).one == []) && ((s.msgs[s.dp name]'(aM.bJ hc1)).oneOf y == ((s.msgs[s.dp name]'(aM.bJ hc1)).fields[(s.msgs[s.dp name]'(aM.bJ hc1)).dp (t.ak[i]'hi).num]'(aU.fA hat)).one)) = (t.ak.take i).any (fun y => !(((s.msgs[s.dp name]'(aM.bJ hc1)).fields[(s.msgs[s.dp name]'(aM.bJ hc1)).dp (t.ak[i]'hi).num]'(aU.fA hat)).one == []) && ((s.msgs[s.dp name]'(aM.bJ hc1)).oneOf y == ((s.msgs[s.dp name]'(aM.bJ hc1)).fields[(s.msgs[s.dp name]'(aM.bJ hc1)).dp (t.ak[i]'hi).num]'(aU.fA hat)).one))) (fun (k : Nat) => (t.ak.take i).length - k) 0 rfl (by simp) ?_)))
    rintro k hK
    refine aC.seq (aC.seq (aC.region (aB.run II 4 rfl (aB.nil (aC.cond rfl (fun hc7 => ?_) (fun hc7 => ?_))))))
    ·have hk := ch hc7
     have hU := bS (p := (fun y => !(((s.msgs[s.dp name]'(aM.bJ hc1)).fields[(s.msgs[s.dp name]'(aM.bJ hc1)).dp (t.ak[i]'hi).num]'(aU.fA hat)).one == []) && ((s.msgs[s.dp name]'(aM.bJ hc1)).oneOf y == ((s.msgs[s.dp name]'(aM.bJ hc1)).fields[(s.msgs[s.dp name]'(aM.bJ hc1)).dp (t.ak[i]'hi).num]'(aU.fA hat)).one))) hk
     have hkl : (t.ak.take i).length ≤ t.ak.length := by rw [List.length_take]; omega
     refine aC.skip (aC.seq (aC.blk (aC.seq (aC.region (aB.run II 3 rfl (aB.tell (d := 82) rfl (fun hg8 => ?_) (fun hg8 => ?_)))))))
     ·refine aB.run II 2 rfl (aB.g1 rfl (aF rfl) rfl rfl (aI (aF rfl) ca rfl rfl (Int.natCast_nonneg _) (bz hk) rfl) (aB.run II 4 rfl (aB.nil (aC.cond rfl (fun hc9 => ?_) (fun hc9 => ?_)))))
      ·exact aC.seq (aC.region (aB.run II 1 rfl (aB.nil (aC.ret ⟨.inr rfl, (aE.r1 rfl (.tmp rfl .nil)).cast (congrArg AV.bool (by have hQ := od (m := (s.msgs[s.dp name]'(aM.bJ hc1))) (l := t.ak.take i) (one := ((s.msgs[s.dp name]'(aM.bJ hc1)).fields[(s.msgs[s.dp name]'(aM.bJ hc1)).dp (t.ak[i]'hi).num]'(aU.fA hat)).one); rw [hone] at hS; grind)), rfl⟩))))
      ·exact aC.skip (aC.region (aB.run II 3 rfl (aB.kept (Kept.aX 12 rfl (inc (by omega)) (Kept.aH [.s 12, .h, .s 3, .b 3, .s 5, .b 5, .s 8, .b 8, .s 9, .t 24, .s 10, .s 11] rfl (by decide) (Kept.now ⟨k + 1, by omega, by grind, rfl⟩))))))
     ·exact aB.run II 7 rfl (aB.nil (aC.bR rfl rfl (aC.skip (aC.region (aB.run II 3 rfl (aB.kept (Kept.aX 12 rfl (inc (by omega)) (Kept.aH [.s 12, .h, .s 3, .b 3, .s 5, .b 5, .s 8, .b 8, .s 9, .t 24, .s 10, .s 11] rfl (by decide) (Kept.now ⟨k + 1, by omega, by grind, rfl⟩)))))))))
    ·have hk := ck hc7
     have hU := bq (p := (fun y => !(((s.msgs[s.dp name]'(aM.bJ hc1)).fields[(s.msgs[s.dp name]'(aM.bJ hc1)).dp (t.ak[i]'hi).num]'(aU.fA hat)).one == []) && ((s.msgs[s.dp name]'(aM.bJ hc1)).oneOf y == ((s.msgs[s.dp name]'(aM.bJ hc1)).fields[(s.msgs[s.dp name]'(aM.bJ hc1)).dp (t.ak[i]'hi).num]'(aU.fA hat)).one))) hk
     refine aC.exit (aC.region (aB.run II 3 rfl (aB.c3 rfl (aV (aF rfl) bT rfl rfl rfl rfl rfl (by have := hG.len; have := hs.f _ (List.getElem_mem (aM.bJ hc1)); simp; omega) (by have := hG.len; have := hs.f _ (List.getElem_mem (aM.bJ hc1)); simp; omega)) ?_)))
     refine aB.run II 1 rfl (aB.nil (aC.region (aB.run II 3 rfl (aB.kept (Kept.aX 10 rfl (inc (by omega)) (Kept.aH [.s 10, .s 9, .t 93, .h, .s 3, .b 3, .s 5, .b 5, .s 8, .b 8] rfl (by decide) (Kept.cS 93 24 (by decide) rfl (Kept.now ?_))))))))
     have hQ := od (m := (s.msgs[s.dp name]'(aM.bJ hc1))) (l := t.ak.take i) (one := ((s.msgs[s.dp name]'(aM.bJ hc1)).fields[(s.msgs[s.dp name]'(aM.bJ hc1)).dp (t.ak[i]'hi).num]'(aU.fA hat)).one)
     exact ⟨(i + 1, _), (by dsimp only; omega), ⟨by rw [← hone]; exact dZ hi rfl, by rw [hone] at hS; grind, hG.step hi hF11.1 (Slot.Cs hF11.2)⟩, rfl⟩
  ·have hi := ck hc2
   have hS := @sn s (s.msgs[s.dp name]'(aM.bJ hc1)) t.ak i hi
   refine aC.exit (aC.seq (aC.seq (aC.region (aB.run II 1 rfl (aB.nil (aC.blk (aC.aJ (Kept.aH [.s 13, .h, .s 5, .b 5, .s 8, .b 8] rfl (by decide) (Kept.now (aC.aW (fun (j : Nat) => [(.s 13, .sv (.v (.int .i64 (j : Int))))]) _ (fun (j : Nat) => (t.rest.drop j).all (jI (s.msgs[s.dp name]'(aM.bJ hc1))) = t.rest.all (jI (s.msgs[s.dp name]'(aM.bJ hc1)))) (fun (j : Nat) => t.rest.length - j) 0 rfl (by simp) ?_))))))))))
   rintro j hJ
   refine aC.seq (aC.seq (aC.region (aB.run II 5 rfl (aB.nil (aC.cond rfl (fun hc10 => ?_) (fun hc10 => ?_))))))
   ·have hj := ch hc10
    have hR := iw (p := jI (s.msgs[s.dp name]'(aM.bJ hc1))) hj
    have hA := (s.msgs[s.dp name]'(aM.bJ hc1)).kG (t.rest[j]'hj).num
    refine aC.skip (aC.seq (aC.blk (aC.seq (aC.drawn mixed rfl (aD.run II 3 rfl (aD.c1 rfl (aI (aF rfl) vX rfl rfl (Int.natCast_nonneg _) (bz hj) rfl) (aD.run II 1 rfl (aD.c1 rfl (aG (aF rfl) DR rfl (zR _)) (aD.run II 2 rfl (aD.tell (d := 108) rfl (fun hg11 => ?_) (fun hg11 => ?_)))))))))))
    ·exact aD.run II 10 rfl (aD.nil (by kernel_rfl) (Kept.now (aC.bG rfl rfl (aC.seq (aC.region (aB.run II 1 rfl (aB.nil (aC.ret ⟨.inr rfl, (aE.r1 rfl (.tmp rfl .nil)).cast (congrArg AV.bool (by grind [jI])), rfl⟩))))))))
    ·refine aD.run II 4 rfl (aD.g1 rfl (aF rfl) rfl rfl (aI (aF rfl) vX rfl rfl (Int.natCast_nonneg _) (bz hj) rfl) (aD.run II 2 rfl (aD.g1 rfl (aF rfl) rfl rfl (aG (aF rfl) n8 rfl (lV _ _ (hs.f _ (List.getElem_mem (aM.bJ hc1))))) (aD.run II 2 rfl (aD.nil (by kernel_rfl) (Kept.now (aC.cond rfl (fun hc12 => ?_) (fun hc12 => ?_))))))))
     ·exact aC.seq (aC.region (aB.run II 1 rfl (aB.nil (aC.ret ⟨.inr rfl, (aE.r1 rfl (.tmp rfl .nil)).cast (congrArg AV.bool (by grind [jI])), rfl⟩))))
     ·exact aC.skip (aC.region (aB.run II 3 rfl (aB.kept (Kept.aX 13 rfl (inc (by omega)) (Kept.aH [.s 13, .h, .s 5, .b 5, .s 8, .b 8] rfl (by decide) (Kept.now ⟨j + 1, by omega, by grind [jI], rfl⟩))))))
   ·have hj := ck hc10
    have hR := lz (p := jI (s.msgs[s.dp name]'(aM.bJ hc1))) hj
    exact aC.exit (aC.seq (aC.region (aB.run II 1 rfl (aB.nil (aC.ret ⟨.inr rfl, (aE.r1 rfl (.tmp rfl .nil)).cast (congrArg AV.bool (by grind)), rfl⟩)))))
theorem E1 (s : aM) (hs : s.G4) (t : Tree) (hb : t.fT) (name : aw) : Pure Tryz.prog 100 [s.av, .str name, .agg t.cells] (.bool (t.ok s name)) :=
 Tree.ind (Q := fun t => t.fT → ∀ name : aw, Pure Tryz.prog 100 [s.av, .str name, .agg t.cells] (.bool (t.ok s name))) (fun t ih hb name => CL s hs name t hb (fun x hx v hv u hu => ih x hx v hv u hu (hb.sub hu hv hx))) t hb name
/- how deep a value is, in the program. -/
/- Numbers and bytes. No condition. -/
theorem eS {n : Int} (h0 : -9223372036854775808 ≤ n) (h : n < 9223372036854775808) : IntKind.i64.wrap n = n := by simp only [IntKind.wrap, IntKind.bits, IntKind.signed]; simp; omega
/- Lists of bytes that are the same. No condition. -/
/- words of types; the values of digits; in the program and in the document. -/
theorem uV {t : Int} (h : t < 1 ∨ 13 < t) : rI t = [] := by
 unfold rI
 split
 ·rfl
 ·have : t = 0 ∨ t = 14 ∨ t = 15 := by omega
  rcases this with rfl | rfl | rfl <;> rfl
structure sW where
 far : Nat
 neg : Bool
 deriving DecidableEq
def u5 (t : Int) (n : Nat) : sW := if eO t = true ∧ 9223372036854775808 ≤ n then ⟨18446744073709551616 - n, true⟩ else ⟨n, false⟩
def sW.raw (x : sW) : Nat := if x.neg = true ∧ 0 < x.far then 18446744073709551616 - x.far else x.far
def sW.val (x : sW) (t : Int) : Option Nat := if cW t = true ∧ ld t x.raw = true ∧ u5 t x.raw = x then some x.raw else none
theorem rd_val {t : Int} {n : Nat} {neg : Bool} (h : n < 18446744073709551616) : sW.val (if n = 0 then ⟨0, false⟩ else ⟨n, neg⟩) t = Iq t n neg := by
 unfold sW.val Iq
 by_cases h0 : n = 0
 ·subst h0
  simp only [sW.raw, u5]
  cases cW t <;> simp
 ·rw [if_neg h0]
  simp only [sW.raw, u5]
  have hp : 0 < n := by omega
  cases hn : neg with
  | false =>
   cases hw : cW t <;> cases hs : eO t <;> simp
   by_cases h2 : 9223372036854775808 ≤ n
   ·simp [h2]
   ·have h5 : n < 9223372036854775808 := by omega
    simp [h2, h5]
  | true =>
   cases hw : cW t <;> cases hs : eO t <;> simp [hp]
   by_cases h2 : 9223372036854775808 < n
   ·have : ¬ 9223372036854775808 ≤ 18446744073709551616 - n := by omega
    simp [h2, this]
   ·have h3 : 9223372036854775808 ≤ 18446744073709551616 - n := by omega
    have h4 : 18446744073709551616 - (18446744073709551616 - n) = n := by omega
    simp [h2, h3, h4]
/- names, in the program. -/
theorem AL : an [] = false := by decide
theorem ku {α : Type} {p : α → Bool} : ∀ {l : List α} {i : Nat}, decide (bU p l i ≥ 0) = l.any p
 | [], i => rfl
 | a :: l, i => by
  unfold bU
  cases h : p a with
  | true => simp [h]
  | false => simp only [List.any_cons, h, Bool.false_or, if_false]; exact ku
/- Plain laws: a list of texts, sorted, rises just if none is there twice. No condition. -/
theorem l8 : ∀ (r pre : List aw), eg (pre ++ r) r pre.length = true ↔ (∀ x ∈ r, x ∉ pre) ∧ r.Nodup
 | [], pre => by simp [eg]
 | a :: r, pre => by
  have ih := l8 r (pre ++ [a])
  rw [List.append_assoc, List.length_append] at ih
  simp only [List.singleton_append, List.length_cons, List.length_nil, Nat.zero_add] at ih
  simp only [eg, Bool.and_eq_true, Bool.not_eq_true', List.take_left, ih]
  constructor
  ·rintro ⟨h1, h2, h3⟩
   have h1' : a ∉ pre := fun hm => by
    have : (pre.any fun b => a == b) = true := List.any_eq_true.2 ⟨a, hm, by simp⟩
    rw [h1] at this; cases this
   refine ⟨fun x hx => ?_, List.nodup_cons.2 ⟨fun hm => h2 a hm (by simp), h3⟩⟩
   rcases List.mem_cons.1 hx with rfl | hx
   ·exact h1'
   ·exact fun hm => h2 x hx (by simp [hm])
  ·rintro ⟨h1, h2⟩
   have h3 := List.nodup_cons.1 h2
   refine ⟨?_, fun x hx hm => ?_, h3.2⟩
   ·rw [Bool.eq_false_iff]
    intro h
    obtain ⟨b, hb, e⟩ := List.any_eq_true.1 h
    have : a = b := by simpa using e
    subst this
    exact h1 a (by simp) hb
   ·rcases List.mem_append.1 hm with hm | hm
    ·exact h1 x (by simp [hx]) hm
    ·simp at hm; subst hm; exact h3.1 hx
theorem tT (l : List aw) : once l = true ↔ l.Nodup := by
 have := l8 l []
 simpa [once] using this
/- steps that may be, in the program and in the document. -/
theorem Ar : aa Tryz.prog 72 = true := by kernel_rfl
theorem iK : aa Tryz.prog 73 = true := by kernel_rfl
theorem Fq : aa Tryz.prog 75 = true := by kernel_rfl
structure JN where
 dst : Bool
 als : Bool
 num : Bool
 oth : Bool
 ty : Bool
 nms : Bool
 dv : Bool
def kk (k : Int) : JN :=
 if k = 1 then ⟨true, false, false, false, false, false, false⟩
 else if k = 2 then ⟨false, false, true, false, false, false, false⟩
 else if k = 3 then ⟨false, false, false, false, true, false, false⟩
 else if k = 4 then ⟨true, true, true, true, false, false, false⟩
 else if k = 5 ∨ k = 6 then ⟨true, true, true, false, false, false, false⟩
 else if k = 8 then ⟨false, false, false, false, false, true, false⟩
 else if k = 9 then ⟨false, false, true, false, true, false, true⟩
 else ⟨false, false, false, false, false, false, false⟩
def HH (h : Bool) (s : aw) : Bool := (h && an s) || (!h && s == [])
def HF (h : Bool) (n : Int) : Bool := (h && nJ n) || (!h && decide (n = 0))
def aP.typed (x : aP) : Bool := if x.kind = 3 then cW x.ty else if x.kind = 9 then !(rI x.ty == []) else decide (x.ty = 0)
def IZ (h : Bool) (l : List aw) : Bool := if h then decide (1 ≤ l.length) && decide (l.length ≤ 10) && l.all an && once l else decide (l.length = 0)
def lS : aM := ⟨[], []⟩
def GY (t : Int) : ag := ⟨[], 0, t, [], false, false, []⟩
def IC (h : Bool) (t : Int) (v : cf) : Bool := if h then v.ok lS (GY t) else decide (v.n = 0) && v.s == [] && decide (v.m.length = 0)
def aP.right (x : aP) : Bool :=
 decide (1 ≤ x.kind) && decide (x.kind ≤ 10) && an x.msg && an x.field && HH (kk x.kind).dst x.dest && HH (kk x.kind).als x.also && HF (kk x.kind).num x.num && HF (kk x.kind).oth x.other &&
 x.typed && IZ (kk x.kind).nms x.names && IC (kk x.kind).dv x.ty x.dv
structure aP.fT (x : aP) : Prop where
 s : x.dv.s.length ≤ 9223372036854775807
 u : ∀ t ∈ x.dv.m, t.fT
 n : x.names.length ≤ 9223372036854775807
theorem xf : lS.G4 := ⟨by decide, (fun m h => (by cases h)), (fun m h => (by cases h))⟩
def kh (v : cf) : Bool := decide (v.n = 0) && v.s == [] && decide (v.m.length = 0)
def bn (x : aP) (d a n o : Bool) : Bool :=
 if d ≠ !(x.dest == []) ∨ a ≠ !(x.also == []) ∨ n ≠ !decide (x.num = 0) ∨ o ≠ !decide (x.other = 0) then false
 else (!d || an x.dest) && (!a || an x.also) && (!n || nJ x.num) && (!o || nJ x.other)
def aP.ba (x : aP) : Bool :=
 if an x.msg = false ∨ an x.field = false then false
 else if (x.kind ≠ 8 ∧ 0 < x.names.length) ∨ (x.kind ≠ 9 ∧ kh x.dv = false) ∨ (x.kind ≠ 3 ∧ x.kind ≠ 9 ∧ x.ty ≠ 0) then false
 else if x.kind = 1 then bn x true false false false
 else if x.kind = 2 then bn x false false true false
 else if x.kind = 3 then bn x false false false false && cW x.ty
 else if x.kind = 4 then bn x true true true true
 else if x.kind = 5 ∨ x.kind = 6 then bn x true true true false
 else if x.kind = 7 ∨ x.kind = 10 then bn x false false false false
 else if x.kind = 8 then bn x false false false false && decide (1 ≤ x.names.length) && decide (x.names.length ≤ 10) && x.names.all an && once x.names
 else if x.kind = 9 then bn x false false true false && decide (1 ≤ x.ty) && decide (x.ty ≤ 13) && x.dv.ok lS (GY x.ty)
 else false
theorem C7 (x : aP) (d a n o : Bool) : bn x d a n o = (HH d x.dest && HH a x.also && HF n x.num && HF o x.other) := by
 have h1 : an [] = false := AL
 have h2 : nJ 0 = false := by decide
 unfold bn HH HF
 by_cases e1 : x.dest = [] <;> by_cases e2 : x.also = [] <;> by_cases e3 : x.num = 0 <;> by_cases e4 : x.other = 0 <;> cases d <;> cases a <;> cases n <;> cases o <;> simp_all
theorem Bi {t : Int} : (rI t == []) = !(decide (1 ≤ t) && decide (t ≤ 13)) := by
 by_cases h : t < 1 ∨ 13 < t
 ·rw [uV h]; simp; omega
 ·have : t = 1 ∨ t = 2 ∨ t = 3 ∨ t = 4 ∨ t = 5 ∨ t = 6 ∨ t = 7 ∨ t = 8 ∨ t = 9 ∨ t = 10 ∨ t = 11 ∨ t = 12 ∨ t = 13 := by omega
  rcases this with rfl | rfl | rfl | rfl | rfl | rfl | rfl | rfl | rfl | rfl | rfl | rfl | rfl <;> decide
theorem right_eq (x : aP) : x.ba = x.right := by
 unfold aP.ba aP.right
 simp only [C7]
 by_cases hk : (x.kind < 1 ∨ 10 < x.kind)
 ·have h1 : (decide (1 ≤ x.kind) && decide (x.kind ≤ 10)) = false := by simp; omega
  rw [h1]
  simp only [Bool.false_and]
  split
  ·rfl
  split
  ·rfl
  rw [if_neg (by omega), if_neg (by omega), if_neg (by omega), if_neg (by omega), if_neg (by omega), if_neg (by omega), if_neg (by omega), if_neg (by omega)]
 ·have : x.kind = 1 ∨ x.kind = 2 ∨ x.kind = 3 ∨ x.kind = 4 ∨ x.kind = 5 ∨ x.kind = 6 ∨ x.kind = 7 ∨ x.kind = 8 ∨ x.kind = 9 ∨ x.kind = 10 := by omega
  rcases this with h | h | h | h | h | h | h | h | h | h
  all_goals
   simp only [h, kk, aP.typed, IZ, IC, Bi]
   cases an x.msg <;> cases an x.field <;> simp [kh, IZ, IC]
   try grind
theorem z1 (v : cf) : Pure Tryz.prog 72 [.agg v.cells] (.bool (kh v)) := by
 refine Pure.aN Tryz.func72 rfl rfl (aF rfl) fun H => (aC.seq (aC.region (aB.run II 2 rfl (aB.nil (aC.seq (aC.region (aB.run II 4 rfl (aB.tell (d := 6) rfl (fun hg1 => ?_) (fun hg1 => ?_)))))))))
 ·refine aB.run II 5 rfl (aB.tell (d := 11) rfl (fun hg2 => ?_) (fun hg2 => ?_))
  ·exact aB.run II 6 rfl (aB.nil (aC.ret ⟨.inr rfl, (aE.r1 rfl (.tmp rfl .nil)).cast (congrArg AV.bool (by first | grind [kh] | (rw [List.length_map]; simp_all [kh]; try (rw [Bool.eq_iff_iff]; simp)))), rfl⟩))
  ·exact aB.run II 6 rfl (aB.nil (aC.ret ⟨.inr rfl, (aE.r1 rfl (.tmp rfl .nil)).cast (congrArg AV.bool (by first | grind [kh] | (rw [List.length_map]; simp_all [kh]; try (rw [Bool.eq_iff_iff]; simp)))), rfl⟩))
 ·exact aB.run II 11 rfl (aB.nil (aC.ret ⟨.inr rfl, (aE.r1 rfl (.tmp rfl .nil)).cast (congrArg AV.bool (by first | grind [kh] | (rw [List.length_map]; simp_all [kh]; try (rw [Bool.eq_iff_iff]; simp)))), rfl⟩))
theorem CT (l : List aw) (hl : l.length ≤ 9223372036854775807) : Pure Tryz.prog 75 [.sl (l.map .str)] (.bool (l.all an)) := by
 refine Pure.aN Tryz.func75 rfl rfl (aF rfl) fun H => (aC.seq (aC.region (aB.run II 1 rfl (aB.nil (aC.seq (aC.seq (aC.region (aB.run II 1 rfl (aB.nil (aC.blk (aC.aJ (Kept.aH [.s 3, .h, .s 0] rfl (by decide) (Kept.now (aC.aW (fun (k : Nat) => [(.s 3, .sv (.v (.int .i64 (k : Int))))]) _ (fun (k : Nat) => (l.drop k).all an = l.all an) (fun (k : Nat) => l.length - k) 0 rfl (by simp) ?_))))))))))))))
 rintro k hI
 refine aC.seq (aC.seq (aC.region (aB.run II 4 rfl (aB.nil (aC.cond rfl (fun hc1 => ?_) (fun hc1 => ?_))))))
 ·have hk := ch hc1
  refine aC.skip (aC.seq (aC.blk (aC.seq (aC.region (aB.run II 2 rfl (aB.c1 rfl (aI (aF rfl) ca rfl rfl (Int.natCast_nonneg _) (bz hk) rfl) (aB.run II 1 rfl (aB.c1 rfl (aG (aF rfl) fQ rfl (cu _)) (aB.run II 1 rfl (aB.nil (aC.cond rfl (fun hc2 => ?_) (fun hc2 => ?_))))))))))))
  ·exact aC.seq (aC.region (aB.run II 1 rfl (aB.nil (aC.ret ⟨.inr rfl, (aE.r1 rfl (.tmp rfl .nil)).cast (congrArg AV.bool (by rw [← hI, iw hk, show an l[k] = false by simpa using hc2]; rfl)), rfl⟩))))
  ·exact aC.skip (aC.region (aB.run II 3 rfl (aB.kept (Kept.aX 3 rfl (inc (by omega)) (Kept.aH [.s 3, .h, .s 0] rfl (by decide) (Kept.now ⟨k + 1, by omega, by rw [← hI, iw hk, show an l[k] = true by simpa using hc2]; rfl, rfl⟩))))))
 ·have hk := ck hc1
  exact aC.exit (aC.seq (aC.region (aB.run II 1 rfl (aB.nil (aC.ret ⟨.inr rfl, (aE.r1 rfl (.tmp rfl .nil)).cast (congrArg AV.bool (by rw [← hI, lz hk])), rfl⟩)))))
theorem iD (x : aP) (d a n o : Bool) : Pure Tryz.prog 73 [x.av, .bool d, .bool a, .bool n, .bool o] (.bool (bn x d a n o)) := by
 refine Pure.aN Tryz.func73 rfl rfl (aF rfl) fun H => (aC.seq (aC.region (aB.run II 2 rfl (aB.nil (aC.seq (aC.seq (aC.region (aB.run II 6 rfl (aB.tell (d := 16) rfl (fun hg1 => ?_) (fun hg1 => ?_))))))))))
 ·exact aB.run II 20 rfl (aB.nil (aC.bG rfl rfl (aC.seq (aC.region (aB.run II 1 rfl (aB.nil (aC.ret ⟨.inr rfl, (aE.r1 rfl (.tmp rfl .nil)).cast (congrArg AV.bool (by grind [bn])), rfl⟩)))))))
 ·refine aB.run II 7 rfl (aB.tell (d := 23) rfl (fun hg2 => ?_) (fun hg2 => ?_))
  ·exact aB.run II 13 rfl (aB.nil (aC.bG rfl rfl (aC.seq (aC.region (aB.run II 1 rfl (aB.nil (aC.ret ⟨.inr rfl, (aE.r1 rfl (.tmp rfl .nil)).cast (congrArg AV.bool (by grind [bn])), rfl⟩)))))))
  ·refine aB.run II 7 rfl (aB.tell (d := 30) rfl (fun hg3 => ?_) (fun hg3 => ?_))
   ·exact aB.run II 6 rfl (aB.nil (aC.bG rfl rfl (aC.seq (aC.region (aB.run II 1 rfl (aB.nil (aC.ret ⟨.inr rfl, (aE.r1 rfl (.tmp rfl .nil)).cast (congrArg AV.bool (by grind [bn])), rfl⟩)))))))
   ·refine aB.run II 6 rfl (aB.nil (aC.cond rfl (fun hc4 => ?_) (fun hc4 => ?_)))
    ·exact aC.seq (aC.region (aB.run II 1 rfl (aB.nil (aC.ret ⟨.inr rfl, (aE.r1 rfl (.tmp rfl .nil)).cast (congrArg AV.bool (by grind [bn])), rfl⟩))))
    ·refine aC.skip (aC.seq (aC.region (aB.run II 3 rfl (aB.tell (d := 39) rfl (fun hg5 => ?_) (fun hg5 => ?_)))))
     ·refine aB.run II 8 rfl (aB.tell (d := 47) rfl (fun hg6 => ?_) (fun hg6 => ?_))
      ·refine aB.run II 9 rfl (aB.tell (d := 56) rfl (fun hg7 => ?_) (fun hg7 => ?_))
       ·refine aB.run II 9 rfl (aB.tell (d := 65) rfl (fun hg8 => ?_) (fun hg8 => ?_))
        ·exact aB.run II 6 rfl (aB.nil (aC.ret ⟨.inr rfl, (aE.r1 rfl (.tmp rfl .nil)).cast (congrArg AV.bool (by grind [bn])), rfl⟩))
        ·exact aB.run II 2 rfl (aB.g1 rfl (aF rfl) rfl rfl (aG (aF rfl) ep rfl (eZ _)) (aB.run II 3 rfl (aB.nil (aC.ret ⟨.inr rfl, (aE.r1 rfl (.tmp rfl .nil)).cast (congrArg AV.bool (by grind [bn])), rfl⟩))))
       ·refine aB.run II 2 rfl (aB.g1 rfl (aF rfl) rfl rfl (aG (aF rfl) ep rfl (eZ _)) (aB.run II 3 rfl (aB.tell (d := 62) rfl (fun hg9 => ?_) (fun hg9 => ?_))))
        ·refine aB.run II 3 rfl (aB.tell (d := 65) rfl (fun hg10 => ?_) (fun hg10 => ?_))
         ·exact aB.run II 6 rfl (aB.nil (aC.ret ⟨.inr rfl, (aE.r1 rfl (.tmp rfl .nil)).cast (congrArg AV.bool (by grind [bn])), rfl⟩))
         ·exact aB.run II 2 rfl (aB.g1 rfl (aF rfl) rfl rfl (aG (aF rfl) ep rfl (eZ _)) (aB.run II 3 rfl (aB.nil (aC.ret ⟨.inr rfl, (aE.r1 rfl (.tmp rfl .nil)).cast (congrArg AV.bool (by grind [bn])), rfl⟩))))
        ·exact aB.run II 9 rfl (aB.nil (aC.ret ⟨.inr rfl, (aE.r1 rfl (.tmp rfl .nil)).cast (congrArg AV.bool (by grind [bn])), rfl⟩))
      ·refine aB.run II 2 rfl (aB.g1 rfl (aF rfl) rfl rfl (aG (aF rfl) fQ rfl (cu _)) (aB.run II 3 rfl (aB.tell (d := 53) rfl (fun hg11 => ?_) (fun hg11 => ?_))))
       ·refine aB.run II 3 rfl (aB.tell (d := 56) rfl (fun hg12 => ?_) (fun hg12 => ?_))
        ·refine aB.run II 9 rfl (aB.tell (d := 65) rfl (fun hg13 => ?_) (fun hg13 => ?_))
         ·exact aB.run II 6 rfl (aB.nil (aC.ret ⟨.inr rfl, (aE.r1 rfl (.tmp rfl .nil)).cast (congrArg AV.bool (by grind [bn])), rfl⟩))
         ·exact aB.run II 2 rfl (aB.g1 rfl (aF rfl) rfl rfl (aG (aF rfl) ep rfl (eZ _)) (aB.run II 3 rfl (aB.nil (aC.ret ⟨.inr rfl, (aE.r1 rfl (.tmp rfl .nil)).cast (congrArg AV.bool (by grind [bn])), rfl⟩))))
        ·refine aB.run II 2 rfl (aB.g1 rfl (aF rfl) rfl rfl (aG (aF rfl) ep rfl (eZ _)) (aB.run II 3 rfl (aB.tell (d := 62) rfl (fun hg14 => ?_) (fun hg14 => ?_))))
         ·refine aB.run II 3 rfl (aB.tell (d := 65) rfl (fun hg15 => ?_) (fun hg15 => ?_))
          ·exact aB.run II 6 rfl (aB.nil (aC.ret ⟨.inr rfl, (aE.r1 rfl (.tmp rfl .nil)).cast (congrArg AV.bool (by grind [bn])), rfl⟩))
          ·exact aB.run II 2 rfl (aB.g1 rfl (aF rfl) rfl rfl (aG (aF rfl) ep rfl (eZ _)) (aB.run II 3 rfl (aB.nil (aC.ret ⟨.inr rfl, (aE.r1 rfl (.tmp rfl .nil)).cast (congrArg AV.bool (by grind [bn])), rfl⟩))))
         ·exact aB.run II 9 rfl (aB.nil (aC.ret ⟨.inr rfl, (aE.r1 rfl (.tmp rfl .nil)).cast (congrArg AV.bool (by grind [bn])), rfl⟩))
       ·exact aB.run II 18 rfl (aB.nil (aC.ret ⟨.inr rfl, (aE.r1 rfl (.tmp rfl .nil)).cast (congrArg AV.bool (by grind [bn])), rfl⟩))
     ·refine aB.run II 2 rfl (aB.g1 rfl (aF rfl) rfl rfl (aG (aF rfl) fQ rfl (cu _)) (aB.run II 2 rfl (aB.tell (d := 44) rfl (fun hg16 => ?_) (fun hg16 => ?_))))
      ·refine aB.run II 3 rfl (aB.tell (d := 47) rfl (fun hg17 => ?_) (fun hg17 => ?_))
       ·refine aB.run II 9 rfl (aB.tell (d := 56) rfl (fun hg18 => ?_) (fun hg18 => ?_))
        ·refine aB.run II 9 rfl (aB.tell (d := 65) rfl (fun hg19 => ?_) (fun hg19 => ?_))
         ·exact aB.run II 6 rfl (aB.nil (aC.ret ⟨.inr rfl, (aE.r1 rfl (.tmp rfl .nil)).cast (congrArg AV.bool (by grind [bn])), rfl⟩))
         ·exact aB.run II 2 rfl (aB.g1 rfl (aF rfl) rfl rfl (aG (aF rfl) ep rfl (eZ _)) (aB.run II 3 rfl (aB.nil (aC.ret ⟨.inr rfl, (aE.r1 rfl (.tmp rfl .nil)).cast (congrArg AV.bool (by grind [bn])), rfl⟩))))
        ·refine aB.run II 2 rfl (aB.g1 rfl (aF rfl) rfl rfl (aG (aF rfl) ep rfl (eZ _)) (aB.run II 3 rfl (aB.tell (d := 62) rfl (fun hg20 => ?_) (fun hg20 => ?_))))
         ·refine aB.run II 3 rfl (aB.tell (d := 65) rfl (fun hg21 => ?_) (fun hg21 => ?_))
          ·exact aB.run II 6 rfl (aB.nil (aC.ret ⟨.inr rfl, (aE.r1 rfl (.tmp rfl .nil)).cast (congrArg AV.bool (by grind [bn])), rfl⟩))
          ·exact aB.run II 2 rfl (aB.g1 rfl (aF rfl) rfl rfl (aG (aF rfl) ep rfl (eZ _)) (aB.run II 3 rfl (aB.nil (aC.ret ⟨.inr rfl, (aE.r1 rfl (.tmp rfl .nil)).cast (congrArg AV.bool (by grind [bn])), rfl⟩))))
         ·exact aB.run II 9 rfl (aB.nil (aC.ret ⟨.inr rfl, (aE.r1 rfl (.tmp rfl .nil)).cast (congrArg AV.bool (by grind [bn])), rfl⟩))
       ·refine aB.run II 2 rfl (aB.g1 rfl (aF rfl) rfl rfl (aG (aF rfl) fQ rfl (cu _)) (aB.run II 3 rfl (aB.tell (d := 53) rfl (fun hg22 => ?_) (fun hg22 => ?_))))
        ·refine aB.run II 3 rfl (aB.tell (d := 56) rfl (fun hg23 => ?_) (fun hg23 => ?_))
         ·refine aB.run II 9 rfl (aB.tell (d := 65) rfl (fun hg24 => ?_) (fun hg24 => ?_))
          ·exact aB.run II 6 rfl (aB.nil (aC.ret ⟨.inr rfl, (aE.r1 rfl (.tmp rfl .nil)).cast (congrArg AV.bool (by grind [bn])), rfl⟩))
          ·exact aB.run II 2 rfl (aB.g1 rfl (aF rfl) rfl rfl (aG (aF rfl) ep rfl (eZ _)) (aB.run II 3 rfl (aB.nil (aC.ret ⟨.inr rfl, (aE.r1 rfl (.tmp rfl .nil)).cast (congrArg AV.bool (by grind [bn])), rfl⟩))))
         ·refine aB.run II 2 rfl (aB.g1 rfl (aF rfl) rfl rfl (aG (aF rfl) ep rfl (eZ _)) (aB.run II 3 rfl (aB.tell (d := 62) rfl (fun hg25 => ?_) (fun hg25 => ?_))))
          ·refine aB.run II 3 rfl (aB.tell (d := 65) rfl (fun hg26 => ?_) (fun hg26 => ?_))
           ·exact aB.run II 6 rfl (aB.nil (aC.ret ⟨.inr rfl, (aE.r1 rfl (.tmp rfl .nil)).cast (congrArg AV.bool (by grind [bn])), rfl⟩))
           ·exact aB.run II 2 rfl (aB.g1 rfl (aF rfl) rfl rfl (aG (aF rfl) ep rfl (eZ _)) (aB.run II 3 rfl (aB.nil (aC.ret ⟨.inr rfl, (aE.r1 rfl (.tmp rfl .nil)).cast (congrArg AV.bool (by grind [bn])), rfl⟩))))
          ·exact aB.run II 9 rfl (aB.nil (aC.ret ⟨.inr rfl, (aE.r1 rfl (.tmp rfl .nil)).cast (congrArg AV.bool (by grind [bn])), rfl⟩))
        ·exact aB.run II 18 rfl (aB.nil (aC.ret ⟨.inr rfl, (aE.r1 rfl (.tmp rfl .nil)).cast (congrArg AV.bool (by grind [bn])), rfl⟩))
      ·exact aB.run II 27 rfl (aB.nil (aC.ret ⟨.inr rfl, (aE.r1 rfl (.tmp rfl .nil)).cast (congrArg AV.bool (by grind [bn])), rfl⟩))
set_option maxHeartbeats 4000000 in
theorem zT (x : aP) (hb : x.fT) : Pure Tryz.prog 39 [x.av] (.bool x.ba) := by
 refine Pure.aN Tryz.func39 rfl rfl (aF rfl) fun H => (aC.seq (aC.region (aB.run II 2 rfl (aB.nil (aC.c8 [.h, .s 1, .b 1] (fun (_ : Unit) => []) (fun (_ : Unit) => ¬ (an x.msg = false ∨ an x.field = false)) rfl ?_ ?_)))))
 ·refine aC.seq (aC.region (aB.run II 2 rfl (aB.c1 rfl (aG (aF rfl) fQ rfl (cu _)) (aB.run II 2 rfl (aB.tell (d := 7) rfl (fun hg1 => ?_) (fun hg1 => ?_))))))
  ·exact aB.run II 5 rfl (aB.nil (aC.bG rfl rfl (aC.seq (aC.region (aB.run II 1 rfl (aB.nil (aC.ret ⟨.inr rfl, (aE.r1 rfl (.tmp rfl .nil)).cast (congrArg AV.bool (by have hm : (x.names.map AV.str).length = x.names.length := List.length_map _; grind [aP.ba])), rfl⟩)))))))
  ·refine aB.run II 2 rfl (aB.g1 rfl (aF rfl) rfl rfl (aG (aF rfl) fQ rfl (cu _)) (aB.run II 2 rfl (aB.nil (aC.cond rfl (fun hc2 => ?_) (fun hc2 => ?_)))))
   ·exact aC.seq (aC.region (aB.run II 1 rfl (aB.nil (aC.ret ⟨.inr rfl, (aE.r1 rfl (.tmp rfl .nil)).cast (congrArg AV.bool (by have hm : (x.names.map AV.str).length = x.names.length := List.length_map _; grind [aP.ba])), rfl⟩))))
   ·exact aC.aJ (Kept.aH [.h, .s 1, .b 1] rfl (by decide) (Kept.now (aC.skip ⟨(), by have hm : (x.names.map AV.str).length = x.names.length := List.length_map _; grind, rfl⟩)))
 ·rintro _ hF3
  refine aC.c8 [.h, .s 1, .b 1] (fun (_ : Unit) => []) (fun (_ : Unit) => ¬ ((x.kind ≠ 8 ∧ 0 < x.names.length) ∨ (x.kind ≠ 9 ∧ kh x.dv = false) ∨ (x.kind ≠ 3 ∧ x.kind ≠ 9 ∧ x.ty ≠ 0))) rfl ?_ ?_
  ·refine aC.seq (aC.region (aB.run II 4 rfl (aB.tell (d := 16) rfl (fun hg3 => ?_) (fun hg3 => ?_))))
   ·refine aB.run II 6 rfl (aB.tell (d := 22) rfl (fun hg4 => ?_) (fun hg4 => ?_))
    ·exact aB.run II 25 rfl (aB.nil (aC.bG rfl rfl (aC.seq (aC.region (aB.run II 1 rfl (aB.nil (aC.ret ⟨.inr rfl, (aE.r1 rfl (.tmp rfl .nil)).cast (congrArg AV.bool (by have hm : (x.names.map AV.str).length = x.names.length := List.length_map _; grind [aP.ba])), rfl⟩)))))))
    ·refine aB.run II 4 rfl (aB.tell (d := 26) rfl (fun hg5 => ?_) (fun hg5 => ?_))
     ·refine aB.run II 2 rfl (aB.g1 rfl (aF rfl) rfl rfl (aG (aF rfl) Ar rfl (z1 _)) (aB.run II 4 rfl (aB.tell (d := 33) rfl (fun hg6 => ?_) (fun hg6 => ?_))))
      ·exact aB.run II 14 rfl (aB.nil (aC.bG rfl rfl (aC.seq (aC.region (aB.run II 1 rfl (aB.nil (aC.ret ⟨.inr rfl, (aE.r1 rfl (.tmp rfl .nil)).cast (congrArg AV.bool (by have hm : (x.names.map AV.str).length = x.names.length := List.length_map _; grind [aP.ba])), rfl⟩)))))))
      ·refine aB.run II 4 rfl (aB.tell (d := 37) rfl (fun hg7 => ?_) (fun hg7 => ?_))
       ·refine aB.run II 5 rfl (aB.tell (d := 42) rfl (fun hg8 => ?_) (fun hg8 => ?_))
        ·refine aB.run II 5 rfl (aB.nil (aC.cond rfl (fun hc9 => ?_) (fun hc9 => ?_)))
         ·exact aC.seq (aC.region (aB.run II 1 rfl (aB.nil (aC.ret ⟨.inr rfl, (aE.r1 rfl (.tmp rfl .nil)).cast (congrArg AV.bool (by have hm : (x.names.map AV.str).length = x.names.length := List.length_map _; grind [aP.ba])), rfl⟩))))
         ·exact aC.aJ (Kept.aH [.h, .s 1, .b 1] rfl (by decide) (Kept.now (aC.skip ⟨(), by have hm : (x.names.map AV.str).length = x.names.length := List.length_map _; grind, rfl⟩)))
        ·exact aB.run II 5 rfl (aB.nil (aC.bR rfl rfl (aC.aJ (Kept.aH [.h, .s 1, .b 1] rfl (by decide) (Kept.now (aC.skip ⟨(), by have hm : (x.names.map AV.str).length = x.names.length := List.length_map _; grind, rfl⟩))))))
       ·exact aB.run II 10 rfl (aB.nil (aC.bR rfl rfl (aC.aJ (Kept.aH [.h, .s 1, .b 1] rfl (by decide) (Kept.now (aC.skip ⟨(), by have hm : (x.names.map AV.str).length = x.names.length := List.length_map _; grind, rfl⟩))))))
     ·refine aB.run II 11 rfl (aB.tell (d := 37) rfl (fun hg10 => ?_) (fun hg10 => ?_))
      ·refine aB.run II 5 rfl (aB.tell (d := 42) rfl (fun hg11 => ?_) (fun hg11 => ?_))
       ·refine aB.run II 5 rfl (aB.nil (aC.cond rfl (fun hc12 => ?_) (fun hc12 => ?_)))
        ·exact aC.seq (aC.region (aB.run II 1 rfl (aB.nil (aC.ret ⟨.inr rfl, (aE.r1 rfl (.tmp rfl .nil)).cast (congrArg AV.bool (by have hm : (x.names.map AV.str).length = x.names.length := List.length_map _; grind [aP.ba])), rfl⟩))))
        ·exact aC.aJ (Kept.aH [.h, .s 1, .b 1] rfl (by decide) (Kept.now (aC.skip ⟨(), by have hm : (x.names.map AV.str).length = x.names.length := List.length_map _; grind, rfl⟩)))
       ·exact aB.run II 5 rfl (aB.nil (aC.bR rfl rfl (aC.aJ (Kept.aH [.h, .s 1, .b 1] rfl (by decide) (Kept.now (aC.skip ⟨(), by have hm : (x.names.map AV.str).length = x.names.length := List.length_map _; grind, rfl⟩))))))
      ·exact aB.run II 10 rfl (aB.nil (aC.bR rfl rfl (aC.aJ (Kept.aH [.h, .s 1, .b 1] rfl (by decide) (Kept.now (aC.skip ⟨(), by have hm : (x.names.map AV.str).length = x.names.length := List.length_map _; grind, rfl⟩))))))
   ·refine aB.run II 10 rfl (aB.tell (d := 26) rfl (fun hg13 => ?_) (fun hg13 => ?_))
    ·refine aB.run II 2 rfl (aB.g1 rfl (aF rfl) rfl rfl (aG (aF rfl) Ar rfl (z1 _)) (aB.run II 4 rfl (aB.tell (d := 33) rfl (fun hg14 => ?_) (fun hg14 => ?_))))
     ·exact aB.run II 14 rfl (aB.nil (aC.bG rfl rfl (aC.seq (aC.region (aB.run II 1 rfl (aB.nil (aC.ret ⟨.inr rfl, (aE.r1 rfl (.tmp rfl .nil)).cast (congrArg AV.bool (by have hm : (x.names.map AV.str).length = x.names.length := List.length_map _; grind [aP.ba])), rfl⟩)))))))
     ·refine aB.run II 4 rfl (aB.tell (d := 37) rfl (fun hg15 => ?_) (fun hg15 => ?_))
      ·refine aB.run II 5 rfl (aB.tell (d := 42) rfl (fun hg16 => ?_) (fun hg16 => ?_))
       ·refine aB.run II 5 rfl (aB.nil (aC.cond rfl (fun hc17 => ?_) (fun hc17 => ?_)))
        ·exact aC.seq (aC.region (aB.run II 1 rfl (aB.nil (aC.ret ⟨.inr rfl, (aE.r1 rfl (.tmp rfl .nil)).cast (congrArg AV.bool (by have hm : (x.names.map AV.str).length = x.names.length := List.length_map _; grind [aP.ba])), rfl⟩))))
        ·exact aC.aJ (Kept.aH [.h, .s 1, .b 1] rfl (by decide) (Kept.now (aC.skip ⟨(), by have hm : (x.names.map AV.str).length = x.names.length := List.length_map _; grind, rfl⟩)))
       ·exact aB.run II 5 rfl (aB.nil (aC.bR rfl rfl (aC.aJ (Kept.aH [.h, .s 1, .b 1] rfl (by decide) (Kept.now (aC.skip ⟨(), by have hm : (x.names.map AV.str).length = x.names.length := List.length_map _; grind, rfl⟩))))))
      ·exact aB.run II 10 rfl (aB.nil (aC.bR rfl rfl (aC.aJ (Kept.aH [.h, .s 1, .b 1] rfl (by decide) (Kept.now (aC.skip ⟨(), by have hm : (x.names.map AV.str).length = x.names.length := List.length_map _; grind, rfl⟩))))))
    ·refine aB.run II 11 rfl (aB.tell (d := 37) rfl (fun hg18 => ?_) (fun hg18 => ?_))
     ·refine aB.run II 5 rfl (aB.tell (d := 42) rfl (fun hg19 => ?_) (fun hg19 => ?_))
      ·refine aB.run II 5 rfl (aB.nil (aC.cond rfl (fun hc20 => ?_) (fun hc20 => ?_)))
       ·exact aC.seq (aC.region (aB.run II 1 rfl (aB.nil (aC.ret ⟨.inr rfl, (aE.r1 rfl (.tmp rfl .nil)).cast (congrArg AV.bool (by have hm : (x.names.map AV.str).length = x.names.length := List.length_map _; grind [aP.ba])), rfl⟩))))
       ·exact aC.aJ (Kept.aH [.h, .s 1, .b 1] rfl (by decide) (Kept.now (aC.skip ⟨(), by have hm : (x.names.map AV.str).length = x.names.length := List.length_map _; grind, rfl⟩)))
      ·exact aB.run II 5 rfl (aB.nil (aC.bR rfl rfl (aC.aJ (Kept.aH [.h, .s 1, .b 1] rfl (by decide) (Kept.now (aC.skip ⟨(), by have hm : (x.names.map AV.str).length = x.names.length := List.length_map _; grind, rfl⟩))))))
     ·exact aB.run II 10 rfl (aB.nil (aC.bR rfl rfl (aC.aJ (Kept.aH [.h, .s 1, .b 1] rfl (by decide) (Kept.now (aC.skip ⟨(), by have hm : (x.names.map AV.str).length = x.names.length := List.length_map _; grind, rfl⟩))))))
  ·rintro _ hF5
   refine aC.seq (aC.seq (aC.region (aB.run II 2 rfl (aB.nil (aC.blk (aC.seq (aC.region (aB.run II 2 rfl (aB.nil (aC.cond rfl (fun hc21 => ?_) (fun hc21 => ?_)))))))))))
   ·exact aC.seq (aC.region (aB.run II 1 rfl (aB.c1 rfl (aG (aF rfl) iK rfl (iD _ _ _ _ _)) (aB.run II 1 rfl (aB.nil (aC.ret ⟨.inr rfl, (aE.r1 rfl (.tmp rfl .nil)).cast (congrArg AV.bool (by have hm : (x.names.map AV.str).length = x.names.length := List.length_map _; grind [aP.ba])), rfl⟩))))))
   ·refine aC.seq (aC.region (aB.run II 2 rfl (aB.nil (aC.cond rfl (fun hc22 => ?_) (fun hc22 => ?_)))))
    ·exact aC.seq (aC.region (aB.run II 1 rfl (aB.c1 rfl (aG (aF rfl) iK rfl (iD _ _ _ _ _)) (aB.run II 1 rfl (aB.nil (aC.ret ⟨.inr rfl, (aE.r1 rfl (.tmp rfl .nil)).cast (congrArg AV.bool (by have hm : (x.names.map AV.str).length = x.names.length := List.length_map _; grind [aP.ba])), rfl⟩))))))
    ·refine aC.seq (aC.region (aB.run II 2 rfl (aB.nil (aC.cond rfl (fun hc23 => ?_) (fun hc23 => ?_)))))
     ·refine aC.seq (aC.region (aB.run II 1 rfl (aB.c1 rfl (aG (aF rfl) iK rfl (iD _ _ _ _ _)) (aB.run II 1 rfl (aB.tell (d := 62) rfl (fun hg24 => ?_) (fun hg24 => ?_))))))
      ·exact aB.run II 2 rfl (aB.g1 rfl (aF rfl) rfl rfl (aG (aF rfl) va rfl (oG _)) (aB.run II 2 rfl (aB.nil (aC.ret ⟨.inr rfl, (aE.r1 rfl (.tmp rfl .nil)).cast (congrArg AV.bool (by have hm : (x.names.map AV.str).length = x.names.length := List.length_map _; grind [aP.ba])), rfl⟩))))
      ·exact aB.run II 5 rfl (aB.nil (aC.ret ⟨.inr rfl, (aE.r1 rfl (.tmp rfl .nil)).cast (congrArg AV.bool (by have hm : (x.names.map AV.str).length = x.names.length := List.length_map _; grind [aP.ba])), rfl⟩))
     ·refine aC.seq (aC.region (aB.run II 2 rfl (aB.nil (aC.cond rfl (fun hc25 => ?_) (fun hc25 => ?_)))))
      ·exact aC.seq (aC.region (aB.run II 1 rfl (aB.c1 rfl (aG (aF rfl) iK rfl (iD _ _ _ _ _)) (aB.run II 1 rfl (aB.nil (aC.ret ⟨.inr rfl, (aE.r1 rfl (.tmp rfl .nil)).cast (congrArg AV.bool (by have hm : (x.names.map AV.str).length = x.names.length := List.length_map _; grind [aP.ba])), rfl⟩))))))
      ·refine aC.seq (aC.seq (aC.region (aB.run II 2 rfl (aB.nil (aC.cond rfl (fun hc26 => ?_) (fun hc26 => ?_))))))
       ·exact aC.skip (aC.bG rfl hc26 (aC.seq (aC.region (aB.run II 1 rfl (aB.c1 rfl (aG (aF rfl) iK rfl (iD _ _ _ _ _)) (aB.run II 1 rfl (aB.nil (aC.ret ⟨.inr rfl, (aE.r1 rfl (.tmp rfl .nil)).cast (congrArg AV.bool (by have hm : (x.names.map AV.str).length = x.names.length := List.length_map _; grind [aP.ba])), rfl⟩))))))))
       ·refine aC.region (aB.run II 2 rfl (aB.nil (aC.cond rfl (fun hc27 => ?_) (fun hc27 => ?_))))
        ·exact aC.seq (aC.region (aB.run II 1 rfl (aB.c1 rfl (aG (aF rfl) iK rfl (iD _ _ _ _ _)) (aB.run II 1 rfl (aB.nil (aC.ret ⟨.inr rfl, (aE.r1 rfl (.tmp rfl .nil)).cast (congrArg AV.bool (by have hm : (x.names.map AV.str).length = x.names.length := List.length_map _; grind [aP.ba])), rfl⟩))))))
        ·refine aC.seq (aC.seq (aC.region (aB.run II 2 rfl (aB.nil (aC.cond rfl (fun hc28 => ?_) (fun hc28 => ?_))))))
         ·exact aC.skip (aC.bG rfl hc28 (aC.seq (aC.region (aB.run II 1 rfl (aB.c1 rfl (aG (aF rfl) iK rfl (iD _ _ _ _ _)) (aB.run II 1 rfl (aB.nil (aC.ret ⟨.inr rfl, (aE.r1 rfl (.tmp rfl .nil)).cast (congrArg AV.bool (by have hm : (x.names.map AV.str).length = x.names.length := List.length_map _; grind [aP.ba])), rfl⟩))))))))
         ·refine aC.region (aB.run II 2 rfl (aB.nil (aC.cond rfl (fun hc29 => ?_) (fun hc29 => ?_))))
          ·exact aC.seq (aC.region (aB.run II 1 rfl (aB.c1 rfl (aG (aF rfl) iK rfl (iD _ _ _ _ _)) (aB.run II 1 rfl (aB.nil (aC.ret ⟨.inr rfl, (aE.r1 rfl (.tmp rfl .nil)).cast (congrArg AV.bool (by have hm : (x.names.map AV.str).length = x.names.length := List.length_map _; grind [aP.ba])), rfl⟩))))))
          ·refine aC.seq (aC.region (aB.run II 2 rfl (aB.nil (aC.cond rfl (fun hc30 => ?_) (fun hc30 => ?_)))))
           ·refine aC.seq (aC.region (aB.run II 1 rfl (aB.c1 rfl (aG (aF rfl) iK rfl (iD _ _ _ _ _)) (aB.run II 1 rfl (aB.tell (d := 85) rfl (fun hg31 => ?_) (fun hg31 => ?_))))))
            ·refine aB.run II 6 rfl (aB.tell (d := 91) rfl (fun hg32 => ?_) (fun hg32 => ?_))
             ·refine aB.run II 6 rfl (aB.tell (d := 97) rfl (fun hg33 => ?_) (fun hg33 => ?_))
              ·refine aB.run II 2 rfl (aB.g1 rfl (aF rfl) rfl rfl (aG (aF rfl) Fq rfl (CT _ hb.n)) (aB.run II 2 rfl (aB.tell (d := 102) rfl (fun hg34 => ?_) (fun hg34 => ?_))))
               ·exact aB.run II 2 rfl (aB.g1 rfl (aF rfl) rfl rfl (aG (aF rfl) pJ rfl (oI _ hb.n)) (aB.run II 2 rfl (aB.nil (aC.ret ⟨.inr rfl, (aE.r1 rfl (.tmp rfl .nil)).cast (congrArg AV.bool (by have hm : (x.names.map AV.str).length = x.names.length := List.length_map _; grind [aP.ba])), rfl⟩))))
               ·exact aB.run II 5 rfl (aB.nil (aC.ret ⟨.inr rfl, (aE.r1 rfl (.tmp rfl .nil)).cast (congrArg AV.bool (by have hm : (x.names.map AV.str).length = x.names.length := List.length_map _; grind [aP.ba])), rfl⟩))
              ·exact aB.run II 10 rfl (aB.nil (aC.ret ⟨.inr rfl, (aE.r1 rfl (.tmp rfl .nil)).cast (congrArg AV.bool (by have hm : (x.names.map AV.str).length = x.names.length := List.length_map _; grind [aP.ba])), rfl⟩))
             ·exact aB.run II 16 rfl (aB.nil (aC.ret ⟨.inr rfl, (aE.r1 rfl (.tmp rfl .nil)).cast (congrArg AV.bool (by have hm : (x.names.map AV.str).length = x.names.length := List.length_map _; grind [aP.ba])), rfl⟩))
            ·exact aB.run II 22 rfl (aB.nil (aC.ret ⟨.inr rfl, (aE.r1 rfl (.tmp rfl .nil)).cast (congrArg AV.bool (by have hm : (x.names.map AV.str).length = x.names.length := List.length_map _; grind [aP.ba])), rfl⟩))
           ·refine aC.seq (aC.region (aB.run II 2 rfl (aB.nil (aC.cond rfl (fun hc35 => ?_) (fun hc35 => ?_)))))
            ·refine aC.seq (aC.region (aB.run II 1 rfl (aB.c1 rfl (aG (aF rfl) iK rfl (iD _ _ _ _ _)) (aB.run II 1 rfl (aB.tell (d := 111) rfl (fun hg36 => ?_) (fun hg36 => ?_))))))
             ·refine aB.run II 5 rfl (aB.tell (d := 116) rfl (fun hg37 => ?_) (fun hg37 => ?_))
              ·refine aB.run II 5 rfl (aB.tell (d := 121) rfl (fun hg38 => ?_) (fun hg38 => ?_))
               ·exact aB.run II 6 rfl (aB.g1 rfl (aF rfl) rfl rfl (aG (aF rfl) Aq rfl (Dl lS (GY x.ty) x.dv hb.s fun u hu name => E1 lS xf u (hb.u u hu) name)) (aB.run II 2 rfl (aB.nil (aC.ret ⟨.inr rfl, (aE.r1 rfl (.tmp rfl .nil)).cast (congrArg AV.bool (by have hm : (x.names.map AV.str).length = x.names.length := List.length_map _; grind [aP.ba])), rfl⟩))))
               ·exact aB.run II 9 rfl (aB.nil (aC.ret ⟨.inr rfl, (aE.r1 rfl (.tmp rfl .nil)).cast (congrArg AV.bool (by have hm : (x.names.map AV.str).length = x.names.length := List.length_map _; grind [aP.ba])), rfl⟩))
              ·exact aB.run II 14 rfl (aB.nil (aC.ret ⟨.inr rfl, (aE.r1 rfl (.tmp rfl .nil)).cast (congrArg AV.bool (by have hm : (x.names.map AV.str).length = x.names.length := List.length_map _; grind [aP.ba])), rfl⟩))
             ·exact aB.run II 19 rfl (aB.nil (aC.ret ⟨.inr rfl, (aE.r1 rfl (.tmp rfl .nil)).cast (congrArg AV.bool (by have hm : (x.names.map AV.str).length = x.names.length := List.length_map _; grind [aP.ba])), rfl⟩))
            ·exact aC.skip (aC.seq (aC.region (aB.run II 1 rfl (aB.nil (aC.ret ⟨.inr rfl, (aE.r1 rfl (.tmp rfl .nil)).cast (congrArg AV.bool (by have hm : (x.names.map AV.str).length = x.names.length := List.length_map _; grind [aP.ba])), rfl⟩)))))
theorem CQ (x : aP) (hb : x.fT) : Pure Tryz.prog 39 [x.av] (.bool x.right) := right_eq x ▸ zT x hb
open Go Go.RowKit
/- Plain laws: migrations of schemas, and what they are lowered to, as the document says it. No condition. -/
/-! ### to stand in a list that rises -/
def cF {α : Type} (p : α → Bool) : List α → Nat
 | [] => 0
 | a :: l => if cF p l = l.length ∧ p a = true then l.length + 1 else cF p l
def eC {α : Type} (l : List α) (at_ : Nat) (x : α) : List α := l.take at_ ++ x :: l.drop at_
def cG {α : Type} (p : α → Bool) (x : α) (l : List α) : List α := eC l (l.length - cF p l) x
def bF {α : Type} (gt : α → α → Bool) (l : List α) : List α := l.foldl (fun acc x => cG (fun y => gt y x) x acc) []
def Ba (t s : aw) : Bool := !(k8 t s || t == s)
def dR (l : List aw) (from_ : Nat) (s : aw) : Nat := if l.length ≤ from_ then l.length else max from_ (l.length - cF (fun t => Ba t s) l)
def dP.sort (e : dP) : dP := ⟨e.name, bF (fun y x : iy => decide (y.num > x.num)) e.values⟩
def aU.sort (m : aU) : aU := ⟨m.name, bF (fun y x : ag => decide (y.num > x.num)) m.fields, bF (fun y x : Int => decide (y > x)) m.ab⟩
def vV (acc : List dP) (e : dP) : List dP := eC acc (dR (acc.map (·.name)) 0 e.name) e.sort
def jx (acc : List aU) (m : aU) : List aU := eC acc (if acc.length = 0 then 0 else dR (acc.map (·.name)) 1 m.name) m.sort
def aM.sorted (s : aM) : aM := ⟨s.enums.foldl vV [], s.msgs.foldl jx []⟩
/-! ### fields -/
def aU.cQ (m : aU) (name : aw) : Int := bU (fun f : ag => f.name == name) m.fields 0
def aU.members (m : aU) (one : aw) : List Int := (m.fields.filter fun f => !(one == []) && f.one == one).map (·.num)
def aM.kY (s : aM) (name : aw) : Nat := (s.msgs.map fun m => m.fields.countP fun f => decide (f.ty = 15) && f.ref == name).sum
def aU.free (m : aU) (num : Int) : Bool := nJ num && (m.fields.all fun f => !(f.num == num)) && !(m.ab.any (· == num))
def ag.alone (f : ag) : Bool := !f.rep && f.one == []
def dg : ag := ⟨[], 0, 0, [], false, false, []⟩
def ja : aU := ⟨[], [], []⟩
def aU.aQ (m : aU) (name : aw) : ag := (m.fields.find? fun f => f.name == name).getD dg
def aU.eD (m : aU) (name : aw) : Bool := m.fields.any fun f => f.name == name
/-! ### a step, applied -/
def aP.bg (x : aP) : List aw := if x.kind = 8 then x.names else if x.kind = 9 then [] else if x.kind = 5 then [x.field, x.also] else [x.field]
def aM.boxed (s : aM) (m : aU) (f : ag) : Bool :=
 decide (f.ty = 15) && f.alone && decide (1 ≤ s.bD f.ref) && !(f.ref == m.name) && decide (s.kY f.ref = 1) &&
  (match (s.iV f.ref).map (·.fields) with | some [g] => g.one == [] | _ => false)
def aP.asked (s : aM) (m : aU) (x : aP) : Bool :=
 let f := m.aQ x.field
 if x.kind = 3 then decide (1 ≤ f.ty) && decide (f.ty ≤ 11) && !decide (f.ty = 7)
 else if x.kind = 4 then (decide (f.ty = 4) || decide (f.ty = 9)) && f.alone
 else if x.kind = 5 then !(x.field == x.also) && decide (f.ty = 3) && decide ((m.aQ x.also).ty = 3) && f.alone && (m.aQ x.also).alone
 else if x.kind = 6 then f.one == []
 else if x.kind = 10 then f.one == [] && !decide (f.ty = 15)
 else if x.kind = 7 then s.boxed m f
 else if x.kind = 8 then x.names.all fun n => (m.aQ n).alone
 else true
def aP.goes (x : aP) : List aw := if x.kind = 2 ∨ x.kind = 4 ∨ x.kind = 6 ∨ x.kind = 7 ∨ x.kind = 10 then [x.field] else if x.kind = 5 then [x.field, x.also] else []
def aP.comes (s : aM) (f : ag) (x : aP) : List ag :=
 if x.kind = 2 then [{ f with num := x.num }]
 else if x.kind = 4 then [{ dg with name := x.dest, num := x.num, ty := 3 }, { dg with name := x.also, num := x.other, ty := 3 }]
 else if x.kind = 5 then [{ dg with name := x.dest, num := x.num, ty := 4 }]
 else if x.kind = 6 then [{ dg with name := x.also, num := x.num, ty := 15, ref := x.dest }]
 else if x.kind = 7 then [(((s.iV f.ref).getD ja).fields.headD dg)]
 else if x.kind = 9 then [{ dg with name := x.field, num := x.num, ty := x.ty }]
 else []
def aq (l : List ag) (names : List aw) : List ag := l.filter fun f => !(names.any fun n => f.name == n)
def fk : aU → List ag → Bool
 | _, [] => false
 | m, f :: l => !m.free f.num || fk { m with fields := m.fields ++ [f] } l
def aP.there (s : aM) (m : aU) (x : aP) (l : List ag) : Bool :=
 fk m l || (decide (x.kind = 6) && (decide (0 ≤ s.dy x.dest) || decide (0 ≤ s.bD x.dest))) || (decide (x.kind = 8) && decide (0 < ({ m with fields := m.fields ++ l }.members x.field).length))
def aP.changed (x : aP) (f : ag) : ag :=
 if x.kind = 8 then (if x.names.any (fun n => n == f.name) then { f with one := x.field } else f)
 else if f.name = x.field then (if x.kind = 1 then { f with name := x.dest } else if x.kind = 3 then { f with ty := x.ty } else f)
 else f
def aP.msgs (s : aM) (x : aP) (at_ : Nat) (r : aU) (ref : aw) : List aU :=
 let go := (s.msgs.zipIdx.filterMap fun (m, i) => if i = at_ then some r else if x.kind = 7 ∧ m.name = ref then none else some m)
 go ++ (if x.kind = 6 then [{ ja with name := x.dest, fields := [((s.msgs.getD at_ ja).aQ x.field)] }] else [])
def aM.apply (s : aM) (x : aP) : Except Int aM :=
 if s.fu ≠ 0 ∨ x.right = false then .error 1
 else if s.bD x.msg < 0 then .error 5
 else
  let at_ := (s.bD x.msg).toNat
  let m := s.msgs.getD at_ ja
  if x.bg.all m.eD = false then .error 5
  else if x.asked s m = false then .error 7
  else
   let f := m.aQ x.field
   let r : aU := { m with fields := aq m.fields x.goes }
   let more := x.comes s f
   if x.there s r more then .error 6
   else
    let r2 : aU := { r with fields := r.fields.map x.changed ++ more }
    let out := (⟨s.enums, x.msgs s at_ r2 f.ref⟩ : aM).sorted
    if out.fu ≠ 0 then .error out.fu else .ok out
def aM.dO : List aP → aM → List aM → Except Int (List aM)
 | [], _, acc => .ok acc
 | x :: l, s, acc => match s.apply x with
  | .ok t => dO l t (acc ++ [t])
  | .error e => .error e
def aM.all (s : aM) (l : List aP) : Except Int (List aM) := if s.fu ≠ 0 then .error s.fu else if 16 < l.length then .error 4 else aM.dO l s [s]
/- the document: fields, and places in lists that rise. -/
theorem iS (m : aU) (name : aw) (hl : m.fields.length ≤ 1000) : Pure Tryz.prog 42 [m.av, .str name] (.int .i64 (m.cQ name)) := by
 refine Pure.aN Tryz.func42 rfl rfl (aF rfl) fun H => (aC.seq (aC.region (aB.run II 2 rfl (aB.nil (aC.seq (aC.seq (aC.region (aB.run II 1 rfl (aB.nil (aC.blk (aC.aJ (Kept.aH [.s 5, .h, .s 1, .s 2, .b 2] rfl (by decide) (Kept.now (aC.aW (fun (i : Nat) => [(.s 5, .sv (.v (.int .i64 (i : Int))))]) _ (fun (i : Nat) => bU (fun f : ag => f.name == name) (m.fields.drop i) i = m.cQ name) (fun (i : Nat) => m.fields.length - i) 0 rfl (by simp [aU.cQ]) ?_))))))))))))))
 rintro i hI
 refine aC.seq (aC.seq (aC.region (aB.run II 5 rfl (aB.nil (aC.cond rfl (fun hc1 => ?_) (fun hc1 => ?_))))))
 ·have hi := ch hc1
  have hS := cj (p := (fun f : ag => f.name == name)) hi
  refine aC.skip (aC.seq (aC.blk (aC.seq (aC.region (aB.run II 3 rfl (aB.c1 rfl (aI (aF rfl) bQ rfl rfl (Int.natCast_nonneg _) (bz hi) rfl) (aB.run II 4 rfl (aB.nil (aC.cond rfl (fun hc2 => ?_) (fun hc2 => ?_))))))))))
  ·exact aC.seq (aC.region (aB.run II 2 rfl (aB.nil (aC.ret ⟨.inr rfl, (aE.r1 rfl (.tmp rfl .nil)).cast (congrArg (AV.int .i64) (by grind [aU.cQ])), rfl⟩))))
  ·exact aC.skip (aC.region (aB.run II 3 rfl (aB.kept (Kept.aX 5 rfl (inc (by omega)) (Kept.aH [.s 5, .h, .s 1, .s 2, .b 2] rfl (by decide) (Kept.now ⟨i + 1, by omega, by grind, rfl⟩))))))
 ·have hi := ck hc1
  have hS := eN (p := (fun f : ag => f.name == name)) hi
  exact aC.exit (aC.seq (aC.region (aB.run II 1 rfl (aB.nil (aC.ret ⟨.inr rfl, (aE.r1 rfl (.tmp rfl .nil)).cast (congrArg (AV.int .i64) (by grind [aU.cQ])), rfl⟩)))))
theorem vu {m : aU} {num : Int} : decide (m.at num < 0) = m.fields.all fun f => !(f.num == num) := by
 rcases bB (fun f : ag => f.num == num) m.fields 0 with ⟨h1, h2⟩ | ⟨i, hi, h1, h2, h3⟩
 ·have e : m.at num = -1 := h1
  rw [e, List.all_eq_true.2 (fun f hf => by have := List.find?_eq_none.1 h2 f hf; simpa using this)]
  decide
 ·have e : m.at num = ((0 + i : Nat) : Int) := h1
  have h4 : (m.fields.all fun f => !(f.num == num)) = false := List.all_eq_false.2 ⟨m.fields[i], List.getElem_mem hi, by simpa using h3⟩
  rw [e, h4]
  simp
theorem Ec (m : aU) (num : Int) (hl : m.fields.length ≤ 1000) (hb : m.ab.length ≤ 1000) : Pure Tryz.prog 79 [m.av, .int .i64 num] (.bool (m.free num)) := by
 refine Pure.aN Tryz.func79 rfl rfl (aF rfl) fun H => (aC.seq (aC.region (aB.run II 2 rfl (aB.nil (aC.seq (aC.region (aB.run II 1 rfl (aB.c1 rfl (aG (aF rfl) ep rfl (eZ _)) (aB.run II 1 rfl (aB.tell (d := 7) rfl (fun hg1 => ?_) (fun hg1 => ?_)))))))))))
 ·refine aB.run II 2 rfl (aB.g1 rfl (aF rfl) rfl rfl (aG (aF rfl) n8 rfl (lV _ _ hl)) (aB.run II 3 rfl (aB.tell (d := 13) rfl (fun hg2 => ?_) (fun hg2 => ?_))))
  ·exact aB.run II 3 rfl (aB.g1 rfl (aF rfl) rfl rfl (aG (aF rfl) At rfl (Dm _ _ (by omega))) (aB.run II 3 rfl (aB.nil (aC.ret ⟨.inr rfl, (aE.r1 rfl (.tmp rfl .nil)).cast (congrArg AV.bool (by have := @vu m num; grind [aU.free])), rfl⟩))))
  ·exact aB.run II 7 rfl (aB.nil (aC.ret ⟨.inr rfl, (aE.r1 rfl (.tmp rfl .nil)).cast (congrArg AV.bool (by have := @vu m num; grind [aU.free])), rfl⟩))
 ·exact aB.run II 13 rfl (aB.nil (aC.ret ⟨.inr rfl, (aE.r1 rfl (.tmp rfl .nil)).cast (congrArg AV.bool (by have := @vu m num; grind [aU.free])), rfl⟩))
def gX (one : aw) (f : ag) : Bool := !(one == []) && f.one == one
theorem iW {m : aU} {one : aw} {i : Nat} (hi : i < m.fields.length) (h : gX one m.fields[i] = true) : ((m.fields.take i).filter (gX one)).map (fun f => AV.int .i64 f.num) ++ [AV.int .i64 m.fields[i].num] = ((m.fields.take (i + 1)).filter (gX one)).map (fun f => AV.int .i64 f.num) := by
 have e : m.fields.take (i + 1) = m.fields.take i ++ [m.fields[i]] := by rw [List.take_add_one, List.getElem?_eq_getElem hi]; rfl
 have e2 : [m.fields[i]].filter (gX one) = [m.fields[i]] := by simp [h]
 rw [e, List.filter_append, List.map_append, e2]; rfl
theorem kR {m : aU} {one : aw} {i : Nat} (hi : i < m.fields.length) (h : gX one m.fields[i] = false) : ((m.fields.take i).filter (gX one)).map (fun f => AV.int .i64 f.num) = ((m.fields.take (i + 1)).filter (gX one)).map (fun f => AV.int .i64 f.num) := by
 have e : m.fields.take (i + 1) = m.fields.take i ++ [m.fields[i]] := by rw [List.take_add_one, List.getElem?_eq_getElem hi]; rfl
 have e2 : [m.fields[i]].filter (gX one) = [] := by simp [h]
 rw [e, List.filter_append, List.map_append, e2, List.map_nil, List.append_nil]
theorem q9 (m : aU) (one : aw) (hl : m.fields.length ≤ 1000) : Pure Tryz.prog 80 [m.av, .str one] (.sl ((m.members one).map dL)) := by
 refine Pure.aN Tryz.func80 rfl rfl (aF rfl) fun H => (aC.seq (aC.region (aB.run II 2 rfl (aB.nil (aC.seq (aC.region (aB.c2 rfl (az («as» := []) (aF rfl) bK dm rfl rfl rfl (ft rfl) rfl) (aB.run II 1 rfl (aB.nil (aC.seq (aC.seq (aC.region (aB.run II 1 rfl (aB.nil (aC.blk (aC.aJ (Kept.aH [.s 6, .s 5, .t 7, .h, .s 1, .s 2, .b 2] rfl (by decide) (Kept.now (aC.aW (fun ((i, a) : Nat × List AV) => [(.s 6, .sv (.v (.int .i64 (i : Int)))), (.s 5, .sv (.ow 7 a)), (.t 7, .tk false 3 1 a)]) _ (fun ((i, a) : Nat × List AV) => a = ((m.fields.take i).filter (gX one)).map (fun f => AV.int .i64 f.num)) (fun ((i, a) : Nat × List AV) => m.fields.length - i) (0, []) rfl (by simp) ?_)))))))))))))))))))
 rintro ⟨i, a⟩ hI
 refine aC.seq (aC.seq (aC.region (aB.run II 5 rfl (aB.nil (aC.cond rfl (fun hc1 => ?_) (fun hc1 => ?_))))))
 ·have hi := ch hc1
  refine aC.skip (aC.seq (aC.blk (aC.seq (aC.region (aB.run II 3 rfl (aB.tell (d := 17) rfl (fun hg2 => ?_) (fun hg2 => ?_)))))))
  ·refine aB.run II 3 rfl (aB.g1 rfl (aF rfl) rfl rfl (aI (aF rfl) bQ rfl rfl (Int.natCast_nonneg _) (bz hi) rfl) (aB.run II 5 rfl (aB.nil (aC.cond rfl (fun hc3 => ?_) (fun hc3 => ?_)))))
   ·refine aC.region (aB.run II 4 rfl (aB.c1 rfl (aI (aF rfl) bQ rfl rfl (Int.natCast_nonneg _) (bz hi) rfl) (aB.run II 3 rfl (aB.c3 rfl (aV (aF rfl) bK rfl rfl rfl rfl rfl (by rw [hI]; simp only [List.length_map, List.length_cons, List.length_nil]; have h1 := List.length_filter_le (gX one) (m.fields.take i); rw [List.length_take] at h1; omega) (by rw [hI]; simp only [List.length_map, List.length_cons, List.length_nil]; have h1 := List.length_filter_le (gX one) (m.fields.take i); rw [List.length_take] at h1; omega)) ?_))))
    exact aB.run II 1 rfl (aB.nil (aC.region (aB.run II 3 rfl (aB.kept (Kept.aX 6 rfl (inc (by omega)) (Kept.aH [.s 6, .s 5, .t 35, .h, .s 1, .s 2, .b 2] rfl (by decide) (Kept.cS 35 7 (by decide) rfl (Kept.now ⟨(i + 1, _), by dsimp only; omega, by first | exact iW hi (by simp_all [gX]) | exact kR hi (by simp_all [gX]) | (rw [hI]; first | exact iW hi (by simp_all [gX]) | exact kR hi (by simp_all [gX])), rfl⟩))))))))
   ·exact aC.skip (aC.region (aB.run II 3 rfl (aB.kept (Kept.aX 6 rfl (inc (by omega)) (Kept.aH [.s 6, .s 5, .t 7, .h, .s 1, .s 2, .b 2] rfl (by decide) (Kept.now ⟨(i + 1, _), by dsimp only; omega, by first | exact iW hi (by simp_all [gX]) | exact kR hi (by simp_all [gX]) | (rw [hI]; first | exact iW hi (by simp_all [gX]) | exact kR hi (by simp_all [gX])), rfl⟩))))))
  ·exact aB.run II 9 rfl (aB.nil (aC.bR rfl rfl (aC.skip (aC.region (aB.run II 3 rfl (aB.kept (Kept.aX 6 rfl (inc (by omega)) (Kept.aH [.s 6, .s 5, .t 7, .h, .s 1, .s 2, .b 2] rfl (by decide) (Kept.now ⟨(i + 1, _), by dsimp only; omega, by first | exact iW hi (by simp_all [gX]) | exact kR hi (by simp_all [gX]) | (rw [hI]; first | exact iW hi (by simp_all [gX]) | exact kR hi (by simp_all [gX])), rfl⟩)))))))))
 ·have hi := ck hc1
  exact aC.exit (aC.seq (aC.region (aB.run II 2 rfl (aB.nil (aC.ret ⟨.inr rfl, (aE.r1 rfl (.tmp rfl .nil)).cast (congrArg AV.sl (by rw [hI, List.take_of_length_le (by omega)]; unfold aU.members; rw [List.map_map]; rfl)), rfl⟩)))))
def pw (name : aw) (f : ag) : Bool := decide (f.ty = 15) && f.ref == name
def qD (name : aw) (m : aU) : Nat := m.fields.countP (pw name)
theorem Bj (s : aM) (name : aw) : s.kY name = (s.msgs.map (qD name)).sum := rfl
theorem zE {s : aM} {name : aw} {i : Nat} (hi : i < s.msgs.length) : ((s.msgs.take (i + 1)).map (qD name)).sum = ((s.msgs.take i).map (qD name)).sum + qD name s.msgs[i] := by
 have e : s.msgs.take (i + 1) = s.msgs.take i ++ [s.msgs[i]] := by rw [List.take_add_one, List.getElem?_eq_getElem hi]; rfl
 rw [e, List.map_append, List.sum_append]; simp
theorem mG {m : aU} {name : aw} {k : Nat} (hk : k < m.fields.length) : (m.fields.take (k + 1)).countP (pw name) = (m.fields.take k).countP (pw name) + (if pw name m.fields[k] = true then 1 else 0) := by
 have e : m.fields.take (k + 1) = m.fields.take k ++ [m.fields[k]] := by rw [List.take_add_one, List.getElem?_eq_getElem hk]; rfl
 rw [e, List.countP_append, List.countP_singleton]
theorem zF {s : aM} (hs : s.sm) (name : aw) (i : Nat) : ((s.msgs.take i).map (qD name)).sum ≤ 60 := by
 have h : ∀ (l : List aU), (∀ m ∈ l, qD name m ≤ 10) → (l.map (qD name)).sum ≤ 10 * l.length := by
  intro l
  induction l with
  | nil => intro _; simp
  | cons a l ih =>
   intro h
   have h1 := h a (List.mem_cons_self ..)
   have h2 := ih fun m hm => h m (List.mem_cons_of_mem _ hm)
   simp; omega
 have h2 := h (s.msgs.take i) fun m hm => by
  have := hs.f m (List.mem_of_mem_take hm)
  have h3 : qD name m ≤ m.fields.length := List.countP_le_length
  omega
 have h4 : (s.msgs.take i).length ≤ s.msgs.length := by rw [List.length_take]; omega
 have := hs.m
 omega
theorem E0 (s : aM) (name : aw) (hs : s.sm) : Pure Tryz.prog 101 [s.av, .str name] (.int .i64 (s.kY name : Int)) := by
 have hm := hs.m
 refine Pure.aN Tryz.func101 rfl rfl (aF rfl) fun H => (aC.seq (aC.region (aB.run II 2 rfl (aB.nil (aC.seq (aC.region (aB.run II 1 rfl (aB.nil (aC.seq (aC.seq (aC.region (aB.run II 1 rfl (aB.nil (aC.blk (aC.aJ (Kept.aH [.s 6, .s 5, .h, .s 1, .s 2, .b 2] rfl (by decide) (Kept.now (aC.aW (fun ((i, n) : Nat × Int) => [(.s 6, .sv (.v (.int .i64 (i : Int)))), (.s 5, .sv (.v (.int .i64 n)))]) _ (fun ((i, n) : Nat × Int) => n = ((((s.msgs.take i).map (qD name)).sum : Nat) : Int)) (fun ((i, n) : Nat × Int) => s.msgs.length - i) (0, 0) rfl (by simp) ?_))))))))))))))))))
 rintro ⟨i, n⟩ hI
 refine aC.seq (aC.seq (aC.region (aB.run II 5 rfl (aB.nil (aC.cond rfl (fun hc1 => ?_) (fun hc1 => ?_))))))
 ·have hi := ch hc1
  have hf := hs.fi hi
  refine aC.skip (aC.seq (aC.blk (aC.seq (aC.region (aB.run II 1 rfl (aB.nil (aC.blk (aC.aJ (Kept.aH [.s 7, .s 5, .h, .s 1, .s 2, .b 2, .s 6] rfl (by decide) (Kept.now (aC.aW (fun ((k, n) : Nat × Int) => [(.s 7, .sv (.v (.int .i64 (k : Int)))), (.s 5, .sv (.v (.int .i64 n)))]) _ (fun ((k, n) : Nat × Int) => n = ((((s.msgs.take i).map (qD name)).sum + ((s.msgs[i]'hi).fields.take k).countP (pw name) : Nat) : Int)) (fun ((k, n) : Nat × Int) => (s.msgs[i]'hi).fields.length - k) (0, _) rfl (by rw [hI]; simp) ?_)))))))))))
  rintro ⟨k, n⟩ hK
  refine aC.seq (aC.seq (aC.region (aB.run II 4 rfl (aB.c1 rfl (aI (aF rfl) bL rfl rfl (Int.natCast_nonneg _) (bz hi) rfl) (aB.run II 4 rfl (aB.nil (aC.cond rfl (fun hc2 => ?_) (fun hc2 => ?_))))))))
  ·have hk := ch hc2
   refine aC.skip (aC.seq (aC.blk (aC.seq (aC.region (aB.run II 3 rfl (aB.c1 rfl (aI (aF rfl) bL rfl rfl (Int.natCast_nonneg _) (bz hi) rfl) (aB.run II 3 rfl (aB.c1 rfl (aI (aF rfl) bQ rfl rfl (Int.natCast_nonneg _) (bz hk) rfl) (aB.run II 3 rfl (aB.nil (aC.seq (aC.region (aB.run II 4 rfl (aB.tell (d := 39) rfl (fun hg3 => ?_) (fun hg3 => ?_)))))))))))))))
   ·refine aB.run II 5 rfl (aB.nil (aC.cond rfl (fun hc4 => ?_) (fun hc4 => ?_)))
    ·exact aC.region (aB.run II 3 rfl (aB.nil (aC.region (aB.run II 3 rfl (aB.kept (Kept.aX 7 rfl (inc (by omega)) (Kept.aH [.s 7, .s 5, .h, .s 1, .s 2, .b 2, .s 6] rfl (by decide) (Kept.now ⟨(k + 1, _), by dsimp only; omega, by dsimp only; rw [hK, (eS (by have := zF hs name i; have h2 := List.countP_le_length (p := pw name) (l := (s.msgs[i].fields.take k)); have h3 := hs.fi hi; rw [List.length_take] at h2; omega) (by have := zF hs name i; have h2 := List.countP_le_length (p := pw name) (l := (s.msgs[i].fields.take k)); have h3 := hs.fi hi; rw [List.length_take] at h2; omega)), mG hk, if_pos (by simp_all [pw])]; omega, rfl⟩))))))))
    ·exact aC.skip (aC.region (aB.run II 3 rfl (aB.kept (Kept.aX 7 rfl (inc (by omega)) (Kept.aH [.s 7, .s 5, .h, .s 1, .s 2, .b 2, .s 6] rfl (by decide) (Kept.now ⟨(k + 1, _), by dsimp only; omega, by dsimp only; rw [hK, mG hk, if_neg (by simp_all [pw])]; omega, rfl⟩))))))
   ·exact aB.run II 5 rfl (aB.nil (aC.bR rfl rfl (aC.skip (aC.region (aB.run II 3 rfl (aB.kept (Kept.aX 7 rfl (inc (by omega)) (Kept.aH [.s 7, .s 5, .h, .s 1, .s 2, .b 2, .s 6] rfl (by decide) (Kept.now ⟨(k + 1, _), by dsimp only; omega, by dsimp only; rw [hK, mG hk, if_neg (by simp_all [pw])]; omega, rfl⟩)))))))))
  ·have hk := ck hc2
   exact aC.exit (aC.region (aB.run II 3 rfl (aB.kept (Kept.aX 6 rfl (inc (by omega)) (Kept.aH [.s 6, .s 5, .h, .s 1, .s 2, .b 2] rfl (by decide) (Kept.now ⟨(i + 1, _), by dsimp only; omega, by dsimp only; rw [hK, zE hi, List.take_of_length_le (l := s.msgs[i].fields) (i := k) (by omega)]; rfl, rfl⟩))))))
 ·have hi := ck hc1
  exact aC.exit (aC.seq (aC.region (aB.run II 2 rfl (aB.nil (aC.ret ⟨.inr rfl, (aE.r1 rfl (.tmp rfl .nil)).cast (congrArg (AV.int .i64) (by rw [hI, List.take_of_length_le (by omega), Bj])), rfl⟩)))))
/- the document: what a step asks, and what it changes. -/
theorem jq : lk Tryz.prog 77 = some (true, 7) := by kernel_rfl
theorem kN (f : ag) : Pure Tryz.prog 77 [f.av] (.bool f.alone) := by
 refine Pure.aN Tryz.func77 rfl rfl (aF rfl) fun H => (aC.seq (aC.region (aB.run II 2 rfl (aB.nil (aC.seq (aC.region (aB.run II 4 rfl (aB.tell (d := 6) rfl (fun hg1 => ?_) (fun hg1 => ?_)))))))))
 ·exact aB.run II 5 rfl (aB.nil (aC.ret ⟨.inr rfl, (aE.r1 rfl (.tmp rfl .nil)).cast (congrArg AV.bool (by grind [ag.alone])), rfl⟩))
 ·exact aB.run II 5 rfl (aB.nil (aC.ret ⟨.inr rfl, (aE.r1 rfl (.tmp rfl .nil)).cast (congrArg AV.bool (by grind [ag.alone])), rfl⟩))
theorem CS (x : aP) : Pure Tryz.prog 41 [x.av] (.sl (x.bg.map .str)) := by
 refine Pure.aN Tryz.func41 rfl rfl (aF rfl) fun H => (aC.seq (aC.region (aB.run II 2 rfl (aB.nil (aC.seq (aC.seq (aC.region (aB.run II 2 rfl (aB.nil (aC.blk (aC.seq (aC.region (aB.run II 2 rfl (aB.nil (aC.cond rfl (fun hc1 => ?_) (fun hc1 => ?_))))))))))))))))
 ·exact aC.seq (aC.region (aB.run II 3 rfl (aB.nil (aC.ret ⟨.inr rfl, (aE.r1 rfl (.tmp rfl .nil)).cast (congrArg AV.sl (by simp_all [aP.bg])), rfl⟩))))
 ·refine aC.seq (aC.region (aB.run II 2 rfl (aB.nil (aC.cond rfl (fun hc2 => ?_) (fun hc2 => ?_)))))
  ·exact aC.seq (aC.region (aB.run II 1 rfl (aB.nil (aC.ret ⟨.inr rfl, (aE.r1 rfl (.tmp rfl .nil)).cast (congrArg AV.sl (by simp_all [aP.bg])), rfl⟩))))
  ·refine aC.seq (aC.region (aB.run II 2 rfl (aB.nil (aC.cond rfl (fun hc3 => ?_) (fun hc3 => ?_)))))
   ·exact aC.seq (aC.region (aB.run II 6 rfl (aB.nil (aC.ret ⟨.inr rfl, (aE.r1 rfl (.tmp rfl .nil)).cast (congrArg AV.sl (by simp_all [aP.bg])), rfl⟩))))
   ·exact aC.skip (aC.seq (aC.region (aB.run II 4 rfl (aB.nil (aC.ret ⟨.inr rfl, (aE.r1 rfl (.tmp rfl .nil)).cast (congrArg AV.sl (by simp_all [aP.bg])), rfl⟩)))))
theorem Ea (x : aP) : Pure Tryz.prog 45 [x.av] (.sl (x.goes.map .str)) := by
 refine Pure.aN Tryz.func45 rfl rfl (aF rfl) fun H => (aC.seq (aC.region (aB.run II 2 rfl (aB.nil (aC.seq (aC.seq (aC.region (aB.run II 2 rfl (aB.nil (aC.blk (aC.seq (aC.seq (aC.region (aB.run II 2 rfl (aB.nil (aC.cond rfl (fun hc1 => ?_) (fun hc1 => ?_)))))))))))))))))
 ·exact aC.skip (aC.bG rfl hc1 (aC.seq (aC.region (aB.run II 4 rfl (aB.nil (aC.ret ⟨.inr rfl, (aE.r1 rfl (.tmp rfl .nil)).cast (congrArg AV.sl (by simp_all [aP.goes])), rfl⟩))))))
 ·refine aC.seq (aC.region (aB.run II 2 rfl (aB.nil (aC.cond rfl (fun hc2 => ?_) (fun hc2 => ?_)))))
  ·exact aC.skip (aC.bG rfl hc2 (aC.seq (aC.region (aB.run II 4 rfl (aB.nil (aC.ret ⟨.inr rfl, (aE.r1 rfl (.tmp rfl .nil)).cast (congrArg AV.sl (by simp_all [aP.goes])), rfl⟩))))))
  ·refine aC.seq (aC.region (aB.run II 2 rfl (aB.nil (aC.cond rfl (fun hc3 => ?_) (fun hc3 => ?_)))))
   ·exact aC.skip (aC.bG rfl hc3 (aC.seq (aC.region (aB.run II 4 rfl (aB.nil (aC.ret ⟨.inr rfl, (aE.r1 rfl (.tmp rfl .nil)).cast (congrArg AV.sl (by simp_all [aP.goes])), rfl⟩))))))
   ·refine aC.seq (aC.region (aB.run II 2 rfl (aB.nil (aC.cond rfl (fun hc4 => ?_) (fun hc4 => ?_)))))
    ·exact aC.skip (aC.bG rfl hc4 (aC.seq (aC.region (aB.run II 4 rfl (aB.nil (aC.ret ⟨.inr rfl, (aE.r1 rfl (.tmp rfl .nil)).cast (congrArg AV.sl (by simp_all [aP.goes])), rfl⟩))))))
    ·refine aC.region (aB.run II 2 rfl (aB.nil (aC.cond rfl (fun hc5 => ?_) (fun hc5 => ?_))))
     ·exact aC.seq (aC.region (aB.run II 4 rfl (aB.nil (aC.ret ⟨.inr rfl, (aE.r1 rfl (.tmp rfl .nil)).cast (congrArg AV.sl (by simp_all [aP.goes])), rfl⟩))))
     ·refine aC.seq (aC.region (aB.run II 2 rfl (aB.nil (aC.cond rfl (fun hc6 => ?_) (fun hc6 => ?_)))))
      ·exact aC.seq (aC.region (aB.run II 6 rfl (aB.nil (aC.ret ⟨.inr rfl, (aE.r1 rfl (.tmp rfl .nil)).cast (congrArg AV.sl (by simp_all [aP.goes])), rfl⟩))))
      ·exact aC.skip (aC.seq (aC.region (aB.run II 1 rfl (aB.nil (aC.ret ⟨.inr rfl, (aE.r1 rfl (.tmp rfl .nil)).cast (congrArg AV.sl (by simp_all [aP.goes])), rfl⟩)))))
theorem uN {x : aP} {f : ag} {i : Nat} (hi : i < x.names.length) : (x.names.take (i + 1)).any (fun n => n == f.name) = ((x.names.take i).any (fun n => n == f.name) || x.names[i] == f.name) := by
 have e : x.names.take (i + 1) = x.names.take i ++ [x.names[i]] := by rw [List.take_add_one, List.getElem?_eq_getElem hi]; rfl
 rw [e, List.any_append]; simp
theorem BR {x : aP} {f : ag} (h : x.kind = 8) {i : Nat} (hi : x.names.length ≤ i) {o : aw} (ho : o = if (x.names.take i).any (fun n => n == f.name) = true then x.field else f.one) : ({ f with one := o } : ag) = x.changed f := by
 rw [List.take_of_length_le hi] at ho
 unfold aP.changed
 rw [if_pos h, ho]
 split <;> rfl
theorem xm (f : ag) (x : aP) (hl : x.names.length ≤ 9223372036854775807) : Pure Tryz.prog 48 [f.av, x.av] (x.changed f).av := by
 refine Pure.aN Tryz.func48 rfl rfl (aF rfl) fun H => (aC.seq (aC.region (aB.run II 3 rfl (aB.nil (aC.seq (aC.seq (aC.region (aB.run II 3 rfl (aB.nil (aC.cond rfl (fun hc1 => ?_) (fun hc1 => ?_)))))))))))
 ·refine aC.seq (aC.seq (aC.region (aB.run II 1 rfl (aB.nil (aC.blk (aC.aJ (Kept.aH [.s 5, .b 2, .h, .s 2, .s 3, .b 3, .s 4, .b 4] rfl (by decide) (Kept.now (aC.aW (fun ((i, o) : Nat × aw) => [(.s 5, .sv (.v (.int .i64 (i : Int)))), (.b 2, .bx [.v (.str f.name), .v (.int .i64 f.num), .v (.int .i64 f.ty), .v (.str f.ref), .v (.bool f.rep), .v (.bool f.loose), .v (.str o)])]) _ (fun ((i, o) : Nat × aw) => o = if (x.names.take i).any (fun n => n == f.name) = true then x.field else f.one) (fun ((i, o) : Nat × aw) => x.names.length - i) (0, f.one) rfl (by simp) ?_)))))))))
  rintro ⟨i, o⟩ hI
  refine aC.seq (aC.seq (aC.region (aB.run II 5 rfl (aB.nil (aC.cond rfl (fun hc2 => ?_) (fun hc2 => ?_))))))
  ·have hi := ch hc2
   refine aC.skip (aC.seq (aC.blk (aC.seq (aC.drawn mixed rfl (aD.run II 3 rfl (aD.c1 rfl (aI (aF rfl) ca rfl rfl (Int.natCast_nonneg _) (bz hi) rfl) (aD.run II 4 rfl (aD.nil (by kernel_rfl) (Kept.now (aC.cond rfl (fun hc3 => ?_) (fun hc3 => ?_)))))))))))
   ·exact aC.region (aB.run II 4 rfl (aB.nil (aC.region (aB.run II 3 rfl (aB.kept (Kept.aX 5 rfl (inc (by omega)) (Kept.aH [.s 5, .b 2, .h, .s 2, .s 3, .b 3, .s 4, .b 4] rfl (by decide) (Kept.now ⟨(i + 1, _), by dsimp only; omega, by dsimp only; rw [uN hi]; simp_all, rfl⟩))))))))
   ·exact aC.skip (aC.region (aB.run II 3 rfl (aB.kept (Kept.aX 5 rfl (inc (by omega)) (Kept.aH [.s 5, .b 2, .h, .s 2, .s 3, .b 3, .s 4, .b 4] rfl (by decide) (Kept.now ⟨(i + 1, _), by dsimp only; omega, by dsimp only; rw [uN hi]; simp_all, rfl⟩))))))
  ·have hi := ck hc2
   exact aC.exit (aC.seq (aC.region (aB.run II 2 rfl (aB.nil (aC.ret ⟨.inr rfl, (aE.r1 rfl (.cell jq rfl rfl rfl rfl .nil)).cast (congrArg ag.av (BR (by simpa using hc1) (by omega) hI)), rfl⟩)))))
 ·refine aC.skip (aC.seq (aC.seq (aC.region (aB.run II 5 rfl (aB.nil (aC.cond rfl (fun hc4 => ?_) (fun hc4 => ?_)))))))
  ·exact aC.seq (aC.region (aB.run II 2 rfl (aB.nil (aC.ret ⟨.inr rfl, (aE.r1 rfl (.cell jq rfl rfl rfl rfl .nil)).cast (congrArg ag.av (show f = x.changed f by simp_all [aP.changed])), rfl⟩))))
  ·refine aC.skip (aC.seq (aC.seq (aC.region (aB.run II 3 rfl (aB.nil (aC.cond rfl (fun hc5 => ?_) (fun hc5 => ?_)))))))
   ·refine aC.region (aB.run II 4 rfl (aB.nil (aC.seq (aC.seq (aC.region (aB.run II 3 rfl (aB.nil (aC.cond rfl (fun hc6 => ?_) (fun hc6 => ?_)))))))))
    ·exact aC.region (aB.run II 4 rfl (aB.nil (aC.seq (aC.region (aB.run II 2 rfl (aB.nil (aC.ret ⟨.inr rfl, (aE.r1 rfl (.cell jq rfl rfl rfl rfl .nil)).cast (by first | exact congrArg ag.av (show ({ f with name := x.dest } : ag) = x.changed f by simp_all [aP.changed]) | exact congrArg ag.av (show ({ f with ty := x.ty } : ag) = x.changed f by simp_all [aP.changed]) | exact congrArg ag.av (show f = x.changed f by simp_all [aP.changed]) | (exfalso; simp_all)), rfl⟩)))))))
    ·exact aC.skip (aC.seq (aC.region (aB.run II 2 rfl (aB.nil (aC.ret ⟨.inr rfl, (aE.r1 rfl (.cell jq rfl rfl rfl rfl .nil)).cast (by first | exact congrArg ag.av (show ({ f with name := x.dest } : ag) = x.changed f by simp_all [aP.changed]) | exact congrArg ag.av (show ({ f with ty := x.ty } : ag) = x.changed f by simp_all [aP.changed]) | exact congrArg ag.av (show f = x.changed f by simp_all [aP.changed]) | (exfalso; simp_all)), rfl⟩)))))
   ·refine aC.skip (aC.seq (aC.seq (aC.region (aB.run II 3 rfl (aB.nil (aC.cond rfl (fun hc7 => ?_) (fun hc7 => ?_)))))))
    ·exact aC.region (aB.run II 4 rfl (aB.nil (aC.seq (aC.region (aB.run II 2 rfl (aB.nil (aC.ret ⟨.inr rfl, (aE.r1 rfl (.cell jq rfl rfl rfl rfl .nil)).cast (by first | exact congrArg ag.av (show ({ f with name := x.dest } : ag) = x.changed f by simp_all [aP.changed]) | exact congrArg ag.av (show ({ f with ty := x.ty } : ag) = x.changed f by simp_all [aP.changed]) | exact congrArg ag.av (show f = x.changed f by simp_all [aP.changed]) | (exfalso; simp_all)), rfl⟩)))))))
    ·exact aC.skip (aC.seq (aC.region (aB.run II 2 rfl (aB.nil (aC.ret ⟨.inr rfl, (aE.r1 rfl (.cell jq rfl rfl rfl rfl .nil)).cast (by first | exact congrArg ag.av (show ({ f with name := x.dest } : ag) = x.changed f by simp_all [aP.changed]) | exact congrArg ag.av (show ({ f with ty := x.ty } : ag) = x.changed f by simp_all [aP.changed]) | exact congrArg ag.av (show f = x.changed f by simp_all [aP.changed]) | (exfalso; simp_all)), rfl⟩)))))
def jw (names : List aw) (f : ag) : Bool := !(names.any fun n => f.name == n)
theorem rC {names : List aw} {f : ag} {k : Nat} (hk : k < names.length) : (names.take (k + 1)).any (fun n => f.name == n) = ((names.take k).any (fun n => f.name == n) || f.name == names[k]) := by
 have e : names.take (k + 1) = names.take k ++ [names[k]] := by rw [List.take_add_one, List.getElem?_eq_getElem hk]; rfl
 rw [e, List.any_append]; simp
/- Plain laws: the parts that a migration is lowered to, as the document says it. No condition. -/
structure Port where
 f : ag
 reg : Int
 part : Int
 deriving DecidableEq, Inhabited
def Port.cells (x : Port) : List AV := x.f.cells ++ [.int .i64 x.reg, .int .i64 x.part]
def Port.av (x : Port) : AV := .agg x.cells
structure al where
 kind : Int
 a : Int
 b : Int
 c : Int
 src : Int
 dst : Int
 lo : Int
 hi : Nat
 part : Int
 regs : List Int
 dv : cf
def gE : al := ⟨0, 0, 0, 0, 0, 0, 0, 0, 0, [], .mk 0 [] []⟩
def al.cells (x : al) : List AV := [.int .i64 x.kind, .int .i64 x.a, .int .i64 x.b, .int .i64 x.c, .int .i64 x.src, .int .i64 x.dst, .int .i64 x.lo, .int .u64 (x.hi : Int), .int .i64 x.part, .sl (x.regs.map dL)] ++ x.dv.cells
def al.av (x : al) : AV := .agg x.cells
structure aR where
 name : aw
 ins : List Port
 ops : List al
 outs : List Port
 regs : Int
 ever : List Int
 born : Bool
def bY : aR := ⟨[], [], [], [], 0, [], false⟩
def aR.cells (x : aR) : List AV := [.str x.name, .sl (x.ins.map Port.av), .sl (x.ops.map al.av), .sl (x.outs.map Port.av), .int .i64 x.regs, .sl (x.ever.map dL), .bool x.born]
def aR.av (x : aR) : AV := .agg x.cells
def ct (t : Int) : Int × Nat :=
 if cW t = false then (0, 0)
 else if eO t && iN t then (-9223372036854775808, 9223372036854775807)
 else if eO t then (-2147483648, 2147483647)
 else if iN t then (0, 18446744073709551615)
 else (0, 4294967295)
def oj (a b : Int) : Int × Nat := (max (ct a).1 (ct b).1, min (ct a).2 (ct b).2)
def eH (l : List Int) (n : Int) : List Int :=
 let at_ := l.length - cF (fun y => decide (y ≥ n)) l
 if l[at_]? = some n then l else eC l at_ n
def bV (p : aR) : aR := { p with ever := p.outs.foldl (fun l x => eH l x.f.num) p.ever }
def jK (s : aM) (f : ag) (k : Nat) : Port := ⟨f, k, if f.ty = 15 then s.bD f.ref else -1⟩
def bM (s : aM) (m : aU) : List Port := m.fields.zipIdx.map fun (f, k) => jK s f k
def bb (s : aM) : List aR := s.msgs.map fun m => bV { bY with name := m.name, ins := bM s m, outs := bM s m, regs := m.fields.length }
def bZ (l : List Port) (name : aw) : Int := bU (fun x : Port => x.f.name == name) l 0
def gU : Port := ⟨dg, 0, 0⟩
def aL (l : List Port) (name : aw) : Port := (l.find? fun x => x.f.name == name).getD gU
def aT (l : List Port) (name : aw) : List Port := l.filter fun x => !(x.f.name == name)
def bN (l : List Port) (x : Port) : List Port := cG (fun y => decide (y.f.num > x.f.num)) x l
def c4 (name : aw) (num ty reg : Int) : Port := ⟨{ dg with name := name, num := num, ty := ty }, reg, -1⟩
def aO (p : aR) (x : aP) : aR :=
 let f := aL p.outs x.field
 let n := p.regs
 if x.kind = 1 then { p with outs := bN (aT p.outs x.field) { f with f := { f.f with name := x.dest } } }
 else if x.kind = 2 then { p with outs := bN (aT p.outs x.field) { f with f := { f.f with num := x.num } } }
 else if x.kind = 3 then { p with ops := p.ops ++ [{ gE with kind := 1, a := f.reg, src := f.f.ty, dst := x.ty, lo := (oj f.f.ty x.ty).1, hi := (oj f.f.ty x.ty).2 }], outs := bN (aT p.outs x.field) { f with f := { f.f with ty := x.ty } } }
 else if x.kind = 4 then { p with ops := p.ops ++ [{ gE with kind := 2, a := f.reg, b := n, c := n + 1 }], regs := n + 2, outs := bN (bN (aT p.outs x.field) (c4 x.dest x.num 3 n)) (c4 x.also x.other 3 (n + 1)) }
 else if x.kind = 5 then { p with ops := p.ops ++ [{ gE with kind := 3, a := f.reg, b := (aL (aT p.outs x.field) x.also).reg, c := n }], regs := n + 1, outs := bN (aT (aT p.outs x.field) x.also) (c4 x.dest x.num 4 n) }
 else if x.kind = 8 then { p with ops := p.ops ++ [{ gE with kind := 6, regs := x.names.map fun s => (aL p.outs s).reg }], outs := p.outs.map fun y => if x.names.any (fun s => s == y.f.name) then { y with f := { y.f with one := x.field } } else y }
 else if x.kind = 9 then { p with ops := p.ops ++ [{ gE with kind := 7, a := n, dv := x.dv }], regs := n + 1, outs := bN p.outs (c4 x.field x.num x.ty n) }
 else { p with outs := aT p.outs x.field }
def au (all : List aR) (at_ : Nat) (x : aP) : List aR :=
 let p := all.getD at_ bY
 let f := aL p.outs x.field
 let n := p.regs
 if x.kind = 6 then
  let i : Port := { f with reg := 0 }
  let w := bV { bY with name := x.dest, born := true, regs := 1, ins := [i], outs := [i] }
  let g : Port := ⟨{ dg with name := x.also, num := x.num, ty := 15, ref := x.dest }, n, all.length⟩
  (all ++ [w]).set at_ { p with ops := p.ops ++ [{ gE with kind := 4, a := f.reg, b := n, part := all.length }], regs := n + 1, outs := bN (aT p.outs x.field) g }
 else if x.kind = 7 then
  let g : Port := { ((all.getD f.part.toNat bY).outs.headD gU) with reg := n }
  all.set at_ { p with ops := p.ops ++ [{ gE with kind := 5, a := f.reg, b := n, part := f.part }], regs := n + 1, outs := bN (aT p.outs x.field) g }
 else all.set at_ (aO p x)
def cP (names : List aw) (s : aw) : Nat := names.length - 1 - (names.reverse.findIdx (· == s))
structure fB where
 all : List aR
 names : List aw
def fB.step (w : fB) (x : aP) : fB :=
 let at_ := cP w.names x.msg
 let names := if x.kind = 7 then w.names.set (aL (w.all.getD at_ bY).outs x.field).part.toNat [] else w.names
 let all := au w.all at_ x
 ⟨all.set at_ (bV (all.getD at_ bY)), if x.kind = 6 then names ++ [x.dest] else names⟩
def lower (s : aM) (l : List aP) : List aR := (l.foldl fB.step ⟨bb s, s.msgs.map (·.name)⟩).all
/- Plain laws: lists that rise: there is one for each set. No condition. -/
theorem lL {α : Type} (p : α → Bool) : ∀ l : List α, cF p l ≤ l.length
 | [] => Nat.le_refl _
 | a :: l => by
  unfold cF
  have := lL p l
  split <;> simp <;> omega
theorem kL {α : Type} (p : α → Bool) : ∀ l : List α, ∀ x ∈ l.drop (l.length - cF p l), p x = true
 | [], x, h => by simp at h
 | a :: l, x, h => by
  have ih := kL p l
  have hle := lL p l
  unfold cF at h
  split at h
  ·rename_i hc
   simp only [List.length_cons, Nat.sub_self, List.drop_zero, List.mem_cons] at h
   rcases h with rfl | h
   ·exact hc.2
   ·rw [hc.1, Nat.sub_self] at ih
    exact ih x (by simpa using h)
  ·have e : (a :: l).length - cF p l = (l.length - cF p l) + 1 := by simp; omega
   rw [e, List.drop_succ_cons] at h
   exact ih x h
theorem jC {α : Type} (p : α → Bool) : ∀ (l : List α) (i : Nat), i + 1 = l.length - cF p l → ∀ x, l[i]? = some x → p x = false
 | [], i, h, x, hx => by simp at hx
 | a :: l, i, h, x, hx => by
  have ih := jC p l
  have hle := lL p l
  unfold cF at h
  split at h
  ·simp at h
  ·rename_i hc
   cases i with
   | zero =>
    simp at h hx
    subst hx
    have : cF p l = l.length := by omega
    cases hp : p a with
    | false => rfl
    | true => exact absurd ⟨this, hp⟩ hc
   | succ i =>
    simp at h
    exact ih i (by omega) x (by simpa using hx)
theorem kv {α : Type} (l : List α) (k : Nat) (x : α) : (eC l k x).Perm (x :: l) := by
 unfold eC
 have h := List.perm_middle (a := x) (l₁ := l.take k) (l₂ := l.drop k)
 rwa [List.take_append_drop] at h
theorem dq {α : Type} (p : α → Bool) (x : α) (l : List α) : (cG p x l).Perm (x :: l) := kv _ _ _
theorem jz {α : Type} (f : List α → α → List α) (hf : ∀ acc x, (f acc x).Perm (x :: acc)) : ∀ (l acc : List α), (l.foldl f acc).Perm (l ++ acc)
 | [], acc => List.Perm.refl _
 | x :: l, acc => by
  rw [List.foldl_cons]
  exact (jz f hf l (f acc x)).trans (((hf acc x).append_left l).trans List.perm_middle)
theorem fY {α : Type} (gt : α → α → Bool) (l : List α) : (bF gt l).Perm l := by
 have := jz (fun acc x => cG (fun y => gt y x) x acc) (fun acc x => dq _ _ _) l []
 simpa [bF] using this
def dA {α : Type} (k : α → Int) (l : List α) : Prop := l.Pairwise fun a b => k a < k b
theorem oC : ∀ {l : List Int}, eQ l = true → l.Pairwise (· < ·)
 | [], _ => List.Pairwise.nil
 | [a], _ => List.pairwise_singleton _ _
 | a :: b :: l, h => by
  simp only [eQ, Bool.and_eq_true, decide_eq_true_eq] at h
  have ih := oC h.2
  refine List.pairwise_cons.2 ⟨fun c hc => ?_, ih⟩
  rcases List.mem_cons.1 hc with rfl | hc
  ·exact h.1
  ·exact Int.lt_trans h.1 ((List.pairwise_cons.1 ih).1 c hc)
theorem dA.tV {α : Type} {k : α → Int} {l : List α} (h : eQ (l.map k) = true) : dA k l := List.pairwise_map.1 (oC h)
theorem dA.filter {α : Type} {k : α → Int} {l : List α} (h : dA k l) (p : α → Bool) : dA k (l.filter p) := List.Pairwise.filter p h
theorem dA.unique {α : Type} {k : α → Int} : ∀ {l m : List α}, dA k l → dA k m → l.Perm m → l = m
 | [], m, _, _, h => by rw [List.nil_perm.1 h]
 | a :: l, [], _, _, h => by have := h.length_eq; simp at this
 | a :: l, b :: m, h1, h2, h => by
  obtain ⟨p1, p2⟩ := List.pairwise_cons.1 h1
  obtain ⟨q1, q2⟩ := List.pairwise_cons.1 h2
  have hab : a = b := by
   have ha : a ∈ b :: m := h.mem_iff.1 (List.mem_cons_self ..)
   have hb : b ∈ a :: l := h.mem_iff.2 (List.mem_cons_self ..)
   rcases List.mem_cons.1 ha with e | ha
   ·exact e
   ·rcases List.mem_cons.1 hb with e | hb
    ·exact e.symm
    ·have := q1 a ha
     have := p1 b hb
     omega
  subst hab
  rw [dA.unique p2 q2 (List.Perm.cons_inv h)]
theorem dA.ins {α : Type} {k : α → Int} {l : List α} (h : dA k l) {x : α} (hx : ∀ y ∈ l, k y ≠ k x) : dA k (cG (fun y => decide (k y > k x)) x l) := by
 have hle := lL (fun y => decide (k y > k x)) l
 have hall := kL (fun y => decide (k y > k x)) l
 have hstop := jC (fun y => decide (k y > k x)) l
 unfold cG eC
 generalize hn : l.length - cF (fun y => decide (k y > k x)) l = n at hall hstop ⊢
 have hlow : ∀ y ∈ l.take n, k y < k x := by
  intro y hy
  obtain ⟨i, hi⟩ := List.mem_iff_getElem?.1 hy
  rw [List.getElem?_take] at hi
  split at hi
  ·rename_i hin
   have hlen : n ≤ l.length := by omega
   have hl : n - 1 < l.length := by omega
   have hz := hstop (n - 1) (by omega) l[n - 1] (List.getElem?_eq_getElem hl)
   have hne := hx l[n - 1] (List.getElem_mem hl)
   have hle2 : k l[n - 1] < k x := by
    have : ¬ k l[n - 1] > k x := of_decide_eq_false hz
    omega
   have hi2 := (List.getElem?_eq_some_iff.1 hi)
   obtain ⟨hil, rfl⟩ := hi2
   rcases Nat.lt_or_ge i (n - 1) with h1 | h1
   ·have := List.pairwise_iff_getElem.1 h i (n - 1) hil hl h1
    omega
   ·have : i = n - 1 := by omega
    subst this; exact hle2
  ·cases hi
 have hp : (l.take n ++ l.drop n).Pairwise fun a b => k a < k b := by rw [List.take_append_drop]; exact h
 obtain ⟨r1, r2, r3⟩ := List.pairwise_append.1 hp
 refine List.pairwise_append.2 ⟨r1, List.pairwise_cons.2 ⟨fun y hy => of_decide_eq_true (hall y hy), r2⟩, fun a ha b hb => ?_⟩
 rcases List.mem_cons.1 hb with rfl | hb
 ·exact hlow a ha
 ·exact r3 a ha b hb
theorem sk {α : Type} {k : α → Int} {l : List α} (h : dA k l) : dA k (bF (fun y x => decide (k y > k x)) l) → bF (fun y x => decide (k y > k x)) l = l := fun h2 => dA.unique h2 h (fY _ _)
theorem pG {α : Type} {k : α → Int} : ∀ (l acc : List α), dA k acc → (l ++ acc).Pairwise (fun a b => k a ≠ k b) → dA k (l.foldl (fun acc x => cG (fun y => decide (k y > k x)) x acc) acc)
 | [], acc, h, _ => h
 | x :: l, acc, h, hn => by
  rw [List.foldl_cons]
  have hx : ∀ y ∈ acc, k y ≠ k x := fun y hy e => by
   have := (List.pairwise_cons.1 (show (x :: (l ++ acc)).Pairwise _ from hn)).1 y (List.mem_append_right l hy)
   exact this e.symm
  refine pG l _ (h.ins hx) ?_
  have hp : (l ++ cG (fun y => decide (k y > k x)) x acc).Perm (x :: l ++ acc) := ((dq _ x acc).append_left l).trans List.perm_middle
  exact (hp.pairwise_iff (fun h e => h e.symm)).2 hn
/- the document: a place in a list of names that rises. -/
structure vx (l : List aw) (from_ : Nat) (s : aw) (j : Int) : Prop where
 ex : ∃ i : Nat, j = (i : Int) ∧ l.length - cF (fun t => Ba t s) l ≤ i ∧ i ≤ l.length ∧ (i = l.length ∨ from_ ≤ i)
theorem vx.start {l : List aw} {f : Nat} {s : aw} : vx l f s (l.length : Int) := ⟨l.length, rfl, by omega, Nat.le_refl _, .inl rfl⟩
theorem vx.nn {l : List aw} {f : Nat} {s : aw} {j : Int} (h : vx l f s j) : 0 ≤ j ∧ j ≤ (l.length : Int) := by
 obtain ⟨i, rfl, _, h, _⟩ := h.ex
 omega
theorem vx.step {l : List aw} {f : Nat} {s : aw} {j : Int} (h : vx l f s j) (hf : (f : Int) < j) {x : aw} (hx : l[(j - 1).toNat]? = some x) (hp : Ba x s = true) : vx l f s (j - 1) := by
 obtain ⟨i, rfl, h1, h2, h3⟩ := h.ex
 have e : ((i : Int) - 1).toNat = i - 1 := by omega
 rw [e] at hx
 refine ⟨i - 1, by omega, ?_, by omega, .inr (by omega)⟩
 rcases Nat.lt_or_ge (i - 1) (l.length - cF (fun t => Ba t s) l) with q | q
 ·have := jC (fun t => Ba t s) l (i - 1) (by omega) x hx
  rw [hp] at this; cases this
 ·exact q
theorem vx.low {l : List aw} {f : Nat} {s : aw} {j : Int} (h : vx l f s j) (hf : ¬ (f : Int) < j) : j = (dR l f s : Int) := by
 obtain ⟨i, rfl, h1, h2, h3⟩ := h.ex
 unfold dR
 split <;> omega
theorem vx.stop {l : List aw} {f : Nat} {s : aw} {j : Int} (h : vx l f s j) (hf : (f : Int) < j) {x : aw} (hx : l[(j - 1).toNat]? = some x) (hp : Ba x s = false) : j = (dR l f s : Int) := by
 obtain ⟨i, rfl, h1, h2, h3⟩ := h.ex
 have e : ((i : Int) - 1).toNat = i - 1 := by omega
 rw [e] at hx
 have hT : i ≤ l.length - cF (fun t => Ba t s) l := by
  apply Classical.byContradiction
  intro hn
  have hm : x ∈ l.drop (l.length - cF (fun t => Ba t s) l) := by
   refine List.mem_iff_getElem?.2 ⟨i - 1 - (l.length - cF (fun t => Ba t s) l), ?_⟩
   rw [List.getElem?_drop, ← hx]
   congr 1; omega
  have := kL (fun t => Ba t s) l x hm
  rw [hp] at this; cases this
 unfold dR
 split <;> omega
def Ih (l : List aw) (j : Int) : aw := l.getD (j - 1).toNat []
theorem uk {l : List aw} {f : Nat} {s : aw} {j : Int} (h : vx l f s j) (hf : (f : Int) < j) : l[(j - 1).toNat]? = some (Ih l j) := by
 have hn := h.nn
 unfold Ih
 rw [List.getD_eq_getElem?_getD, List.getElem?_eq_getElem (show (j - 1).toNat < l.length by omega)]; rfl
theorem Gz {l : List aw} {f : Nat} {s : aw} {j : Int} (hl : l.length ≤ 1000000) (h : vx l f s j) (hf : (f : Int) < j) : (l.map AV.str)[(IntKind.i64.wrap (j - 1)).toNat]? = some (.str (Ih l j)) := by
 have hn := h.nn
 rw [eS (by omega) (by omega), List.getElem?_map, uk h hf]; rfl
theorem wP (l : List aw) (f : Nat) (s : aw) (hl : l.length ≤ 1000000) : Pure Tryz.prog 81 [.sl (l.map .str), .int .i64 (f : Int), .str s] (.int .i64 (dR l f s : Int)) := by
 refine Pure.aN Tryz.func81 rfl rfl (aF rfl) fun H => (aC.seq (aC.region (aB.run II 1 rfl (aB.nil (aC.seq (aC.region (aB.run II 3 rfl (aB.nil (aC.seq (aC.blk (aC.aJ (Kept.aH [.s 7, .h, .s 0, .s 1, .s 2] rfl (by decide) (Kept.now (aC.aW (fun (j : Int) => [(.s 7, .sv (.v (.int .i64 j)))]) _ (fun (j : Int) => vx l f s j) (fun (j : Int) => j.toNat) ((l.map AV.str).length : Int) rfl (by rw [List.length_map]; exact vx.start) ?_))))))))))))))
 rintro j hI
 have hnn := hI.nn
 refine aC.seq (aC.seq (aC.region (aB.run II 4 rfl (aB.tell (d := 13) rfl (fun hg1 => ?_) (fun hg1 => ?_)))))
 ·refine aB.run II 3 rfl (aB.g1 rfl (aF rfl) rfl rfl (aI (aF rfl) ca rfl rfl (by have := of_decide_eq_true hg1; rw [eS (by omega) (by omega)]; omega) (Gz hl hI (of_decide_eq_true hg1)) rfl) ?_)
  refine aB.run II 4 rfl (aB.nil (aC.cond rfl (fun hc2 => ?_) (fun hc2 => ?_)))
  ·exact aC.skip (aC.blk (aC.region (aB.run II 3 rfl (aB.kept (Kept.aH [.s 7, .h, .s 0, .s 1, .s 2] rfl (by decide) (Kept.now ⟨_, by show (IntKind.i64.wrap (j - 1)).toNat < j.toNat; have := of_decide_eq_true hg1; rw [eS (by omega) (by omega)]; omega, by rw [eS (by have := of_decide_eq_true hg1; omega) (by omega)]; exact hI.step (of_decide_eq_true hg1) (uk hI (of_decide_eq_true hg1)) hc2, rfl⟩))))))
  ·exact aC.exit (aC.seq (aC.region (aB.run II 2 rfl (aB.nil (aC.ret ⟨.inr rfl, (aE.r1 rfl (.tmp rfl .nil)).cast (congrArg (AV.int .i64) (hI.stop (of_decide_eq_true hg1) (uk hI (of_decide_eq_true hg1)) hc2)), rfl⟩)))))
 ·exact aB.run II 8 rfl (aB.nil (aC.bR rfl rfl (aC.exit (aC.seq (aC.region (aB.run II 2 rfl (aB.nil (aC.ret ⟨.inr rfl, (aE.r1 rfl (.tmp rfl .nil)).cast (congrArg (AV.int .i64) (hI.low (of_decide_eq_false hg1))), rfl⟩))))))))
/- Plain laws: what a schema that may be has; a message sorted. No condition. -/
theorem kf : ∀ {l : List ag}, cV l = 0 → ∀ f ∈ l, f.fu = 0
 | [], _, f, h => by simp at h
 | g :: l, h, f, hf => by
  unfold cV at h
  split at h
  ·rename_i hg
   rcases List.mem_cons.1 hf with rfl | hf
   ·exact hg
   ·exact kf h f hf
  ·rename_i hg; exact absurd h hg
theorem my : ∀ {l : List aU}, eI l = 0 → ∀ m ∈ l, cV m.fields = 0
 | [], _, m, h => by simp at h
 | g :: l, h, m, hm => by
  unfold eI at h
  split at h
  ·rename_i hg
   rcases List.mem_cons.1 hm with rfl | hm
   ·exact hg
   ·exact my h m hm
  ·rename_i hg; exact absurd h hg
structure aM.tU (s : aM) : Prop where
 sm : s.sm
 ne : 0 < s.msgs.length
 nd : (s.enums.map (·.name) ++ s.msgs.map (·.name)).Nodup
 nm : ∀ m ∈ s.msgs, an m.name = true
 fn : ∀ m ∈ s.msgs, (m.fields.map (·.name)).Nodup
 fr : ∀ m ∈ s.msgs, dA (·.num) m.fields
 br : ∀ m ∈ s.msgs, dA id m.ab
 refs : ∀ m ∈ s.msgs, ∀ f ∈ m.fields, (f.ty = 14 → 0 ≤ s.dy f.ref) ∧ (f.ty = 15 → 0 ≤ s.bD f.ref)
 fc : ∀ m ∈ s.msgs, ∀ f ∈ m.fields, f.fu = 0
theorem aM.gF {s : aM} (h : s.fu = 0) : s.tU := by
 unfold aM.fu at h
 split at h
 ·cases h
 rename_i h1
 split at h
 ·cases h
 rename_i h2
 split at h
 ·cases h
 rename_i h3
 split at h
 ·rename_i h4; exact absurd h h4
 rename_i h4
 split at h
 ·cases h
 rename_i h5
 split at h
 ·cases h
 rename_i h6
 split at h
 ·cases h
 rename_i h7
 split at h
 ·cases h
 rename_i h8
 have h1 : s.many = false := by simpa using h1
 have h2 : s.none = false := by simpa using h2
 have h3 : s.text = false := by simpa using h3
 have h4 : eI s.msgs = 0 := by simpa using h4
 have h5 : s.gl = false := by simpa using h5
 have h6 : s.order = false := by simpa using h6
 have h8 : s.refs = false := by simpa using h8
 simp only [aM.text, Bool.or_eq_false_iff, List.any_eq_false, Bool.not_eq_true, Bool.not_eq_false'] at h3
 simp only [aM.gl, Bool.or_eq_false_iff, List.any_eq_false, Bool.not_eq_true, Bool.not_eq_false'] at h5
 simp only [aM.order, Bool.or_eq_false_iff, List.any_eq_false, Bool.not_eq_true, Bool.not_eq_false'] at h6
 simp only [aM.refs, List.any_eq_false, Bool.not_eq_true, Bool.or_eq_false_iff, Bool.and_eq_false_iff, decide_eq_false_iff_not] at h8
 refine ⟨aM.Dk h1, (aM.wb h2).1, (tT _).1 h5.2, fun m hm => h3.2 m hm, fun m hm => ?_, fun m hm => ?_, fun m hm => ?_, fun m hm f hf => ?_, fun m hm f hf => kf (my h4 m hm) f hf⟩
 ·have := h5.1.2 m hm
  simp only [aU.gl, Bool.or_eq_false_iff, Bool.not_eq_false'] at this
  exact (tT _).1 this.1
 ·have := h6.1.2 m hm
  simp only [aU.order, Bool.or_eq_false_iff, Bool.not_eq_false'] at this
  exact dA.tV this.1.1
 ·have := h6.1.2 m hm
  simp only [aU.order, Bool.or_eq_false_iff, Bool.not_eq_false'] at this
  exact dA.tV (k := id) (by rw [List.map_id]; exact this.1.2)
 ·have := h8 m hm f hf
  refine ⟨fun e => ?_, fun e => ?_⟩
  ·rcases this.1 with q | q
   ·exact absurd e q
   ·omega
  ·rcases this.2 with q | q
   ·exact absurd e q
   ·omega
theorem dA.ne {α : Type} {k : α → Int} {l : List α} (h : dA k l) : l.Pairwise fun a b => k a ≠ k b := h.imp fun h => by omega
theorem lP {α : Type} {k : α → Int} {l : List α} (h : l.Pairwise fun a b => k a ≠ k b) : dA k (bF (fun y x => decide (k y > k x)) l) := pG l [] List.Pairwise.nil (by simpa using h)
theorem kM {α : Type} {k : α → Int} {l : List α} (h : dA k l) : bF (fun y x => decide (k y > k x)) l = l := sk h (lP h.ne)
theorem aU.jD {m : aU} (h1 : dA (·.num) m.fields) (h2 : dA id m.ab) : m.sort = m := by
 unfold aU.sort
 have e1 := kM h1
 have e2 := kM h2
 simp only [id] at e2
 rw [e1, e2]
theorem By {l m : List ag} (hm : dA (·.num) m) (hp : l.Perm m) : bF (fun y x : ag => decide (y.num > x.num)) l = m := by
 have hn : l.Pairwise fun a b => a.num ≠ b.num := (hp.pairwise_iff (fun h e => h e.symm)).2 hm.ne
 exact dA.unique (lP (k := fun f : ag => f.num) hn) hm ((fY _ _).trans hp)
theorem wh {α : Type} (nm : α → aw) {l : List α} (hn : (l.map nm).Nodup) {f : α} (hf : f ∈ l) {g : α → α} (hg : ∀ y ∈ l, nm y ≠ nm f → g y = y) : (l.map g).Perm (g f :: l.filter fun y => !(nm y == nm f)) := by
 induction l with
 | nil => cases hf
 | cons a l ih =>
  simp only [List.map_cons, List.nodup_cons] at hn
  rcases List.mem_cons.1 hf with rfl | hf
  ·have hall : ∀ y ∈ l, nm y ≠ nm f := fun y hy e => hn.1 (e ▸ List.mem_map_of_mem hy)
   rw [List.filter_cons_of_neg (by simp), List.filter_eq_self.2 (fun y hy => by simp [hall y hy]), List.map_cons]
   have : l.map g = l := by
    conv => rhs; rw [← List.map_id l]
    exact List.map_congr_left fun y hy => hg y (List.mem_cons_of_mem _ hy) (hall y hy)
   rw [this]
  ·have hne : nm a ≠ nm f := fun e => hn.1 (e ▸ List.mem_map_of_mem hf)
   rw [List.filter_cons_of_pos (by simp [hne]), List.map_cons, hg a (List.mem_cons_self ..) hne]
   exact ((ih hn.2 hf fun y hy => hg y (List.mem_cons_of_mem _ hy)).cons a).trans (List.Perm.swap _ _ _)
/-! ### the messages of a schema, sorted -/
theorem y1 (acc : List aU) (m : aU) : (jx acc m).Perm (m.sort :: acc) := kv _ _ _
theorem pH : ∀ (l acc : List aU), (l.foldl jx acc).Perm (l.map aU.sort ++ acc)
 | [], acc => List.Perm.refl _
 | m :: l, acc => by
  rw [List.foldl_cons]
  exact (pH l (jx acc m)).trans (((y1 acc m).append_left _).trans List.perm_middle)
theorem jd (s : aM) : s.sorted.msgs.Perm (s.msgs.map aU.sort) := by
 have := pH s.msgs []
 simpa [aM.sorted] using this
theorem y5 {a m : aU} {acc : List aU} : (jx (a :: acc) m).head? = some a := by
 have : 1 ≤ dR ((a :: acc).map (·.name)) 1 m.name := by
  unfold dR
  split
  ·simp
  ·omega
 unfold jx eC
 rw [if_neg (by simp)]
 obtain ⟨k, hk⟩ : ∃ k, dR ((a :: acc).map (·.name)) 1 m.name = k + 1 := ⟨_, (Nat.sub_add_cancel this).symm⟩
 rw [hk]
 simp
theorem pI : ∀ (l : List aU) (a : aU) (acc : List aU), (l.foldl jx (a :: acc)).head? = some a
 | [], a, acc => rfl
 | m :: l, a, acc => by
  rw [List.foldl_cons]
  have h := y5 (a := a) (m := m) (acc := acc)
  cases e : jx (a :: acc) m with
  | nil => rw [e] at h; cases h
  | cons b r =>
   rw [e] at h
   simp at h
   subst h
   exact pI l b r
theorem je {s : aM} {m : aU} (h : s.msgs.head? = some m) : s.sorted.msgs.head? = some m.sort := by
 unfold aM.sorted
 cases e : s.msgs with
 | nil => rw [e] at h; cases h
 | cons a l =>
  rw [e] at h
  simp at h
  subst h
  rw [List.foldl_cons]
  exact pI l a.sort []
/- Plain laws: the parts of a migration are the messages of its schemas. No condition. -/
structure Fit (names : List aw) (p : aR) (m : aU) : Prop where
 rn : 0 ≤ p.regs
 outs : p.outs.map (·.f) = m.fields
 reg : ∀ x ∈ p.outs, 0 ≤ x.reg ∧ x.reg < p.regs
 dist : (p.outs.map (·.reg)).Nodup
 part : ∀ x ∈ p.outs, (x.f.ty = 15 → ∃ j : Nat, x.part = (j : Int) ∧ names[j]? = some x.f.ref) ∧ (x.f.ty ≠ 15 → x.part = -1)
structure Inv (t : aM) (w : fB) : Prop where
 len : w.names.length = w.all.length
 ok : t.tU
 root : w.names.head? = t.msgs.head?.map (·.name)
 uniq : ∀ (i j : Nat) n, w.names[i]? = some n → w.names[j]? = some n → n ≠ [] → i = j
 back : ∀ (i : Nat) n, w.names[i]? = some n → n ≠ [] → ∃ m ∈ t.msgs, m.name = n
 fwd : ∀ m ∈ t.msgs, ∃ (k : Nat) (p : aR), w.names[k]? = some m.name ∧ w.all[k]? = some p ∧ Fit w.names p m
theorem gx {s : aw} (h : an s = true) : s ≠ [] := by
 intro e; subst e; revert h; decide
theorem rU {α : Type} (r : α) (at_ : Nat) : ∀ (l : List α) (n : Nat), (l.zipIdx n).filterMap (fun (a, i) => if i = n + at_ then some r else some a) = l.set at_ r
 | [], n => rfl
 | a :: l, n => by
  rw [List.zipIdx_cons, List.filterMap_cons]
  cases at_ with
  | zero =>
   simp only [Nat.add_zero, if_true, List.set_cons_zero]
   congr 1
   have : ∀ (l : List α) (k : Nat), n < k → (l.zipIdx k).filterMap (fun (a, i) => if i = n then some r else some a) = l := by
    intro l
    induction l with
    | nil => intros; rfl
    | cons b l ih =>
     intro k hk
     rw [List.zipIdx_cons, List.filterMap_cons]
     have hne : ¬ k = n := by omega
     simp only [hne, if_false]
     rw [ih (k + 1) (by omega)]
   exact this l (n + 1) (by omega)
  | succ k =>
   have hne : ¬ n = n + (k + 1) := by omega
   simp only [hne, if_false, List.set_cons_succ]
   congr 1
   rw [← rU r k l (n + 1)]
   congr 1
   funext ⟨b, i⟩
   simp only [show n + (k + 1) = n + 1 + k by omega]
theorem vF {s : aM} {x : aP} {at_ : Nat} {r : aU} {ref : aw} (h6 : x.kind ≠ 6) (h7 : x.kind ≠ 7) : x.msgs s at_ r ref = s.msgs.set at_ r := by
 unfold aP.msgs
 simp only [h6, h7, false_and, if_false, List.append_nil]
 have := rU r at_ s.msgs 0
 simp only [Nat.zero_add] at this
 exact this
theorem yI {s : aM} {x : aP} {at_ : Nat} {r : aU} {ref : aw} (h6 : x.kind = 6) : x.msgs s at_ r ref = s.msgs.set at_ r ++ [{ ja with name := x.dest, fields := [((s.msgs.getD at_ ja).aQ x.field)] }] := by
 unfold aP.msgs
 have h7 : ¬ x.kind = 7 := by omega
 simp only [h6, if_true]
 simp only [show ¬ (6 : Int) = 7 by decide, false_and, if_false]
 congr 1
 have := rU r at_ s.msgs 0
 simp only [Nat.zero_add] at this
 exact this
structure cB (s : aM) (x : aP) (t : aM) (m : aU) (at_ : Nat) : Prop where
 fL : s.tU
 okT : t.tU
 rt : x.right = true
 lt : at_ < s.msgs.length
 eq : s.msgs[at_]? = some m
 nm : m.name = x.msg
 has : x.bg.all m.eD = true
 ask : x.asked s m = true
 th : x.there s { m with fields := aq m.fields x.goes } (x.comes s (m.aQ x.field)) = false
 out : t = (⟨s.enums, x.msgs s at_ { m with fields := (aq m.fields x.goes).map x.changed ++ x.comes s (m.aQ x.field) } (m.aQ x.field).ref⟩ : aM).sorted
theorem kU {α : Type} (p : α → Bool) (l : List α) (h : ¬ bU p l 0 < 0) : ∃ (i : Nat) (hi : i < l.length), bU p l 0 = (i : Int) ∧ p l[i] = true := by
 rcases bB p l 0 with ⟨h1, _⟩ | ⟨i, hi, h1, h2⟩
 ·rw [h1] at h; omega
 ·exact ⟨i, hi, by simpa using h1, h2.2⟩
theorem gg {s : aM} {x : aP} {t : aM} (h : s.apply x = .ok t) : ∃ m at_, cB s x t m at_ := by
 unfold aM.apply at h
 split at h
 ·cases h
 rename_i h1
 split at h
 ·cases h
 rename_i h2
 obtain ⟨i, hi, e, hn⟩ := kU _ _ h2
 have e' : s.bD x.msg = (i : Int) := e
 have hget : s.msgs.getD i ja = s.msgs[i] := by rw [List.getD_eq_getElem?_getD, List.getElem?_eq_getElem hi]; rfl
 simp only [e', Int.toNat_natCast, hget] at h
 split at h
 ·cases h
 rename_i h3
 split at h
 ·cases h
 rename_i h4
 split at h
 ·cases h
 rename_i h5
 split at h
 ·cases h
 rename_i h6
 cases h
 have hc : s.fu = 0 ∧ x.right = true := by
  constructor
  ·exact Classical.byContradiction fun q => h1 (.inl q)
  ·cases hr : x.right with
   | true => rfl
   | false => exact absurd (.inr hr) h1
 refine ⟨s.msgs[i], i, aM.gF hc.1, aM.gF (by simpa using h6), hc.2, hi, List.getElem?_eq_getElem hi, by simpa using hn, by simpa using h3, by simpa using h4, by simpa using h5, rfl⟩
theorem en {m : aU} {n : aw} (h : m.eD n = true) : m.aQ n ∈ m.fields ∧ (m.aQ n).name = n := by
 unfold aU.eD at h
 obtain ⟨f, hf, hn⟩ := List.any_eq_true.1 h
 unfold aU.aQ
 cases e : m.fields.find? (fun f => f.name == n) with
 | none => exact absurd hn (by simpa using List.find?_eq_none.1 e f hf)
 | some g => exact ⟨List.mem_of_find?_eq_some e, by simpa using List.find?_some e⟩
theorem fJ {l : List Port} {fs : List ag} (ho : l.map (·.f) = fs) {n : aw} (h : ∃ f ∈ fs, f.name = n) : aL l n ∈ l ∧ (aL l n).f = ((fs.find? fun f => f.name == n).getD dg) ∧ (aL l n).f.name = n := by
 subst ho
 obtain ⟨f, hf, hn⟩ := h
 obtain ⟨y, hy, rfl⟩ := List.mem_map.1 hf
 unfold aL
 rw [List.find?_map]
 cases e : l.find? (fun x => x.f.name == n) with
 | none => exact absurd hn (by simpa using List.find?_eq_none.1 e y hy)
 | some g =>
  have e2 : l.find? ((fun f => f.name == n) ∘ fun x : Port => x.f) = some g := e
  rw [e2]
  exact ⟨List.mem_of_find?_eq_some e, rfl, by simpa using List.find?_some e⟩
theorem dn (l : List Port) (x : Port) : (bN l x).map (·.f) = cG (fun y : ag => decide (y.num > x.f.num)) x.f (l.map (·.f)) := by
 have ht : ∀ l : List Port, cF (fun y : Port => decide (y.f.num > x.f.num)) l = cF (fun y : ag => decide (y.num > x.f.num)) (l.map (·.f)) := by
  intro l
  induction l with
  | nil => rfl
  | cons a l ih => simp only [cF, List.map_cons, ih, List.length_map]
 unfold bN cG eC
 rw [List.map_append, List.map_cons, List.map_take, List.map_drop, List.length_map, ht]
theorem cO (l : List Port) (n : aw) : (aT l n).map (·.f) = (l.map (·.f)).filter fun f => !(f.name == n) := by
 unfold aT
 rw [List.filter_map]
 rfl
theorem qK {l : List Port} {x y : Port} (h : y ∈ bN l x) : y = x ∨ y ∈ l := by
 have := (dq (fun y : Port => decide (y.f.num > x.f.num)) x l).mem_iff.1 h
 simpa using this
theorem uW (l : List Port) (x : Port) : (bN l x).Perm (x :: l) := dq _ _ _
/- the document: what can be unwrapped. -/
theorem DX : aa Tryz.prog 101 = true := by kernel_rfl
theorem m7 : aa Tryz.prog 77 = true := by kernel_rfl
def aM.uJ (s : aM) (m : aU) (f : ag) : Int := if s.boxed m f = true then s.bD f.ref else -1
def aM.B9 (s : aM) (n : aw) : aU := s.msgs.getD (s.bD n).toNat ja
theorem rv {s : aM} {n : aw} (h : decide (s.bD n < 1) = false) : (s.msgs.map aU.av)[(s.bD n).toNat]? = some (.agg (s.B9 n).cells) := by
 have h := of_decide_eq_false h
 obtain ⟨i, hi, e, _⟩ := kU (fun m : aU => m.name == n) s.msgs (by show ¬ s.bD n < 0; omega)
 have e : s.bD n = (i : Int) := e
 unfold aM.B9
 rw [e, Int.toNat_natCast, List.getElem?_map, List.getElem?_eq_getElem hi, List.getD_eq_getElem?_getD, List.getElem?_eq_getElem hi]
 rfl
theorem DH {m : aU} (h : (!(((m.fields.map ag.av).length : Int) == 1)) = false) : (m.fields.map ag.av)[(0 : Int).toNat]? = some (.agg (m.fields.headD dg).cells) := by
 rw [List.length_map] at h
 cases e : m.fields with
 | nil => rw [e] at h; simp at h
 | cons a l => rfl
theorem kF {s : aM} {m : aU} {f : ag} : s.uJ m f = if f.ty = 15 ∧ f.alone = true ∧ 1 ≤ s.bD f.ref ∧ f.ref ≠ m.name ∧ s.kY f.ref = 1 ∧ (s.B9 f.ref).fields.length = 1 ∧ ((s.B9 f.ref).fields.headD dg).one = [] then s.bD f.ref else -1 := by
 unfold aM.uJ
 congr 1
 simp only [aM.boxed, Bool.and_eq_true, decide_eq_true_eq, Bool.not_eq_true', beq_eq_false_iff_ne, eq_iff_iff]
 rcases bB (fun m' : aU => m'.name == f.ref) s.msgs 0 with ⟨q1, q2⟩ | ⟨i, hi, q1, q2, q3⟩
 ·have e : s.bD f.ref = -1 := q1
  rw [e]
  constructor
  ·rintro ⟨⟨⟨⟨_, h⟩, _⟩, _⟩, _⟩; omega
  ·rintro ⟨_, _, h, _⟩; omega
 ·have e : s.bD f.ref = ((0 + i : Nat) : Int) := q1
  have e2 : s.iV f.ref = some s.msgs[i] := q2
  have e3 : s.B9 f.ref = s.msgs[i] := by
   unfold aM.B9
   rw [e, Int.toNat_natCast, Nat.zero_add, List.getD_eq_getElem?_getD, List.getElem?_eq_getElem hi]; rfl
  rw [e2, e3]
  simp only [Option.map_some]
  cases s.msgs[i].fields with
  | nil => simp
  | cons a l =>
   cases l with
   | nil => simp [and_assoc]
   | cons b r => simp
theorem C0 (s : aM) (m : aU) (f : ag) (hs : s.sm) : Pure Tryz.prog 78 [s.av, m.av, f.av] (.int .i64 (s.uJ m f)) := by
 have hm := hs.m
 refine Pure.aN Tryz.func78 rfl rfl (aF rfl) fun H => (aC.seq (aC.region (aB.run II 4 rfl (aB.nil (aC.seq (aC.seq (aC.region (aB.run II 4 rfl (aB.tell (d := 11) rfl (fun hg1 => ?_) (fun hg1 => ?_))))))))))
 ·exact aB.run II 4 rfl (aB.nil (aC.bG rfl rfl (aC.seq (aC.region (aB.run II 1 rfl (aB.nil (aC.ret ⟨.inr rfl, (aE.r1 rfl (.tmp rfl .nil)).cast (congrArg (AV.int .i64) (by rw [kF]; simp_all <;> omega)), rfl⟩)))))))
 ·refine aB.run II 1 rfl (aB.g1 rfl (aF rfl) rfl rfl (aG (aF rfl) m7 rfl (kN _)) (aB.run II 2 rfl (aB.nil (aC.cond rfl (fun hc2 => ?_) (fun hc2 => ?_)))))
  ·exact aC.seq (aC.region (aB.run II 1 rfl (aB.nil (aC.ret ⟨.inr rfl, (aE.r1 rfl (.tmp rfl .nil)).cast (congrArg (AV.int .i64) (by rw [kF]; simp_all <;> omega)), rfl⟩))))
  ·refine aC.skip (aC.seq (aC.region (aB.run II 3 rfl (aB.c1 rfl (aG (aF rfl) kA rfl (gv _ _ (by omega))) (aB.run II 1 rfl (aB.nil (aC.seq (aC.seq (aC.region (aB.run II 3 rfl (aB.tell (d := 22) rfl (fun hg3 => ?_) (fun hg3 => ?_))))))))))))
   ·exact aB.run II 35 rfl (aB.nil (aC.bG rfl rfl (aC.seq (aC.region (aB.run II 1 rfl (aB.nil (aC.ret ⟨.inr rfl, (aE.r1 rfl (.tmp rfl .nil)).cast (congrArg (AV.int .i64) (by rw [kF]; simp_all <;> omega)), rfl⟩)))))))
   ·refine aB.run II 7 rfl (aB.tell (d := 29) rfl (fun hg4 => ?_) (fun hg4 => ?_))
    ·exact aB.run II 28 rfl (aB.nil (aC.bG rfl rfl (aC.seq (aC.region (aB.run II 1 rfl (aB.nil (aC.ret ⟨.inr rfl, (aE.r1 rfl (.tmp rfl .nil)).cast (congrArg (AV.int .i64) (by rw [kF]; simp_all <;> omega)), rfl⟩)))))))
    ·refine aB.run II 3 rfl (aB.g1 rfl (aF rfl) rfl rfl (aG (aF rfl) DX rfl (E0 _ _ hs)) (aB.run II 3 rfl (aB.tell (d := 36) rfl (fun hg5 => ?_) (fun hg5 => ?_))))
     ·exact aB.run II 21 rfl (aB.nil (aC.bG rfl rfl (aC.seq (aC.region (aB.run II 1 rfl (aB.nil (aC.ret ⟨.inr rfl, (aE.r1 rfl (.tmp rfl .nil)).cast (congrArg (AV.int .i64) (by rw [kF]; simp_all <;> omega)), rfl⟩)))))))
     ·refine aB.run II 3 rfl (aB.g1 rfl (aF rfl) rfl rfl (aI (aF rfl) bL rfl rfl (by have := of_decide_eq_false hg3; omega) (rv hg3) rfl) ?_)
      refine aB.run II 6 rfl (aB.tell (d := 46) rfl (fun hg6 => ?_) (fun hg6 => ?_))
      ·exact aB.run II 11 rfl (aB.nil (aC.bG rfl rfl (aC.seq (aC.region (aB.run II 1 rfl (aB.nil (aC.ret ⟨.inr rfl, (aE.r1 rfl (.tmp rfl .nil)).cast (congrArg (AV.int .i64) (by rw [kF]; simp_all <;> omega)), rfl⟩)))))))
      ·refine aB.run II 3 rfl (aB.g1 rfl (aF rfl) rfl rfl (aI (aF rfl) bL rfl rfl (by have := of_decide_eq_false hg3; omega) (rv hg3) rfl) ?_)
       refine aB.run II 2 rfl (aB.g1 rfl (aF rfl) rfl rfl (aI (aF rfl) bQ rfl rfl (by decide) (DH hg6) rfl) (aB.run II 4 rfl (aB.nil (aC.cond rfl (fun hc7 => ?_) (fun hc7 => ?_)))))
       ·exact aC.seq (aC.region (aB.run II 1 rfl (aB.nil (aC.ret ⟨.inr rfl, (aE.r1 rfl (.tmp rfl .nil)).cast (congrArg (AV.int .i64) (by rw [kF]; simp_all <;> omega)), rfl⟩))))
       ·exact aC.skip (aC.seq (aC.region (aB.run II 2 rfl (aB.nil (aC.ret ⟨.inr rfl, (aE.r1 rfl (.tmp rfl .nil)).cast (congrArg (AV.int .i64) (by rw [kF]; simp_all <;> omega)), rfl⟩)))))
theorem iu {s : aM} {m : aU} {f : ag} (h : s.boxed m f = true) : 1 ≤ s.bD f.ref ∧ (s.B9 f.ref).fields.length = 1 ∧ ((s.iV f.ref).getD ja).fields.headD dg = (s.B9 f.ref).fields.headD dg := by
 simp only [aM.boxed, Bool.and_eq_true, decide_eq_true_eq, Bool.not_eq_true', beq_eq_false_iff_ne] at h
 obtain ⟨⟨⟨⟨⟨h1, h2⟩, h3⟩, h4⟩, h5⟩, h6⟩ := h
 rcases bB (fun m' : aU => m'.name == f.ref) s.msgs 0 with ⟨q1, q2⟩ | ⟨i, hi, q1, q2, q3⟩
 ·have e : s.bD f.ref = -1 := q1
  rw [e] at h3; omega
 ·have e : s.bD f.ref = ((0 + i : Nat) : Int) := q1
  have e2 : s.iV f.ref = some s.msgs[i] := q2
  have e3 : s.B9 f.ref = s.msgs[i] := by
   unfold aM.B9
   rw [e, Int.toNat_natCast, Nat.zero_add, List.getD_eq_getElem?_getD, List.getElem?_eq_getElem hi]; rfl
  rw [e2] at h6 ⊢
  rw [e3]
  simp only [Option.map_some, Option.getD_some] at h6 ⊢
  refine ⟨h3, ?_, trivial⟩
  split at h6
  ·rename_i hh; simp at hh; rw [hh]; rfl
  ·cases h6
theorem A6 {m : aU} (h : m.fields.length = 1) : (m.fields.map ag.av)[(0 : Int).toNat]? = some (.agg (m.fields.headD dg).cells) := by
 cases e : m.fields with
 | nil => rw [e] at h; simp at h
 | cons a l => rfl
theorem CZ (s : aM) (f : ag) (x : aP) (m : aU) (hs : s.sm) (h7 : x.kind = 7 → s.boxed m f = true) : Pure Tryz.prog 46 [s.av, f.av, x.av] (.sl ((x.comes s f).map ag.av)) := by
 have hm := hs.m
 refine Pure.aN Tryz.func46 rfl rfl (aF rfl) fun H => (aC.seq (aC.region (aB.run II 4 rfl (aB.nil (aC.seq (aC.seq (aC.region (aB.run II 2 rfl (aB.nil (aC.blk (aC.seq (aC.region (aB.run II 2 rfl (aB.nil (aC.cond rfl (fun hc1 => ?_) (fun hc1 => ?_))))))))))))))))
 ·exact aC.seq (aC.region (aB.run II 4 rfl (aB.nil (aC.seq (aC.region (aB.run II 3 rfl (aB.nil (aC.ret ⟨.inr rfl, (aE.r1 rfl (.tmp rfl .nil)).cast (congrArg AV.sl (by have hk : x.kind = 2 := (by simpa using hc1); simp only [aP.comes, hk, if_false, if_true]; rfl)), rfl⟩))))))))
 ·refine aC.seq (aC.region (aB.run II 2 rfl (aB.nil (aC.cond rfl (fun hc2 => ?_) (fun hc2 => ?_)))))
  ·exact aC.seq (aC.region (aB.run II 12 rfl (aB.nil (aC.ret ⟨.inr rfl, (aE.r1 rfl (.tmp rfl .nil)).cast (congrArg AV.sl (by have hk : x.kind = 4 := (by simpa using hc2); simp only [aP.comes, hk, show ¬ (4 : Int) = 2 by decide, if_false, if_true]; rfl)), rfl⟩))))
  ·refine aC.seq (aC.region (aB.run II 2 rfl (aB.nil (aC.cond rfl (fun hc3 => ?_) (fun hc3 => ?_)))))
   ·exact aC.seq (aC.region (aB.run II 7 rfl (aB.nil (aC.ret ⟨.inr rfl, (aE.r1 rfl (.tmp rfl .nil)).cast (congrArg AV.sl (by have hk : x.kind = 5 := (by simpa using hc3); simp only [aP.comes, hk, show ¬ (5 : Int) = 2 by decide, show ¬ (5 : Int) = 4 by decide, if_false, if_true]; rfl)), rfl⟩))))
   ·refine aC.seq (aC.region (aB.run II 2 rfl (aB.nil (aC.cond rfl (fun hc4 => ?_) (fun hc4 => ?_)))))
    ·exact aC.seq (aC.region (aB.run II 9 rfl (aB.nil (aC.ret ⟨.inr rfl, (aE.r1 rfl (.tmp rfl .nil)).cast (congrArg AV.sl (by have hk : x.kind = 6 := (by simpa using hc4); simp only [aP.comes, hk, show ¬ (6 : Int) = 2 by decide, show ¬ (6 : Int) = 4 by decide, show ¬ (6 : Int) = 5 by decide, if_false, if_true]; rfl)), rfl⟩))))
    ·refine aC.seq (aC.region (aB.run II 2 rfl (aB.nil (aC.cond rfl (fun hc5 => ?_) (fun hc5 => ?_)))))
     ·refine aC.seq (aC.drawn mixed rfl (aD.run II 5 rfl (aD.c1 rfl (aG (aF rfl) kA rfl (gv _ _ (by omega))) (aD.c1 rfl (aI (aF rfl) bL rfl rfl (by have := iu (h7 (by simpa using hc5)); omega) (rv (by have := iu (h7 (by simpa using hc5)); simp; omega)) rfl) ?_))))
      exact aD.run II 2 rfl (aD.c1 rfl (aI (aF rfl) bQ rfl rfl (by decide) (A6 (iu (h7 (by simpa using hc5))).2.1) rfl) (aD.run II 3 rfl (aD.nil (by kernel_rfl) (Kept.now (aC.ret ⟨.inr rfl, (aE.r1 rfl (.tmp rfl .nil)).cast (congrArg AV.sl (by have hb := iu (h7 (by simpa using hc5)); have hk : x.kind = 7 := (by simpa using hc5); simp only [aP.comes, hk, show ¬ (7 : Int) = 2 by decide, show ¬ (7 : Int) = 4 by decide, show ¬ (7 : Int) = 5 by decide, show ¬ (7 : Int) = 6 by decide, if_false, if_true, List.map_cons, List.map_nil]; rw [hb.2.2]; rfl)), rfl⟩)))))
     ·refine aC.seq (aC.region (aB.run II 2 rfl (aB.nil (aC.cond rfl (fun hc6 => ?_) (fun hc6 => ?_)))))
      ·exact aC.seq (aC.region (aB.run II 9 rfl (aB.nil (aC.ret ⟨.inr rfl, (aE.r1 rfl (.tmp rfl .nil)).cast (congrArg AV.sl (by have hk : x.kind = 9 := (by simpa using hc6); simp only [aP.comes, hk, show ¬ (9 : Int) = 2 by decide, show ¬ (9 : Int) = 4 by decide, show ¬ (9 : Int) = 5 by decide, show ¬ (9 : Int) = 6 by decide, show ¬ (9 : Int) = 7 by decide, if_false, if_true]; rfl)), rfl⟩))))
      ·exact aC.skip (aC.seq (aC.region (aB.run II 1 rfl (aB.nil (aC.ret ⟨.inr rfl, (aE.r1 rfl (.tmp rfl .nil)).cast (congrArg AV.sl (by simp_all [aP.comes])), rfl⟩)))))
/- The program logic's rules: what an interface value holds; how code ends, told in another way. No condition. -/
section
variable {P : Program} {N : Nat} {s : St} {Q : Exit → St → Prop} {d : Nat} {ty : TypeId} {pos : String} {af : Array Edge} {g : Option (Nat × Bool)}
end
/- The program logic's rules: what a call has made and let go of; calls that panic, the objects being somehow; several cells of an object stored at once; regions that draw their order, with a call that panics. No condition. -/
section
variable {P : Program} {N : Nat} {ops : Array Oper} {l : List Oper} {s : St} {Q : Exit → St → Prop} {o : Oper} {R : List aK}
variable {d : Nat} {ty : TypeId} {pos : String} {af : Array Edge} {dst : Option Tmp} {g : Option (Nat × Bool)}
def I5 : Hc → Bool
 | .v _ => true
 | _ => false
def mq (cs : List Hc) (off : Nat) (ys : List AV) : List Hc := cs.take off ++ ys.map .v ++ cs.drop (off + ys.length)
theorem Ce {t1 : TypeId} {x y : Operand} {id off n : Nat} {b : Bool} {cs : List Hc} {av : AV} {H : Hp} (hl : lk P t1 = some (b, n)) (hx : cU x s = some (.op id off)) (hH : get s .h = some (.hp H)) (ho : H.obj id = some cs) (hy : cU y s = some av) (ht : (Sv.v av).j5 = false)
  (hn : av.cells.length = n) (hf : off + n ≤ cs.length) (hold : ((cs.drop off).take n).all I5 = true) :
  aY P N ⟨none, .store t1 x y, ty, pos, af, g⟩ s (rd x ++ (rd y ++ [.h])) [(.h, .hp (H.set id (mq cs off av.cells)))] := by
 intro t hR E G L a w hr K Q hK
 have hv := aS hr hR.left hx
 have hz := aS hr hR.right.left hy
 generalize hav : a.eval x = u at hv
 cases hv
 rename_i blk hb
 obtain ⟨H0, gH, hok, hmay⟩ := hr.heap
 have hHt : get t .h = some (.hp H) := by rw [hR .h (by simp)]; exact hH
 rw [hHt] at gH; cases gH
 obtain ⟨blk0, arr, el1, p1, p2, p3, p4, p5⟩ := hok.obj id cs ho
 rw [hb] at p1; cases p1
 obtain ⟨h1, h2⟩ := V.cells hz (fun vs e => by subst e; cases ht)
 have hlen : (a.eval y).cells.toList.length = n := by rw [Array.length_toList, h1, hn]
 have hone : ∀ u ∈ (a.eval y).cells.toList, u.oneCell' = true := by
  intro u hu
  obtain ⟨j, hj, rfl⟩ := List.mem_iff_getElem.1 hu
  have hj' : j < av.cells.length := by omega
  obtain ⟨q1, q2⟩ := h2 j av.cells[j] (by simp [hj'])
  have : (a.eval y).cells.getD j undef = (a.eval y).cells.toList[j] := by
   rw [Array.getD_eq_getD_getElem?, ← Array.getElem?_toList, List.getElem?_eq_getElem hj]; rfl
  rw [← this]
  exact q2.eE q1
 have hst := run_storeCells_at P blk off el1 (a.eval y).cells.toList 0 arr w p2 (by have := p3.1; rw [hlen]; omega) hone
 obtain ⟨_, hs⟩ := mT hl w
 simp only [Nat.add_zero] at hst
 let arr' : Array Value := (arr.toList.take off ++ (a.eval y).cells.toList ++ arr.toList.drop (off + (a.eval y).cells.toList.length)).toArray
 have hrun : (execOp a.eval ⟨none, .store t1 x y, ty, pos, af, g⟩).run P w = .ok .skip (w.setRow blk arr') := by
  have hne : ¬ ((a.eval y).cells.size ≠ n) := by rw [h1, hn]; simp
  simp only [execOp, Sem.run_bind, hav, Instr.storeAt, Instr.sureAddr, Sem.run_pure, Result.andThen_ok, storeVar, hs]
  rw [if_neg hne]
  simp only [hst, Result.andThen_ok]
  rfl
 have hl1 : (arr.toList.take off).length = off := by rw [List.length_take, Array.length_toList]; omega
 have hl2 : (cs.take off).length = off := by rw [List.length_take]; omega
 have key : ∀ j, arr'.getD j undef = if j < off then arr.getD j undef else if j < off + n then (a.eval y).cells.getD (j - off) undef else arr.getD j undef := by
  intro j
  simp only [arr', Array.getD_eq_getD_getElem?, List.getElem?_toArray]
  rw [List.append_assoc]
  split
  ·rename_i hj
   rw [List.getElem?_append_left (by omega), List.getElem?_take, if_pos hj, Array.getElem?_toList]
  ·rename_i hj
   rw [List.getElem?_append_right (by omega), hl1]
   split
   ·rename_i hj2
    rw [List.getElem?_append_left (by omega), Array.getElem?_toList]
   ·rename_i hj2
    rw [List.getElem?_append_right (by omega), hlen, List.getElem?_drop, Array.getElem?_toList]
    congr 2
    omega
 have hset : ∀ (j : Nat) x, (mq cs off av.cells)[j]? = some x → (off ≤ j ∧ j < off + n ∧ ∃ c, av.cells[j - off]? = some c ∧ x = .v c) ∨ (¬ (off ≤ j ∧ j < off + n) ∧ cs[j]? = some x) := by
  intro j x e
  simp only [mq] at e
  rw [List.append_assoc] at e
  by_cases hj : j < off
  ·rw [List.getElem?_append_left (by omega), List.getElem?_take, if_pos hj] at e
   exact .inr ⟨by omega, e⟩
  ·rw [List.getElem?_append_right (by omega), hl2] at e
   by_cases hj2 : j < off + n
   ·rw [List.getElem?_append_left (by simp; omega), List.getElem?_map] at e
    obtain ⟨c, hc, rfl⟩ := Option.map_eq_some_iff.1 e
    exact .inl ⟨by omega, hj2, c, hc, rfl⟩
   ·rw [List.getElem?_append_right (by simp; omega), List.getElem?_drop] at e
    have he : off + av.cells.length + (j - off - (av.cells.map Hc.v).length) = j := by simp; omega
    rw [he] at e
    exact .inr ⟨by omega, e⟩
 have hr2 := hr.lK (cs' := mq cs off av.cells) (arr' := arr') (w' := w.setRow blk arr') hHt ho hb p2 rfl rfl rfl (size_setRow w blk arr') (fun j hj => setRow_other w blk j arr' hj) (setRow_heap w blk arr arr' el1 (0, 0) p2)
  (by constructor <;> simp only [arr', mq, List.size_toArray, List.length_append, hl1, hl2, hlen, hn, List.length_drop, Array.length_toList, List.length_map] <;> omega)
  (fun j x e => by
   rw [key j]
   rcases hset j x e with ⟨q1, q2, c, hc, rfl⟩ | ⟨q1, q2⟩
   ·rw [if_neg (by omega), if_pos q2]
    exact h2 _ c hc
   ·by_cases hj : j < off
    ·rw [if_pos hj]; exact p4 j x q2
    ·rw [if_neg hj, if_neg (by omega)]; exact p4 j x q2)
  (fun j el esz xs e => by
   rcases hset j _ e with ⟨_, _, c, _, q⟩ | ⟨q1, q2⟩
   ·cases q
   ·refine ⟨q2, ?_⟩
    rw [key j]
    by_cases hj : j < off
    ·rw [if_pos hj]
    ·rw [if_neg hj, if_neg (by omega)])
 unfold Oper.wp
 rw [hrun]
 exact hK undef _ G L hr2
end
/- The program logic's rules: functions that read, make objects, and let go of them. No condition. -/
def Hp.new (H : Hp) (cs : List Hc) : Hp := (⟨H.next + 1, H.obj⟩ : Hp).set H.next cs
theorem Hp.cg (H : Hp) (cs : List Hc) : (H.new cs).obj H.next = some cs := Hp.dG
theorem Hp.cN (H : Hp) (cs : List Hc) {i : Nat} (h : i < H.next) : (H.new cs).obj i = H.obj i := by
 simp only [Hp.new, Hp.set]; rw [if_neg (by omega)]
theorem Hp.Cw (H : Hp) (cs ds : List Hc) : (H.new cs).set H.next ds = H.new ds := Hp.set_set
section
variable {α : Type} {P : Program} {f : FuncId} {fn : Func} {args : List AV} {Hat : Nat → Hp} {av : α → AV} {pv : Nat → Value} {i j n : Nat} {r : PR α} {a : α}
end
/- The program logic's rules: nil slices in objects, to be appended to; regions that draw their order, of which a call panics. No condition. -/
theorem Rel.Cv {E : dX} {N : Nat} {G : Gh} {L : Loc} {a : Act} {w : World} {s : St} (h : Rel E N G L a w s) {t el esz : Nat} (ht : get s (.t t) = none) (hz : 0 < esz) : Rel E N G (L.cX t (.slice none 0 0)) a w ((.t t, .tk false el esz []) :: s) := by
 obtain ⟨G', _, hle, hr⟩ := h.vC false (xs := []) (v1 := .slice none 0 0) (row := none) (el := el) (esz := esz) (cells := []) ht hz (w1 := w) ⟨rfl, rfl, rfl, Nat.le_refl _, fun _ _ _ => rfl⟩ (by simp) (fun b hb => by simp [Value.ownBlock] at hb) (World.ownsRow_nil w 0 el esz) ⟨fun i e h => by simp at h, fun i e j c h => by simp at h⟩ (fun b hb => by simp [Value.ownBlock] at hb)
 have htok0 := h.notok t ht
 have htl := Loc.qW (v := Value.slice none 0 0) htok0
 have hown : ∀ c b, owns ((.t t, .tk false el esz []) :: s) (L.cX t (.slice none 0 0)) c b → owns s L c b := by
  intro c b hc
  by_cases e : c = .t t
  ·subst e
   obtain ⟨_, v, hv, hb⟩ := hc
   simp [Loc.cX] at hv
   subst hv; cases hb
  ·have h2 := cT e hc
   cases c with
   | b j => exact h2
   | t j =>
    obtain ⟨h3, v, hv, h4⟩ := h2
    have hj : j ≠ t := fun e' => e (by rw [e'])
    exact ⟨h3, v, by simpa [Loc.cX, hj] using hv, h4⟩
   | s n => exact h2
   | h => exact h2
 refine ⟨h.size, h.defs, h.ge, h.kn, h.old, h.obs, h.obn, h.fr, fun n x g => (h.slot n x (by simpa [get] using g)).loc (L := L) (L' := L.cX t (.slice none 0 0)) (fun _ _ e => e) htl, fun k cv g hl => (h.box k cv (by simpa [get] using g) hl).loc (L := L) (L' := L.cX t (.slice none 0 0)) (fun _ _ e => e) htl, ?_,
  fun c d b hc hd => h.disj c d b (hown _ _ hc) (hown _ _ hd), by simpa [get] using h.heap, fun c b hc H g => h.hdisj c b (hown _ _ hc) H (by simpa [get] using g), fun k g => h.nobox k (by simpa [get] using g), ?_⟩
 ·intro j m el2 esz2 xs2 g
  by_cases e : j = t
  ·subst e
   simp [get] at g
   obtain ⟨rfl, rfl, rfl, rfl⟩ := g
   exact ⟨.slice none 0 0, by simp [Loc.cX], ⟨[], fun _ => V.slE none 0, World.ownsRow_nil w 0 el esz, hz, ⟨fun i e h => by simp at h, fun i e j c h => by simp at h⟩, fun b e => (by cases e)⟩, fun b e => (by cases e)⟩
  ·obtain ⟨v, hv, rest⟩ := h.tok j m el2 esz2 xs2 (by simpa [get, Ne.symm e] using g)
   exact ⟨v, htl _ _ hv, rest⟩
 ·intro j g
  by_cases e : j = t
  ·subst e; simp [get] at g
  ·have := h.notok j (by simpa [get, Ne.symm e] using g)
   simpa [Loc.cX, e] using this

theorem Kept.AJ {s : St} {Q : St → Prop} (k i t el esz : Nat) {cv : CV} {cs : List Sv} (hk : get s (.b k) = some cv) (hcv : cv.vt = some cs) (hi : cs[i]? = some (.v .nsl)) (ht : get s (.t t) = none) (hz : 0 < esz)
  (h : Kept ((.b k, cv.bk (cs.set i (.ow t []))) :: (.t t, .tk false el esz []) :: s) Q) : Kept s Q := fun E N a w ⟨G, L, hr⟩ => by
 have h1 := hr.Cv (el := el) ht hz
 refine h E N a w ⟨G, _, h1.Gt (cs := cs) (by simpa [get] using hk) hcv (by simp) fun j x y v hx hy hf hv => ?_⟩
 rw [List.getElem?_set] at hy
 split at hy
 ·rename_i e
  subst e
  rw [hi] at hx; cases hx
  split at hy
  ·cases hy
   have hV : V G v .nsl := hv
   cases hV
   exact ⟨rfl, V.slE none 0, by simp [Loc.cX]⟩
  ·cases hy
 ·rw [hx] at hy; cases hy
  exact ⟨hf, hv⟩
section
variable {P : Program} {N : Nat} {s : St} {d : Nat} {ty : TypeId} {pos : String} {af : Array Edge} {g : Option (Nat × Bool)}
end
section
variable {P : Program} {N : Nat} {s : St} {d : Option Tmp} {ty : TypeId} {pos : String} {af : Array Edge} {g : Option (Nat × Bool)}
end
section
variable {P : Program} {N : Nat}
end
end Go.Proofs.YtpifnegikoldmaaGreatDoor.X
