/- unicode/utf8.ValidString: the library's contract laid at this program. No condition. -/
import Derived.Test.YtlijgcifhhcfaaaGreatDoorZCD
import Derived.Shelf.Unicode.ValidAny
import Derived.Test.YtlijgcifhhcfaaaGreatDoorZCC
namespace Go.Proofs
open Go.Shelf
def Tryz.qC : Go.Shelf.Ren := ⟨fun | 196 => 139 | 259 => 176 | n => n, fun | 0 => 0 | 3 => 3 | 4 => 4 | 5 => 5 | 9 => 9 | 12 => 12 | 46 => 178 | 53 => 80 | 119 => 247 | 138 => 249 | 139 => 250 | n => n, fun | 3 => 0 | 4 => 1 | n => n⟩
theorem Tryz.CF : Go.Proofs.Lays.n196 Tryz.prog Tryz.qC := {
 mixed := by kernel_rfl
 f196 := Tryz.func139.trans (congrArg some (by kernel_rfl))
 f259 := Tryz.func176.trans (congrArg some (by kernel_rfl))
 t0 := Tryz.underlying0
 a0 := Tryz.isAgg0
 z0 := Tryz.sizeOf0
 v0 := Tryz.zeroValue0
 t3 := Tryz.underlying3
 a3 := Tryz.isAgg3
 z3 := Tryz.sizeOf3
 v3 := Tryz.zeroValue3
 t4 := Tryz.underlying4
 a4 := Tryz.isAgg4
 z4 := Tryz.sizeOf4
 v4 := Tryz.zeroValue4
 t5 := Tryz.underlying5
 a5 := Tryz.isAgg5
 z5 := Tryz.sizeOf5
 v5 := Tryz.zeroValue5
 t9 := Tryz.underlying9
 a9 := Tryz.isAgg9
 z9 := Tryz.sizeOf9
 v9 := Tryz.zeroValue9
 t12 := Tryz.underlying12
 a12 := Tryz.isAgg12
 z12 := Tryz.sizeOf12
 v12 := Tryz.zeroValue12
 t46 := Tryz.underlying178
 a46 := Tryz.isAgg178
 z46 := Tryz.sizeOf178
 v46 := Tryz.zeroValue178
 t53 := Tryz.underlying80
 a53 := Tryz.isAgg80
 z53 := Tryz.sizeOf80
 v53 := Tryz.zeroValue80
 t119 := Tryz.underlying247
 a119 := Tryz.isAgg247
 z119 := Tryz.sizeOf247
 t138 := Tryz.underlying249
 a138 := Tryz.isAgg249
 z138 := Tryz.sizeOf249
 v138 := Tryz.zeroValue249
 t139 := Tryz.underlying250
 a139 := Tryz.isAgg250
 z139 := Tryz.sizeOf250
 v139 := Tryz.zeroValue250
 g3 := by kernel_rfl
 g4 := by kernel_rfl }
end Go.Proofs
namespace Go.Proofs.YtlijgcifhhcfaaaGreatDoor.X
open Go Go.RowKit Go.Proofs
theorem uK (s : aw) (hs : s.length ≤ 9223372036854775807) : Pure Tryz.prog 139 [.str s] (.bool (Lib.validD s)) :=
 Pure.Bn fun G w cargs hg hn hk hV => by
  obtain ⟨x, rfl, hx⟩ := hV.one
  have e := hx.vc
  subst e
  refine (Any.utf8_ValidString Tryz.CF ⟨s.toArray⟩ w (by simpa [ByteArray.size] using hs) (I6 hg)).mono ?_
  rintro e w' ⟨rfl, hb⟩
  exact ⟨_, rfl, .bool _, hb⟩
set_option linter.unusedVariables false
set_option linter.unusedSimpArgs false
set_option linter.unusedSectionVars false
set_option maxRecDepth 100000
/- which values are values of a message of a schema, in the program. -/
theorem yV : aa Tryz.prog 108 = true := by kernel_rfl
theorem yN : aa Tryz.prog 139 = true := by kernel_rfl
theorem yK : aa Tryz.prog 161 = true := by kernel_rfl
theorem Fb : aa Tryz.prog 191 = true := by kernel_rfl
theorem Fa : aa Tryz.prog 192 = true := by kernel_rfl
theorem F9 : aa Tryz.prog 193 = true := by kernel_rfl
theorem yI : aa Tryz.prog 216 = true := by kernel_rfl
theorem yH : aa Tryz.prog 217 = true := by kernel_rfl
theorem FY : aa Tryz.prog 218 = true := by kernel_rfl
theorem C7 : aa Tryz.prog 67 = true := by kernel_rfl
theorem sA : Tryz.prog.underlying 280 = some (TypeDesc.map 9 3) := Tryz.underlying280
theorem Af : Tryz.prog.underlying 3 = some (TypeDesc.int IntKind.i64) := Tryz.underlying3
theorem GM : ∀ w, (zeroValue 3).run Tryz.prog w = .ok (.int .i64 0) w := fun w => by kernel_rfl
theorem GY (s : aN) (f : ag) (v : bD) (hvs : v.s.length ≤ 9223372036854775807) (ih : ∀ u ∈ v.m, ∀ name : aw, Pure Tryz.prog 193 [s.av, .str name, .agg u.cells] (.bool (u.ok s name))) : Pure Tryz.prog 161 [s.av, f.av, .agg v.cells] (.bool (v.ok s f)) := by
 have hE := bD.ok_eq s f v
 have hT1 := @nh s f.ref v.m
 have hT0 := @oi s f.ref v.m
 refine Pure.aL Tryz.func161 rfl rfl (aF rfl) fun H => (aC.seq (aC.region (aB.run II 4 rfl (aB.nil (aC.cI [.h, .s 3, .b 3, .s 4, .b 4, .s 5, .b 5] (fun (pl : Bool) => [(.s 7, .sv (.v (.bool pl)))]) (fun (pl : Bool) => pl = (decide (v.n = 0) && decide (v.m.length = 0))) rfl ?_ ?_)))))
 ·refine aC.region (aB.run II 4 rfl (aB.tell (d := 11) rfl (fun hg1 => ?_) (fun hg1 => ?_)))
  ·exact aB.run II 6 rfl (aB.kept (Kept.aJ [.s 7, .h, .s 3, .b 3, .s 4, .b 4, .s 5, .b 5] rfl (by decide) (Kept.now ⟨_, by grind, rfl⟩)))
  ·exact aB.run II 6 rfl (aB.kept (Kept.aJ [.s 7, .h, .s 3, .b 3, .s 4, .b 4, .s 5, .b 5] rfl (by decide) (Kept.now ⟨_, by grind, rfl⟩)))
 ·rintro pl hF2
  refine aC.seq (aC.blk (aC.seq (aC.region (aB.run II 2 rfl (aB.c1 rfl (aG (aF rfl) Fb rfl (Hj _)) (aB.run II 1 rfl (aB.nil (aC.cond rfl (fun hc2 => ?_) (fun hc2 => ?_)))))))))
  ·refine aC.seq (aC.region (aB.run II 4 rfl (aB.c1 rfl (aG (aF rfl) Fa rfl (Jl _ _)) (aB.run II 1 rfl (aB.tell (d := 26) rfl (fun hg3 => ?_) (fun hg3 => ?_))))))
   ·refine aB.run II 5 rfl (aB.tell (d := 31) rfl (fun hg4 => ?_) (fun hg4 => ?_))
    ·exact aB.run II 6 rfl (aB.nil (aC.ret ⟨.inr rfl, (aE.r1 rfl (.tmp rfl .nil)).cast (congrArg AV.bool (by grind [])), rfl⟩))
    ·exact aB.run II 6 rfl (aB.nil (aC.ret ⟨.inr rfl, (aE.r1 rfl (.tmp rfl .nil)).cast (congrArg AV.bool (by grind [])), rfl⟩))
   ·exact aB.run II 11 rfl (aB.nil (aC.ret ⟨.inr rfl, (aE.r1 rfl (.tmp rfl .nil)).cast (congrArg AV.bool (by grind [])), rfl⟩))
  ·refine aC.seq (aC.region (aB.run II 4 rfl (aB.nil (aC.cond rfl (fun hc5 => ?_) (fun hc5 => ?_)))))
   ·refine aC.seq (aC.region (aB.run II 2 rfl (aB.tell (d := 42) rfl (fun hg6 => ?_) (fun hg6 => ?_))))
    ·exact aB.run II 2 rfl (aB.g1 rfl (aF rfl) rfl rfl (aG (aF rfl) yN rfl (uK _ hvs)) (aB.run II 2 rfl (aB.nil (aC.ret ⟨.inr rfl, (aE.r1 rfl (.tmp rfl .nil)).cast (congrArg AV.bool (by grind [])), rfl⟩))))
    ·exact aB.run II 5 rfl (aB.nil (aC.ret ⟨.inr rfl, (aE.r1 rfl (.tmp rfl .nil)).cast (congrArg AV.bool (by grind [])), rfl⟩))
   ·refine aC.seq (aC.region (aB.run II 4 rfl (aB.nil (aC.cond rfl (fun hc7 => ?_) (fun hc7 => ?_)))))
    ·exact aC.seq (aC.region (aB.run II 2 rfl (aB.nil (aC.ret ⟨.inr rfl, (aE.r1 rfl (.tmp rfl .nil)).cast (congrArg AV.bool (by grind [])), rfl⟩))))
    ·refine aC.seq (aC.region (aB.run II 4 rfl (aB.nil (aC.cond rfl (fun hc8 => ?_) (fun hc8 => ?_)))))
     ·refine aC.seq (aC.drawn mixed rfl (aD.run II 4 rfl (aD.tell (d := 59) rfl (fun hg9 => ?_) (fun hg9 => ?_))))
      ·refine aD.run II 5 rfl (aD.tell (d := 64) rfl (fun hg10 => ?_) (fun hg10 => ?_))
       ·refine aD.run II 6 rfl (aD.tell (d := 70) rfl (fun hg11 => ?_) (fun hg11 => ?_))
        ·exact aD.run II 5 rfl (aD.g1 rfl (aF rfl) rfl rfl (aH (aF rfl) ji rfl rfl (by decide) (cU (i := 0) Tree.au (by grind)) rfl) (aD.run II 1 rfl (aD.g1 rfl (aF rfl) rfl rfl (aG (aF rfl) F9 rfl (ih _ (List.getElem_mem (by grind)) _)) (aD.run II 2 rfl (aD.nil (by kernel_rfl) (Kept.now (aC.ret ⟨.inr rfl, (aE.r1 rfl (.tmp rfl .nil)).cast (congrArg AV.bool (by have hm1 : v.m.length = 1 := (by have h := hg11; simp at h; omega); have hq := hT1 hm1; have h0 : v.n = 0 := (by simpa using hg9); have hs0 : v.s = [] := (by simpa using hg10); have hty : f.ty = 15 := (by simpa using hc8); have hnt : nJ 15 = false := (by decide); rw [hE, if_neg (by simp [hc2]), if_neg (by omega), if_neg (by omega), if_pos hty, hq, h0, hs0]; simp)), rfl⟩)))))))
        ·exact aD.run II 10 rfl (aD.nil (by kernel_rfl) (Kept.now (aC.ret ⟨.inr rfl, (aE.r1 rfl (.tmp rfl .nil)).cast (congrArg AV.bool (by grind [])), rfl⟩)))
       ·exact aD.run II 16 rfl (aD.nil (by kernel_rfl) (Kept.now (aC.ret ⟨.inr rfl, (aE.r1 rfl (.tmp rfl .nil)).cast (congrArg AV.bool (by grind [])), rfl⟩)))
      ·exact aD.run II 21 rfl (aD.nil (by kernel_rfl) (Kept.now (aC.ret ⟨.inr rfl, (aE.r1 rfl (.tmp rfl .nil)).cast (congrArg AV.bool (by grind [])), rfl⟩)))
     ·exact aC.skip (aC.seq (aC.region (aB.run II 1 rfl (aB.nil (aC.ret ⟨.inr rfl, (aE.r1 rfl (.tmp rfl .nil)).cast (congrArg AV.bool (by grind [])), rfl⟩)))))
theorem Hf (s : aN) (f : ag) (l : List bD) (hl : l.length ≤ 9223372036854775807) (hvs : ∀ v ∈ l, v.s.length ≤ 9223372036854775807) (ih : ∀ v ∈ l, ∀ u ∈ v.m, ∀ name : aw, Pure Tryz.prog 193 [s.av, .str name, .agg u.cells] (.bool (u.ok s name))) : Pure Tryz.prog 217 [s.av, f.av, .sl (l.map bD.av)] (.bool (decide (0 < l.length) && (f.rep || decide (l.length = 1)) && l.all fun v => v.ok s f && (!f.hidden || (!decide (v.n = 0) || !(v.s == []))))) := by
 refine Pure.aL Tryz.func217 rfl rfl (aF rfl) fun H => (aC.seq (aC.region (aB.run II 3 rfl (aB.nil (aC.cI [.h, .s 2, .s 3, .b 3, .s 4, .b 4] (fun (_ : Unit) => []) (fun (_ : Unit) => 0 < l.length ∧ (f.rep = true ∨ l.length = 1)) rfl ?_ ?_)))))
 ·refine aC.seq (aC.region (aB.run II 4 rfl (aB.tell (d := 12) rfl (fun hg1 => ?_) (fun hg1 => ?_))))
  ·exact aB.run II 9 rfl (aB.nil (aC.az rfl rfl (aC.seq (aC.region (aB.run II 1 rfl (aB.nil (aC.ret ⟨.inr rfl, (aE.r1 rfl (.tmp rfl .nil)).cast (congrArg AV.bool (by grind [])), rfl⟩)))))))
  ·refine aB.run II 4 rfl (aB.tell (d := 16) rfl (fun hg2 => ?_) (fun hg2 => ?_))
   ·refine aB.run II 5 rfl (aB.nil (aC.cond rfl (fun hc3 => ?_) (fun hc3 => ?_)))
    ·exact aC.seq (aC.region (aB.run II 1 rfl (aB.nil (aC.ret ⟨.inr rfl, (aE.r1 rfl (.tmp rfl .nil)).cast (congrArg AV.bool (by grind [])), rfl⟩))))
    ·exact aC.aK (Kept.aJ [.h, .s 2, .s 3, .b 3, .s 4, .b 4] rfl (by decide) (Kept.now (aC.skip ⟨(), by grind, rfl⟩)))
   ·exact aB.run II 5 rfl (aB.nil (aC.aZ rfl rfl (aC.aK (Kept.aJ [.h, .s 2, .s 3, .b 3, .s 4, .b 4] rfl (by decide) (Kept.now (aC.skip ⟨(), by grind, rfl⟩))))))
 ·rintro _ hF3
  refine aC.seq (aC.seq (aC.region (aB.run II 3 rfl (aB.nil (aC.blk (aC.aK (Kept.aJ [.s 24, .h, .s 3, .b 3, .s 4, .b 4, .s 22, .s 23] rfl (by decide) (Kept.now (aC.aX (fun (i : Nat) => [(.s 24, .sv (.v (.int .i64 (i : Int))))]) _ (fun (i : Nat) => (l.drop i).all (fun v => v.ok s f && (!f.hidden || (!decide (v.n = 0) || !(v.s == [])))) = l.all (fun v => v.ok s f && (!f.hidden || (!decide (v.n = 0) || !(v.s == []))))) (fun (i : Nat) => l.length - i) 0 rfl (by simp) ?_)))))))))
  rintro i hI
  refine aC.seq (aC.region (aB.run II 1 rfl (aB.nil (aC.seq (aC.cond rfl (fun hc4 => ?_) (fun hc4 => ?_))))))
  ·have hi := dD hc4
   have hS := gA (p := fun v : bD => v.ok s f && (!f.hidden || (!decide (v.n = 0) || !(v.s == [])))) hi
   refine aC.skip (aC.seq (aC.blk (aC.seq (aC.region (aB.c1 rfl (aH (aF rfl) dV rfl rfl (Int.natCast_nonneg _) (cU bD.au hi) rfl) (aB.run II 3 rfl (aB.nil (aC.seq (aC.region (aB.run II 3 rfl (aB.c1 rfl (aG (aF rfl) yK rfl (GY _ _ _ (hvs _ (List.getElem_mem hi)) (ih _ (List.getElem_mem hi)))) (aB.run II 2 rfl (aB.tell (d := 33) rfl (fun hg5 => ?_) (fun hg5 => ?_))))))))))))))
   ·exact aB.run II 13 rfl (aB.nil (aC.az rfl rfl (aC.seq (aC.region (aB.run II 1 rfl (aB.nil (aC.ret ⟨.inr rfl, (aE.r1 rfl (.tmp rfl .nil)).cast (congrArg AV.bool (by grind [])), rfl⟩)))))))
   ·refine aB.run II 1 rfl (aB.g1 rfl (aF rfl) rfl rfl (aG (aF rfl) yV rfl (uN _)) (aB.run II 1 rfl (aB.tell (d := 36) rfl (fun hg6 => ?_) (fun hg6 => ?_))))
    ·refine aB.run II 5 rfl (aB.tell (d := 41) rfl (fun hg7 => ?_) (fun hg7 => ?_))
     ·refine aB.run II 5 rfl (aB.nil (aC.cond rfl (fun hc8 => ?_) (fun hc8 => ?_)))
      ·exact aC.seq (aC.region (aB.run II 1 rfl (aB.nil (aC.ret ⟨.inr rfl, (aE.r1 rfl (.tmp rfl .nil)).cast (congrArg AV.bool (by grind [])), rfl⟩))))
      ·exact aC.skip (aC.region (aB.run II 2 rfl (aB.kept (Kept.aY 24 rfl (inc (by omega)) (Kept.aJ [.s 24, .h, .s 3, .b 3, .s 4, .b 4, .s 22, .s 23] rfl (by decide) (Kept.now ⟨i + 1, by omega, by grind, rfl⟩))))))
     ·exact aB.run II 5 rfl (aB.nil (aC.aZ rfl rfl (aC.skip (aC.region (aB.run II 2 rfl (aB.kept (Kept.aY 24 rfl (inc (by omega)) (Kept.aJ [.s 24, .h, .s 3, .b 3, .s 4, .b 4, .s 22, .s 23] rfl (by decide) (Kept.now ⟨i + 1, by omega, by grind, rfl⟩)))))))))
    ·exact aB.run II 10 rfl (aB.nil (aC.aZ rfl rfl (aC.skip (aC.region (aB.run II 2 rfl (aB.kept (Kept.aY 24 rfl (inc (by omega)) (Kept.aJ [.s 24, .h, .s 3, .b 3, .s 4, .b 4, .s 22, .s 23] rfl (by decide) (Kept.now ⟨i + 1, by omega, by grind, rfl⟩)))))))))
  ·have hi := dE hc4
   have hS := jo (p := fun v : bD => v.ok s f && (!f.hidden || (!decide (v.n = 0) || !(v.s == [])))) hi
   exact aC.exit (aC.seq (aC.region (aB.run II 1 rfl (aB.nil (aC.ret ⟨.inr rfl, (aE.r1 rfl (.tmp rfl .nil)).cast (congrArg AV.bool (by grind [])), rfl⟩)))))
theorem Eg (m : aT) (r : Rw) (hl : m.fields.length ≤ 1000) : Pure Tryz.prog 218 ([r.av] ++ [.kp m.cells]) (.bool (decide (0 ≤ m.at r.num))) := by
 exact Pure.aL Tryz.func218 rfl rfl (aF rfl) fun H => (aC.seq (aC.region (aB.run II 2 rfl (aB.nil (aC.seq (aC.region (aB.run II 3 rfl (aB.c1 rfl (aG (aF rfl) yI rfl (uM _ _ (by omega))) (aB.run II 2 rfl (aB.nil (aC.ret ⟨.inr rfl, (aE.r1 rfl (.tmp rfl .nil)).cast rfl, rfl⟩)))))))))))
theorem Hi (m : aT) (l : List Rw) (hl : l.length ≤ 9223372036854775807) (hm : m.fields.length ≤ 1000) : Pure Tryz.prog 212 [m.av, .sl (l.map Rw.av)] (.bool (l.all (dG m))) := by
 refine Pure.aL Tryz.func212 rfl rfl (aF rfl) fun H => (aC.seq (aC.region (aB.run II 2 rfl (aB.nil (aC.seq (aC.aK (Kept.wa 2 rfl rfl (Kept.now (aC.region (aB.c1 rfl (lX (aF rfl) rfl) (aB.run II 1 rfl (aB.nil (aC.seq (aC.seq (aC.region (aB.run II 3 rfl (aB.nil (aC.blk (aC.aK (Kept.aJ [.s 11, .h, .s 5, .s 9, .s 10] rfl (by decide) (Kept.now ?_)))))))))))))))))))))
 refine aC.aX (fun (i : Nat) => [(.s 11, .sv (.v (.int .i64 (i : Int))))]) _ (fun (i : Nat) => (l.drop i).all (dG m) = l.all (dG m)) (fun (i : Nat) => l.length - i) 0 rfl (by simp) ?_
 rintro i hI
 refine aC.seq (aC.region (aB.run II 1 rfl (aB.nil (aC.seq (aC.cond rfl (fun hc1 => ?_) (fun hc1 => ?_))))))
 ·have hi := dD hc1
  have hS := gA (p := dG m) hi
  have hA := m.jV (l[i]'hi).num
  refine aC.skip (aC.seq (aC.blk (aC.seq (aC.region (aB.c1 rfl (aH (aF rfl) lg rfl rfl (Int.natCast_nonneg _) (cF hi) rfl) (aB.run II 3 rfl (aB.nil (aC.seq (aC.region (aB.run II 1 rfl (aB.c1 rfl (aG (aF rfl) C7 rfl (uL _)) (aB.run II 2 rfl (aB.tell (d := 18) rfl (fun hg2 => ?_) (fun hg2 => ?_))))))))))))))
  ·exact aB.run II 4 rfl (aB.nil (aC.az rfl rfl (aC.seq (aC.region (aB.run II 1 rfl (aB.nil (aC.ret ⟨.inr rfl, (aE.r1 rfl (.tmp rfl .nil)).cast (congrArg AV.bool (by grind [dG])), rfl⟩)))))))
  ·refine aB.run II 2 rfl (aB.g1 rfl (aF rfl) rfl rfl (mX (aF rfl) FY rfl rfl (Eg m (l[i]'hi) hm)) (aB.run II 1 rfl (aB.nil (aC.cond rfl (fun hc3 => ?_) (fun hc3 => ?_)))))
   ·exact aC.seq (aC.region (aB.run II 1 rfl (aB.nil (aC.ret ⟨.inr rfl, (aE.r1 rfl (.tmp rfl .nil)).cast (congrArg AV.bool (by grind [dG])), rfl⟩))))
   ·exact aC.skip (aC.region (aB.run II 2 rfl (aB.kept (Kept.aY 11 rfl (inc (by omega)) (Kept.aJ [.s 11, .h, .s 5, .s 9, .s 10] rfl (by decide) (Kept.now ⟨i + 1, by omega, by grind [dG], rfl⟩))))))
 ·have hi := dE hc1
  have hS := jo (p := dG m) hi
  exact aC.exit (aC.seq (aC.region (aB.run II 1 rfl (aB.nil (aC.ret ⟨.inr rfl, (aE.r1 rfl (.tmp rfl .nil)).cast (congrArg AV.bool (by grind [dG])), rfl⟩)))))
theorem Ed (s : aN) (m : aT) (l : List Slot) (hl : l.length ≤ 9223372036854775807) (hm : m.fields.length ≤ 1000) (ho : ∀ f ∈ m.fields, f.one.length ≤ 1000) (hvals : ∀ x ∈ l, ∀ f : ag, Pure Tryz.prog 217 [s.av, f.av, .sl (x.ah.map bD.av)] (.bool (decide (0 < x.ah.length) && (f.rep || decide (x.ah.length = 1)) && x.ah.all fun v => v.ok s f && (!f.hidden || (!decide (v.n = 0) || !(v.s == [])))))) : Pure Tryz.prog 211 [s.av, m.av, .sl (l.map Slot.av)] (.bool (dC s m l none [])) := by
 refine Pure.aL Tryz.func211 rfl rfl (aF rfl) fun H => (aC.seq (aC.region (aB.run II 3 rfl (aB.nil (aC.seq (aC.region (aB.c2 rfl (Hx (kt := 9) (et := 3) (aF rfl) rfl) (aB.run II 1 rfl (aB.nil (aC.seq (aC.seq (aC.region (aB.run II 3 rfl (aB.nil (aC.blk (aC.aK (Kept.aJ [.s 15, .b 12, .h, .s 2, .s 3, .b 3, .s 4, .b 4, .s 7, .s 13, .s 14] rfl (by decide) (Kept.now (aC.aX (fun ((i, f) : Nat × (List UInt8 → Int)) => [(.s 15, .sv (.v (.int .i64 (i : Int)))), (.b 12, .raw (iP Tryz.prog 9 3 i f))]) _ (fun ((i, f) : Nat × (List UInt8 → Int)) => (∀ key, f key = ((((l.take i).map m.oneOf).count key : Nat) : Int)) ∧ gX s m l i = dC s m l none []) (fun ((i, f) : Nat × (List UInt8 → Int)) => l.length - i) (0, fun _ => 0) rfl ⟨by simp, mL s m l⟩ ?_)))))))))))))))))))
 rintro ⟨i, f⟩ ⟨hf, hI⟩
 refine aC.seq (aC.region (aB.run II 1 rfl (aB.nil (aC.seq (aC.cond rfl (fun hc1 => ?_) (fun hc1 => ?_))))))
 ·have hi := dD hc1
  have hS := @mM s m l i hi
  refine aC.skip (aC.seq (aC.blk (aC.seq (aC.region (aB.run II 1 rfl (aB.c1 rfl (aH (aF rfl) ca rfl rfl (Int.natCast_nonneg _) (cU Slot.au hi) rfl) (aB.run II 4 rfl (aB.nil (aC.seq (aC.region (aB.run II 3 rfl (aB.c1 rfl (aG (aF rfl) yI rfl (uM _ _ (by omega))) (aB.run II 1 rfl (aB.nil (aC.cI [.h, .s 2, .s 3, .b 3, .s 4, .b 4, .s 7, .b 12, .s 10, .s 13, .s 14, .s 15] (fun (_ : Unit) => []) (fun (_ : Unit) => decide (m.at (l[i]'hi).num < 0) = false ∧ (match jv l i with | none => true | some n => decide (n < (l[i]'hi).num)) = true ∧ (l[i]'hi).ok s m = true) rfl ?_ ?_)))))))))))))))
  ·refine aC.seq (aC.drawn mixed rfl (aD.run II 3 rfl (aD.tell (d := 26) rfl (fun hg2 => ?_) (fun hg2 => ?_))))
   ·exact aD.run II 26 rfl (aD.nil (by kernel_rfl) (Kept.now (aC.az rfl rfl (aC.seq (aC.region (aB.run II 1 rfl (aB.nil (aC.ret ⟨.inr rfl, (aE.r1 rfl (.tmp rfl .nil)).cast (congrArg AV.bool (by have hO : (l[i]'hi).ok s m = false := (by rw [Slot.ok_eq, aT.DH hg2]); grind)), rfl⟩))))))))
   ·refine aD.run II 3 rfl (aD.tell (d := 29) rfl (fun hg3 => ?_) (fun hg3 => ?_))
    ·refine aD.run II 3 rfl (aD.g1 rfl (aF rfl) rfl rfl (aH (aF rfl) ca rfl rfl (by rw [oI (by have := of_decide_eq_true hg3; omega) (by omega)]; exact Int.natCast_nonneg _) (G8 Slot.au (oI (by have := of_decide_eq_true hg3; omega) (by omega)) (show i - 1 < l.length by omega)) rfl) ?_)
     refine aD.run II 8 rfl (aD.tell (d := 41) rfl (fun hg4 => ?_) (fun hg4 => ?_))
     ·exact aD.run II 11 rfl (aD.nil (by kernel_rfl) (Kept.now (aC.az rfl rfl (aC.seq (aC.region (aB.run II 1 rfl (aB.nil (aC.ret ⟨.inr rfl, (aE.r1 rfl (.tmp rfl .nil)).cast (congrArg AV.bool (by rw [jM (by have := of_decide_eq_true hg3; omega) hi] at hS; grind)), rfl⟩))))))))
     ·refine aD.run II 4 rfl (aD.g1 rfl (aF rfl) rfl rfl (aH (aF rfl) bT rfl rfl (aT.vF hg2) (qF (aT.vG hg2) (aT.dO hg2)) rfl) (aD.run II 3 rfl (aD.g1 rfl (aF rfl) rfl rfl (aG (aF rfl) yH rfl (hvals _ (List.getElem_mem hi) _)) (aD.run II 2 rfl (aD.nil (by kernel_rfl) (Kept.now (aC.cond rfl (fun hc5 => ?_) (fun hc5 => ?_))))))))
      ·exact aC.seq (aC.region (aB.run II 1 rfl (aB.nil (aC.ret ⟨.inr rfl, (aE.r1 rfl (.tmp rfl .nil)).cast (congrArg AV.bool (by have hO : (l[i]'hi).ok s m = false := (by rw [Slot.oR (aT.ee hg2)]; exact KZ hc5); grind)), rfl⟩))))
      ·exact aC.aK (Kept.aJ [.h, .s 2, .s 3, .b 3, .s 4, .b 4, .s 7, .b 12, .s 10, .s 13, .s 14, .s 15] rfl (by decide) (Kept.now (aC.skip (⟨(), ⟨hg2, by rw [jM (by have := of_decide_eq_true hg3; omega) hi]; simpa using hg4, by rw [Slot.oR (aT.ee hg2)]; exact K9 hc5⟩, rfl⟩))))
    ·refine aD.run II 16 rfl (aD.g1 rfl (aF rfl) rfl rfl (aH (aF rfl) bT rfl rfl (aT.vF hg2) (qF (aT.vG hg2) (aT.dO hg2)) rfl) (aD.run II 3 rfl (aD.g1 rfl (aF rfl) rfl rfl (aG (aF rfl) yH rfl (hvals _ (List.getElem_mem hi) _)) (aD.run II 2 rfl (aD.nil (by kernel_rfl) (Kept.now (aC.cond rfl (fun hc6 => ?_) (fun hc6 => ?_))))))))
     ·exact aC.seq (aC.region (aB.run II 1 rfl (aB.nil (aC.ret ⟨.inr rfl, (aE.r1 rfl (.tmp rfl .nil)).cast (congrArg AV.bool (by have hO : (l[i]'hi).ok s m = false := (by rw [Slot.oR (aT.ee hg2)]; exact KZ hc6); grind)), rfl⟩))))
     ·exact aC.aK (Kept.aJ [.h, .s 2, .s 3, .b 3, .s 4, .b 4, .s 7, .b 12, .s 10, .s 13, .s 14, .s 15] rfl (by decide) (Kept.now (aC.skip (⟨(), ⟨hg2, by have h0 : i = 0 := (by have := of_decide_eq_false hg3; omega); subst h0; rw [qD], by rw [Slot.oR (aT.ee hg2)]; exact K9 hc6⟩, rfl⟩))))
  ·rintro _ hF8
   refine aC.seq (aC.region (aB.run II 3 rfl (aB.c1 rfl (aH (aF rfl) bT rfl rfl (aT.vF hF8.1) (qF (aT.vG hF8.1) (aT.dO hF8.1)) rfl) (aB.run II 3 rfl (aB.nil (aC.seq (aC.region (aB.run II 2 rfl (aB.c1 rfl (B8 (aF rfl) sA eH Af GM rfl rfl rfl (by have := ho _ (List.getElem_mem (aT.dO hF8.1)); omega)) ?_)))))))))
   refine aB.run II 1 rfl (aB.c1 rfl (Hw sA eH Af rfl rfl rfl rfl (by have := ho _ (List.getElem_mem (aT.dO hF8.1)); omega) (by omega) (Kg _)) ?_)
   refine aB.nil (aC.seq (aC.region (aB.run II 3 rfl (aB.tell (d := 65) rfl (fun hg7 => ?_) (fun hg7 => ?_)))))
   ·refine aB.run II 2 rfl (aB.g1 rfl (aF rfl) rfl rfl (B8 (aF rfl) sA eH Af GM rfl rfl rfl (by have := ho _ (List.getElem_mem (aT.dO hF8.1)); omega)) ?_)
    refine aB.run II 2 rfl (aB.nil (aC.cond rfl (fun hc8 => ?_) (fun hc8 => ?_)))
    ·exact aC.seq (aC.region (aB.run II 1 rfl (aB.nil (aC.ret ⟨.inr rfl, (aE.r1 rfl (.tmp rfl .nil)).cast (congrArg AV.bool (by have hN := @y8 m l i f (m.fields[m.dq (l[i]'hi).num]'(aT.dO hF8.1)).one hf (by omega); have hX : (1 < IntKind.i64.wrap (f (m.fields[m.dq (l[i]'hi).num]'(aT.dO hF8.1)).one + 1)) := (by simpa using hc8); have hQ : fI ((l.take i).map m.oneOf) (m.oneOf (l[i]'hi)) = false := (by rw [gj (aT.ee hF8.1)]; unfold fI; rw [← hN]; simp [hX]; simpa using hg7); grind)), rfl⟩))))
    ·refine aC.skip (aC.region (aB.run II 2 rfl (aB.kept (Kept.aY 15 rfl (inc (by omega)) (Kept.aJ [.s 15, .b 12, .h, .s 2, .s 3, .b 3, .s 4, .b 4, .s 7, .s 13, .s 14] rfl (by decide) (Kept.now ?_))))))
     have hN := @y8 m l i f (m.fields[m.dq (l[i]'hi).num]'(aT.dO hF8.1)).one hf (by omega)
     have hX : ¬ (1 < IntKind.i64.wrap (f (m.fields[m.dq (l[i]'hi).num]'(aT.dO hF8.1)).one + 1)) := by simpa using hc8
     have hQ : fI ((l.take i).map m.oneOf) (m.oneOf (l[i]'hi)) = true := by rw [gj (aT.ee hF8.1)]; unfold fI; rw [← hN]; simp [hX]
     exact ⟨(i + 1, _), (by dsimp only; omega), ⟨um hi hf (gj (aT.ee hF8.1)) (by omega), by grind⟩, rfl⟩
   ·refine aB.run II 5 rfl (aB.nil (aC.aZ rfl rfl (aC.skip (aC.region (aB.run II 2 rfl (aB.kept (Kept.aY 15 rfl (inc (by omega)) (Kept.aJ [.s 15, .b 12, .h, .s 2, .s 3, .b 3, .s 4, .b 4, .s 7, .s 13, .s 14] rfl (by decide) (Kept.now ?_)))))))))
    have hQ : fI ((l.take i).map m.oneOf) (m.oneOf (l[i]'hi)) = true := by rw [gj (aT.ee hF8.1)]; unfold fI; simp at hg7; simp [hg7]
    exact ⟨(i + 1, _), (by dsimp only; omega), ⟨um hi hf (gj (aT.ee hF8.1)) (by omega), by grind⟩, rfl⟩
 ·have hi := dE hc1
  have hS := @nj s m l i hi
  exact aC.exit (aC.seq (aC.region (aB.run II 1 rfl (aB.nil (aC.ret ⟨.inr rfl, (aE.r1 rfl (.tmp rfl .nil)).cast (congrArg AV.bool (by grind [])), rfl⟩)))))
/- which values are values of a message of a schema, in the program and in the document. -/
theorem Fg : aa Tryz.prog 138 = true := by kernel_rfl
theorem F4 : aa Tryz.prog 210 = true := by kernel_rfl
theorem F3 : aa Tryz.prog 211 = true := by kernel_rfl
theorem F1 : aa Tryz.prog 212 = true := by kernel_rfl
theorem wk : aa Tryz.prog 28 = true := by kernel_rfl
theorem Cd : aa Tryz.prog 48 = true := by kernel_rfl
theorem sx : aa Tryz.prog 49 = true := by kernel_rfl
theorem Iw : aa Tryz.prog 50 = true := by kernel_rfl
theorem C4 : aa Tryz.prog 92 = true := by kernel_rfl
theorem Ia : aa Tryz.prog 93 = true := by kernel_rfl
theorem E9 (s : aN) (hs : s.wu) (name : aw) (t : Tree) (hb : t.dW) (ih : ∀ x ∈ t.aO, ∀ v ∈ x.ah, ∀ u ∈ v.m, ∀ name : aw, Pure Tryz.prog 193 [s.av, .str name, .agg u.cells] (.bool (u.ok s name))) : Pure Tryz.prog 193 [s.av, .str name, .agg t.cells] (.bool (t.ok s name)) := by
 have hsm := hs.m
 have hT := t.ok_eq s name
 refine Pure.aL Tryz.func193 rfl rfl (aF rfl) fun H => (aC.seq (aC.region (aB.run II 3 rfl (aB.nil (aC.seq (aC.region (aB.run II 2 rfl (aB.c1 rfl (aG (aF rfl) F4 rfl (Ei _ _ (by omega))) (aB.run II 1 rfl (aB.nil (aC.seq (aC.drawn mixed rfl (aD.run II 3 rfl (aD.tell (d := 13) rfl (fun hg1 => ?_) (fun hg1 => ?_)))))))))))))))
 ·refine aD.run II 4 rfl (aD.g1 rfl (aF rfl) rfl rfl (aH (aF rfl) bM rfl rfl (aN.CI (Cv hg1)) (qF (aN.CJ (Cv hg1)) (aN.bP (Cv hg1))) rfl) (aD.run II 3 rfl (aD.g1 rfl (aF rfl) rfl rfl (aG (aF rfl) F3 rfl (Ed _ _ _ hb.here.s (hs.f _ (List.getElem_mem (aN.bP (Cv hg1)))) (hs.o _ (List.getElem_mem (aN.bP (Cv hg1)))) (fun x hx f => Hf _ _ _ (hb.here.v _ hx) (hb.here.vs _ hx) (ih _ hx)))) (aD.run II 2 rfl (aD.tell (d := 24) rfl (fun hg2 => ?_) (fun hg2 => ?_))))))
  ·exact aD.run II 3 rfl (aD.g1 rfl (aF rfl) rfl rfl (aH (aF rfl) bM rfl rfl (aN.CI (Cv hg1)) (qF (aN.CJ (Cv hg1)) (aN.bP (Cv hg1))) rfl) (aD.run II 3 rfl (aD.g1 rfl (aF rfl) rfl rfl (aG (aF rfl) F1 rfl (Hi _ _ hb.here.r (hs.f _ (List.getElem_mem (aN.bP (Cv hg1)))))) (aD.run II 2 rfl (aD.nil (by kernel_rfl) (Kept.now (aC.ret ⟨.inr rfl, (aE.r1 rfl (.tmp rfl .nil)).cast (congrArg AV.bool (by rw [hT, aN.CK (Cv hg1)]; grind)), rfl⟩)))))))
  ·exact aD.run II 10 rfl (aD.nil (by kernel_rfl) (Kept.now (aC.ret ⟨.inr rfl, (aE.r1 rfl (.tmp rfl .nil)).cast (congrArg AV.bool (by rw [hT, aN.CK (Cv hg1)]; grind)), rfl⟩)))
 ·exact aD.run II 21 rfl (aD.nil (by kernel_rfl) (Kept.now (aC.ret ⟨.inr rfl, (aE.r1 rfl (.tmp rfl .nil)).cast (congrArg AV.bool (by rw [hT, aN.G9 (Lm hg1)])), rfl⟩)))
theorem Hg (s : aN) (hs : s.wu) (t : Tree) (hb : t.dW) (name : aw) : Pure Tryz.prog 193 [s.av, .str name, .agg t.cells] (.bool (t.ok s name)) :=
 Tree.ind (Q := fun t => t.dW → ∀ name : aw, Pure Tryz.prog 193 [s.av, .str name, .agg t.cells] (.bool (t.ok s name))) (fun t ih hb name => E9 s hs name t hb (fun x hx v hv u hu => ih x hx v hv u hu (hb.sub hu hv hx))) t hb name
theorem GR (s : aN) (f : ag) (v : bD) (hvs : v.s.length ≤ 9223372036854775807) (ih : ∀ u ∈ v.m, ∀ name : aw, Pure Tryz.prog 28 [s.av, .str name, .agg u.cells] (.bool (u.ok s name))) : Pure Tryz.prog 92 [s.av, f.av, .agg v.cells] (.bool (v.ok s f)) := by
 have hE := bD.ok_eq s f v
 have hT1 := @nh s f.ref v.m
 have hT0 := @oi s f.ref v.m
 have hn0 : ((v.n : Int) == 0) = decide (v.n = 0) := by rw [Bool.eq_iff_iff]; simp
 have hml : (((v.m.map Tree.av).length : Int) == 0) = decide (v.m.length = 0) := by rw [Bool.eq_iff_iff]; simp
 refine Pure.aL Tryz.func92 rfl rfl (aF rfl) fun H => (aC.seq (aC.region (aB.run II 4 rfl (aB.nil (aC.seq (aC.seq (aC.region (aB.run II 2 rfl (aB.c1 rfl (aG (aF rfl) yO rfl (BK _)) (aB.nil (aC.cond rfl (fun hc1 => ?_) (fun hc1 => ?_))))))))))))
 ·refine aC.seq (aC.region (aB.run II 4 rfl (aB.c1 rfl (aG (aF rfl) Fg rfl (Jg _ _)) (aB.run II 1 rfl (aB.tell (d := 15) rfl (fun hg2 => ?_) (fun hg2 => ?_))))))
  ·refine aB.run II 5 rfl (aB.tell (d := 20) rfl (fun hg3 => ?_) (fun hg3 => ?_))
   ·exact aB.run II 6 rfl (aB.nil (aC.ret ⟨.inr rfl, (aE.r1 rfl (.tmp rfl .nil)).cast (congrArg AV.bool (by grind [])), rfl⟩))
   ·exact aB.run II 6 rfl (aB.nil (aC.ret ⟨.inr rfl, (aE.r1 rfl (.tmp rfl .nil)).cast (congrArg AV.bool (by grind [])), rfl⟩))
  ·exact aB.run II 11 rfl (aB.nil (aC.ret ⟨.inr rfl, (aE.r1 rfl (.tmp rfl .nil)).cast (congrArg AV.bool (by grind [])), rfl⟩))
 ·refine aC.skip (aC.seq (aC.seq (aC.region (aB.run II 2 rfl (aB.nil (aC.blk (aC.seq (aC.region (aB.run II 2 rfl (aB.nil (aC.cond rfl (fun hc4 => ?_) (fun hc4 => ?_))))))))))))
  ·refine aC.seq (aC.region (aB.run II 4 rfl (aB.tell (d := 33) rfl (fun hg5 => ?_) (fun hg5 => ?_))))
   ·refine aB.run II 6 rfl (aB.tell (d := 39) rfl (fun hg6 => ?_) (fun hg6 => ?_))
    ·exact aB.run II 2 rfl (aB.g1 rfl (aF rfl) rfl rfl (aG (aF rfl) yN rfl (uK _ hvs)) (aB.run II 2 rfl (aB.nil (aC.ret ⟨.inr rfl, (aE.r1 rfl (.tmp rfl .nil)).cast (congrArg AV.bool (by grind [])), rfl⟩))))
    ·exact aB.run II 5 rfl (aB.nil (aC.ret ⟨.inr rfl, (aE.r1 rfl (.tmp rfl .nil)).cast (congrArg AV.bool (by grind [])), rfl⟩))
   ·exact aB.run II 11 rfl (aB.nil (aC.ret ⟨.inr rfl, (aE.r1 rfl (.tmp rfl .nil)).cast (congrArg AV.bool (by grind [])), rfl⟩))
  ·refine aC.seq (aC.region (aB.run II 2 rfl (aB.nil (aC.cond rfl (fun hc7 => ?_) (fun hc7 => ?_)))))
   ·refine aC.seq (aC.region (aB.run II 4 rfl (aB.tell (d := 49) rfl (fun hg8 => ?_) (fun hg8 => ?_))))
    ·exact aB.run II 6 rfl (aB.nil (aC.ret ⟨.inr rfl, (aE.r1 rfl (.tmp rfl .nil)).cast (congrArg AV.bool (by grind [])), rfl⟩))
    ·exact aB.run II 6 rfl (aB.nil (aC.ret ⟨.inr rfl, (aE.r1 rfl (.tmp rfl .nil)).cast (congrArg AV.bool (by grind [])), rfl⟩))
   ·refine aC.seq (aC.region (aB.run II 2 rfl (aB.nil (aC.cond rfl (fun hc9 => ?_) (fun hc9 => ?_)))))
    ·refine aC.seq (aC.drawn mixed rfl (aD.run II 4 rfl (aD.tell (d := 60) rfl (fun hg10 => ?_) (fun hg10 => ?_))))
     ·refine aD.run II 5 rfl (aD.tell (d := 65) rfl (fun hg11 => ?_) (fun hg11 => ?_))
      ·refine aD.run II 6 rfl (aD.tell (d := 71) rfl (fun hg12 => ?_) (fun hg12 => ?_))
       ·exact aD.run II 5 rfl (aD.g1 rfl (aF rfl) rfl rfl (aH (aF rfl) ji rfl rfl (by decide) (cU (i := 0) Tree.au (by grind)) rfl) (aD.run II 1 rfl (aD.g1 rfl (aF rfl) rfl rfl (aG (aF rfl) wk rfl (ih _ (List.getElem_mem (by grind)) _)) (aD.run II 2 rfl (aD.nil (by kernel_rfl) (Kept.now (aC.ret ⟨.inr rfl, (aE.r1 rfl (.tmp rfl .nil)).cast (congrArg AV.bool (by have hm1 : v.m.length = 1 := (by have h := hg12; simp at h; omega); have hq := hT1 hm1; have h0 : v.n = 0 := (by simpa using hg10); have hs0 : v.s = [] := (by simpa using hg11); have hty : f.ty = 15 := (by simpa using hc9); rw [hE, if_neg (by simp [hc1]), if_neg (by omega), if_neg (by omega), if_pos hty, hq, h0, hs0]; simp)), rfl⟩)))))))
       ·exact aD.run II 10 rfl (aD.nil (by kernel_rfl) (Kept.now (aC.ret ⟨.inr rfl, (aE.r1 rfl (.tmp rfl .nil)).cast (congrArg AV.bool (by grind [])), rfl⟩)))
      ·exact aD.run II 16 rfl (aD.nil (by kernel_rfl) (Kept.now (aC.ret ⟨.inr rfl, (aE.r1 rfl (.tmp rfl .nil)).cast (congrArg AV.bool (by grind [])), rfl⟩)))
     ·exact aD.run II 21 rfl (aD.nil (by kernel_rfl) (Kept.now (aC.ret ⟨.inr rfl, (aE.r1 rfl (.tmp rfl .nil)).cast (congrArg AV.bool (by grind [])), rfl⟩)))
    ·exact aC.skip (aC.seq (aC.region (aB.run II 1 rfl (aB.nil (aC.ret ⟨.inr rfl, (aE.r1 rfl (.tmp rfl .nil)).cast (congrArg AV.bool (by grind [])), rfl⟩)))))
theorem BE (s : aN) (m : aT) (x : Slot) (hm : m.fields.length ≤ 1000) (hl : x.ah.length ≤ 9223372036854775807) (hvs : ∀ v ∈ x.ah, v.s.length ≤ 9223372036854775807) (ih : ∀ v ∈ x.ah, ∀ u ∈ v.m, ∀ name : aw, Pure Tryz.prog 28 [s.av, .str name, .agg u.cells] (.bool (u.ok s name))) : Pure Tryz.prog 48 [s.av, m.av, .agg x.cells] (.bool (x.ok s m)) := by
 have hE := Slot.ok_eq s m x
 have hVA := fun f => oe s f x.ah
 refine Pure.aL Tryz.func48 rfl rfl (aF rfl) fun H => (aC.seq (aC.region (aB.run II 4 rfl (aB.nil (aC.seq (aC.region (aB.run II 3 rfl (aB.c1 rfl (aG (aF rfl) sx rfl (mR _ _ hm)) (aB.run II 1 rfl (aB.nil (aC.cI [.h, .s 3, .b 3, .s 4, .b 4, .s 5, .b 5, .s 7] (fun (_ : Unit) => []) (fun (_ : Unit) => decide (m.at x.num < 0) = false ∧ 0 < x.ah.length) rfl ?_ ?_)))))))))))
 ·refine aC.seq (aC.region (aB.run II 3 rfl (aB.tell (d := 16) rfl (fun hg1 => ?_) (fun hg1 => ?_))))
  ·exact aB.run II 5 rfl (aB.nil (aC.az rfl rfl (aC.seq (aC.region (aB.run II 1 rfl (aB.nil (aC.ret ⟨.inr rfl, (aE.r1 rfl (.tmp rfl .nil)).cast (congrArg AV.bool (by rw [hE, aT.DH hg1])), rfl⟩)))))))
  ·refine aB.run II 5 rfl (aB.nil (aC.cond rfl (fun hc2 => ?_) (fun hc2 => ?_)))
   ·exact aC.seq (aC.region (aB.run II 1 rfl (aB.nil (aC.ret ⟨.inr rfl, (aE.r1 rfl (.tmp rfl .nil)).cast (congrArg AV.bool (by rw [hE, aT.ee hg1]; grind)), rfl⟩))))
   ·exact aC.aK (Kept.aJ [.h, .s 3, .b 3, .s 4, .b 4, .s 5, .b 5, .s 7] rfl (by decide) (Kept.now (aC.skip ⟨(), by grind, rfl⟩)))
 ·rintro _ hF4
  refine aC.seq (aC.region (aB.run II 3 rfl (aB.c1 rfl (aH (aF rfl) bT rfl rfl (aT.vF hF4.1) (qF (aT.vG hF4.1) (aT.dO hF4.1)) rfl) (aB.run II 3 rfl (aB.nil (aC.cI [.h, .s 3, .b 3, .s 5, .b 5, .s 8, .b 8] (fun (_ : Unit) => []) (fun (_ : Unit) => ((m.fields[m.dq x.num]'(aT.dO hF4.1)).rep = true ∨ x.ah.length = 1)) rfl ?_ ?_))))))
  ·refine aC.seq (aC.region (aB.run II 4 rfl (aB.tell (d := 30) rfl (fun hg3 => ?_) (fun hg3 => ?_))))
   ·refine aB.run II 5 rfl (aB.nil (aC.cond rfl (fun hc4 => ?_) (fun hc4 => ?_)))
    ·exact aC.seq (aC.region (aB.run II 1 rfl (aB.nil (aC.ret ⟨.inr rfl, (aE.r1 rfl (.tmp rfl .nil)).cast (congrArg AV.bool (by rw [hE, aT.ee hF4.1]; grind)), rfl⟩))))
    ·exact aC.aK (Kept.aJ [.h, .s 3, .b 3, .s 5, .b 5, .s 8, .b 8] rfl (by decide) (Kept.now (aC.skip ⟨(), by grind, rfl⟩)))
   ·exact aB.run II 5 rfl (aB.nil (aC.aZ rfl rfl (aC.aK (Kept.aJ [.h, .s 3, .b 3, .s 5, .b 5, .s 8, .b 8] rfl (by decide) (Kept.now (aC.skip ⟨(), by grind, rfl⟩))))))
  ·rintro _ hF7
   refine aC.seq (aC.seq (aC.region (aB.run II 1 rfl (aB.nil (aC.blk (aC.aK (Kept.aJ [.s 9, .h, .s 3, .b 3, .s 5, .b 5, .s 8, .b 8] rfl (by decide) (Kept.now (aC.aX (fun (i : Nat) => [(.s 9, .sv (.v (.int .i64 (i : Int))))]) _ (fun (i : Nat) => (x.ah.drop i).all (bD.ok s (m.fields[m.dq x.num]'(aT.dO hF4.1))) = x.ah.all (bD.ok s (m.fields[m.dq x.num]'(aT.dO hF4.1)))) (fun (i : Nat) => x.ah.length - i) 0 rfl (by simp) ?_)))))))))
   rintro i hI
   refine aC.seq (aC.seq (aC.region (aB.run II 5 rfl (aB.nil (aC.cond rfl (fun hc5 => ?_) (fun hc5 => ?_))))))
   ·have hi := dD hc5
    have hS := gA (p := bD.ok s (m.fields[m.dq x.num]'(aT.dO hF4.1))) hi
    refine aC.skip (aC.seq (aC.blk (aC.seq (aC.drawn mixed rfl (aD.run II 5 rfl (aD.c1 rfl (aH (aF rfl) dV rfl rfl (Int.natCast_nonneg _) (cU bD.au hi) rfl) (aD.run II 1 rfl (aD.c1 rfl (aG (aF rfl) C4 rfl (GR _ _ _ (hvs _ (List.getElem_mem hi)) (ih _ (List.getElem_mem hi)))) (aD.run II 1 rfl (aD.nil (by kernel_rfl) (Kept.now (aC.cond rfl (fun hc6 => ?_) (fun hc6 => ?_)))))))))))))
    ·exact aC.seq (aC.region (aB.run II 1 rfl (aB.nil (aC.ret ⟨.inr rfl, (aE.r1 rfl (.tmp rfl .nil)).cast (congrArg AV.bool (by rw [hE, aT.ee hF4.1]; grind)), rfl⟩))))
    ·exact aC.skip (aC.region (aB.run II 3 rfl (aB.kept (Kept.aY 9 rfl (inc (by omega)) (Kept.aJ [.s 9, .h, .s 3, .b 3, .s 5, .b 5, .s 8, .b 8] rfl (by decide) (Kept.now ⟨i + 1, by omega, by grind, rfl⟩))))))
   ·have hi := dE hc5
    have hS := jo (p := bD.ok s (m.fields[m.dq x.num]'(aT.dO hF4.1))) hi
    rw [aT.ee hF4.1] at hE
    have hN := KE hF4.2
    have hNs := KD hF4.2
    refine aC.exit (aC.seq (aC.region (aB.run II 1 rfl (aB.c1 rfl (aG (aF rfl) Ia rfl (BM _)) (aB.run II 2 rfl (aB.tell (d := 55) rfl (fun hg7 => ?_) (fun hg7 => ?_)))))))
    ·exact aB.run II 16 rfl (aB.nil (aC.ret ⟨.inr rfl, (aE.r1 rfl (.tmp rfl .nil)).cast (congrArg AV.bool (by grind)), rfl⟩))
    ·refine aB.run II 2 rfl (aB.g1 rfl (aF rfl) rfl rfl (aH (aF rfl) dV rfl rfl (by decide) (cU (i := 0) bD.au hF4.2) rfl) (aB.run II 5 rfl (aB.tell (d := 63) rfl (fun hg8 => ?_) (fun hg8 => ?_))))
     ·exact aB.run II 8 rfl (aB.nil (aC.ret ⟨.inr rfl, (aE.r1 rfl (.tmp rfl .nil)).cast (congrArg AV.bool (by grind)), rfl⟩))
     ·exact aB.run II 2 rfl (aB.g1 rfl (aF rfl) rfl rfl (aH (aF rfl) dV rfl rfl (by decide) (cU (i := 0) bD.au hF4.2) rfl) (aB.run II 5 rfl (aB.nil (aC.ret ⟨.inr rfl, (aE.r1 rfl (.tmp rfl .nil)).cast (congrArg AV.bool (by grind)), rfl⟩))))
theorem EC (s : aN) (hs : s.wu) (name : aw) (t : Tree) (hb : t.dW) (ih : ∀ x ∈ t.aO, ∀ v ∈ x.ah, ∀ u ∈ v.m, ∀ name : aw, Pure Tryz.prog 28 [s.av, .str name, .agg u.cells] (.bool (u.ok s name))) : Pure Tryz.prog 28 [s.av, .str name, .agg t.cells] (.bool (t.ok s name)) := by
 have hsm := hs.m
 have hbs := hb.here.s
 have hbr := hb.here.r
 have hT := t.ok_eq s name
 refine Pure.aL Tryz.func28 rfl rfl (aF rfl) fun H => (aC.seq (aC.region (aB.run II 3 rfl (aB.nil (aC.seq (aC.region (aB.run II 2 rfl (aB.c1 rfl (aG (aF rfl) kY rfl (iY _ _ (by omega))) (aB.run II 1 rfl (aB.nil (aC.seq (aC.seq (aC.region (aB.run II 2 rfl (aB.nil (aC.cond rfl (fun hc1 => ?_) (fun hc1 => ?_)))))))))))))))))
 ·exact aC.seq (aC.region (aB.run II 1 rfl (aB.nil (aC.ret ⟨.inr rfl, (aE.r1 rfl (.tmp rfl .nil)).cast (congrArg AV.bool (by rw [hT, aN.G9 hc1])), rfl⟩))))
 ·rw [aN.CK hc1] at hT
  refine aC.skip (aC.seq (aC.region (aB.run II 3 rfl (aB.c1 rfl (aH (aF rfl) bM rfl rfl (aN.CI hc1) (qF (aN.CJ hc1) (aN.bP hc1)) rfl) (aB.run II 3 rfl (aB.nil (aC.seq (aC.region (aB.c2 rfl (bF («as» := []) (aF rfl) bO dR rfl rfl rfl (gI rfl) rfl) (aB.run II 1 rfl (aB.nil (aC.seq (aC.seq (aC.region (aB.run II 1 rfl (aB.nil (aC.blk (aC.aK (Kept.aJ [.s 10, .s 9, .t 24, .h, .s 3, .b 3, .s 5, .b 5, .s 8, .b 8] rfl (by decide) (Kept.now (aC.aX (fun ((i, a) : Nat × List AV) => [(.s 10, .sv (.v (.int .i64 (i : Int)))), (.s 9, .sv (.ow 24 a)), (.t 24, .tk false 9 1 a)]) _ (fun ((i, a) : Nat × List AV) => a = (t.aO.take i).map (fun y => AV.str ((s.msgs[s.dq name]'(aN.bP hc1)).oneOf y)) ∧ gX s (s.msgs[s.dq name]'(aN.bP hc1)) t.aO i = dC s (s.msgs[s.dq name]'(aN.bP hc1)) t.aO none [] ∧ mb (s.msgs[s.dq name]'(aN.bP hc1)) t.aO i) (fun ((i, a) : Nat × List AV) => t.aO.length - i) (0, _) rfl ⟨rfl, mL s (s.msgs[s.dq name]'(aN.bP hc1)) t.aO, mb.zero _ _⟩ ?_)))))))))))))))))))))
  rintro ⟨i, a⟩ ⟨rfl, hI, hG⟩
  refine aC.seq (aC.seq (aC.region (aB.run II 5 rfl (aB.nil (aC.cond rfl (fun hc2 => ?_) (fun hc2 => ?_))))))
  ·have hi := dD hc2
   have hS := @mM s (s.msgs[s.dq name]'(aN.bP hc1)) t.aO i hi
   refine aC.skip (aC.seq (aC.blk (aC.cI [.h, .s 3, .b 3, .s 5, .b 5, .s 8, .b 8, .s 9, .t 24, .s 10] (fun (_ : Unit) => []) (fun (_ : Unit) => (match jv t.aO i with | none => true | some n => decide (n < (t.aO[i]'hi).num)) = true ∧ (t.aO[i]'hi).ok s (s.msgs[s.dq name]'(aN.bP hc1)) = true) rfl ?_ ?_)))
   ·refine aC.seq (aC.drawn mixed rfl (aD.run II 3 rfl (aD.tell (d := 34) rfl (fun hg3 => ?_) (fun hg3 => ?_))))
    ·refine aD.run II 4 rfl (aD.g1 rfl (aF rfl) rfl rfl (aH (aF rfl) ca rfl rfl (by rw [oI (by have := of_decide_eq_true hg3; omega) (by omega)]; exact Int.natCast_nonneg _) (G8 Slot.au (oI (by have := of_decide_eq_true hg3; omega) (by omega)) (show i - 1 < t.aO.length by omega)) rfl) ?_)
     refine aD.run II 5 rfl (aD.g1 rfl (aF rfl) rfl rfl (aH (aF rfl) ca rfl rfl (Int.natCast_nonneg _) (cU Slot.au hi) rfl) (aD.run II 5 rfl (aD.tell (d := 50) rfl (fun hg4 => ?_) (fun hg4 => ?_))))
     ·exact aD.run II 10 rfl (aD.nil (by kernel_rfl) (Kept.now (aC.az rfl rfl (aC.seq (aC.region (aB.run II 1 rfl (aB.nil (aC.ret ⟨.inr rfl, (aE.r1 rfl (.tmp rfl .nil)).cast (congrArg AV.bool (by rw [jM (by have := of_decide_eq_true hg3; omega) hi] at hS; grind)), rfl⟩))))))))
     ·refine aD.run II 5 rfl (aD.g1 rfl (aF rfl) rfl rfl (aH (aF rfl) ca rfl rfl (Int.natCast_nonneg _) (cU Slot.au hi) rfl) (aD.run II 1 rfl (aD.g1 rfl (aF rfl) rfl rfl (aG (aF rfl) Cd rfl (BE _ _ _ (hs.f _ (List.getElem_mem (aN.bP hc1))) (hb.here.v _ (List.getElem_mem hi)) (hb.here.vs _ (List.getElem_mem hi)) (ih _ (List.getElem_mem hi)))) (aD.run II 2 rfl (aD.nil (by kernel_rfl) (Kept.now (aC.cond rfl (fun hc5 => ?_) (fun hc5 => ?_))))))))
      ·exact aC.seq (aC.region (aB.run II 1 rfl (aB.nil (aC.ret ⟨.inr rfl, (aE.r1 rfl (.tmp rfl .nil)).cast (congrArg AV.bool (by have := KZ hc5; grind)), rfl⟩))))
      ·exact aC.aK (Kept.aJ [.h, .s 3, .b 3, .s 5, .b 5, .s 8, .b 8, .s 9, .t 24, .s 10] rfl (by decide) (Kept.now (aC.skip (⟨(), ⟨by rw [jM (by have := of_decide_eq_true hg3; omega) hi]; simpa using hg4, K9 hc5⟩, rfl⟩))))
    ·refine aD.run II 21 rfl (aD.g1 rfl (aF rfl) rfl rfl (aH (aF rfl) ca rfl rfl (Int.natCast_nonneg _) (cU Slot.au hi) rfl) (aD.run II 1 rfl (aD.g1 rfl (aF rfl) rfl rfl (aG (aF rfl) Cd rfl (BE _ _ _ (hs.f _ (List.getElem_mem (aN.bP hc1))) (hb.here.v _ (List.getElem_mem hi)) (hb.here.vs _ (List.getElem_mem hi)) (ih _ (List.getElem_mem hi)))) (aD.run II 2 rfl (aD.nil (by kernel_rfl) (Kept.now (aC.cond rfl (fun hc6 => ?_) (fun hc6 => ?_))))))))
     ·exact aC.seq (aC.region (aB.run II 1 rfl (aB.nil (aC.ret ⟨.inr rfl, (aE.r1 rfl (.tmp rfl .nil)).cast (congrArg AV.bool (by have := KZ hc6; grind)), rfl⟩))))
     ·exact aC.aK (Kept.aJ [.h, .s 3, .b 3, .s 5, .b 5, .s 8, .b 8, .s 9, .t 24, .s 10] rfl (by decide) (Kept.now (aC.skip (⟨(), ⟨by have h0 : i = 0 := (by have := of_decide_eq_false hg3; omega); subst h0; rw [qD], K9 hc6⟩, rfl⟩))))
   ·rintro _ hF11
    have hat := Slot.G6 hF11.2
    have hone := gj (aT.ee hat)
    refine aC.seq (aC.drawn mixed rfl (aD.run II 6 rfl (aD.c1 rfl (aH (aF rfl) ca rfl rfl (Int.natCast_nonneg _) (cU Slot.au hi) rfl) (aD.run II 2 rfl (aD.c1 rfl (aG (aF rfl) sx rfl (mR _ _ (hs.f _ (List.getElem_mem (aN.bP hc1))))) (aD.c1 rfl (aH (aF rfl) bT rfl rfl (aT.vF hat) (qF (aT.vG hat) (aT.dO hat)) rfl) (aD.run II 3 rfl (aD.nil (by kernel_rfl) (Kept.now (aC.seq (aC.seq (aC.region (aB.run II 1 rfl (aB.nil (aC.blk ?_)))))))))))))))
    refine aC.aK (Kept.aJ [.s 12, .h, .s 3, .b 3, .s 5, .b 5, .s 8, .b 8, .s 9, .t 24, .s 10, .s 11] rfl (by decide) (Kept.now (aC.aX (fun (k : Nat) => [(.s 12, .sv (.v (.int .i64 (k : Int))))]) _ (fun (k : Nat) => ((t.aO.take i).drop k).any (fun y => !(((s.msgs[s.dq name]'(aN.bP hc1)).fields[(s.msgs[s.dq name]'(aN.bP hc1)).dq (t.aO[i]'hi).num]'(aT.dO hat)).one == []) && ((s.msgs[s.dq name]'(aN.bP hc1)).oneOf y == ((s.msgs[s.dq name]'(aN.bP hc1)).fields[(s.msgs[s.dq name]'(aN.bP hc1)).dq (t.aO[i]'hi).num]'(aT.dO hat)).one)) = (t.aO.take i).any (fun y => !(((s.msgs[s.dq name]'(aN.bP hc1)).fields[(s.msgs[s.dq name]'(aN.bP hc1)).dq (t.aO[i]'hi).num]'(aT.dO hat)).one == []) && ((s.msgs[s.dq name]'(aN.bP hc1)).oneOf y == ((s.msgs[s.dq name]'(aN.bP hc1)).fields[(s.msgs[s.dq name]'(aN.bP hc1)).dq (t.aO[i]'hi).num]'(aT.dO hat)).one))) (fun (k : Nat) => (t.aO.take i).length - k) 0 rfl (by simp) ?_)))
    rintro k hK
    refine aC.seq (aC.seq (aC.region (aB.run II 4 rfl (aB.nil (aC.cond rfl (fun hc7 => ?_) (fun hc7 => ?_))))))
    ·have hk := dD hc7
     have hU := bb (p := (fun y => !(((s.msgs[s.dq name]'(aN.bP hc1)).fields[(s.msgs[s.dq name]'(aN.bP hc1)).dq (t.aO[i]'hi).num]'(aT.dO hat)).one == []) && ((s.msgs[s.dq name]'(aN.bP hc1)).oneOf y == ((s.msgs[s.dq name]'(aN.bP hc1)).fields[(s.msgs[s.dq name]'(aN.bP hc1)).dq (t.aO[i]'hi).num]'(aT.dO hat)).one))) hk
     have hkl : (t.aO.take i).length ≤ t.aO.length := by rw [List.length_take]; omega
     refine aC.skip (aC.seq (aC.blk (aC.seq (aC.region (aB.run II 3 rfl (aB.tell (d := 82) rfl (fun hg8 => ?_) (fun hg8 => ?_)))))))
     ·refine aB.run II 2 rfl (aB.g1 rfl (aF rfl) rfl rfl (aH (aF rfl) cD rfl rfl (Int.natCast_nonneg _) (cF hk) rfl) (aB.run II 4 rfl (aB.nil (aC.cond rfl (fun hc9 => ?_) (fun hc9 => ?_)))))
      ·exact aC.seq (aC.region (aB.run II 1 rfl (aB.nil (aC.ret ⟨.inr rfl, (aE.r1 rfl (.tmp rfl .nil)).cast (congrArg AV.bool (by have hQ := pj (m := (s.msgs[s.dq name]'(aN.bP hc1))) (l := t.aO.take i) (one := ((s.msgs[s.dq name]'(aN.bP hc1)).fields[(s.msgs[s.dq name]'(aN.bP hc1)).dq (t.aO[i]'hi).num]'(aT.dO hat)).one); rw [hone] at hS; grind)), rfl⟩))))
      ·exact aC.skip (aC.region (aB.run II 3 rfl (aB.kept (Kept.aY 12 rfl (inc (by omega)) (Kept.aJ [.s 12, .h, .s 3, .b 3, .s 5, .b 5, .s 8, .b 8, .s 9, .t 24, .s 10, .s 11] rfl (by decide) (Kept.now ⟨k + 1, by omega, by grind, rfl⟩))))))
     ·exact aB.run II 7 rfl (aB.nil (aC.aZ rfl rfl (aC.skip (aC.region (aB.run II 3 rfl (aB.kept (Kept.aY 12 rfl (inc (by omega)) (Kept.aJ [.s 12, .h, .s 3, .b 3, .s 5, .b 5, .s 8, .b 8, .s 9, .t 24, .s 10, .s 11] rfl (by decide) (Kept.now ⟨k + 1, by omega, by grind, rfl⟩)))))))))
    ·have hk := dE hc7
     have hU := cE (p := (fun y => !(((s.msgs[s.dq name]'(aN.bP hc1)).fields[(s.msgs[s.dq name]'(aN.bP hc1)).dq (t.aO[i]'hi).num]'(aT.dO hat)).one == []) && ((s.msgs[s.dq name]'(aN.bP hc1)).oneOf y == ((s.msgs[s.dq name]'(aN.bP hc1)).fields[(s.msgs[s.dq name]'(aN.bP hc1)).dq (t.aO[i]'hi).num]'(aT.dO hat)).one))) hk
     refine aC.exit (aC.region (aB.run II 3 rfl (aB.c3 rfl (aV (aF rfl) bO rfl rfl rfl rfl rfl (by have := hG.len; have := hs.f _ (List.getElem_mem (aN.bP hc1)); simp; omega) (by have := hG.len; have := hs.f _ (List.getElem_mem (aN.bP hc1)); simp; omega)) ?_)))
     refine aB.run II 1 rfl (aB.nil (aC.region (aB.run II 3 rfl (aB.kept (Kept.aY 10 rfl (inc (by omega)) (Kept.aJ [.s 10, .s 9, .t 93, .h, .s 3, .b 3, .s 5, .b 5, .s 8, .b 8] rfl (by decide) (Kept.gG 93 24 (by decide) rfl (Kept.now ?_))))))))
     have hQ := pj (m := (s.msgs[s.dq name]'(aN.bP hc1))) (l := t.aO.take i) (one := ((s.msgs[s.dq name]'(aN.bP hc1)).fields[(s.msgs[s.dq name]'(aN.bP hc1)).dq (t.aO[i]'hi).num]'(aT.dO hat)).one)
     exact ⟨(i + 1, _), (by dsimp only; omega), ⟨by rw [← hone]; exact du hi rfl, by rw [hone] at hS; grind, hG.step hi hF11.1 (Slot.Ey hF11.2)⟩, rfl⟩
  ·have hi := dE hc2
   have hS := @nj s (s.msgs[s.dq name]'(aN.bP hc1)) t.aO i hi
   refine aC.exit (aC.seq (aC.seq (aC.region (aB.run II 1 rfl (aB.nil (aC.blk (aC.aK (Kept.aJ [.s 13, .h, .s 5, .b 5, .s 8, .b 8] rfl (by decide) (Kept.now (aC.aX (fun (j : Nat) => [(.s 13, .sv (.v (.int .i64 (j : Int))))]) _ (fun (j : Nat) => (t.rest.drop j).all (dG (s.msgs[s.dq name]'(aN.bP hc1))) = t.rest.all (dG (s.msgs[s.dq name]'(aN.bP hc1)))) (fun (j : Nat) => t.rest.length - j) 0 rfl (by simp) ?_))))))))))
   rintro j hJ
   refine aC.seq (aC.seq (aC.region (aB.run II 5 rfl (aB.nil (aC.cond rfl (fun hc10 => ?_) (fun hc10 => ?_))))))
   ·have hj := dD hc10
    have hR := gA (p := dG (s.msgs[s.dq name]'(aN.bP hc1))) hj
    have hA := (s.msgs[s.dq name]'(aN.bP hc1)).jV (t.rest[j]'hj).num
    refine aC.skip (aC.seq (aC.blk (aC.seq (aC.drawn mixed rfl (aD.run II 3 rfl (aD.c1 rfl (aH (aF rfl) lg rfl rfl (Int.natCast_nonneg _) (cF hj) rfl) (aD.run II 1 rfl (aD.c1 rfl (aG (aF rfl) Iw rfl (BG _)) (aD.run II 2 rfl (aD.tell (d := 108) rfl (fun hg11 => ?_) (fun hg11 => ?_)))))))))))
    ·exact aD.run II 10 rfl (aD.nil (by kernel_rfl) (Kept.now (aC.az rfl rfl (aC.seq (aC.region (aB.run II 1 rfl (aB.nil (aC.ret ⟨.inr rfl, (aE.r1 rfl (.tmp rfl .nil)).cast (congrArg AV.bool (by grind [dG])), rfl⟩))))))))
    ·refine aD.run II 4 rfl (aD.g1 rfl (aF rfl) rfl rfl (aH (aF rfl) lg rfl rfl (Int.natCast_nonneg _) (cF hj) rfl) (aD.run II 2 rfl (aD.g1 rfl (aF rfl) rfl rfl (aG (aF rfl) sx rfl (mR _ _ (hs.f _ (List.getElem_mem (aN.bP hc1))))) (aD.run II 2 rfl (aD.nil (by kernel_rfl) (Kept.now (aC.cond rfl (fun hc12 => ?_) (fun hc12 => ?_))))))))
     ·exact aC.seq (aC.region (aB.run II 1 rfl (aB.nil (aC.ret ⟨.inr rfl, (aE.r1 rfl (.tmp rfl .nil)).cast (congrArg AV.bool (by grind [dG])), rfl⟩))))
     ·exact aC.skip (aC.region (aB.run II 3 rfl (aB.kept (Kept.aY 13 rfl (inc (by omega)) (Kept.aJ [.s 13, .h, .s 5, .b 5, .s 8, .b 8] rfl (by decide) (Kept.now ⟨j + 1, by omega, by grind [dG], rfl⟩))))))
   ·have hj := dE hc10
    have hR := jo (p := dG (s.msgs[s.dq name]'(aN.bP hc1))) hj
    exact aC.exit (aC.seq (aC.region (aB.run II 1 rfl (aB.nil (aC.ret ⟨.inr rfl, (aE.r1 rfl (.tmp rfl .nil)).cast (congrArg AV.bool (by grind)), rfl⟩)))))
theorem vw (s : aN) (hs : s.wu) (t : Tree) (hb : t.dW) (name : aw) : Pure Tryz.prog 28 [s.av, .str name, .agg t.cells] (.bool (t.ok s name)) :=
 Tree.ind (Q := fun t => t.dW → ∀ name : aw, Pure Tryz.prog 28 [s.av, .str name, .agg t.cells] (.bool (t.ok s name))) (fun t ih hb name => EC s hs name t hb (fun x hx v hv u hu => ih x hx v hv u hu (hb.sub hu hv hx))) t hb name
/- how deep a value is, in the program. -/
/- Numbers and bytes. No condition. -/
theorem eL {n : Int} (h0 : -9223372036854775808 ≤ n) (h : n < 9223372036854775808) : IntKind.i64.wrap n = n := by simp only [IntKind.wrap, IntKind.bits, IntKind.signed]; simp; omega
/- Lists of bytes that are the same. No condition. -/
/- words of types; the values of digits; in the program and in the document. -/
theorem vV {t : Int} (h : t < 1 ∨ 13 < t) : ry t = [] := by
 unfold ry
 split
 ·rfl
 ·have : t = 0 ∨ t = 14 ∨ t = 15 := by omega
  rcases this with rfl | rfl | rfl <;> rfl
structure tR where
 far : Nat
 neg : Bool
 deriving DecidableEq
def vf (t : Int) (n : Nat) : tR := if dw t = true ∧ 9223372036854775808 ≤ n then ⟨18446744073709551616 - n, true⟩ else ⟨n, false⟩
def tR.raw (x : tR) : Nat := if x.neg = true ∧ 0 < x.far then 18446744073709551616 - x.far else x.far
def tR.val (x : tR) (t : Int) : Option Nat := if cK t = true ∧ iQ t x.raw = true ∧ vf t x.raw = x then some x.raw else none
theorem rd_val {t : Int} {n : Nat} {neg : Bool} (h : n < 18446744073709551616) : tR.val (if n = 0 then ⟨0, false⟩ else ⟨n, neg⟩) t = L6 t n neg := by
 unfold tR.val L6
 by_cases h0 : n = 0
 ·subst h0
  simp only [tR.raw, vf]
  cases cK t <;> simp
 ·rw [if_neg h0]
  simp only [tR.raw, vf]
  have hp : 0 < n := by omega
  cases hn : neg with
  | false =>
   cases hw : cK t <;> cases hs : dw t <;> simp
   by_cases h2 : 9223372036854775808 ≤ n
   ·simp [h2]
   ·have h5 : n < 9223372036854775808 := by omega
    simp [h2, h5]
  | true =>
   cases hw : cK t <;> cases hs : dw t <;> simp [hp]
   by_cases h2 : 9223372036854775808 < n
   ·have : ¬ 9223372036854775808 ≤ 18446744073709551616 - n := by omega
    simp [h2, this]
   ·have h3 : 9223372036854775808 ≤ 18446744073709551616 - n := by omega
    have h4 : 18446744073709551616 - (18446744073709551616 - n) = n := by omega
    simp [h2, h3, h4]
/- names, in the program. -/
theorem Bs : aq [] = false := by decide
/- Plain laws: a list of texts, sorted, rises just if none is there twice. No condition. -/
theorem m3 : ∀ (r pre : List aw), fG (pre ++ r) r pre.length = true ↔ (∀ x ∈ r, x ∉ pre) ∧ r.Nodup
 | [], pre => by simp [fG]
 | a :: r, pre => by
  have ih := m3 r (pre ++ [a])
  rw [List.append_assoc, List.length_append] at ih
  simp only [List.singleton_append, List.length_cons, List.length_nil, Nat.zero_add] at ih
  simp only [fG, Bool.and_eq_true, Bool.not_eq_true', List.take_left, ih]
  constructor
  ·rintro ⟨h1, h2, h3⟩
   have h1' : a ∉ pre := fun hm => by
    have : (pre.any fun b => a == b) = true := List.any_eq_true.2 ⟨a, hm, by simp⟩
    rw [h1] at this; cases this
   refine ⟨fun x hx => ?_, List.nodup_cons.2 ⟨fun hm => h2 a hm (by simp), h3⟩⟩
   rcases List.mem_cons.1 hx with rfl | hx
   ·exact h1'
   ·exact fun hm => h2 x hx (by simp [hm])
  ·rintro ⟨h1, h2⟩
   have h3 := List.nodup_cons.1 h2
   refine ⟨?_, fun x hx hm => ?_, h3.2⟩
   ·rw [Bool.eq_false_iff]
    intro h
    obtain ⟨b, hb, e⟩ := List.any_eq_true.1 h
    have : a = b := by simpa using e
    subst this
    exact h1 a (by simp) hb
   ·rcases List.mem_append.1 hm with hm | hm
    ·exact h1 x (by simp [hx]) hm
    ·simp at hm; subst hm; exact h3.1 hx
theorem uW (l : List aw) : once l = true ↔ l.Nodup := by
 have := m3 l []
 simpa [once] using this
/- steps that may be, in the program and in the document. -/
theorem yR : aa Tryz.prog 118 = true := by kernel_rfl
theorem fq : aa Tryz.prog 119 = true := by kernel_rfl
theorem Fk : aa Tryz.prog 121 = true := by kernel_rfl
structure Lq where
 dst : Bool
 als : Bool
 num : Bool
 oth : Bool
 ty : Bool
 nms : Bool
 dv : Bool
def lQ (k : Int) : Lq :=
 if k = 1 then ⟨true, false, false, false, false, false, false⟩
 else if k = 2 then ⟨false, false, true, false, false, false, false⟩
 else if k = 3 then ⟨false, false, false, false, true, false, false⟩
 else if k = 4 then ⟨true, true, true, true, false, false, false⟩
 else if k = 5 ∨ k = 6 then ⟨true, true, true, false, false, false, false⟩
 else if k = 8 then ⟨false, false, false, false, false, true, false⟩
 else if k = 9 then ⟨false, false, true, false, true, false, true⟩
 else ⟨false, false, false, false, false, false, false⟩
def Ju (h : Bool) (s : aw) : Bool := (h && aq s) || (!h && s == [])
def Js (h : Bool) (n : Int) : Bool := (h && oH n) || (!h && decide (n = 0))
def aS.typed (x : aS) : Bool := if x.kind = 3 then cK x.ty else if x.kind = 9 then !(ry x.ty == []) else decide (x.ty = 0)
def LG (h : Bool) (l : List aw) : Bool := if h then decide (1 ≤ l.length) && decide (l.length ≤ 10) && l.all aq && once l else decide (l.length = 0)
def mO : aN := ⟨[], []⟩
def JE (t : Int) : ag := ⟨[], 0, t, [], false, false, []⟩
def Ki (h : Bool) (t : Int) (v : bD) : Bool := if h then v.ok mO (JE t) else decide (v.n = 0) && v.s == [] && decide (v.m.length = 0)
def aS.right (x : aS) : Bool :=
 decide (1 ≤ x.kind) && decide (x.kind ≤ 10) && aq x.msg && aq x.field && Ju (lQ x.kind).dst x.dest && Ju (lQ x.kind).als x.also && Js (lQ x.kind).num x.num && Js (lQ x.kind).oth x.other &&
 x.typed && LG (lQ x.kind).nms x.names && Ki (lQ x.kind).dv x.ty x.dv
structure aS.dW (x : aS) : Prop where
 s : x.dv.s.length ≤ 9223372036854775807
 u : ∀ t ∈ x.dv.m, t.dW
 n : x.names.length ≤ 9223372036854775807
theorem zF : mO.wu := ⟨by decide, (fun m h => (by cases h)), (fun m h => (by cases h))⟩
def lM (v : bD) : Bool := decide (v.n = 0) && v.s == [] && decide (v.m.length = 0)
def cB (x : aS) (d a n o : Bool) : Bool :=
 if d ≠ !(x.dest == []) ∨ a ≠ !(x.also == []) ∨ n ≠ !decide (x.num = 0) ∨ o ≠ !decide (x.other = 0) then false
 else (!d || aq x.dest) && (!a || aq x.also) && (!n || oH x.num) && (!o || oH x.other)
def aS.bl (x : aS) : Bool :=
 if aq x.msg = false ∨ aq x.field = false then false
 else if (x.kind ≠ 8 ∧ 0 < x.names.length) ∨ (x.kind ≠ 9 ∧ lM x.dv = false) ∨ (x.kind ≠ 3 ∧ x.kind ≠ 9 ∧ x.ty ≠ 0) then false
 else if x.kind = 1 then cB x true false false false
 else if x.kind = 2 then cB x false false true false
 else if x.kind = 3 then cB x false false false false && cK x.ty
 else if x.kind = 4 then cB x true true true true
 else if x.kind = 5 ∨ x.kind = 6 then cB x true true true false
 else if x.kind = 7 ∨ x.kind = 10 then cB x false false false false
 else if x.kind = 8 then cB x false false false false && decide (1 ≤ x.names.length) && decide (x.names.length ≤ 10) && x.names.all aq && once x.names
 else if x.kind = 9 then cB x false false true false && decide (1 ≤ x.ty) && decide (x.ty ≤ 13) && x.dv.ok mO (JE x.ty)
 else false
theorem E7 (x : aS) (d a n o : Bool) : cB x d a n o = (Ju d x.dest && Ju a x.also && Js n x.num && Js o x.other) := by
 have h1 : aq [] = false := Bs
 have h2 : oH 0 = false := by decide
 unfold cB Ju Js
 by_cases e1 : x.dest = [] <;> by_cases e2 : x.also = [] <;> by_cases e3 : x.num = 0 <;> by_cases e4 : x.other = 0 <;> cases d <;> cases a <;> cases n <;> cases o <;> simp_all
theorem Dd {t : Int} : (ry t == []) = !(decide (1 ≤ t) && decide (t ≤ 13)) := by
 by_cases h : t < 1 ∨ 13 < t
 ·rw [vV h]; simp; omega
 ·have : t = 1 ∨ t = 2 ∨ t = 3 ∨ t = 4 ∨ t = 5 ∨ t = 6 ∨ t = 7 ∨ t = 8 ∨ t = 9 ∨ t = 10 ∨ t = 11 ∨ t = 12 ∨ t = 13 := by omega
  rcases this with rfl | rfl | rfl | rfl | rfl | rfl | rfl | rfl | rfl | rfl | rfl | rfl | rfl <;> decide
theorem right_eq (x : aS) : x.bl = x.right := by
 unfold aS.bl aS.right
 simp only [E7]
 by_cases hk : (x.kind < 1 ∨ 10 < x.kind)
 ·have h1 : (decide (1 ≤ x.kind) && decide (x.kind ≤ 10)) = false := by simp; omega
  rw [h1]
  simp only [Bool.false_and]
  split
  ·rfl
  split
  ·rfl
  rw [if_neg (by omega), if_neg (by omega), if_neg (by omega), if_neg (by omega), if_neg (by omega), if_neg (by omega), if_neg (by omega), if_neg (by omega)]
 ·have : x.kind = 1 ∨ x.kind = 2 ∨ x.kind = 3 ∨ x.kind = 4 ∨ x.kind = 5 ∨ x.kind = 6 ∨ x.kind = 7 ∨ x.kind = 8 ∨ x.kind = 9 ∨ x.kind = 10 := by omega
  rcases this with h | h | h | h | h | h | h | h | h | h
  all_goals
   simp only [h, lQ, aS.typed, LG, Ki, Dd]
   cases aq x.msg <;> cases aq x.field <;> simp [lM, LG, Ki]
   try grind
theorem BQ (v : bD) : Pure Tryz.prog 118 [.agg v.cells] (.bool (lM v)) := by
 refine Pure.aL Tryz.func118 rfl rfl (aF rfl) fun H => (aC.seq (aC.region (aB.run II 2 rfl (aB.nil (aC.seq (aC.region (aB.run II 4 rfl (aB.tell (d := 6) rfl (fun hg1 => ?_) (fun hg1 => ?_)))))))))
 ·refine aB.run II 5 rfl (aB.tell (d := 11) rfl (fun hg2 => ?_) (fun hg2 => ?_))
  ·exact aB.run II 6 rfl (aB.nil (aC.ret ⟨.inr rfl, (aE.r1 rfl (.tmp rfl .nil)).cast (congrArg AV.bool (by first | grind [lM] | (rw [List.length_map]; simp_all [lM]; try (rw [Bool.eq_iff_iff]; simp)))), rfl⟩))
  ·exact aB.run II 6 rfl (aB.nil (aC.ret ⟨.inr rfl, (aE.r1 rfl (.tmp rfl .nil)).cast (congrArg AV.bool (by first | grind [lM] | (rw [List.length_map]; simp_all [lM]; try (rw [Bool.eq_iff_iff]; simp)))), rfl⟩))
 ·exact aB.run II 11 rfl (aB.nil (aC.ret ⟨.inr rfl, (aE.r1 rfl (.tmp rfl .nil)).cast (congrArg AV.bool (by first | grind [lM] | (rw [List.length_map]; simp_all [lM]; try (rw [Bool.eq_iff_iff]; simp)))), rfl⟩))
theorem EP (l : List aw) (hl : l.length ≤ 9223372036854775807) : Pure Tryz.prog 121 [.sl (l.map .str)] (.bool (l.all aq)) := by
 refine Pure.aL Tryz.func121 rfl rfl (aF rfl) fun H => (aC.seq (aC.region (aB.run II 1 rfl (aB.nil (aC.seq (aC.seq (aC.region (aB.run II 1 rfl (aB.nil (aC.blk (aC.aK (Kept.aJ [.s 3, .h, .s 0] rfl (by decide) (Kept.now (aC.aX (fun (k : Nat) => [(.s 3, .sv (.v (.int .i64 (k : Int))))]) _ (fun (k : Nat) => (l.drop k).all aq = l.all aq) (fun (k : Nat) => l.length - k) 0 rfl (by simp) ?_))))))))))))))
 rintro k hI
 refine aC.seq (aC.seq (aC.region (aB.run II 4 rfl (aB.nil (aC.cond rfl (fun hc1 => ?_) (fun hc1 => ?_))))))
 ·have hk := dD hc1
  refine aC.skip (aC.seq (aC.blk (aC.seq (aC.region (aB.run II 2 rfl (aB.c1 rfl (aH (aF rfl) cD rfl rfl (Int.natCast_nonneg _) (cF hk) rfl) (aB.run II 1 rfl (aB.c1 rfl (aG (aF rfl) eE rfl (dU _)) (aB.run II 1 rfl (aB.nil (aC.cond rfl (fun hc2 => ?_) (fun hc2 => ?_))))))))))))
  ·exact aC.seq (aC.region (aB.run II 1 rfl (aB.nil (aC.ret ⟨.inr rfl, (aE.r1 rfl (.tmp rfl .nil)).cast (congrArg AV.bool (by rw [← hI, gA hk, show aq l[k] = false by simpa using hc2]; rfl)), rfl⟩))))
  ·exact aC.skip (aC.region (aB.run II 3 rfl (aB.kept (Kept.aY 3 rfl (inc (by omega)) (Kept.aJ [.s 3, .h, .s 0] rfl (by decide) (Kept.now ⟨k + 1, by omega, by rw [← hI, gA hk, show aq l[k] = true by simpa using hc2]; rfl, rfl⟩))))))
 ·have hk := dE hc1
  exact aC.exit (aC.seq (aC.region (aB.run II 1 rfl (aB.nil (aC.ret ⟨.inr rfl, (aE.r1 rfl (.tmp rfl .nil)).cast (congrArg AV.bool (by rw [← hI, jo hk])), rfl⟩)))))
theorem iq (x : aS) (d a n o : Bool) : Pure Tryz.prog 119 [x.av, .bool d, .bool a, .bool n, .bool o] (.bool (cB x d a n o)) := by
 refine Pure.aL Tryz.func119 rfl rfl (aF rfl) fun H => (aC.seq (aC.region (aB.run II 2 rfl (aB.nil (aC.seq (aC.seq (aC.region (aB.run II 6 rfl (aB.tell (d := 16) rfl (fun hg1 => ?_) (fun hg1 => ?_))))))))))
 ·exact aB.run II 20 rfl (aB.nil (aC.az rfl rfl (aC.seq (aC.region (aB.run II 1 rfl (aB.nil (aC.ret ⟨.inr rfl, (aE.r1 rfl (.tmp rfl .nil)).cast (congrArg AV.bool (by grind [cB])), rfl⟩)))))))
 ·refine aB.run II 7 rfl (aB.tell (d := 23) rfl (fun hg2 => ?_) (fun hg2 => ?_))
  ·exact aB.run II 13 rfl (aB.nil (aC.az rfl rfl (aC.seq (aC.region (aB.run II 1 rfl (aB.nil (aC.ret ⟨.inr rfl, (aE.r1 rfl (.tmp rfl .nil)).cast (congrArg AV.bool (by grind [cB])), rfl⟩)))))))
  ·refine aB.run II 7 rfl (aB.tell (d := 30) rfl (fun hg3 => ?_) (fun hg3 => ?_))
   ·exact aB.run II 6 rfl (aB.nil (aC.az rfl rfl (aC.seq (aC.region (aB.run II 1 rfl (aB.nil (aC.ret ⟨.inr rfl, (aE.r1 rfl (.tmp rfl .nil)).cast (congrArg AV.bool (by grind [cB])), rfl⟩)))))))
   ·refine aB.run II 6 rfl (aB.nil (aC.cond rfl (fun hc4 => ?_) (fun hc4 => ?_)))
    ·exact aC.seq (aC.region (aB.run II 1 rfl (aB.nil (aC.ret ⟨.inr rfl, (aE.r1 rfl (.tmp rfl .nil)).cast (congrArg AV.bool (by grind [cB])), rfl⟩))))
    ·refine aC.skip (aC.seq (aC.region (aB.run II 3 rfl (aB.tell (d := 39) rfl (fun hg5 => ?_) (fun hg5 => ?_)))))
     ·refine aB.run II 8 rfl (aB.tell (d := 47) rfl (fun hg6 => ?_) (fun hg6 => ?_))
      ·refine aB.run II 9 rfl (aB.tell (d := 56) rfl (fun hg7 => ?_) (fun hg7 => ?_))
       ·refine aB.run II 9 rfl (aB.tell (d := 65) rfl (fun hg8 => ?_) (fun hg8 => ?_))
        ·exact aB.run II 6 rfl (aB.nil (aC.ret ⟨.inr rfl, (aE.r1 rfl (.tmp rfl .nil)).cast (congrArg AV.bool (by grind [cB])), rfl⟩))
        ·exact aB.run II 2 rfl (aB.g1 rfl (aF rfl) rfl rfl (aG (aF rfl) dp rfl (fE _)) (aB.run II 3 rfl (aB.nil (aC.ret ⟨.inr rfl, (aE.r1 rfl (.tmp rfl .nil)).cast (congrArg AV.bool (by grind [cB])), rfl⟩))))
       ·refine aB.run II 2 rfl (aB.g1 rfl (aF rfl) rfl rfl (aG (aF rfl) dp rfl (fE _)) (aB.run II 3 rfl (aB.tell (d := 62) rfl (fun hg9 => ?_) (fun hg9 => ?_))))
        ·refine aB.run II 3 rfl (aB.tell (d := 65) rfl (fun hg10 => ?_) (fun hg10 => ?_))
         ·exact aB.run II 6 rfl (aB.nil (aC.ret ⟨.inr rfl, (aE.r1 rfl (.tmp rfl .nil)).cast (congrArg AV.bool (by grind [cB])), rfl⟩))
         ·exact aB.run II 2 rfl (aB.g1 rfl (aF rfl) rfl rfl (aG (aF rfl) dp rfl (fE _)) (aB.run II 3 rfl (aB.nil (aC.ret ⟨.inr rfl, (aE.r1 rfl (.tmp rfl .nil)).cast (congrArg AV.bool (by grind [cB])), rfl⟩))))
        ·exact aB.run II 9 rfl (aB.nil (aC.ret ⟨.inr rfl, (aE.r1 rfl (.tmp rfl .nil)).cast (congrArg AV.bool (by grind [cB])), rfl⟩))
      ·refine aB.run II 2 rfl (aB.g1 rfl (aF rfl) rfl rfl (aG (aF rfl) eE rfl (dU _)) (aB.run II 3 rfl (aB.tell (d := 53) rfl (fun hg11 => ?_) (fun hg11 => ?_))))
       ·refine aB.run II 3 rfl (aB.tell (d := 56) rfl (fun hg12 => ?_) (fun hg12 => ?_))
        ·refine aB.run II 9 rfl (aB.tell (d := 65) rfl (fun hg13 => ?_) (fun hg13 => ?_))
         ·exact aB.run II 6 rfl (aB.nil (aC.ret ⟨.inr rfl, (aE.r1 rfl (.tmp rfl .nil)).cast (congrArg AV.bool (by grind [cB])), rfl⟩))
         ·exact aB.run II 2 rfl (aB.g1 rfl (aF rfl) rfl rfl (aG (aF rfl) dp rfl (fE _)) (aB.run II 3 rfl (aB.nil (aC.ret ⟨.inr rfl, (aE.r1 rfl (.tmp rfl .nil)).cast (congrArg AV.bool (by grind [cB])), rfl⟩))))
        ·refine aB.run II 2 rfl (aB.g1 rfl (aF rfl) rfl rfl (aG (aF rfl) dp rfl (fE _)) (aB.run II 3 rfl (aB.tell (d := 62) rfl (fun hg14 => ?_) (fun hg14 => ?_))))
         ·refine aB.run II 3 rfl (aB.tell (d := 65) rfl (fun hg15 => ?_) (fun hg15 => ?_))
          ·exact aB.run II 6 rfl (aB.nil (aC.ret ⟨.inr rfl, (aE.r1 rfl (.tmp rfl .nil)).cast (congrArg AV.bool (by grind [cB])), rfl⟩))
          ·exact aB.run II 2 rfl (aB.g1 rfl (aF rfl) rfl rfl (aG (aF rfl) dp rfl (fE _)) (aB.run II 3 rfl (aB.nil (aC.ret ⟨.inr rfl, (aE.r1 rfl (.tmp rfl .nil)).cast (congrArg AV.bool (by grind [cB])), rfl⟩))))
         ·exact aB.run II 9 rfl (aB.nil (aC.ret ⟨.inr rfl, (aE.r1 rfl (.tmp rfl .nil)).cast (congrArg AV.bool (by grind [cB])), rfl⟩))
       ·exact aB.run II 18 rfl (aB.nil (aC.ret ⟨.inr rfl, (aE.r1 rfl (.tmp rfl .nil)).cast (congrArg AV.bool (by grind [cB])), rfl⟩))
     ·refine aB.run II 2 rfl (aB.g1 rfl (aF rfl) rfl rfl (aG (aF rfl) eE rfl (dU _)) (aB.run II 2 rfl (aB.tell (d := 44) rfl (fun hg16 => ?_) (fun hg16 => ?_))))
      ·refine aB.run II 3 rfl (aB.tell (d := 47) rfl (fun hg17 => ?_) (fun hg17 => ?_))
       ·refine aB.run II 9 rfl (aB.tell (d := 56) rfl (fun hg18 => ?_) (fun hg18 => ?_))
        ·refine aB.run II 9 rfl (aB.tell (d := 65) rfl (fun hg19 => ?_) (fun hg19 => ?_))
         ·exact aB.run II 6 rfl (aB.nil (aC.ret ⟨.inr rfl, (aE.r1 rfl (.tmp rfl .nil)).cast (congrArg AV.bool (by grind [cB])), rfl⟩))
         ·exact aB.run II 2 rfl (aB.g1 rfl (aF rfl) rfl rfl (aG (aF rfl) dp rfl (fE _)) (aB.run II 3 rfl (aB.nil (aC.ret ⟨.inr rfl, (aE.r1 rfl (.tmp rfl .nil)).cast (congrArg AV.bool (by grind [cB])), rfl⟩))))
        ·refine aB.run II 2 rfl (aB.g1 rfl (aF rfl) rfl rfl (aG (aF rfl) dp rfl (fE _)) (aB.run II 3 rfl (aB.tell (d := 62) rfl (fun hg20 => ?_) (fun hg20 => ?_))))
         ·refine aB.run II 3 rfl (aB.tell (d := 65) rfl (fun hg21 => ?_) (fun hg21 => ?_))
          ·exact aB.run II 6 rfl (aB.nil (aC.ret ⟨.inr rfl, (aE.r1 rfl (.tmp rfl .nil)).cast (congrArg AV.bool (by grind [cB])), rfl⟩))
          ·exact aB.run II 2 rfl (aB.g1 rfl (aF rfl) rfl rfl (aG (aF rfl) dp rfl (fE _)) (aB.run II 3 rfl (aB.nil (aC.ret ⟨.inr rfl, (aE.r1 rfl (.tmp rfl .nil)).cast (congrArg AV.bool (by grind [cB])), rfl⟩))))
         ·exact aB.run II 9 rfl (aB.nil (aC.ret ⟨.inr rfl, (aE.r1 rfl (.tmp rfl .nil)).cast (congrArg AV.bool (by grind [cB])), rfl⟩))
       ·refine aB.run II 2 rfl (aB.g1 rfl (aF rfl) rfl rfl (aG (aF rfl) eE rfl (dU _)) (aB.run II 3 rfl (aB.tell (d := 53) rfl (fun hg22 => ?_) (fun hg22 => ?_))))
        ·refine aB.run II 3 rfl (aB.tell (d := 56) rfl (fun hg23 => ?_) (fun hg23 => ?_))
         ·refine aB.run II 9 rfl (aB.tell (d := 65) rfl (fun hg24 => ?_) (fun hg24 => ?_))
          ·exact aB.run II 6 rfl (aB.nil (aC.ret ⟨.inr rfl, (aE.r1 rfl (.tmp rfl .nil)).cast (congrArg AV.bool (by grind [cB])), rfl⟩))
          ·exact aB.run II 2 rfl (aB.g1 rfl (aF rfl) rfl rfl (aG (aF rfl) dp rfl (fE _)) (aB.run II 3 rfl (aB.nil (aC.ret ⟨.inr rfl, (aE.r1 rfl (.tmp rfl .nil)).cast (congrArg AV.bool (by grind [cB])), rfl⟩))))
         ·refine aB.run II 2 rfl (aB.g1 rfl (aF rfl) rfl rfl (aG (aF rfl) dp rfl (fE _)) (aB.run II 3 rfl (aB.tell (d := 62) rfl (fun hg25 => ?_) (fun hg25 => ?_))))
          ·refine aB.run II 3 rfl (aB.tell (d := 65) rfl (fun hg26 => ?_) (fun hg26 => ?_))
           ·exact aB.run II 6 rfl (aB.nil (aC.ret ⟨.inr rfl, (aE.r1 rfl (.tmp rfl .nil)).cast (congrArg AV.bool (by grind [cB])), rfl⟩))
           ·exact aB.run II 2 rfl (aB.g1 rfl (aF rfl) rfl rfl (aG (aF rfl) dp rfl (fE _)) (aB.run II 3 rfl (aB.nil (aC.ret ⟨.inr rfl, (aE.r1 rfl (.tmp rfl .nil)).cast (congrArg AV.bool (by grind [cB])), rfl⟩))))
          ·exact aB.run II 9 rfl (aB.nil (aC.ret ⟨.inr rfl, (aE.r1 rfl (.tmp rfl .nil)).cast (congrArg AV.bool (by grind [cB])), rfl⟩))
        ·exact aB.run II 18 rfl (aB.nil (aC.ret ⟨.inr rfl, (aE.r1 rfl (.tmp rfl .nil)).cast (congrArg AV.bool (by grind [cB])), rfl⟩))
      ·exact aB.run II 27 rfl (aB.nil (aC.ret ⟨.inr rfl, (aE.r1 rfl (.tmp rfl .nil)).cast (congrArg AV.bool (by grind [cB])), rfl⟩))
set_option maxHeartbeats 4000000 in
theorem BH (x : aS) (hb : x.dW) : Pure Tryz.prog 76 [x.av] (.bool x.bl) := by
 refine Pure.aL Tryz.func76 rfl rfl (aF rfl) fun H => (aC.seq (aC.region (aB.run II 2 rfl (aB.nil (aC.cI [.h, .s 1, .b 1] (fun (_ : Unit) => []) (fun (_ : Unit) => ¬ (aq x.msg = false ∨ aq x.field = false)) rfl ?_ ?_)))))
 ·refine aC.seq (aC.region (aB.run II 2 rfl (aB.c1 rfl (aG (aF rfl) eE rfl (dU _)) (aB.run II 2 rfl (aB.tell (d := 7) rfl (fun hg1 => ?_) (fun hg1 => ?_))))))
  ·exact aB.run II 5 rfl (aB.nil (aC.az rfl rfl (aC.seq (aC.region (aB.run II 1 rfl (aB.nil (aC.ret ⟨.inr rfl, (aE.r1 rfl (.tmp rfl .nil)).cast (congrArg AV.bool (by have hm : (x.names.map AV.str).length = x.names.length := List.length_map _; grind [aS.bl])), rfl⟩)))))))
  ·refine aB.run II 2 rfl (aB.g1 rfl (aF rfl) rfl rfl (aG (aF rfl) eE rfl (dU _)) (aB.run II 2 rfl (aB.nil (aC.cond rfl (fun hc2 => ?_) (fun hc2 => ?_)))))
   ·exact aC.seq (aC.region (aB.run II 1 rfl (aB.nil (aC.ret ⟨.inr rfl, (aE.r1 rfl (.tmp rfl .nil)).cast (congrArg AV.bool (by have hm : (x.names.map AV.str).length = x.names.length := List.length_map _; grind [aS.bl])), rfl⟩))))
   ·exact aC.aK (Kept.aJ [.h, .s 1, .b 1] rfl (by decide) (Kept.now (aC.skip ⟨(), by have hm : (x.names.map AV.str).length = x.names.length := List.length_map _; grind, rfl⟩)))
 ·rintro _ hF3
  refine aC.cI [.h, .s 1, .b 1] (fun (_ : Unit) => []) (fun (_ : Unit) => ¬ ((x.kind ≠ 8 ∧ 0 < x.names.length) ∨ (x.kind ≠ 9 ∧ lM x.dv = false) ∨ (x.kind ≠ 3 ∧ x.kind ≠ 9 ∧ x.ty ≠ 0))) rfl ?_ ?_
  ·refine aC.seq (aC.region (aB.run II 4 rfl (aB.tell (d := 16) rfl (fun hg3 => ?_) (fun hg3 => ?_))))
   ·refine aB.run II 6 rfl (aB.tell (d := 22) rfl (fun hg4 => ?_) (fun hg4 => ?_))
    ·exact aB.run II 25 rfl (aB.nil (aC.az rfl rfl (aC.seq (aC.region (aB.run II 1 rfl (aB.nil (aC.ret ⟨.inr rfl, (aE.r1 rfl (.tmp rfl .nil)).cast (congrArg AV.bool (by have hm : (x.names.map AV.str).length = x.names.length := List.length_map _; grind [aS.bl])), rfl⟩)))))))
    ·refine aB.run II 4 rfl (aB.tell (d := 26) rfl (fun hg5 => ?_) (fun hg5 => ?_))
     ·refine aB.run II 2 rfl (aB.g1 rfl (aF rfl) rfl rfl (aG (aF rfl) yR rfl (BQ _)) (aB.run II 4 rfl (aB.tell (d := 33) rfl (fun hg6 => ?_) (fun hg6 => ?_))))
      ·exact aB.run II 14 rfl (aB.nil (aC.az rfl rfl (aC.seq (aC.region (aB.run II 1 rfl (aB.nil (aC.ret ⟨.inr rfl, (aE.r1 rfl (.tmp rfl .nil)).cast (congrArg AV.bool (by have hm : (x.names.map AV.str).length = x.names.length := List.length_map _; grind [aS.bl])), rfl⟩)))))))
      ·refine aB.run II 4 rfl (aB.tell (d := 37) rfl (fun hg7 => ?_) (fun hg7 => ?_))
       ·refine aB.run II 5 rfl (aB.tell (d := 42) rfl (fun hg8 => ?_) (fun hg8 => ?_))
        ·refine aB.run II 5 rfl (aB.nil (aC.cond rfl (fun hc9 => ?_) (fun hc9 => ?_)))
         ·exact aC.seq (aC.region (aB.run II 1 rfl (aB.nil (aC.ret ⟨.inr rfl, (aE.r1 rfl (.tmp rfl .nil)).cast (congrArg AV.bool (by have hm : (x.names.map AV.str).length = x.names.length := List.length_map _; grind [aS.bl])), rfl⟩))))
         ·exact aC.aK (Kept.aJ [.h, .s 1, .b 1] rfl (by decide) (Kept.now (aC.skip ⟨(), by have hm : (x.names.map AV.str).length = x.names.length := List.length_map _; grind, rfl⟩)))
        ·exact aB.run II 5 rfl (aB.nil (aC.aZ rfl rfl (aC.aK (Kept.aJ [.h, .s 1, .b 1] rfl (by decide) (Kept.now (aC.skip ⟨(), by have hm : (x.names.map AV.str).length = x.names.length := List.length_map _; grind, rfl⟩))))))
       ·exact aB.run II 10 rfl (aB.nil (aC.aZ rfl rfl (aC.aK (Kept.aJ [.h, .s 1, .b 1] rfl (by decide) (Kept.now (aC.skip ⟨(), by have hm : (x.names.map AV.str).length = x.names.length := List.length_map _; grind, rfl⟩))))))
     ·refine aB.run II 11 rfl (aB.tell (d := 37) rfl (fun hg10 => ?_) (fun hg10 => ?_))
      ·refine aB.run II 5 rfl (aB.tell (d := 42) rfl (fun hg11 => ?_) (fun hg11 => ?_))
       ·refine aB.run II 5 rfl (aB.nil (aC.cond rfl (fun hc12 => ?_) (fun hc12 => ?_)))
        ·exact aC.seq (aC.region (aB.run II 1 rfl (aB.nil (aC.ret ⟨.inr rfl, (aE.r1 rfl (.tmp rfl .nil)).cast (congrArg AV.bool (by have hm : (x.names.map AV.str).length = x.names.length := List.length_map _; grind [aS.bl])), rfl⟩))))
        ·exact aC.aK (Kept.aJ [.h, .s 1, .b 1] rfl (by decide) (Kept.now (aC.skip ⟨(), by have hm : (x.names.map AV.str).length = x.names.length := List.length_map _; grind, rfl⟩)))
       ·exact aB.run II 5 rfl (aB.nil (aC.aZ rfl rfl (aC.aK (Kept.aJ [.h, .s 1, .b 1] rfl (by decide) (Kept.now (aC.skip ⟨(), by have hm : (x.names.map AV.str).length = x.names.length := List.length_map _; grind, rfl⟩))))))
      ·exact aB.run II 10 rfl (aB.nil (aC.aZ rfl rfl (aC.aK (Kept.aJ [.h, .s 1, .b 1] rfl (by decide) (Kept.now (aC.skip ⟨(), by have hm : (x.names.map AV.str).length = x.names.length := List.length_map _; grind, rfl⟩))))))
   ·refine aB.run II 10 rfl (aB.tell (d := 26) rfl (fun hg13 => ?_) (fun hg13 => ?_))
    ·refine aB.run II 2 rfl (aB.g1 rfl (aF rfl) rfl rfl (aG (aF rfl) yR rfl (BQ _)) (aB.run II 4 rfl (aB.tell (d := 33) rfl (fun hg14 => ?_) (fun hg14 => ?_))))
     ·exact aB.run II 14 rfl (aB.nil (aC.az rfl rfl (aC.seq (aC.region (aB.run II 1 rfl (aB.nil (aC.ret ⟨.inr rfl, (aE.r1 rfl (.tmp rfl .nil)).cast (congrArg AV.bool (by have hm : (x.names.map AV.str).length = x.names.length := List.length_map _; grind [aS.bl])), rfl⟩)))))))
     ·refine aB.run II 4 rfl (aB.tell (d := 37) rfl (fun hg15 => ?_) (fun hg15 => ?_))
      ·refine aB.run II 5 rfl (aB.tell (d := 42) rfl (fun hg16 => ?_) (fun hg16 => ?_))
       ·refine aB.run II 5 rfl (aB.nil (aC.cond rfl (fun hc17 => ?_) (fun hc17 => ?_)))
        ·exact aC.seq (aC.region (aB.run II 1 rfl (aB.nil (aC.ret ⟨.inr rfl, (aE.r1 rfl (.tmp rfl .nil)).cast (congrArg AV.bool (by have hm : (x.names.map AV.str).length = x.names.length := List.length_map _; grind [aS.bl])), rfl⟩))))
        ·exact aC.aK (Kept.aJ [.h, .s 1, .b 1] rfl (by decide) (Kept.now (aC.skip ⟨(), by have hm : (x.names.map AV.str).length = x.names.length := List.length_map _; grind, rfl⟩)))
       ·exact aB.run II 5 rfl (aB.nil (aC.aZ rfl rfl (aC.aK (Kept.aJ [.h, .s 1, .b 1] rfl (by decide) (Kept.now (aC.skip ⟨(), by have hm : (x.names.map AV.str).length = x.names.length := List.length_map _; grind, rfl⟩))))))
      ·exact aB.run II 10 rfl (aB.nil (aC.aZ rfl rfl (aC.aK (Kept.aJ [.h, .s 1, .b 1] rfl (by decide) (Kept.now (aC.skip ⟨(), by have hm : (x.names.map AV.str).length = x.names.length := List.length_map _; grind, rfl⟩))))))
    ·refine aB.run II 11 rfl (aB.tell (d := 37) rfl (fun hg18 => ?_) (fun hg18 => ?_))
     ·refine aB.run II 5 rfl (aB.tell (d := 42) rfl (fun hg19 => ?_) (fun hg19 => ?_))
      ·refine aB.run II 5 rfl (aB.nil (aC.cond rfl (fun hc20 => ?_) (fun hc20 => ?_)))
       ·exact aC.seq (aC.region (aB.run II 1 rfl (aB.nil (aC.ret ⟨.inr rfl, (aE.r1 rfl (.tmp rfl .nil)).cast (congrArg AV.bool (by have hm : (x.names.map AV.str).length = x.names.length := List.length_map _; grind [aS.bl])), rfl⟩))))
       ·exact aC.aK (Kept.aJ [.h, .s 1, .b 1] rfl (by decide) (Kept.now (aC.skip ⟨(), by have hm : (x.names.map AV.str).length = x.names.length := List.length_map _; grind, rfl⟩)))
      ·exact aB.run II 5 rfl (aB.nil (aC.aZ rfl rfl (aC.aK (Kept.aJ [.h, .s 1, .b 1] rfl (by decide) (Kept.now (aC.skip ⟨(), by have hm : (x.names.map AV.str).length = x.names.length := List.length_map _; grind, rfl⟩))))))
     ·exact aB.run II 10 rfl (aB.nil (aC.aZ rfl rfl (aC.aK (Kept.aJ [.h, .s 1, .b 1] rfl (by decide) (Kept.now (aC.skip ⟨(), by have hm : (x.names.map AV.str).length = x.names.length := List.length_map _; grind, rfl⟩))))))
  ·rintro _ hF5
   refine aC.seq (aC.seq (aC.region (aB.run II 2 rfl (aB.nil (aC.blk (aC.seq (aC.region (aB.run II 2 rfl (aB.nil (aC.cond rfl (fun hc21 => ?_) (fun hc21 => ?_)))))))))))
   ·exact aC.seq (aC.region (aB.run II 1 rfl (aB.c1 rfl (aG (aF rfl) fq rfl (iq _ _ _ _ _)) (aB.run II 1 rfl (aB.nil (aC.ret ⟨.inr rfl, (aE.r1 rfl (.tmp rfl .nil)).cast (congrArg AV.bool (by have hm : (x.names.map AV.str).length = x.names.length := List.length_map _; grind [aS.bl])), rfl⟩))))))
   ·refine aC.seq (aC.region (aB.run II 2 rfl (aB.nil (aC.cond rfl (fun hc22 => ?_) (fun hc22 => ?_)))))
    ·exact aC.seq (aC.region (aB.run II 1 rfl (aB.c1 rfl (aG (aF rfl) fq rfl (iq _ _ _ _ _)) (aB.run II 1 rfl (aB.nil (aC.ret ⟨.inr rfl, (aE.r1 rfl (.tmp rfl .nil)).cast (congrArg AV.bool (by have hm : (x.names.map AV.str).length = x.names.length := List.length_map _; grind [aS.bl])), rfl⟩))))))
    ·refine aC.seq (aC.region (aB.run II 2 rfl (aB.nil (aC.cond rfl (fun hc23 => ?_) (fun hc23 => ?_)))))
     ·refine aC.seq (aC.region (aB.run II 1 rfl (aB.c1 rfl (aG (aF rfl) fq rfl (iq _ _ _ _ _)) (aB.run II 1 rfl (aB.tell (d := 62) rfl (fun hg24 => ?_) (fun hg24 => ?_))))))
      ·exact aB.run II 2 rfl (aB.g1 rfl (aF rfl) rfl rfl (aG (aF rfl) tE rfl (pK _)) (aB.run II 2 rfl (aB.nil (aC.ret ⟨.inr rfl, (aE.r1 rfl (.tmp rfl .nil)).cast (congrArg AV.bool (by have hm : (x.names.map AV.str).length = x.names.length := List.length_map _; grind [aS.bl])), rfl⟩))))
      ·exact aB.run II 5 rfl (aB.nil (aC.ret ⟨.inr rfl, (aE.r1 rfl (.tmp rfl .nil)).cast (congrArg AV.bool (by have hm : (x.names.map AV.str).length = x.names.length := List.length_map _; grind [aS.bl])), rfl⟩))
     ·refine aC.seq (aC.region (aB.run II 2 rfl (aB.nil (aC.cond rfl (fun hc25 => ?_) (fun hc25 => ?_)))))
      ·exact aC.seq (aC.region (aB.run II 1 rfl (aB.c1 rfl (aG (aF rfl) fq rfl (iq _ _ _ _ _)) (aB.run II 1 rfl (aB.nil (aC.ret ⟨.inr rfl, (aE.r1 rfl (.tmp rfl .nil)).cast (congrArg AV.bool (by have hm : (x.names.map AV.str).length = x.names.length := List.length_map _; grind [aS.bl])), rfl⟩))))))
      ·refine aC.seq (aC.seq (aC.region (aB.run II 2 rfl (aB.nil (aC.cond rfl (fun hc26 => ?_) (fun hc26 => ?_))))))
       ·exact aC.skip (aC.az rfl hc26 (aC.seq (aC.region (aB.run II 1 rfl (aB.c1 rfl (aG (aF rfl) fq rfl (iq _ _ _ _ _)) (aB.run II 1 rfl (aB.nil (aC.ret ⟨.inr rfl, (aE.r1 rfl (.tmp rfl .nil)).cast (congrArg AV.bool (by have hm : (x.names.map AV.str).length = x.names.length := List.length_map _; grind [aS.bl])), rfl⟩))))))))
       ·refine aC.region (aB.run II 2 rfl (aB.nil (aC.cond rfl (fun hc27 => ?_) (fun hc27 => ?_))))
        ·exact aC.seq (aC.region (aB.run II 1 rfl (aB.c1 rfl (aG (aF rfl) fq rfl (iq _ _ _ _ _)) (aB.run II 1 rfl (aB.nil (aC.ret ⟨.inr rfl, (aE.r1 rfl (.tmp rfl .nil)).cast (congrArg AV.bool (by have hm : (x.names.map AV.str).length = x.names.length := List.length_map _; grind [aS.bl])), rfl⟩))))))
        ·refine aC.seq (aC.seq (aC.region (aB.run II 2 rfl (aB.nil (aC.cond rfl (fun hc28 => ?_) (fun hc28 => ?_))))))
         ·exact aC.skip (aC.az rfl hc28 (aC.seq (aC.region (aB.run II 1 rfl (aB.c1 rfl (aG (aF rfl) fq rfl (iq _ _ _ _ _)) (aB.run II 1 rfl (aB.nil (aC.ret ⟨.inr rfl, (aE.r1 rfl (.tmp rfl .nil)).cast (congrArg AV.bool (by have hm : (x.names.map AV.str).length = x.names.length := List.length_map _; grind [aS.bl])), rfl⟩))))))))
         ·refine aC.region (aB.run II 2 rfl (aB.nil (aC.cond rfl (fun hc29 => ?_) (fun hc29 => ?_))))
          ·exact aC.seq (aC.region (aB.run II 1 rfl (aB.c1 rfl (aG (aF rfl) fq rfl (iq _ _ _ _ _)) (aB.run II 1 rfl (aB.nil (aC.ret ⟨.inr rfl, (aE.r1 rfl (.tmp rfl .nil)).cast (congrArg AV.bool (by have hm : (x.names.map AV.str).length = x.names.length := List.length_map _; grind [aS.bl])), rfl⟩))))))
          ·refine aC.seq (aC.region (aB.run II 2 rfl (aB.nil (aC.cond rfl (fun hc30 => ?_) (fun hc30 => ?_)))))
           ·refine aC.seq (aC.region (aB.run II 1 rfl (aB.c1 rfl (aG (aF rfl) fq rfl (iq _ _ _ _ _)) (aB.run II 1 rfl (aB.tell (d := 85) rfl (fun hg31 => ?_) (fun hg31 => ?_))))))
            ·refine aB.run II 6 rfl (aB.tell (d := 91) rfl (fun hg32 => ?_) (fun hg32 => ?_))
             ·refine aB.run II 6 rfl (aB.tell (d := 97) rfl (fun hg33 => ?_) (fun hg33 => ?_))
              ·refine aB.run II 2 rfl (aB.g1 rfl (aF rfl) rfl rfl (aG (aF rfl) Fk rfl (EP _ hb.n)) (aB.run II 2 rfl (aB.tell (d := 102) rfl (fun hg34 => ?_) (fun hg34 => ?_))))
               ·exact aB.run II 2 rfl (aB.g1 rfl (aF rfl) rfl rfl (aG (aF rfl) mi rfl (pL _ hb.n)) (aB.run II 2 rfl (aB.nil (aC.ret ⟨.inr rfl, (aE.r1 rfl (.tmp rfl .nil)).cast (congrArg AV.bool (by have hm : (x.names.map AV.str).length = x.names.length := List.length_map _; grind [aS.bl])), rfl⟩))))
               ·exact aB.run II 5 rfl (aB.nil (aC.ret ⟨.inr rfl, (aE.r1 rfl (.tmp rfl .nil)).cast (congrArg AV.bool (by have hm : (x.names.map AV.str).length = x.names.length := List.length_map _; grind [aS.bl])), rfl⟩))
              ·exact aB.run II 10 rfl (aB.nil (aC.ret ⟨.inr rfl, (aE.r1 rfl (.tmp rfl .nil)).cast (congrArg AV.bool (by have hm : (x.names.map AV.str).length = x.names.length := List.length_map _; grind [aS.bl])), rfl⟩))
             ·exact aB.run II 16 rfl (aB.nil (aC.ret ⟨.inr rfl, (aE.r1 rfl (.tmp rfl .nil)).cast (congrArg AV.bool (by have hm : (x.names.map AV.str).length = x.names.length := List.length_map _; grind [aS.bl])), rfl⟩))
            ·exact aB.run II 22 rfl (aB.nil (aC.ret ⟨.inr rfl, (aE.r1 rfl (.tmp rfl .nil)).cast (congrArg AV.bool (by have hm : (x.names.map AV.str).length = x.names.length := List.length_map _; grind [aS.bl])), rfl⟩))
           ·refine aC.seq (aC.region (aB.run II 2 rfl (aB.nil (aC.cond rfl (fun hc35 => ?_) (fun hc35 => ?_)))))
            ·refine aC.seq (aC.region (aB.run II 1 rfl (aB.c1 rfl (aG (aF rfl) fq rfl (iq _ _ _ _ _)) (aB.run II 1 rfl (aB.tell (d := 111) rfl (fun hg36 => ?_) (fun hg36 => ?_))))))
             ·refine aB.run II 5 rfl (aB.tell (d := 116) rfl (fun hg37 => ?_) (fun hg37 => ?_))
              ·refine aB.run II 5 rfl (aB.tell (d := 121) rfl (fun hg38 => ?_) (fun hg38 => ?_))
               ·exact aB.run II 6 rfl (aB.g1 rfl (aF rfl) rfl rfl (aG (aF rfl) C4 rfl (GR mO (JE x.ty) x.dv hb.s fun u hu name => vw mO zF u (hb.u u hu) name)) (aB.run II 2 rfl (aB.nil (aC.ret ⟨.inr rfl, (aE.r1 rfl (.tmp rfl .nil)).cast (congrArg AV.bool (by have hm : (x.names.map AV.str).length = x.names.length := List.length_map _; grind [aS.bl])), rfl⟩))))
               ·exact aB.run II 9 rfl (aB.nil (aC.ret ⟨.inr rfl, (aE.r1 rfl (.tmp rfl .nil)).cast (congrArg AV.bool (by have hm : (x.names.map AV.str).length = x.names.length := List.length_map _; grind [aS.bl])), rfl⟩))
              ·exact aB.run II 14 rfl (aB.nil (aC.ret ⟨.inr rfl, (aE.r1 rfl (.tmp rfl .nil)).cast (congrArg AV.bool (by have hm : (x.names.map AV.str).length = x.names.length := List.length_map _; grind [aS.bl])), rfl⟩))
             ·exact aB.run II 19 rfl (aB.nil (aC.ret ⟨.inr rfl, (aE.r1 rfl (.tmp rfl .nil)).cast (congrArg AV.bool (by have hm : (x.names.map AV.str).length = x.names.length := List.length_map _; grind [aS.bl])), rfl⟩))
            ·exact aC.skip (aC.seq (aC.region (aB.run II 1 rfl (aB.nil (aC.ret ⟨.inr rfl, (aE.r1 rfl (.tmp rfl .nil)).cast (congrArg AV.bool (by have hm : (x.names.map AV.str).length = x.names.length := List.length_map _; grind [aS.bl])), rfl⟩)))))
theorem EK (x : aS) (hb : x.dW) : Pure Tryz.prog 76 [x.av] (.bool x.right) := right_eq x ▸ BH x hb
open Go Go.RowKit
/- Plain laws: migrations of schemas, and what they are lowered to, as the document says it. No condition. -/
/-! ### to stand in a list that rises -/
def cV {α : Type} (p : α → Bool) : List α → Nat
 | [] => 0
 | a :: l => if cV p l = l.length ∧ p a = true then l.length + 1 else cV p l
def eT {α : Type} (l : List α) (at_ : Nat) (x : α) : List α := l.take at_ ++ x :: l.drop at_
def c6 {α : Type} (p : α → Bool) (x : α) (l : List α) : List α := eT l (l.length - cV p l) x
def bL {α : Type} (gt : α → α → Bool) (l : List α) : List α := l.foldl (fun acc x => c6 (fun y => gt y x) x acc) []
def D3 (t s : aw) : Bool := !(lF t s || t == s)
def dm (l : List aw) (from_ : Nat) (s : aw) : Nat := if l.length ≤ from_ then l.length else max from_ (l.length - cV (fun t => D3 t s) l)
def dk.sort (e : dk) : dk := ⟨e.name, bL (fun y x : jX => decide (y.num > x.num)) e.values⟩
def aT.sort (m : aT) : aT := ⟨m.name, bL (fun y x : ag => decide (y.num > x.num)) m.fields, bL (fun y x : Int => decide (y > x)) m.aj⟩
def w7 (acc : List dk) (e : dk) : List dk := eT acc (dm (acc.map (·.name)) 0 e.name) e.sort
def kU (acc : List aT) (m : aT) : List aT := eT acc (if acc.length = 0 then 0 else dm (acc.map (·.name)) 1 m.name) m.sort
def aN.sorted (s : aN) : aN := ⟨s.enums.foldl w7 [], s.msgs.foldl kU []⟩
/-! ### fields -/
def aT.cn (m : aT) (name : aw) : Int := bS (fun f : ag => f.name == name) m.fields 0
def aT.members (m : aT) (one : aw) : List Int := (m.fields.filter fun f => !(one == []) && f.one == one).map (·.num)
def aN.yq (s : aN) (name : aw) : Nat := (s.msgs.map fun m => m.fields.countP fun f => decide (f.ty = 15) && f.ref == name).sum
def aT.free (m : aT) (num : Int) : Bool := oH num && (m.fields.all fun f => !(f.num == num)) && !(m.aj.any (· == num))
def ag.alone (f : ag) : Bool := !f.rep && f.one == []
def eF : ag := ⟨[], 0, 0, [], false, false, []⟩
def jz : aT := ⟨[], [], []⟩
def aT.aR (m : aT) (name : aw) : ag := (m.fields.find? fun f => f.name == name).getD eF
def aT.eU (m : aT) (name : aw) : Bool := m.fields.any fun f => f.name == name
/-! ### a step, applied -/
def aS.bu (x : aS) : List aw := if x.kind = 8 then x.names else if x.kind = 9 then [] else if x.kind = 5 then [x.field, x.also] else [x.field]
def aN.boxed (s : aN) (m : aT) (f : ag) : Bool :=
 decide (f.ty = 15) && f.alone && decide (1 ≤ s.bJ f.ref) && !(f.ref == m.name) && decide (s.yq f.ref = 1) &&
  (match (s.eS f.ref).map (·.fields) with | some [g] => g.one == [] | _ => false)
def aS.asked (s : aN) (m : aT) (x : aS) : Bool :=
 let f := m.aR x.field
 if x.kind = 3 then decide (1 ≤ f.ty) && decide (f.ty ≤ 11) && !decide (f.ty = 7)
 else if x.kind = 4 then (decide (f.ty = 4) || decide (f.ty = 9)) && f.alone
 else if x.kind = 5 then !(x.field == x.also) && decide (f.ty = 3) && decide ((m.aR x.also).ty = 3) && f.alone && (m.aR x.also).alone
 else if x.kind = 6 then f.one == []
 else if x.kind = 10 then f.one == [] && !decide (f.ty = 15)
 else if x.kind = 7 then s.boxed m f
 else if x.kind = 8 then x.names.all fun n => (m.aR n).alone
 else true
def aS.goes (x : aS) : List aw := if x.kind = 2 ∨ x.kind = 4 ∨ x.kind = 6 ∨ x.kind = 7 ∨ x.kind = 10 then [x.field] else if x.kind = 5 then [x.field, x.also] else []
def aS.comes (s : aN) (f : ag) (x : aS) : List ag :=
 if x.kind = 2 then [{ f with num := x.num }]
 else if x.kind = 4 then [{ eF with name := x.dest, num := x.num, ty := 3 }, { eF with name := x.also, num := x.other, ty := 3 }]
 else if x.kind = 5 then [{ eF with name := x.dest, num := x.num, ty := 4 }]
 else if x.kind = 6 then [{ eF with name := x.also, num := x.num, ty := 15, ref := x.dest }]
 else if x.kind = 7 then [(((s.eS f.ref).getD jz).fields.headD eF)]
 else if x.kind = 9 then [{ eF with name := x.field, num := x.num, ty := x.ty }]
 else []
def bE (l : List ag) (names : List aw) : List ag := l.filter fun f => !(names.any fun n => f.name == n)
def gE : aT → List ag → Bool
 | _, [] => false
 | m, f :: l => !m.free f.num || gE { m with fields := m.fields ++ [f] } l
def aS.there (s : aN) (m : aT) (x : aS) (l : List ag) : Bool :=
 gE m l || (decide (x.kind = 6) && (decide (0 ≤ s.eO x.dest) || decide (0 ≤ s.bJ x.dest))) || (decide (x.kind = 8) && decide (0 < ({ m with fields := m.fields ++ l }.members x.field).length))
def aS.changed (x : aS) (f : ag) : ag :=
 if x.kind = 8 then (if x.names.any (fun n => n == f.name) then { f with one := x.field } else f)
 else if f.name = x.field then (if x.kind = 1 then { f with name := x.dest } else if x.kind = 3 then { f with ty := x.ty } else f)
 else f
def aS.msgs (s : aN) (x : aS) (at_ : Nat) (r : aT) (ref : aw) : List aT :=
 let go := (s.msgs.zipIdx.filterMap fun (m, i) => if i = at_ then some r else if x.kind = 7 ∧ m.name = ref then none else some m)
 go ++ (if x.kind = 6 then [{ jz with name := x.dest, fields := [((s.msgs.getD at_ jz).aR x.field)] }] else [])
def aN.apply (s : aN) (x : aS) : Except Int aN :=
 if s.gC ≠ 0 ∨ x.right = false then .error 1
 else if s.bJ x.msg < 0 then .error 5
 else
  let at_ := (s.bJ x.msg).toNat
  let m := s.msgs.getD at_ jz
  if x.bu.all m.eU = false then .error 5
  else if x.asked s m = false then .error 7
  else
   let f := m.aR x.field
   let r : aT := { m with fields := bE m.fields x.goes }
   let more := x.comes s f
   if x.there s r more then .error 6
   else
    let r2 : aT := { r with fields := r.fields.map x.changed ++ more }
    let out := (⟨s.enums, x.msgs s at_ r2 f.ref⟩ : aN).sorted
    if out.gC ≠ 0 then .error out.gC else .ok out
def aN.eA : List aS → aN → List aN → Except Int (List aN)
 | [], _, acc => .ok acc
 | x :: l, s, acc => match s.apply x with
  | .ok t => eA l t (acc ++ [t])
  | .error e => .error e
def aN.all (s : aN) (l : List aS) : Except Int (List aN) := if s.gC ≠ 0 then .error s.gC else if 16 < l.length then .error 4 else aN.eA l s [s]
/- the document: fields, and places in lists that rise. -/
theorem jH (m : aT) (name : aw) (hl : m.fields.length ≤ 1000) : Pure Tryz.prog 78 [m.av, .str name] (.int .i64 (m.cn name)) := by
 refine Pure.aL Tryz.func78 rfl rfl (aF rfl) fun H => (aC.seq (aC.region (aB.run II 2 rfl (aB.nil (aC.seq (aC.seq (aC.region (aB.run II 1 rfl (aB.nil (aC.blk (aC.aK (Kept.aJ [.s 5, .h, .s 1, .s 2, .b 2] rfl (by decide) (Kept.now (aC.aX (fun (i : Nat) => [(.s 5, .sv (.v (.int .i64 (i : Int))))]) _ (fun (i : Nat) => bS (fun f : ag => f.name == name) (m.fields.drop i) i = m.cn name) (fun (i : Nat) => m.fields.length - i) 0 rfl (by simp [aT.cn]) ?_))))))))))))))
 rintro i hI
 refine aC.seq (aC.seq (aC.region (aB.run II 5 rfl (aB.nil (aC.cond rfl (fun hc1 => ?_) (fun hc1 => ?_))))))
 ·have hi := dD hc1
  have hS := cQ (p := (fun f : ag => f.name == name)) hi
  refine aC.skip (aC.seq (aC.blk (aC.seq (aC.region (aB.run II 3 rfl (aB.c1 rfl (aH (aF rfl) bT rfl rfl (Int.natCast_nonneg _) (cF hi) rfl) (aB.run II 4 rfl (aB.nil (aC.cond rfl (fun hc2 => ?_) (fun hc2 => ?_))))))))))
  ·exact aC.seq (aC.region (aB.run II 2 rfl (aB.nil (aC.ret ⟨.inr rfl, (aE.r1 rfl (.tmp rfl .nil)).cast (congrArg (AV.int .i64) (by grind [aT.cn])), rfl⟩))))
  ·exact aC.skip (aC.region (aB.run II 3 rfl (aB.kept (Kept.aY 5 rfl (inc (by omega)) (Kept.aJ [.s 5, .h, .s 1, .s 2, .b 2] rfl (by decide) (Kept.now ⟨i + 1, by omega, by grind, rfl⟩))))))
 ·have hi := dE hc1
  have hS := dd (p := (fun f : ag => f.name == name)) hi
  exact aC.exit (aC.seq (aC.region (aB.run II 1 rfl (aB.nil (aC.ret ⟨.inr rfl, (aE.r1 rfl (.tmp rfl .nil)).cast (congrArg (AV.int .i64) (by grind [aT.cn])), rfl⟩)))))
theorem xF {m : aT} {num : Int} : decide (m.at num < 0) = m.fields.all fun f => !(f.num == num) := by
 rcases ao (fun f : ag => f.num == num) m.fields 0 with ⟨h1, h2⟩ | ⟨i, hi, h1, h2, h3⟩
 ·have e : m.at num = -1 := h1
  rw [e, List.all_eq_true.2 (fun f hf => by have := List.find?_eq_none.1 h2 f hf; simpa using this)]
  decide
 ·have e : m.at num = ((0 + i : Nat) : Int) := h1
  have h4 : (m.fields.all fun f => !(f.num == num)) = false := List.all_eq_false.2 ⟨m.fields[i], List.getElem_mem hi, by simpa using h3⟩
  rw [e, h4]
  simp
theorem HP (m : aT) (num : Int) (hl : m.fields.length ≤ 1000) (hb : m.aj.length ≤ 1000) : Pure Tryz.prog 124 [m.av, .int .i64 num] (.bool (m.free num)) := by
 refine Pure.aL Tryz.func124 rfl rfl (aF rfl) fun H => (aC.seq (aC.region (aB.run II 2 rfl (aB.nil (aC.seq (aC.region (aB.run II 1 rfl (aB.c1 rfl (aG (aF rfl) dp rfl (fE _)) (aB.run II 1 rfl (aB.tell (d := 7) rfl (fun hg1 => ?_) (fun hg1 => ?_)))))))))))
 ·refine aB.run II 2 rfl (aB.g1 rfl (aF rfl) rfl rfl (aG (aF rfl) sx rfl (mR _ _ hl)) (aB.run II 3 rfl (aB.tell (d := 13) rfl (fun hg2 => ?_) (fun hg2 => ?_))))
  ·exact aB.run II 3 rfl (aB.g1 rfl (aF rfl) rfl rfl (aG (aF rfl) yT rfl (GU _ _ (by omega))) (aB.run II 3 rfl (aB.nil (aC.ret ⟨.inr rfl, (aE.r1 rfl (.tmp rfl .nil)).cast (congrArg AV.bool (by have := @xF m num; grind [aT.free])), rfl⟩))))
  ·exact aB.run II 7 rfl (aB.nil (aC.ret ⟨.inr rfl, (aE.r1 rfl (.tmp rfl .nil)).cast (congrArg AV.bool (by have := @xF m num; grind [aT.free])), rfl⟩))
 ·exact aB.run II 13 rfl (aB.nil (aC.ret ⟨.inr rfl, (aE.r1 rfl (.tmp rfl .nil)).cast (congrArg AV.bool (by have := @xF m num; grind [aT.free])), rfl⟩))
def iE (one : aw) (f : ag) : Bool := !(one == []) && f.one == one
theorem jJ {m : aT} {one : aw} {i : Nat} (hi : i < m.fields.length) (h : iE one m.fields[i] = true) : ((m.fields.take i).filter (iE one)).map (fun f => AV.int .i64 f.num) ++ [AV.int .i64 m.fields[i].num] = ((m.fields.take (i + 1)).filter (iE one)).map (fun f => AV.int .i64 f.num) := by
 have e : m.fields.take (i + 1) = m.fields.take i ++ [m.fields[i]] := by rw [List.take_add_one, List.getElem?_eq_getElem hi]; rfl
 have e2 : [m.fields[i]].filter (iE one) = [m.fields[i]] := by simp [h]
 rw [e, List.filter_append, List.map_append, e2]; rfl
theorem kq {m : aT} {one : aw} {i : Nat} (hi : i < m.fields.length) (h : iE one m.fields[i] = false) : ((m.fields.take i).filter (iE one)).map (fun f => AV.int .i64 f.num) = ((m.fields.take (i + 1)).filter (iE one)).map (fun f => AV.int .i64 f.num) := by
 have e : m.fields.take (i + 1) = m.fields.take i ++ [m.fields[i]] := by rw [List.take_add_one, List.getElem?_eq_getElem hi]; rfl
 have e2 : [m.fields[i]].filter (iE one) = [] := by simp [h]
 rw [e, List.filter_append, List.map_append, e2, List.map_nil, List.append_nil]
theorem rN (m : aT) (one : aw) (hl : m.fields.length ≤ 1000) : Pure Tryz.prog 125 [m.av, .str one] (.sl ((m.members one).map jj)) := by
 refine Pure.aL Tryz.func125 rfl rfl (aF rfl) fun H => (aC.seq (aC.region (aB.run II 2 rfl (aB.nil (aC.seq (aC.region (aB.c2 rfl (bF («as» := []) (aF rfl) bc fj rfl rfl rfl (gI rfl) rfl) (aB.run II 1 rfl (aB.nil (aC.seq (aC.seq (aC.region (aB.run II 1 rfl (aB.nil (aC.blk (aC.aK (Kept.aJ [.s 6, .s 5, .t 7, .h, .s 1, .s 2, .b 2] rfl (by decide) (Kept.now (aC.aX (fun ((i, a) : Nat × List AV) => [(.s 6, .sv (.v (.int .i64 (i : Int)))), (.s 5, .sv (.ow 7 a)), (.t 7, .tk false 3 1 a)]) _ (fun ((i, a) : Nat × List AV) => a = ((m.fields.take i).filter (iE one)).map (fun f => AV.int .i64 f.num)) (fun ((i, a) : Nat × List AV) => m.fields.length - i) (0, []) rfl (by simp) ?_)))))))))))))))))))
 rintro ⟨i, a⟩ hI
 refine aC.seq (aC.seq (aC.region (aB.run II 5 rfl (aB.nil (aC.cond rfl (fun hc1 => ?_) (fun hc1 => ?_))))))
 ·have hi := dD hc1
  refine aC.skip (aC.seq (aC.blk (aC.seq (aC.region (aB.run II 3 rfl (aB.tell (d := 17) rfl (fun hg2 => ?_) (fun hg2 => ?_)))))))
  ·refine aB.run II 3 rfl (aB.g1 rfl (aF rfl) rfl rfl (aH (aF rfl) bT rfl rfl (Int.natCast_nonneg _) (cF hi) rfl) (aB.run II 5 rfl (aB.nil (aC.cond rfl (fun hc3 => ?_) (fun hc3 => ?_)))))
   ·refine aC.region (aB.run II 4 rfl (aB.c1 rfl (aH (aF rfl) bT rfl rfl (Int.natCast_nonneg _) (cF hi) rfl) (aB.run II 3 rfl (aB.c3 rfl (aV (aF rfl) bc rfl rfl rfl rfl rfl (by rw [hI]; simp only [List.length_map, List.length_cons, List.length_nil]; have h1 := List.length_filter_le (iE one) (m.fields.take i); rw [List.length_take] at h1; omega) (by rw [hI]; simp only [List.length_map, List.length_cons, List.length_nil]; have h1 := List.length_filter_le (iE one) (m.fields.take i); rw [List.length_take] at h1; omega)) ?_))))
    exact aB.run II 1 rfl (aB.nil (aC.region (aB.run II 3 rfl (aB.kept (Kept.aY 6 rfl (inc (by omega)) (Kept.aJ [.s 6, .s 5, .t 35, .h, .s 1, .s 2, .b 2] rfl (by decide) (Kept.gG 35 7 (by decide) rfl (Kept.now ⟨(i + 1, _), by dsimp only; omega, by first | exact jJ hi (by simp_all [iE]) | exact kq hi (by simp_all [iE]) | (rw [hI]; first | exact jJ hi (by simp_all [iE]) | exact kq hi (by simp_all [iE])), rfl⟩))))))))
   ·exact aC.skip (aC.region (aB.run II 3 rfl (aB.kept (Kept.aY 6 rfl (inc (by omega)) (Kept.aJ [.s 6, .s 5, .t 7, .h, .s 1, .s 2, .b 2] rfl (by decide) (Kept.now ⟨(i + 1, _), by dsimp only; omega, by first | exact jJ hi (by simp_all [iE]) | exact kq hi (by simp_all [iE]) | (rw [hI]; first | exact jJ hi (by simp_all [iE]) | exact kq hi (by simp_all [iE])), rfl⟩))))))
  ·exact aB.run II 9 rfl (aB.nil (aC.aZ rfl rfl (aC.skip (aC.region (aB.run II 3 rfl (aB.kept (Kept.aY 6 rfl (inc (by omega)) (Kept.aJ [.s 6, .s 5, .t 7, .h, .s 1, .s 2, .b 2] rfl (by decide) (Kept.now ⟨(i + 1, _), by dsimp only; omega, by first | exact jJ hi (by simp_all [iE]) | exact kq hi (by simp_all [iE]) | (rw [hI]; first | exact jJ hi (by simp_all [iE]) | exact kq hi (by simp_all [iE])), rfl⟩)))))))))
 ·have hi := dE hc1
  exact aC.exit (aC.seq (aC.region (aB.run II 2 rfl (aB.nil (aC.ret ⟨.inr rfl, (aE.r1 rfl (.tmp rfl .nil)).cast (congrArg AV.sl (by rw [hI, List.take_of_length_le (by omega)]; unfold aT.members; rw [List.map_map]; rfl)), rfl⟩)))))
def ql (name : aw) (f : ag) : Bool := decide (f.ty = 15) && f.ref == name
def qo (name : aw) (m : aT) : Nat := m.fields.countP (ql name)
theorem Df (s : aN) (name : aw) : s.yq name = (s.msgs.map (qo name)).sum := rfl
theorem Aj {s : aN} {name : aw} {i : Nat} (hi : i < s.msgs.length) : ((s.msgs.take (i + 1)).map (qo name)).sum = ((s.msgs.take i).map (qo name)).sum + qo name s.msgs[i] := by
 have e : s.msgs.take (i + 1) = s.msgs.take i ++ [s.msgs[i]] := by rw [List.take_add_one, List.getElem?_eq_getElem hi]; rfl
 rw [e, List.map_append, List.sum_append]; simp
theorem my {m : aT} {name : aw} {k : Nat} (hk : k < m.fields.length) : (m.fields.take (k + 1)).countP (ql name) = (m.fields.take k).countP (ql name) + (if ql name m.fields[k] = true then 1 else 0) := by
 have e : m.fields.take (k + 1) = m.fields.take k ++ [m.fields[k]] := by rw [List.take_add_one, List.getElem?_eq_getElem hk]; rfl
 rw [e, List.countP_append, List.countP_singleton]
theorem Ak {s : aN} (hs : s.sm) (name : aw) (i : Nat) : ((s.msgs.take i).map (qo name)).sum ≤ 60 := by
 have h : ∀ (l : List aT), (∀ m ∈ l, qo name m ≤ 10) → (l.map (qo name)).sum ≤ 10 * l.length := by
  intro l
  induction l with
  | nil => intro _; simp
  | cons a l ih =>
   intro h
   have h1 := h a (List.mem_cons_self ..)
   have h2 := ih fun m hm => h m (List.mem_cons_of_mem _ hm)
   simp; omega
 have h2 := h (s.msgs.take i) fun m hm => by
  have := hs.f m (List.mem_of_mem_take hm)
  have h3 : qo name m ≤ m.fields.length := List.countP_le_length
  omega
 have h4 : (s.msgs.take i).length ≤ s.msgs.length := by rw [List.length_take]; omega
 have := hs.m
 omega
theorem HC (s : aN) (name : aw) (hs : s.sm) : Pure Tryz.prog 166 [s.av, .str name] (.int .i64 (s.yq name : Int)) := by
 have hm := hs.m
 refine Pure.aL Tryz.func166 rfl rfl (aF rfl) fun H => (aC.seq (aC.region (aB.run II 2 rfl (aB.nil (aC.seq (aC.region (aB.run II 1 rfl (aB.nil (aC.seq (aC.seq (aC.region (aB.run II 1 rfl (aB.nil (aC.blk (aC.aK (Kept.aJ [.s 6, .s 5, .h, .s 1, .s 2, .b 2] rfl (by decide) (Kept.now (aC.aX (fun ((i, n) : Nat × Int) => [(.s 6, .sv (.v (.int .i64 (i : Int)))), (.s 5, .sv (.v (.int .i64 n)))]) _ (fun ((i, n) : Nat × Int) => n = ((((s.msgs.take i).map (qo name)).sum : Nat) : Int)) (fun ((i, n) : Nat × Int) => s.msgs.length - i) (0, 0) rfl (by simp) ?_))))))))))))))))))
 rintro ⟨i, n⟩ hI
 refine aC.seq (aC.seq (aC.region (aB.run II 5 rfl (aB.nil (aC.cond rfl (fun hc1 => ?_) (fun hc1 => ?_))))))
 ·have hi := dD hc1
  have hf := hs.fi hi
  refine aC.skip (aC.seq (aC.blk (aC.seq (aC.region (aB.run II 1 rfl (aB.nil (aC.blk (aC.aK (Kept.aJ [.s 7, .s 5, .h, .s 1, .s 2, .b 2, .s 6] rfl (by decide) (Kept.now (aC.aX (fun ((k, n) : Nat × Int) => [(.s 7, .sv (.v (.int .i64 (k : Int)))), (.s 5, .sv (.v (.int .i64 n)))]) _ (fun ((k, n) : Nat × Int) => n = ((((s.msgs.take i).map (qo name)).sum + ((s.msgs[i]'hi).fields.take k).countP (ql name) : Nat) : Int)) (fun ((k, n) : Nat × Int) => (s.msgs[i]'hi).fields.length - k) (0, _) rfl (by rw [hI]; simp) ?_)))))))))))
  rintro ⟨k, n⟩ hK
  refine aC.seq (aC.seq (aC.region (aB.run II 4 rfl (aB.c1 rfl (aH (aF rfl) bM rfl rfl (Int.natCast_nonneg _) (cF hi) rfl) (aB.run II 4 rfl (aB.nil (aC.cond rfl (fun hc2 => ?_) (fun hc2 => ?_))))))))
  ·have hk := dD hc2
   refine aC.skip (aC.seq (aC.blk (aC.seq (aC.region (aB.run II 3 rfl (aB.c1 rfl (aH (aF rfl) bM rfl rfl (Int.natCast_nonneg _) (cF hi) rfl) (aB.run II 3 rfl (aB.c1 rfl (aH (aF rfl) bT rfl rfl (Int.natCast_nonneg _) (cF hk) rfl) (aB.run II 3 rfl (aB.nil (aC.seq (aC.region (aB.run II 4 rfl (aB.tell (d := 39) rfl (fun hg3 => ?_) (fun hg3 => ?_)))))))))))))))
   ·refine aB.run II 5 rfl (aB.nil (aC.cond rfl (fun hc4 => ?_) (fun hc4 => ?_)))
    ·exact aC.region (aB.run II 3 rfl (aB.nil (aC.region (aB.run II 3 rfl (aB.kept (Kept.aY 7 rfl (inc (by omega)) (Kept.aJ [.s 7, .s 5, .h, .s 1, .s 2, .b 2, .s 6] rfl (by decide) (Kept.now ⟨(k + 1, _), by dsimp only; omega, by dsimp only; rw [hK, (eL (by have := Ak hs name i; have h2 := List.countP_le_length (p := ql name) (l := (s.msgs[i].fields.take k)); have h3 := hs.fi hi; rw [List.length_take] at h2; omega) (by have := Ak hs name i; have h2 := List.countP_le_length (p := ql name) (l := (s.msgs[i].fields.take k)); have h3 := hs.fi hi; rw [List.length_take] at h2; omega)), my hk, if_pos (by simp_all [ql])]; omega, rfl⟩))))))))
    ·exact aC.skip (aC.region (aB.run II 3 rfl (aB.kept (Kept.aY 7 rfl (inc (by omega)) (Kept.aJ [.s 7, .s 5, .h, .s 1, .s 2, .b 2, .s 6] rfl (by decide) (Kept.now ⟨(k + 1, _), by dsimp only; omega, by dsimp only; rw [hK, my hk, if_neg (by simp_all [ql])]; omega, rfl⟩))))))
   ·exact aB.run II 5 rfl (aB.nil (aC.aZ rfl rfl (aC.skip (aC.region (aB.run II 3 rfl (aB.kept (Kept.aY 7 rfl (inc (by omega)) (Kept.aJ [.s 7, .s 5, .h, .s 1, .s 2, .b 2, .s 6] rfl (by decide) (Kept.now ⟨(k + 1, _), by dsimp only; omega, by dsimp only; rw [hK, my hk, if_neg (by simp_all [ql])]; omega, rfl⟩)))))))))
  ·have hk := dE hc2
   exact aC.exit (aC.region (aB.run II 3 rfl (aB.kept (Kept.aY 6 rfl (inc (by omega)) (Kept.aJ [.s 6, .s 5, .h, .s 1, .s 2, .b 2] rfl (by decide) (Kept.now ⟨(i + 1, _), by dsimp only; omega, by dsimp only; rw [hK, Aj hi, List.take_of_length_le (l := s.msgs[i].fields) (i := k) (by omega)]; rfl, rfl⟩))))))
 ·have hi := dE hc1
  exact aC.exit (aC.seq (aC.region (aB.run II 2 rfl (aB.nil (aC.ret ⟨.inr rfl, (aE.r1 rfl (.tmp rfl .nil)).cast (congrArg (AV.int .i64) (by rw [hI, List.take_of_length_le (by omega), Df])), rfl⟩)))))
/- the document: what a step asks, and what it changes. -/
theorem kN : lk Tryz.prog 72 = some (true, 7) := by kernel_rfl
theorem kj (f : ag) : Pure Tryz.prog 122 [f.av] (.bool f.alone) := by
 refine Pure.aL Tryz.func122 rfl rfl (aF rfl) fun H => (aC.seq (aC.region (aB.run II 2 rfl (aB.nil (aC.seq (aC.region (aB.run II 4 rfl (aB.tell (d := 6) rfl (fun hg1 => ?_) (fun hg1 => ?_)))))))))
 ·exact aB.run II 5 rfl (aB.nil (aC.ret ⟨.inr rfl, (aE.r1 rfl (.tmp rfl .nil)).cast (congrArg AV.bool (by grind [ag.alone])), rfl⟩))
 ·exact aB.run II 5 rfl (aB.nil (aC.ret ⟨.inr rfl, (aE.r1 rfl (.tmp rfl .nil)).cast (congrArg AV.bool (by grind [ag.alone])), rfl⟩))
theorem EO (x : aS) : Pure Tryz.prog 77 [x.av] (.sl (x.bu.map .str)) := by
 refine Pure.aL Tryz.func77 rfl rfl (aF rfl) fun H => (aC.seq (aC.region (aB.run II 2 rfl (aB.nil (aC.seq (aC.seq (aC.region (aB.run II 2 rfl (aB.nil (aC.blk (aC.seq (aC.region (aB.run II 2 rfl (aB.nil (aC.cond rfl (fun hc1 => ?_) (fun hc1 => ?_))))))))))))))))
 ·exact aC.seq (aC.region (aB.run II 3 rfl (aB.nil (aC.ret ⟨.inr rfl, (aE.r1 rfl (.tmp rfl .nil)).cast (congrArg AV.sl (by simp_all [aS.bu])), rfl⟩))))
 ·refine aC.seq (aC.region (aB.run II 2 rfl (aB.nil (aC.cond rfl (fun hc2 => ?_) (fun hc2 => ?_)))))
  ·exact aC.seq (aC.region (aB.run II 1 rfl (aB.nil (aC.ret ⟨.inr rfl, (aE.r1 rfl (.tmp rfl .nil)).cast (congrArg AV.sl (by simp_all [aS.bu])), rfl⟩))))
  ·refine aC.seq (aC.region (aB.run II 2 rfl (aB.nil (aC.cond rfl (fun hc3 => ?_) (fun hc3 => ?_)))))
   ·exact aC.seq (aC.region (aB.run II 6 rfl (aB.nil (aC.ret ⟨.inr rfl, (aE.r1 rfl (.tmp rfl .nil)).cast (congrArg AV.sl (by simp_all [aS.bu])), rfl⟩))))
   ·exact aC.skip (aC.seq (aC.region (aB.run II 4 rfl (aB.nil (aC.ret ⟨.inr rfl, (aE.r1 rfl (.tmp rfl .nil)).cast (congrArg AV.sl (by simp_all [aS.bu])), rfl⟩)))))
theorem HO (x : aS) : Pure Tryz.prog 81 [x.av] (.sl (x.goes.map .str)) := by
 refine Pure.aL Tryz.func81 rfl rfl (aF rfl) fun H => (aC.seq (aC.region (aB.run II 2 rfl (aB.nil (aC.seq (aC.seq (aC.region (aB.run II 2 rfl (aB.nil (aC.blk (aC.seq (aC.seq (aC.region (aB.run II 2 rfl (aB.nil (aC.cond rfl (fun hc1 => ?_) (fun hc1 => ?_)))))))))))))))))
 ·exact aC.skip (aC.az rfl hc1 (aC.seq (aC.region (aB.run II 4 rfl (aB.nil (aC.ret ⟨.inr rfl, (aE.r1 rfl (.tmp rfl .nil)).cast (congrArg AV.sl (by simp_all [aS.goes])), rfl⟩))))))
 ·refine aC.seq (aC.region (aB.run II 2 rfl (aB.nil (aC.cond rfl (fun hc2 => ?_) (fun hc2 => ?_)))))
  ·exact aC.skip (aC.az rfl hc2 (aC.seq (aC.region (aB.run II 4 rfl (aB.nil (aC.ret ⟨.inr rfl, (aE.r1 rfl (.tmp rfl .nil)).cast (congrArg AV.sl (by simp_all [aS.goes])), rfl⟩))))))
  ·refine aC.seq (aC.region (aB.run II 2 rfl (aB.nil (aC.cond rfl (fun hc3 => ?_) (fun hc3 => ?_)))))
   ·exact aC.skip (aC.az rfl hc3 (aC.seq (aC.region (aB.run II 4 rfl (aB.nil (aC.ret ⟨.inr rfl, (aE.r1 rfl (.tmp rfl .nil)).cast (congrArg AV.sl (by simp_all [aS.goes])), rfl⟩))))))
   ·refine aC.seq (aC.region (aB.run II 2 rfl (aB.nil (aC.cond rfl (fun hc4 => ?_) (fun hc4 => ?_)))))
    ·exact aC.skip (aC.az rfl hc4 (aC.seq (aC.region (aB.run II 4 rfl (aB.nil (aC.ret ⟨.inr rfl, (aE.r1 rfl (.tmp rfl .nil)).cast (congrArg AV.sl (by simp_all [aS.goes])), rfl⟩))))))
    ·refine aC.region (aB.run II 2 rfl (aB.nil (aC.cond rfl (fun hc5 => ?_) (fun hc5 => ?_))))
     ·exact aC.seq (aC.region (aB.run II 4 rfl (aB.nil (aC.ret ⟨.inr rfl, (aE.r1 rfl (.tmp rfl .nil)).cast (congrArg AV.sl (by simp_all [aS.goes])), rfl⟩))))
     ·refine aC.seq (aC.region (aB.run II 2 rfl (aB.nil (aC.cond rfl (fun hc6 => ?_) (fun hc6 => ?_)))))
      ·exact aC.seq (aC.region (aB.run II 6 rfl (aB.nil (aC.ret ⟨.inr rfl, (aE.r1 rfl (.tmp rfl .nil)).cast (congrArg AV.sl (by simp_all [aS.goes])), rfl⟩))))
      ·exact aC.skip (aC.seq (aC.region (aB.run II 1 rfl (aB.nil (aC.ret ⟨.inr rfl, (aE.r1 rfl (.tmp rfl .nil)).cast (congrArg AV.sl (by simp_all [aS.goes])), rfl⟩)))))
theorem vK {x : aS} {f : ag} {i : Nat} (hi : i < x.names.length) : (x.names.take (i + 1)).any (fun n => n == f.name) = ((x.names.take i).any (fun n => n == f.name) || x.names[i] == f.name) := by
 have e : x.names.take (i + 1) = x.names.take i ++ [x.names[i]] := by rw [List.take_add_one, List.getElem?_eq_getElem hi]; rfl
 rw [e, List.any_append]; simp
theorem Cx {x : aS} {f : ag} (h : x.kind = 8) {i : Nat} (hi : x.names.length ≤ i) {o : aw} (ho : o = if (x.names.take i).any (fun n => n == f.name) = true then x.field else f.one) : ({ f with one := o } : ag) = x.changed f := by
 rw [List.take_of_length_le hi] at ho
 unfold aS.changed
 rw [if_pos h, ho]
 split <;> rfl
theorem zZ (f : ag) (x : aS) (hl : x.names.length ≤ 9223372036854775807) : Pure Tryz.prog 84 [f.av, x.av] (x.changed f).av := by
 refine Pure.aL Tryz.func84 rfl rfl (aF rfl) fun H => (aC.seq (aC.region (aB.run II 3 rfl (aB.nil (aC.seq (aC.seq (aC.region (aB.run II 3 rfl (aB.nil (aC.cond rfl (fun hc1 => ?_) (fun hc1 => ?_)))))))))))
 ·refine aC.seq (aC.seq (aC.region (aB.run II 1 rfl (aB.nil (aC.blk (aC.aK (Kept.aJ [.s 5, .b 2, .h, .s 2, .s 3, .b 3, .s 4, .b 4] rfl (by decide) (Kept.now (aC.aX (fun ((i, o) : Nat × aw) => [(.s 5, .sv (.v (.int .i64 (i : Int)))), (.b 2, .bx [.v (.str f.name), .v (.int .i64 f.num), .v (.int .i64 f.ty), .v (.str f.ref), .v (.bool f.rep), .v (.bool f.loose), .v (.str o)])]) _ (fun ((i, o) : Nat × aw) => o = if (x.names.take i).any (fun n => n == f.name) = true then x.field else f.one) (fun ((i, o) : Nat × aw) => x.names.length - i) (0, f.one) rfl (by simp) ?_)))))))))
  rintro ⟨i, o⟩ hI
  refine aC.seq (aC.seq (aC.region (aB.run II 5 rfl (aB.nil (aC.cond rfl (fun hc2 => ?_) (fun hc2 => ?_))))))
  ·have hi := dD hc2
   refine aC.skip (aC.seq (aC.blk (aC.seq (aC.drawn mixed rfl (aD.run II 3 rfl (aD.c1 rfl (aH (aF rfl) cD rfl rfl (Int.natCast_nonneg _) (cF hi) rfl) (aD.run II 4 rfl (aD.nil (by kernel_rfl) (Kept.now (aC.cond rfl (fun hc3 => ?_) (fun hc3 => ?_)))))))))))
   ·exact aC.region (aB.run II 4 rfl (aB.nil (aC.region (aB.run II 3 rfl (aB.kept (Kept.aY 5 rfl (inc (by omega)) (Kept.aJ [.s 5, .b 2, .h, .s 2, .s 3, .b 3, .s 4, .b 4] rfl (by decide) (Kept.now ⟨(i + 1, _), by dsimp only; omega, by dsimp only; rw [vK hi]; simp_all, rfl⟩))))))))
   ·exact aC.skip (aC.region (aB.run II 3 rfl (aB.kept (Kept.aY 5 rfl (inc (by omega)) (Kept.aJ [.s 5, .b 2, .h, .s 2, .s 3, .b 3, .s 4, .b 4] rfl (by decide) (Kept.now ⟨(i + 1, _), by dsimp only; omega, by dsimp only; rw [vK hi]; simp_all, rfl⟩))))))
  ·have hi := dE hc2
   exact aC.exit (aC.seq (aC.region (aB.run II 2 rfl (aB.nil (aC.ret ⟨.inr rfl, (aE.r1 rfl (.cell kN rfl rfl rfl rfl .nil)).cast (congrArg ag.av (Cx (by simpa using hc1) (by omega) hI)), rfl⟩)))))
 ·refine aC.skip (aC.seq (aC.seq (aC.region (aB.run II 5 rfl (aB.nil (aC.cond rfl (fun hc4 => ?_) (fun hc4 => ?_)))))))
  ·exact aC.seq (aC.region (aB.run II 2 rfl (aB.nil (aC.ret ⟨.inr rfl, (aE.r1 rfl (.cell kN rfl rfl rfl rfl .nil)).cast (congrArg ag.av (show f = x.changed f by simp_all [aS.changed])), rfl⟩))))
  ·refine aC.skip (aC.seq (aC.seq (aC.region (aB.run II 3 rfl (aB.nil (aC.cond rfl (fun hc5 => ?_) (fun hc5 => ?_)))))))
   ·refine aC.region (aB.run II 4 rfl (aB.nil (aC.seq (aC.seq (aC.region (aB.run II 3 rfl (aB.nil (aC.cond rfl (fun hc6 => ?_) (fun hc6 => ?_)))))))))
    ·exact aC.region (aB.run II 4 rfl (aB.nil (aC.seq (aC.region (aB.run II 2 rfl (aB.nil (aC.ret ⟨.inr rfl, (aE.r1 rfl (.cell kN rfl rfl rfl rfl .nil)).cast (by first | exact congrArg ag.av (show ({ f with name := x.dest } : ag) = x.changed f by simp_all [aS.changed]) | exact congrArg ag.av (show ({ f with ty := x.ty } : ag) = x.changed f by simp_all [aS.changed]) | exact congrArg ag.av (show f = x.changed f by simp_all [aS.changed]) | (exfalso; simp_all)), rfl⟩)))))))
    ·exact aC.skip (aC.seq (aC.region (aB.run II 2 rfl (aB.nil (aC.ret ⟨.inr rfl, (aE.r1 rfl (.cell kN rfl rfl rfl rfl .nil)).cast (by first | exact congrArg ag.av (show ({ f with name := x.dest } : ag) = x.changed f by simp_all [aS.changed]) | exact congrArg ag.av (show ({ f with ty := x.ty } : ag) = x.changed f by simp_all [aS.changed]) | exact congrArg ag.av (show f = x.changed f by simp_all [aS.changed]) | (exfalso; simp_all)), rfl⟩)))))
   ·refine aC.skip (aC.seq (aC.seq (aC.region (aB.run II 3 rfl (aB.nil (aC.cond rfl (fun hc7 => ?_) (fun hc7 => ?_)))))))
    ·exact aC.region (aB.run II 4 rfl (aB.nil (aC.seq (aC.region (aB.run II 2 rfl (aB.nil (aC.ret ⟨.inr rfl, (aE.r1 rfl (.cell kN rfl rfl rfl rfl .nil)).cast (by first | exact congrArg ag.av (show ({ f with name := x.dest } : ag) = x.changed f by simp_all [aS.changed]) | exact congrArg ag.av (show ({ f with ty := x.ty } : ag) = x.changed f by simp_all [aS.changed]) | exact congrArg ag.av (show f = x.changed f by simp_all [aS.changed]) | (exfalso; simp_all)), rfl⟩)))))))
    ·exact aC.skip (aC.seq (aC.region (aB.run II 2 rfl (aB.nil (aC.ret ⟨.inr rfl, (aE.r1 rfl (.cell kN rfl rfl rfl rfl .nil)).cast (by first | exact congrArg ag.av (show ({ f with name := x.dest } : ag) = x.changed f by simp_all [aS.changed]) | exact congrArg ag.av (show ({ f with ty := x.ty } : ag) = x.changed f by simp_all [aS.changed]) | exact congrArg ag.av (show f = x.changed f by simp_all [aS.changed]) | (exfalso; simp_all)), rfl⟩)))))
def kS (names : List aw) (f : ag) : Bool := !(names.any fun n => f.name == n)
theorem rk {names : List aw} {f : ag} {k : Nat} (hk : k < names.length) : (names.take (k + 1)).any (fun n => f.name == n) = ((names.take k).any (fun n => f.name == n) || f.name == names[k]) := by
 have e : names.take (k + 1) = names.take k ++ [names[k]] := by rw [List.take_add_one, List.getElem?_eq_getElem hk]; rfl
 rw [e, List.any_append]; simp
/- Plain laws: the parts that a migration is lowered to, as the document says it. No condition. -/
structure Port where
 f : ag
 reg : Int
 part : Int
 deriving DecidableEq, Inhabited
def Port.cells (x : Port) : List AV := x.f.cells ++ [.int .i64 x.reg, .int .i64 x.part]
def Port.av (x : Port) : AV := .agg x.cells
structure fQ where
 kind : Int
 a : Int
 b : Int
 c : Int
 src : Int
 dst : Int
 lo : Int
 hi : Nat
 part : Int
 aI : List Int
 dv : bD
def jx : fQ := ⟨0, 0, 0, 0, 0, 0, 0, 0, 0, [], .mk 0 [] []⟩
def fQ.cells (x : fQ) : List AV := [.int .i64 x.kind, .int .i64 x.a, .int .i64 x.b, .int .i64 x.c, .int .i64 x.src, .int .i64 x.dst, .int .i64 x.lo, .int .u64 (x.hi : Int), .int .i64 x.part, .sl (x.aI.map jj)] ++ x.dv.cells
def fQ.av (x : fQ) : AV := .agg x.cells
structure ak where
 name : aw
 ins : List Port
 ops : List fQ
 outs : List Port
 aI : Int
 ever : List Int
 born : Bool
def cr : ak := ⟨[], [], [], [], 0, [], false⟩
def ak.cells (x : ak) : List AV := [.str x.name, .sl (x.ins.map Port.av), .sl (x.ops.map fQ.av), .sl (x.outs.map Port.av), .int .i64 x.aI, .sl (x.ever.map jj), .bool x.born]
def ak.av (x : ak) : AV := .agg x.cells
def iU (t : Int) : Int × Nat :=
 if cK t = false then (0, 0)
 else if dw t && gK t then (-9223372036854775808, 9223372036854775807)
 else if dw t then (-2147483648, 2147483647)
 else if gK t then (0, 18446744073709551615)
 else (0, 4294967295)
def pq (a b : Int) : Int × Nat := (max (iU a).1 (iU b).1, min (iU a).2 (iU b).2)
def e8 (l : List Int) (n : Int) : List Int :=
 let at_ := l.length - cV (fun y => decide (y ≥ n)) l
 if l[at_]? = some n then l else eT l at_ n
def cR (p : ak) : ak := { p with ever := p.outs.foldl (fun l x => e8 l x.f.num) p.ever }
def j8 (s : aN) (f : ag) (k : Nat) : Port := ⟨f, k, if f.ty = 15 then s.bJ f.ref else -1⟩
def bU (s : aN) (m : aT) : List Port := m.fields.zipIdx.map fun (f, k) => j8 s f k
def bm (s : aN) : List ak := s.msgs.map fun m => cR { cr with name := m.name, ins := bU s m, outs := bU s m, aI := m.fields.length }
def bg (l : List Port) (name : aw) : Int := bS (fun x : Port => x.f.name == name) l 0
def hZ : Port := ⟨eF, 0, 0⟩
def aP (l : List Port) (name : aw) : Port := (l.find? fun x => x.f.name == name).getD hZ
def aW (l : List Port) (name : aw) : List Port := l.filter fun x => !(x.f.name == name)
def ba (l : List Port) (x : Port) : List Port := c6 (fun y => decide (y.f.num > x.f.num)) x l
def dB (name : aw) (num ty reg : Int) : Port := ⟨{ eF with name := name, num := num, ty := ty }, reg, -1⟩
def aQ (p : ak) (x : aS) : ak :=
 let f := aP p.outs x.field
 let n := p.aI
 if x.kind = 1 then { p with outs := ba (aW p.outs x.field) { f with f := { f.f with name := x.dest } } }
 else if x.kind = 2 then { p with outs := ba (aW p.outs x.field) { f with f := { f.f with num := x.num } } }
 else if x.kind = 3 then { p with ops := p.ops ++ [{ jx with kind := 1, a := f.reg, src := f.f.ty, dst := x.ty, lo := (pq f.f.ty x.ty).1, hi := (pq f.f.ty x.ty).2 }], outs := ba (aW p.outs x.field) { f with f := { f.f with ty := x.ty } } }
 else if x.kind = 4 then { p with ops := p.ops ++ [{ jx with kind := 2, a := f.reg, b := n, c := n + 1 }], aI := n + 2, outs := ba (ba (aW p.outs x.field) (dB x.dest x.num 3 n)) (dB x.also x.other 3 (n + 1)) }
 else if x.kind = 5 then { p with ops := p.ops ++ [{ jx with kind := 3, a := f.reg, b := (aP (aW p.outs x.field) x.also).reg, c := n }], aI := n + 1, outs := ba (aW (aW p.outs x.field) x.also) (dB x.dest x.num 4 n) }
 else if x.kind = 8 then { p with ops := p.ops ++ [{ jx with kind := 6, aI := x.names.map fun s => (aP p.outs s).reg }], outs := p.outs.map fun y => if x.names.any (fun s => s == y.f.name) then { y with f := { y.f with one := x.field } } else y }
 else if x.kind = 9 then { p with ops := p.ops ++ [{ jx with kind := 7, a := n, dv := x.dv }], aI := n + 1, outs := ba p.outs (dB x.field x.num x.ty n) }
 else { p with outs := aW p.outs x.field }
def bZ (all : List ak) (at_ : Nat) (x : aS) : List ak :=
 let p := all.getD at_ cr
 let f := aP p.outs x.field
 let n := p.aI
 if x.kind = 6 then
  let i : Port := { f with reg := 0 }
  let w := cR { cr with name := x.dest, born := true, aI := 1, ins := [i], outs := [i] }
  let g : Port := ⟨{ eF with name := x.also, num := x.num, ty := 15, ref := x.dest }, n, all.length⟩
  (all ++ [w]).set at_ { p with ops := p.ops ++ [{ jx with kind := 4, a := f.reg, b := n, part := all.length }], aI := n + 1, outs := ba (aW p.outs x.field) g }
 else if x.kind = 7 then
  let g : Port := { ((all.getD f.part.toNat cr).outs.headD hZ) with reg := n }
  all.set at_ { p with ops := p.ops ++ [{ jx with kind := 5, a := f.reg, b := n, part := f.part }], aI := n + 1, outs := ba (aW p.outs x.field) g }
 else all.set at_ (aQ p x)
def eM (names : List aw) (s : aw) : Nat := names.length - 1 - (names.reverse.findIdx (· == s))
structure gR where
 all : List ak
 names : List aw
def gR.step (w : gR) (x : aS) : gR :=
 let at_ := eM w.names x.msg
 let names := if x.kind = 7 then w.names.set (aP (w.all.getD at_ cr).outs x.field).part.toNat [] else w.names
 let all := bZ w.all at_ x
 ⟨all.set at_ (cR (all.getD at_ cr)), if x.kind = 6 then names ++ [x.dest] else names⟩
def lower (s : aN) (l : List aS) : List ak := (l.foldl gR.step ⟨bm s, s.msgs.map (·.name)⟩).all
/- Plain laws: lists that rise: there is one for each set. No condition. -/
theorem mD {α : Type} (p : α → Bool) : ∀ l : List α, cV p l ≤ l.length
 | [] => Nat.le_refl _
 | a :: l => by
  unfold cV
  have := mD p l
  split <;> simp <;> omega
theorem kh {α : Type} (p : α → Bool) : ∀ l : List α, ∀ x ∈ l.drop (l.length - cV p l), p x = true
 | [], x, h => by simp at h
 | a :: l, x, h => by
  have ih := kh p l
  have hle := mD p l
  unfold cV at h
  split at h
  ·rename_i hc
   simp only [List.length_cons, Nat.sub_self, List.drop_zero, List.mem_cons] at h
   rcases h with rfl | h
   ·exact hc.2
   ·rw [hc.1, Nat.sub_self] at ih
    exact ih x (by simpa using h)
  ·have e : (a :: l).length - cV p l = (l.length - cV p l) + 1 := by simp; omega
   rw [e, List.drop_succ_cons] at h
   exact ih x h
theorem j3 {α : Type} (p : α → Bool) : ∀ (l : List α) (i : Nat), i + 1 = l.length - cV p l → ∀ x, l[i]? = some x → p x = false
 | [], i, h, x, hx => by simp at hx
 | a :: l, i, h, x, hx => by
  have ih := j3 p l
  have hle := mD p l
  unfold cV at h
  split at h
  ·simp at h
  ·rename_i hc
   cases i with
   | zero =>
    simp at h hx
    subst hx
    have : cV p l = l.length := by omega
    cases hp : p a with
    | false => rfl
    | true => exact absurd ⟨this, hp⟩ hc
   | succ i =>
    simp at h
    exact ih i (by omega) x (by simpa using hx)
theorem lb {α : Type} (l : List α) (k : Nat) (x : α) : (eT l k x).Perm (x :: l) := by
 unfold eT
 have h := List.perm_middle (a := x) (l₁ := l.take k) (l₂ := l.drop k)
 rwa [List.take_append_drop] at h
theorem eD {α : Type} (p : α → Bool) (x : α) (l : List α) : (c6 p x l).Perm (x :: l) := lb _ _ _
theorem kX {α : Type} (f : List α → α → List α) (hf : ∀ acc x, (f acc x).Perm (x :: acc)) : ∀ (l acc : List α), (l.foldl f acc).Perm (l ++ acc)
 | [], acc => List.Perm.refl _
 | x :: l, acc => by
  rw [List.foldl_cons]
  exact (kX f hf l (f acc x)).trans (((hf acc x).append_left l).trans List.perm_middle)
theorem fx {α : Type} (gt : α → α → Bool) (l : List α) : (bL gt l).Perm l := by
 have := kX (fun acc x => c6 (fun y => gt y x) x acc) (fun acc x => eD _ _ _) l []
 simpa [bL] using this
def cy {α : Type} (k : α → Int) (l : List α) : Prop := l.Pairwise fun a b => k a < k b
theorem pJ : ∀ {l : List Int}, ek l = true → l.Pairwise (· < ·)
 | [], _ => List.Pairwise.nil
 | [a], _ => List.pairwise_singleton _ _
 | a :: b :: l, h => by
  simp only [ek, Bool.and_eq_true, decide_eq_true_eq] at h
  have ih := pJ h.2
  refine List.pairwise_cons.2 ⟨fun c hc => ?_, ih⟩
  rcases List.mem_cons.1 hc with rfl | hc
  ·exact h.1
  ·exact Int.lt_trans h.1 ((List.pairwise_cons.1 ih).1 c hc)
theorem cy.uX {α : Type} {k : α → Int} {l : List α} (h : ek (l.map k) = true) : cy k l := List.pairwise_map.1 (pJ h)
theorem cy.filter {α : Type} {k : α → Int} {l : List α} (h : cy k l) (p : α → Bool) : cy k (l.filter p) := List.Pairwise.filter p h
theorem cy.unique {α : Type} {k : α → Int} : ∀ {l m : List α}, cy k l → cy k m → l.Perm m → l = m
 | [], m, _, _, h => by rw [List.nil_perm.1 h]
 | a :: l, [], _, _, h => by have := h.length_eq; simp at this
 | a :: l, b :: m, h1, h2, h => by
  obtain ⟨p1, p2⟩ := List.pairwise_cons.1 h1
  obtain ⟨q1, q2⟩ := List.pairwise_cons.1 h2
  have hab : a = b := by
   have ha : a ∈ b :: m := h.mem_iff.1 (List.mem_cons_self ..)
   have hb : b ∈ a :: l := h.mem_iff.2 (List.mem_cons_self ..)
   rcases List.mem_cons.1 ha with e | ha
   ·exact e
   ·rcases List.mem_cons.1 hb with e | hb
    ·exact e.symm
    ·have := q1 a ha
     have := p1 b hb
     omega
  subst hab
  rw [cy.unique p2 q2 (List.Perm.cons_inv h)]
theorem cy.ins {α : Type} {k : α → Int} {l : List α} (h : cy k l) {x : α} (hx : ∀ y ∈ l, k y ≠ k x) : cy k (c6 (fun y => decide (k y > k x)) x l) := by
 have hle := mD (fun y => decide (k y > k x)) l
 have hall := kh (fun y => decide (k y > k x)) l
 have hstop := j3 (fun y => decide (k y > k x)) l
 unfold c6 eT
 generalize hn : l.length - cV (fun y => decide (k y > k x)) l = n at hall hstop ⊢
 have hlow : ∀ y ∈ l.take n, k y < k x := by
  intro y hy
  obtain ⟨i, hi⟩ := List.mem_iff_getElem?.1 hy
  rw [List.getElem?_take] at hi
  split at hi
  ·rename_i hin
   have hlen : n ≤ l.length := by omega
   have hl : n - 1 < l.length := by omega
   have hz := hstop (n - 1) (by omega) l[n - 1] (List.getElem?_eq_getElem hl)
   have hne := hx l[n - 1] (List.getElem_mem hl)
   have hle2 : k l[n - 1] < k x := by
    have : ¬ k l[n - 1] > k x := of_decide_eq_false hz
    omega
   have hi2 := (List.getElem?_eq_some_iff.1 hi)
   obtain ⟨hil, rfl⟩ := hi2
   rcases Nat.lt_or_ge i (n - 1) with h1 | h1
   ·have := List.pairwise_iff_getElem.1 h i (n - 1) hil hl h1
    omega
   ·have : i = n - 1 := by omega
    subst this; exact hle2
  ·cases hi
 have hp : (l.take n ++ l.drop n).Pairwise fun a b => k a < k b := by rw [List.take_append_drop]; exact h
 obtain ⟨r1, r2, r3⟩ := List.pairwise_append.1 hp
 refine List.pairwise_append.2 ⟨r1, List.pairwise_cons.2 ⟨fun y hy => of_decide_eq_true (hall y hy), r2⟩, fun a ha b hb => ?_⟩
 rcases List.mem_cons.1 hb with rfl | hb
 ·exact hlow a ha
 ·exact r3 a ha b hb
theorem tl {α : Type} {k : α → Int} {l : List α} (h : cy k l) : cy k (bL (fun y x => decide (k y > k x)) l) → bL (fun y x => decide (k y > k x)) l = l := fun h2 => cy.unique h2 h (fx _ _)
theorem qL {α : Type} {k : α → Int} : ∀ (l acc : List α), cy k acc → (l ++ acc).Pairwise (fun a b => k a ≠ k b) → cy k (l.foldl (fun acc x => c6 (fun y => decide (k y > k x)) x acc) acc)
 | [], acc, h, _ => h
 | x :: l, acc, h, hn => by
  rw [List.foldl_cons]
  have hx : ∀ y ∈ acc, k y ≠ k x := fun y hy e => by
   have := (List.pairwise_cons.1 (show (x :: (l ++ acc)).Pairwise _ from hn)).1 y (List.mem_append_right l hy)
   exact this e.symm
  refine qL l _ (h.ins hx) ?_
  have hp : (l ++ c6 (fun y => decide (k y > k x)) x acc).Perm (x :: l ++ acc) := ((eD _ x acc).append_left l).trans List.perm_middle
  exact (hp.pairwise_iff (fun h e => h e.symm)).2 hn
/- the document: a place in a list of names that rises. -/
structure xI (l : List aw) (from_ : Nat) (s : aw) (j : Int) : Prop where
 ex : ∃ i : Nat, j = (i : Int) ∧ l.length - cV (fun t => D3 t s) l ≤ i ∧ i ≤ l.length ∧ (i = l.length ∨ from_ ≤ i)
theorem xI.start {l : List aw} {f : Nat} {s : aw} : xI l f s (l.length : Int) := ⟨l.length, rfl, by omega, Nat.le_refl _, .inl rfl⟩
theorem xI.nn {l : List aw} {f : Nat} {s : aw} {j : Int} (h : xI l f s j) : 0 ≤ j ∧ j ≤ (l.length : Int) := by
 obtain ⟨i, rfl, _, h, _⟩ := h.ex
 omega
theorem xI.step {l : List aw} {f : Nat} {s : aw} {j : Int} (h : xI l f s j) (hf : (f : Int) < j) {x : aw} (hx : l[(j - 1).toNat]? = some x) (hp : D3 x s = true) : xI l f s (j - 1) := by
 obtain ⟨i, rfl, h1, h2, h3⟩ := h.ex
 have e : ((i : Int) - 1).toNat = i - 1 := by omega
 rw [e] at hx
 refine ⟨i - 1, by omega, ?_, by omega, .inr (by omega)⟩
 rcases Nat.lt_or_ge (i - 1) (l.length - cV (fun t => D3 t s) l) with q | q
 ·have := j3 (fun t => D3 t s) l (i - 1) (by omega) x hx
  rw [hp] at this; cases this
 ·exact q
theorem xI.low {l : List aw} {f : Nat} {s : aw} {j : Int} (h : xI l f s j) (hf : ¬ (f : Int) < j) : j = (dm l f s : Int) := by
 obtain ⟨i, rfl, h1, h2, h3⟩ := h.ex
 unfold dm
 split <;> omega
theorem xI.stop {l : List aw} {f : Nat} {s : aw} {j : Int} (h : xI l f s j) (hf : (f : Int) < j) {x : aw} (hx : l[(j - 1).toNat]? = some x) (hp : D3 x s = false) : j = (dm l f s : Int) := by
 obtain ⟨i, rfl, h1, h2, h3⟩ := h.ex
 have e : ((i : Int) - 1).toNat = i - 1 := by omega
 rw [e] at hx
 have hT : i ≤ l.length - cV (fun t => D3 t s) l := by
  apply Classical.byContradiction
  intro hn
  have hm : x ∈ l.drop (l.length - cV (fun t => D3 t s) l) := by
   refine List.mem_iff_getElem?.2 ⟨i - 1 - (l.length - cV (fun t => D3 t s) l), ?_⟩
   rw [List.getElem?_drop, ← hx]
   congr 1; omega
  have := kh (fun t => D3 t s) l x hm
  rw [hp] at this; cases this
 unfold dm
 split <;> omega
def LW (l : List aw) (j : Int) : aw := l.getD (j - 1).toNat []
theorem wD {l : List aw} {f : Nat} {s : aw} {j : Int} (h : xI l f s j) (hf : (f : Int) < j) : l[(j - 1).toNat]? = some (LW l j) := by
 have hn := h.nn
 unfold LW
 rw [List.getD_eq_getElem?_getD, List.getElem?_eq_getElem (show (j - 1).toNat < l.length by omega)]; rfl
theorem Ji {l : List aw} {f : Nat} {s : aw} {j : Int} (hl : l.length ≤ 1000000) (h : xI l f s j) (hf : (f : Int) < j) : (l.map AV.str)[(IntKind.i64.wrap (j - 1)).toNat]? = some (.str (LW l j)) := by
 have hn := h.nn
 rw [eL (by omega) (by omega), List.getElem?_map, wD h hf]; rfl
theorem xc (l : List aw) (f : Nat) (s : aw) (hl : l.length ≤ 1000000) : Pure Tryz.prog 126 [.sl (l.map .str), .int .i64 (f : Int), .str s] (.int .i64 (dm l f s : Int)) := by
 refine Pure.aL Tryz.func126 rfl rfl (aF rfl) fun H => (aC.seq (aC.region (aB.run II 1 rfl (aB.nil (aC.seq (aC.region (aB.run II 3 rfl (aB.nil (aC.seq (aC.blk (aC.aK (Kept.aJ [.s 7, .h, .s 0, .s 1, .s 2] rfl (by decide) (Kept.now (aC.aX (fun (j : Int) => [(.s 7, .sv (.v (.int .i64 j)))]) _ (fun (j : Int) => xI l f s j) (fun (j : Int) => j.toNat) ((l.map AV.str).length : Int) rfl (by rw [List.length_map]; exact xI.start) ?_))))))))))))))
 rintro j hI
 have hnn := hI.nn
 refine aC.seq (aC.seq (aC.region (aB.run II 4 rfl (aB.tell (d := 13) rfl (fun hg1 => ?_) (fun hg1 => ?_)))))
 ·refine aB.run II 3 rfl (aB.g1 rfl (aF rfl) rfl rfl (aH (aF rfl) cD rfl rfl (by have := of_decide_eq_true hg1; rw [eL (by omega) (by omega)]; omega) (Ji hl hI (of_decide_eq_true hg1)) rfl) ?_)
  refine aB.run II 4 rfl (aB.nil (aC.cond rfl (fun hc2 => ?_) (fun hc2 => ?_)))
  ·exact aC.skip (aC.blk (aC.region (aB.run II 3 rfl (aB.kept (Kept.aJ [.s 7, .h, .s 0, .s 1, .s 2] rfl (by decide) (Kept.now ⟨_, by show (IntKind.i64.wrap (j - 1)).toNat < j.toNat; have := of_decide_eq_true hg1; rw [eL (by omega) (by omega)]; omega, by rw [eL (by have := of_decide_eq_true hg1; omega) (by omega)]; exact hI.step (of_decide_eq_true hg1) (wD hI (of_decide_eq_true hg1)) hc2, rfl⟩))))))
  ·exact aC.exit (aC.seq (aC.region (aB.run II 2 rfl (aB.nil (aC.ret ⟨.inr rfl, (aE.r1 rfl (.tmp rfl .nil)).cast (congrArg (AV.int .i64) (hI.stop (of_decide_eq_true hg1) (wD hI (of_decide_eq_true hg1)) hc2)), rfl⟩)))))
 ·exact aB.run II 8 rfl (aB.nil (aC.aZ rfl rfl (aC.exit (aC.seq (aC.region (aB.run II 2 rfl (aB.nil (aC.ret ⟨.inr rfl, (aE.r1 rfl (.tmp rfl .nil)).cast (congrArg (AV.int .i64) (hI.low (of_decide_eq_false hg1))), rfl⟩))))))))
/- Plain laws: what a schema that may be has; a message sorted. No condition. -/
theorem lI : ∀ {l : List ag}, cx l = 0 → ∀ f ∈ l, f.gC = 0
 | [], _, f, h => by simp at h
 | g :: l, h, f, hf => by
  unfold cx at h
  split at h
  ·rename_i hg
   rcases List.mem_cons.1 hf with rfl | hf
   ·exact hg
   ·exact lI h f hf
  ·rename_i hg; exact absurd h hg
theorem oA : ∀ {l : List aT}, ed l = 0 → ∀ m ∈ l, cx m.fields = 0
 | [], _, m, h => by simp at h
 | g :: l, h, m, hm => by
  unfold ed at h
  split at h
  ·rename_i hg
   rcases List.mem_cons.1 hm with rfl | hm
   ·exact hg
   ·exact oA h m hm
  ·rename_i hg; exact absurd h hg
structure aN.jd (s : aN) : Prop where
 sm : s.sm
 ne : 0 < s.msgs.length
 nd : (s.enums.map (·.name) ++ s.msgs.map (·.name)).Nodup
 nm : ∀ m ∈ s.msgs, aq m.name = true
 fn : ∀ m ∈ s.msgs, (m.fields.map (·.name)).Nodup
 fr : ∀ m ∈ s.msgs, cy (·.num) m.fields
 br : ∀ m ∈ s.msgs, cy id m.aj
 refs : ∀ m ∈ s.msgs, ∀ f ∈ m.fields, (f.ty = 14 → 0 ≤ s.eO f.ref) ∧ (f.ty = 15 → 0 ≤ s.bJ f.ref)
 fc : ∀ m ∈ s.msgs, ∀ f ∈ m.fields, f.gC = 0
theorem aN.ga {s : aN} (h : s.gC = 0) : s.jd := by
 unfold aN.gC at h
 split at h
 ·cases h
 rename_i h1
 split at h
 ·cases h
 rename_i h2
 split at h
 ·cases h
 rename_i h3
 split at h
 ·rename_i h4; exact absurd h h4
 rename_i h4
 split at h
 ·cases h
 rename_i h5
 split at h
 ·cases h
 rename_i h6
 split at h
 ·cases h
 rename_i h7
 split at h
 ·cases h
 rename_i h8
 have h1 : s.many = false := by simpa using h1
 have h2 : s.none = false := by simpa using h2
 have h3 : s.text = false := by simpa using h3
 have h4 : ed s.msgs = 0 := by simpa using h4
 have h5 : s.iR = false := by simpa using h5
 have h6 : s.order = false := by simpa using h6
 have h8 : s.refs = false := by simpa using h8
 simp only [aN.text, Bool.or_eq_false_iff, List.any_eq_false, Bool.not_eq_true, Bool.not_eq_false'] at h3
 simp only [aN.iR, Bool.or_eq_false_iff, List.any_eq_false, Bool.not_eq_true, Bool.not_eq_false'] at h5
 simp only [aN.order, Bool.or_eq_false_iff, List.any_eq_false, Bool.not_eq_true, Bool.not_eq_false'] at h6
 simp only [aN.refs, List.any_eq_false, Bool.not_eq_true, Bool.or_eq_false_iff, Bool.and_eq_false_iff, decide_eq_false_iff_not] at h8
 refine ⟨aN.GQ h1, (aN.xu h2).1, (uW _).1 h5.2, fun m hm => h3.2 m hm, fun m hm => ?_, fun m hm => ?_, fun m hm => ?_, fun m hm f hf => ?_, fun m hm f hf => lI (oA h4 m hm) f hf⟩
 ·have := h5.1.2 m hm
  simp only [aT.iR, Bool.or_eq_false_iff, Bool.not_eq_false'] at this
  exact (uW _).1 this.1
 ·have := h6.1.2 m hm
  simp only [aT.order, Bool.or_eq_false_iff, Bool.not_eq_false'] at this
  exact cy.uX this.1.1
 ·have := h6.1.2 m hm
  simp only [aT.order, Bool.or_eq_false_iff, Bool.not_eq_false'] at this
  exact cy.uX (k := id) (by rw [List.map_id]; exact this.1.2)
 ·have := h8 m hm f hf
  refine ⟨fun e => ?_, fun e => ?_⟩
  ·rcases this.1 with q | q
   ·exact absurd e q
   ·omega
  ·rcases this.2 with q | q
   ·exact absurd e q
   ·omega
theorem cy.ne {α : Type} {k : α → Int} {l : List α} (h : cy k l) : l.Pairwise fun a b => k a ≠ k b := h.imp fun h => by omega
theorem mI {α : Type} {k : α → Int} {l : List α} (h : l.Pairwise fun a b => k a ≠ k b) : cy k (bL (fun y x => decide (k y > k x)) l) := qL l [] List.Pairwise.nil (by simpa using h)
theorem ki {α : Type} {k : α → Int} {l : List α} (h : cy k l) : bL (fun y x => decide (k y > k x)) l = l := tl h (mI h.ne)
theorem aT.j4 {m : aT} (h1 : cy (·.num) m.fields) (h2 : cy id m.aj) : m.sort = m := by
 unfold aT.sort
 have e1 := ki h1
 have e2 := ki h2
 simp only [id] at e2
 rw [e1, e2]
theorem Dt {l m : List ag} (hm : cy (·.num) m) (hp : l.Perm m) : bL (fun y x : ag => decide (y.num > x.num)) l = m := by
 have hn : l.Pairwise fun a b => a.num ≠ b.num := (hp.pairwise_iff (fun h e => h e.symm)).2 hm.ne
 exact cy.unique (mI (k := fun f : ag => f.num) hn) hm ((fx _ _).trans hp)
theorem yB {α : Type} (nm : α → aw) {l : List α} (hn : (l.map nm).Nodup) {f : α} (hf : f ∈ l) {g : α → α} (hg : ∀ y ∈ l, nm y ≠ nm f → g y = y) : (l.map g).Perm (g f :: l.filter fun y => !(nm y == nm f)) := by
 induction l with
 | nil => cases hf
 | cons a l ih =>
  simp only [List.map_cons, List.nodup_cons] at hn
  rcases List.mem_cons.1 hf with rfl | hf
  ·have hall : ∀ y ∈ l, nm y ≠ nm f := fun y hy e => hn.1 (e ▸ List.mem_map_of_mem hy)
   rw [List.filter_cons_of_neg (by simp), List.filter_eq_self.2 (fun y hy => by simp [hall y hy]), List.map_cons]
   have : l.map g = l := by
    conv => rhs; rw [← List.map_id l]
    exact List.map_congr_left fun y hy => hg y (List.mem_cons_of_mem _ hy) (hall y hy)
   rw [this]
  ·have hne : nm a ≠ nm f := fun e => hn.1 (e ▸ List.mem_map_of_mem hf)
   rw [List.filter_cons_of_pos (by simp [hne]), List.map_cons, hg a (List.mem_cons_self ..) hne]
   exact ((ih hn.2 hf fun y hy => hg y (List.mem_cons_of_mem _ hy)).cons a).trans (List.Perm.swap _ _ _)
/-! ### the messages of a schema, sorted -/
theorem AD (acc : List aT) (m : aT) : (kU acc m).Perm (m.sort :: acc) := lb _ _ _
theorem qM : ∀ (l acc : List aT), (l.foldl kU acc).Perm (l.map aT.sort ++ acc)
 | [], acc => List.Perm.refl _
 | m :: l, acc => by
  rw [List.foldl_cons]
  exact (qM l (kU acc m)).trans (((AD acc m).append_left _).trans List.perm_middle)
theorem kC (s : aN) : s.sorted.msgs.Perm (s.msgs.map aT.sort) := by
 have := qM s.msgs []
 simpa [aN.sorted] using this
theorem AE {a m : aT} {acc : List aT} : (kU (a :: acc) m).head? = some a := by
 have : 1 ≤ dm ((a :: acc).map (·.name)) 1 m.name := by
  unfold dm
  split
  ·simp
  ·omega
 unfold kU eT
 rw [if_neg (by simp)]
 obtain ⟨k, hk⟩ : ∃ k, dm ((a :: acc).map (·.name)) 1 m.name = k + 1 := ⟨_, (Nat.sub_add_cancel this).symm⟩
 rw [hk]
 simp
theorem qN : ∀ (l : List aT) (a : aT) (acc : List aT), (l.foldl kU (a :: acc)).head? = some a
 | [], a, acc => rfl
 | m :: l, a, acc => by
  rw [List.foldl_cons]
  have h := AE (a := a) (m := m) (acc := acc)
  cases e : kU (a :: acc) m with
  | nil => rw [e] at h; cases h
  | cons b r =>
   rw [e] at h
   simp at h
   subst h
   exact qN l b r
theorem kD {s : aN} {m : aT} (h : s.msgs.head? = some m) : s.sorted.msgs.head? = some m.sort := by
 unfold aN.sorted
 cases e : s.msgs with
 | nil => rw [e] at h; cases h
 | cons a l =>
  rw [e] at h
  simp at h
  subst h
  rw [List.foldl_cons]
  exact qN l a.sort []
/- Plain laws: the parts of a migration are the messages of its schemas. No condition. -/
structure Fit (names : List aw) (p : ak) (m : aT) : Prop where
 rn : 0 ≤ p.aI
 outs : p.outs.map (·.f) = m.fields
 reg : ∀ x ∈ p.outs, 0 ≤ x.reg ∧ x.reg < p.aI
 dist : (p.outs.map (·.reg)).Nodup
 part : ∀ x ∈ p.outs, (x.f.ty = 15 → ∃ j : Nat, x.part = (j : Int) ∧ names[j]? = some x.f.ref) ∧ (x.f.ty ≠ 15 → x.part = -1)
structure Inv (t : aN) (w : gR) : Prop where
 len : w.names.length = w.all.length
 ok : t.jd
 root : w.names.head? = t.msgs.head?.map (·.name)
 uniq : ∀ (i j : Nat) n, w.names[i]? = some n → w.names[j]? = some n → n ≠ [] → i = j
 back : ∀ (i : Nat) n, w.names[i]? = some n → n ≠ [] → ∃ m ∈ t.msgs, m.name = n
 fwd : ∀ m ∈ t.msgs, ∃ (k : Nat) (p : ak), w.names[k]? = some m.name ∧ w.all[k]? = some p ∧ Fit w.names p m
theorem gb {s : aw} (h : aq s = true) : s ≠ [] := by
 intro e; subst e; revert h; decide
theorem sO {α : Type} (r : α) (at_ : Nat) : ∀ (l : List α) (n : Nat), (l.zipIdx n).filterMap (fun (a, i) => if i = n + at_ then some r else some a) = l.set at_ r
 | [], n => rfl
 | a :: l, n => by
  rw [List.zipIdx_cons, List.filterMap_cons]
  cases at_ with
  | zero =>
   simp only [Nat.add_zero, if_true, List.set_cons_zero]
   congr 1
   have : ∀ (l : List α) (k : Nat), n < k → (l.zipIdx k).filterMap (fun (a, i) => if i = n then some r else some a) = l := by
    intro l
    induction l with
    | nil => intros; rfl
    | cons b l ih =>
     intro k hk
     rw [List.zipIdx_cons, List.filterMap_cons]
     have hne : ¬ k = n := by omega
     simp only [hne, if_false]
     rw [ih (k + 1) (by omega)]
   exact this l (n + 1) (by omega)
  | succ k =>
   have hne : ¬ n = n + (k + 1) := by omega
   simp only [hne, if_false, List.set_cons_succ]
   congr 1
   rw [← sO r k l (n + 1)]
   congr 1
   funext ⟨b, i⟩
   simp only [show n + (k + 1) = n + 1 + k by omega]
theorem wL {s : aN} {x : aS} {at_ : Nat} {r : aT} {ref : aw} (h6 : x.kind ≠ 6) (h7 : x.kind ≠ 7) : x.msgs s at_ r ref = s.msgs.set at_ r := by
 unfold aS.msgs
 simp only [h6, h7, false_and, if_false, List.append_nil]
 have := sO r at_ s.msgs 0
 simp only [Nat.zero_add] at this
 exact this
theorem zm {s : aN} {x : aS} {at_ : Nat} {r : aT} {ref : aw} (h6 : x.kind = 6) : x.msgs s at_ r ref = s.msgs.set at_ r ++ [{ jz with name := x.dest, fields := [((s.msgs.getD at_ jz).aR x.field)] }] := by
 unfold aS.msgs
 have h7 : ¬ x.kind = 7 := by omega
 simp only [h6, if_true]
 simp only [show ¬ (6 : Int) = 7 by decide, false_and, if_false]
 congr 1
 have := sO r at_ s.msgs 0
 simp only [Nat.zero_add] at this
 exact this
structure cJ (s : aN) (x : aS) (t : aN) (m : aT) (at_ : Nat) : Prop where
 fP : s.jd
 Bl : t.jd
 rt : x.right = true
 lt : at_ < s.msgs.length
 eq : s.msgs[at_]? = some m
 nm : m.name = x.msg
 has : x.bu.all m.eU = true
 ask : x.asked s m = true
 th : x.there s { m with fields := bE m.fields x.goes } (x.comes s (m.aR x.field)) = false
 out : t = (⟨s.enums, x.msgs s at_ { m with fields := (bE m.fields x.goes).map x.changed ++ x.comes s (m.aR x.field) } (m.aR x.field).ref⟩ : aN).sorted
theorem ks {α : Type} (p : α → Bool) (l : List α) (h : ¬ bS p l 0 < 0) : ∃ (i : Nat) (hi : i < l.length), bS p l 0 = (i : Int) ∧ p l[i] = true := by
 rcases ao p l 0 with ⟨h1, _⟩ | ⟨i, hi, h1, h2⟩
 ·rw [h1] at h; omega
 ·exact ⟨i, hi, by simpa using h1, h2.2⟩
theorem jn {s : aN} {x : aS} {t : aN} (h : s.apply x = .ok t) : ∃ m at_, cJ s x t m at_ := by
 unfold aN.apply at h
 split at h
 ·cases h
 rename_i h1
 split at h
 ·cases h
 rename_i h2
 obtain ⟨i, hi, e, hn⟩ := ks _ _ h2
 have e' : s.bJ x.msg = (i : Int) := e
 have hget : s.msgs.getD i jz = s.msgs[i] := by rw [List.getD_eq_getElem?_getD, List.getElem?_eq_getElem hi]; rfl
 simp only [e', Int.toNat_natCast, hget] at h
 split at h
 ·cases h
 rename_i h3
 split at h
 ·cases h
 rename_i h4
 split at h
 ·cases h
 rename_i h5
 split at h
 ·cases h
 rename_i h6
 cases h
 have hc : s.gC = 0 ∧ x.right = true := by
  constructor
  ·exact Classical.byContradiction fun q => h1 (.inl q)
  ·cases hr : x.right with
   | true => rfl
   | false => exact absurd (.inr hr) h1
 refine ⟨s.msgs[i], i, aN.ga hc.1, aN.ga (by simpa using h6), hc.2, hi, List.getElem?_eq_getElem hi, by simpa using hn, by simpa using h3, by simpa using h4, by simpa using h5, rfl⟩
theorem fL {m : aT} {n : aw} (h : m.eU n = true) : m.aR n ∈ m.fields ∧ (m.aR n).name = n := by
 unfold aT.eU at h
 obtain ⟨f, hf, hn⟩ := List.any_eq_true.1 h
 unfold aT.aR
 cases e : m.fields.find? (fun f => f.name == n) with
 | none => exact absurd hn (by simpa using List.find?_eq_none.1 e f hf)
 | some g => exact ⟨List.mem_of_find?_eq_some e, by simpa using List.find?_some e⟩
theorem fY {l : List Port} {fs : List ag} (ho : l.map (·.f) = fs) {n : aw} (h : ∃ f ∈ fs, f.name = n) : aP l n ∈ l ∧ (aP l n).f = ((fs.find? fun f => f.name == n).getD eF) ∧ (aP l n).f.name = n := by
 subst ho
 obtain ⟨f, hf, hn⟩ := h
 obtain ⟨y, hy, rfl⟩ := List.mem_map.1 hf
 unfold aP
 rw [List.find?_map]
 cases e : l.find? (fun x => x.f.name == n) with
 | none => exact absurd hn (by simpa using List.find?_eq_none.1 e y hy)
 | some g =>
  have e2 : l.find? ((fun f => f.name == n) ∘ fun x : Port => x.f) = some g := e
  rw [e2]
  exact ⟨List.mem_of_find?_eq_some e, rfl, by simpa using List.find?_some e⟩
theorem eC (l : List Port) (x : Port) : (ba l x).map (·.f) = c6 (fun y : ag => decide (y.num > x.f.num)) x.f (l.map (·.f)) := by
 have ht : ∀ l : List Port, cV (fun y : Port => decide (y.f.num > x.f.num)) l = cV (fun y : ag => decide (y.num > x.f.num)) (l.map (·.f)) := by
  intro l
  induction l with
  | nil => rfl
  | cons a l ih => simp only [cV, List.map_cons, ih, List.length_map]
 unfold ba c6 eT
 rw [List.map_append, List.map_cons, List.map_take, List.map_drop, List.length_map, ht]
theorem cl (l : List Port) (n : aw) : (aW l n).map (·.f) = (l.map (·.f)).filter fun f => !(f.name == n) := by
 unfold aW
 rw [List.filter_map]
 rfl
theorem qx {l : List Port} {x y : Port} (h : y ∈ ba l x) : y = x ∨ y ∈ l := by
 have := (eD (fun y : Port => decide (y.f.num > x.f.num)) x l).mem_iff.1 h
 simpa using this
theorem vW (l : List Port) (x : Port) : (ba l x).Perm (x :: l) := eD _ _ _
end Go.Proofs.YtlijgcifhhcfaaaGreatDoor.X
