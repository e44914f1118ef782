/- unicode/utf8.ValidString: the library's contract laid at this program. No condition. -/
import Derived.Test.YtgmdapgedlachaaGreatDoorZFE
import Derived.Shelf.Unicode.ValidAny
import Derived.Test.YtgmdapgedlachaaGreatDoorZFD
namespace Go.Proofs
open Go.Shelf
def Tryz.sj : Go.Shelf.Ren := ⟨fun | 196 => 136 | 259 => 170 | n => n, fun | 0 => 0 | 3 => 3 | 4 => 4 | 5 => 5 | 9 => 9 | 12 => 12 | 46 => 223 | 53 => 79 | 119 => 240 | 138 => 242 | 139 => 243 | n => n, fun | 3 => 0 | 4 => 1 | n => n⟩
theorem Tryz.Fl : Go.Proofs.Lays.n196 Tryz.prog Tryz.sj := {
 mixed := by kernel_rfl
 f196 := Tryz.func136.trans (congrArg some (by kernel_rfl))
 f259 := Tryz.func170.trans (congrArg some (by kernel_rfl))
 t0 := Tryz.underlying0
 a0 := Tryz.isAgg0
 z0 := Tryz.sizeOf0
 v0 := Tryz.zeroValue0
 t3 := Tryz.underlying3
 a3 := Tryz.isAgg3
 z3 := Tryz.sizeOf3
 v3 := Tryz.zeroValue3
 t4 := Tryz.underlying4
 a4 := Tryz.isAgg4
 z4 := Tryz.sizeOf4
 v4 := Tryz.zeroValue4
 t5 := Tryz.underlying5
 a5 := Tryz.isAgg5
 z5 := Tryz.sizeOf5
 v5 := Tryz.zeroValue5
 t9 := Tryz.underlying9
 a9 := Tryz.isAgg9
 z9 := Tryz.sizeOf9
 v9 := Tryz.zeroValue9
 t12 := Tryz.underlying12
 a12 := Tryz.isAgg12
 z12 := Tryz.sizeOf12
 v12 := Tryz.zeroValue12
 t46 := Tryz.underlying223
 a46 := Tryz.isAgg223
 z46 := Tryz.sizeOf223
 v46 := Tryz.zeroValue223
 t53 := Tryz.underlying79
 a53 := Tryz.isAgg79
 z53 := Tryz.sizeOf79
 v53 := Tryz.zeroValue79
 t119 := Tryz.underlying240
 a119 := Tryz.isAgg240
 z119 := Tryz.sizeOf240
 t138 := Tryz.underlying242
 a138 := Tryz.isAgg242
 z138 := Tryz.sizeOf242
 v138 := Tryz.zeroValue242
 t139 := Tryz.underlying243
 a139 := Tryz.isAgg243
 z139 := Tryz.sizeOf243
 v139 := Tryz.zeroValue243
 g3 := by kernel_rfl
 g4 := by kernel_rfl }
end Go.Proofs
namespace Go.Proofs.YtgmdapgedlachaaGreatDoor.X
open Go Go.RowKit Go.Proofs
theorem xK (s : aw) (hs : s.length ≤ 9223372036854775807) : Pure Tryz.prog 136 [.str s] (.bool (Lib.validD s)) :=
 Pure.FT fun G w cargs hg hn hk hV => by
  obtain ⟨x, rfl, hx⟩ := hV.one
  have e := hx.yp
  subst e
  refine (Any.utf8_ValidString Tryz.Fl ⟨s.toArray⟩ w (by simpa [ByteArray.size] using hs) (M0 hg)).mono ?_
  rintro e w' ⟨rfl, hb⟩
  exact ⟨_, rfl, .bool _, hb⟩
set_option linter.unusedVariables false
set_option linter.unusedSimpArgs false
set_option linter.unusedSectionVars false
set_option maxRecDepth 100000
theorem uy : Tryz.prog.underlying 284 = some (TypeDesc.map 9 3) := Tryz.underlying284
theorem Dn : Tryz.prog.underlying 3 = some (TypeDesc.int IntKind.i64) := Tryz.underlying3
theorem Jm : ∀ w, (zeroValue 3).run Tryz.prog w = .ok (.int .i64 0) w := fun w => by kernel_rfl
theorem KA (s : aL) (f : ae) (v : bF) (hvs : v.s.length ≤ 9223372036854775807) (ih : ∀ u ∈ v.m, ∀ name : aw, Pure Tryz.prog 203 [s.av, .str name, .agg u.cells] (.bool (u.ok s name))) : Pure Tryz.prog 172 [s.av, f.av, .agg v.cells] (.bool (v.ok s f)) := by
 have hE := bF.ok_eq s f v
 have hT1 := @qF s f.ref v.m
 have hT0 := @rK s f.ref v.m
 refine Pure.gn 6 II mixed Tryz.func172 rfl rfl fun H => (aG.jn 999 999 [.h, .s 3, .b 3, .s 4, .b 4, .s 5, .b 5] (fun (pl : Bool) => [(.s 7, .sv (.v (.bool pl)))]) (fun (pl : Bool) => pl = (decide (v.n = 0) && decide (v.m.length = 0))) rfl ?_ ?_)
 ·refine aC (fun hg1 => ?_) (fun hg1 => ?_)
  ·exact .bc [.s 7, .h, .s 3, .b 3, .s 4, .b 4, .s 5, .b 5] rfl ⟨_, by grind, rfl⟩
  ·exact .bc [.s 7, .h, .s 3, .b 3, .s 4, .b 4, .s 5, .b 5] rfl ⟨_, by grind, rfl⟩
 ·rintro pl hF2
  refine aB.jc rfl (Fn rfl) rfl (Lg _) (aC (fun hc2 => ?_) (fun hc2 => ?_))
  ·refine aB.jc rfl (Fn rfl) rfl (NP _ _) (aC (fun hg3 => ?_) (fun hg3 => ?_))
   ·refine aC (fun hg4 => ?_) (fun hg4 => ?_)
    ·exact aN rfl rfl rfl (by grind [])
    ·exact aN rfl rfl rfl (by grind [])
   ·exact aN rfl rfl rfl (by grind [])
  ·refine aC (fun hc5 => ?_) (fun hc5 => ?_)
   ·refine aC (fun hg6 => ?_) (fun hg6 => ?_)
    ·exact aB.jc rfl (Fn rfl) rfl (xK _ hvs) (aN rfl rfl rfl (by grind []))
    ·exact aN rfl rfl rfl (by grind [])
   ·refine aC (fun hc7 => ?_) (fun hc7 => ?_)
    ·exact aN rfl rfl rfl (by grind [])
    ·refine aC (fun hc8 => ?_) (fun hc8 => ?_)
     ·refine ⟨rfl, (aC (fun hg9 => ?_) (fun hg9 => ?_))⟩
      ·refine aC (fun hg10 => ?_) (fun hg10 => ?_)
       ·refine aC (fun hg11 => ?_) (fun hg11 => ?_)
        ·exact aF.d1 rfl (ak (aH rfl) lQ rfl rfl (by decide) (dS (i := 0) Tree.bC (by grind)) rfl) (aF.d1 rfl (aX (aH rfl) (Fn rfl) rfl (ih _ (List.getElem_mem (by grind)) _)) ⟨by kernel_rfl, (aN rfl rfl rfl (by have hm1 : v.m.length = 1 := (by have h := hg11; simp at h; omega); have hq := hT1 hm1; have h0 : v.n = 0 := (by simpa using hg9); have hs0 : v.s = [] := (by simpa using hg10); have hty : f.ty = 15 := (by simpa using hc8); have hnt : pS 15 = false := (by decide); rw [hE, if_neg (by simp [hc2]), if_neg (by omega), if_neg (by omega), if_pos hty, hq, h0, hs0]; simp))⟩)
        ·exact ⟨by kernel_rfl, (aN rfl rfl rfl (by grind []))⟩
       ·exact ⟨by kernel_rfl, (aN rfl rfl rfl (by grind []))⟩
      ·exact ⟨by kernel_rfl, (aN rfl rfl rfl (by grind []))⟩
     ·exact aN rfl rfl rfl (by grind [])
theorem La (s : aL) (f : ae) (l : List bF) (hl : l.length ≤ 9223372036854775807) (hvs : ∀ v ∈ l, v.s.length ≤ 9223372036854775807) (ih : ∀ v ∈ l, ∀ u ∈ v.m, ∀ name : aw, Pure Tryz.prog 203 [s.av, .str name, .agg u.cells] (.bool (u.ok s name))) : Pure Tryz.prog 223 [s.av, f.av, .sl (l.map bF.av)] (.bool (decide (0 < l.length) && (f.rep || decide (l.length = 1)) && l.all fun v => v.ok s f && (!f.hidden || (!decide (v.n = 0) || !(v.s == []))))) := by
 refine Pure.gn 5 II mixed Tryz.func223 rfl rfl fun H => (aG.jn 999 999 [.h, .s 2, .s 3, .b 3, .s 4, .b 4] (fun (_ : Unit) => []) (fun (_ : Unit) => 0 < l.length ∧ (f.rep = true ∨ l.length = 1)) rfl ?_ ?_)
 ·refine aC (fun hg1 => ?_) (fun hg1 => ?_)
  ·exact aN rfl rfl rfl (by grind [])
  ·refine aC (fun hg2 => ?_) (fun hg2 => ?_)
   ·refine aC (fun hc3 => ?_) (fun hc3 => ?_)
    ·exact aN rfl rfl rfl (by grind [])
    ·exact .b0 rfl ⟨(), by grind, rfl⟩
   ·exact .b0 rfl ⟨(), by grind, rfl⟩
 ·rintro _ hF3
  refine aG.lq [.s 24, .h, .s 3, .b 3, .s 4, .b 4, .s 22, .s 23] (fun (i : Nat) => [(.s 24, .sv (.v (.int .i64 (i : Int))))]) (fun (i : Nat) => (l.drop i).all (fun v => v.ok s f && (!f.hidden || (!decide (v.n = 0) || !(v.s == [])))) = l.all (fun v => v.ok s f && (!f.hidden || (!decide (v.n = 0) || !(v.s == []))))) (fun (i : Nat) => l.length - i) 0 rfl rfl (by simp) ?_
  rintro i hI
  refine aC (fun hc4 => ?_) (fun hc4 => ?_)
  ·have hi := cz hc4
   have hS := iK (p := fun v : bF => v.ok s f && (!f.hidden || (!decide (v.n = 0) || !(v.s == [])))) hi
   refine aB.ii rfl ek rfl rfl (dS bF.bC hi) rfl (aB.jc rfl (Fn rfl) rfl (KA _ _ _ (hvs _ (List.getElem_mem hi)) (ih _ (List.getElem_mem hi))) (aC (fun hg5 => ?_) (fun hg5 => ?_)))
   ·exact aN rfl rfl rfl (by grind [])
   ·refine aB.jc rfl (Fn rfl) rfl (xN _) (aC (fun hg6 => ?_) (fun hg6 => ?_))
    ·refine aC (fun hg7 => ?_) (fun hg7 => ?_)
     ·refine aC (fun hc8 => ?_) (fun hc8 => ?_)
      ·exact aN rfl rfl rfl (by grind [])
      ·exact .b1 24 rfl (inc (by omega)) rfl ⟨i + 1, by omega, by grind, rfl⟩
     ·exact .b1 24 rfl (inc (by omega)) rfl ⟨i + 1, by omega, by grind, rfl⟩
    ·exact .b1 24 rfl (inc (by omega)) rfl ⟨i + 1, by omega, by grind, rfl⟩
  ·have hi := dA hc4
   have hS := lV (p := fun v : bF => v.ok s f && (!f.hidden || (!decide (v.n = 0) || !(v.s == [])))) hi
   exact aN rfl rfl rfl (by grind [])
theorem Ie (m : aU) (r : Rw) (hl : m.fields.length ≤ 1000) : Pure Tryz.prog 224 ([r.av] ++ [.kp m.cells]) (.bool (decide (0 ≤ m.at r.num))) := by
 exact Pure.go II mixed Tryz.func224 rfl rfl fun H => (aB.jc rfl (Fn rfl) rfl (xM _ _ (by omega)) ⟨.inr rfl, (aM.r1 rfl (.tmp rfl .nil)).cast rfl, rfl⟩)
theorem Lf (m : aU) (l : List Rw) (hl : l.length ≤ 9223372036854775807) (hm : m.fields.length ≤ 1000) : Pure Tryz.prog 217 [m.av, .sl (l.map Rw.av)] (.bool (l.all (dZ m))) := by
 refine Pure.gn 5 II mixed Tryz.func217 rfl rfl fun H => (aG.kept (Kept.zz 2 rfl rfl (Kept.now (aG.r 999 (aB.d1 rfl (lJ (aH rfl) rfl) (aG.lq [.s 11, .h, .s 5, .s 9, .s 10] (fun (i : Nat) => [(.s 11, .sv (.v (.int .i64 (i : Int))))]) (fun (i : Nat) => (l.drop i).all (dZ m) = l.all (dZ m)) (fun (i : Nat) => l.length - i) 0 rfl rfl (by simp) ?_))))))
 rintro i hI
 refine aC (fun hc1 => ?_) (fun hc1 => ?_)
 ·have hi := cz hc1
  have hS := iK (p := dZ m) hi
  have hA := m.kr (l[i]'hi).num
  refine aB.ii rfl n0 rfl rfl (ca hi) rfl (aB.jc rfl (Fn rfl) rfl (xL _) (aC (fun hg2 => ?_) (fun hg2 => ?_)))
  ·exact aN rfl rfl rfl (by grind [dZ])
  ·refine aB.d1 rfl (oP (aH rfl) (Fn rfl) rfl rfl (Ie m (l[i]'hi) hm)) (aC (fun hc3 => ?_) (fun hc3 => ?_))
   ·exact aN rfl rfl rfl (by grind [dZ])
   ·exact .b1 11 rfl (inc (by omega)) rfl ⟨i + 1, by omega, by grind [dZ], rfl⟩
 ·have hi := dA hc1
  have hS := lV (p := dZ m) hi
  exact aN rfl rfl rfl (by grind [dZ])
theorem Ib (s : aL) (m : aU) (l : List Slot) (hl : l.length ≤ 9223372036854775807) (hm : m.fields.length ≤ 1000) (ho : ∀ f ∈ m.fields, f.one.length ≤ 1000) (hvals : ∀ x ∈ l, ∀ f : ae, Pure Tryz.prog 223 [s.av, f.av, .sl (x.ag.map bF.av)] (.bool (decide (0 < x.ag.length) && (f.rep || decide (x.ag.length = 1)) && x.ag.all fun v => v.ok s f && (!f.hidden || (!decide (v.n = 0) || !(v.s == [])))))) : Pure Tryz.prog 216 [s.av, m.av, .sl (l.map Slot.av)] (.bool (dW s m l none [])) := by
 refine Pure.go II mixed Tryz.func216 rfl rfl fun H => (aB.d2 rfl (Lt (kt := 9) (et := 3) (aH rfl) rfl) (aG.lq [.s 15, .b 12, .h, .s 2, .s 3, .b 3, .s 4, .b 4, .s 7, .s 13, .s 14] (fun ((i, f) : Nat × (List UInt8 → Int)) => [(.s 15, .sv (.v (.int .i64 (i : Int)))), (.b 12, .raw (j9 Tryz.prog 9 3 i f))]) (fun ((i, f) : Nat × (List UInt8 → Int)) => (∀ key, f key = ((((l.take i).map m.oneOf).count key : Nat) : Int)) ∧ iv s m l i = dW s m l none []) (fun ((i, f) : Nat × (List UInt8 → Int)) => l.length - i) (0, fun _ => 0) rfl rfl ⟨by simp, oC s m l⟩ ?_))
 rintro ⟨i, f⟩ ⟨hf, hI⟩
 refine aC (fun hc1 => ?_) (fun hc1 => ?_)
 ·have hi := cz hc1
  have hS := @oD s m l i hi
  refine aB.ii rfl dU rfl rfl (dS Slot.bC hi) rfl (aB.jn 1 rfl (Fn rfl) rfl (xM _ _ (by omega)) (aG.jn 999 999 [.h, .s 2, .s 3, .b 3, .s 4, .b 4, .s 7, .b 12, .s 10, .s 13, .s 14, .s 15] (fun (_ : Unit) => []) (fun (_ : Unit) => decide (m.at (l[i]'hi).num < 0) = false ∧ (match l7 l i with | none => true | some n => decide (n < (l[i]'hi).num)) = true ∧ (l[i]'hi).ok s m = true) rfl ?_ ?_))
  ·refine ⟨rfl, (aC (fun hg2 => ?_) (fun hg2 => ?_))⟩
   ·exact ⟨by kernel_rfl, (aN rfl rfl rfl (by have hO : (l[i]'hi).ok s m = false := (by rw [Slot.ok_eq, aU.Gl hg2]); grind))⟩
   ·refine aC (fun hg3 => ?_) (fun hg3 => ?_)
    ·refine aF.d1 rfl (ak (aH rfl) dU rfl rfl (by rw [qh (by have := of_decide_eq_true hg3; omega) (by omega)]; exact Int.natCast_nonneg _) (KJ Slot.bC (qh (by have := of_decide_eq_true hg3; omega) (by omega)) (show i - 1 < l.length by omega)) rfl) ?_
     refine aC (fun hg4 => ?_) (fun hg4 => ?_)
     ·exact ⟨by kernel_rfl, (aN rfl rfl rfl (by rw [kb (by have := of_decide_eq_true hg3; omega) hi] at hS; grind))⟩
     ·refine aF.d1 rfl (ak (aH rfl) bY rfl rfl (aU.yP hg2) (so (aU.yQ hg2) (aU.dj hg2)) rfl) (aF.d1 rfl (aX (aH rfl) (Fn rfl) rfl (hvals _ (List.getElem_mem hi) _)) ⟨by kernel_rfl, (aC (fun hc5 => ?_) (fun hc5 => ?_))⟩)
      ·exact aN rfl rfl rfl (by have hO : (l[i]'hi).ok s m = false := (by rw [Slot.qu (aU.fl hg2)]; exact OH hc5); grind)
      ·exact .b0 rfl ⟨(), ⟨hg2, by rw [kb (by have := of_decide_eq_true hg3; omega) hi]; simpa using hg4, by rw [Slot.qu (aU.fl hg2)]; exact OI hc5⟩, rfl⟩
    ·refine aF.d1 rfl (ak (aH rfl) bY rfl rfl (aU.yP hg2) (so (aU.yQ hg2) (aU.dj hg2)) rfl) (aF.d1 rfl (aX (aH rfl) (Fn rfl) rfl (hvals _ (List.getElem_mem hi) _)) ⟨by kernel_rfl, (aC (fun hc6 => ?_) (fun hc6 => ?_))⟩)
     ·exact aN rfl rfl rfl (by have hO : (l[i]'hi).ok s m = false := (by rw [Slot.qu (aU.fl hg2)]; exact OH hc6); grind)
     ·exact .b0 rfl ⟨(), ⟨hg2, by have h0 : i = 0 := (by have := of_decide_eq_false hg3; omega); subst h0; rw [sk], by rw [Slot.qu (aU.fl hg2)]; exact OI hc6⟩, rfl⟩
  ·rintro _ hF8
   refine aB.d1 rfl (ak (aH rfl) bY rfl rfl (aU.yP hF8.1) (so (aU.yQ hF8.1) (aU.dj hF8.1)) rfl) (aB.d1 rfl (Ey (aH rfl) uy fC Dn Jm rfl rfl rfl (by have := ho _ (List.getElem_mem (aU.dj hF8.1)); omega)) ?_)
   refine aB.d1 rfl (Ls uy fC Dn rfl rfl rfl rfl (by have := ho _ (List.getElem_mem (aU.dj hF8.1)); omega) (by omega) (OS _)) ?_
   refine aC (fun hg7 => ?_) (fun hg7 => ?_)
   ·refine aB.d1 rfl (Ey (aH rfl) uy fC Dn Jm rfl rfl rfl (by have := ho _ (List.getElem_mem (aU.dj hF8.1)); omega)) ?_
    refine aC (fun hc8 => ?_) (fun hc8 => ?_)
    ·exact aN rfl rfl rfl (by have hN := @B5 m l i f (m.fields[m.eX (l[i]'hi).num]'(aU.dj hF8.1)).one hf (by omega); have hX : (1 < IntKind.i64.wrap (f (m.fields[m.eX (l[i]'hi).num]'(aU.dj hF8.1)).one + 1)) := (by simpa using hc8); have hQ : gJ ((l.take i).map m.oneOf) (m.oneOf (l[i]'hi)) = false := (by rw [jE (aU.fl hF8.1)]; unfold gJ; rw [← hN]; simp [hX]; simpa using hg7); grind)
    ·have hN := @B5 m l i f (m.fields[m.eX (l[i]'hi).num]'(aU.dj hF8.1)).one hf (by omega)
     have hX : ¬ (1 < IntKind.i64.wrap (f (m.fields[m.eX (l[i]'hi).num]'(aU.dj hF8.1)).one + 1)) := by simpa using hc8
     have hQ : gJ ((l.take i).map m.oneOf) (m.oneOf (l[i]'hi)) = true := by rw [jE (aU.fl hF8.1)]; unfold gJ; rw [← hN]; simp [hX]
     exact .b1 15 rfl (inc (by omega)) rfl ⟨(i + 1, _), (by dsimp only; omega), ⟨yA hi hf (jE (aU.fl hF8.1)) (by omega), by grind⟩, rfl⟩
   ·have hQ : gJ ((l.take i).map m.oneOf) (m.oneOf (l[i]'hi)) = true := by rw [jE (aU.fl hF8.1)]; unfold gJ; simp at hg7; simp [hg7]
    exact .b1 15 rfl (inc (by omega)) rfl ⟨(i + 1, _), (by dsimp only; omega), ⟨yA hi hf (jE (aU.fl hF8.1)) (by omega), by grind⟩, rfl⟩
 ·have hi := dA hc1
  have hS := @qI s m l i hi
  exact aN rfl rfl rfl (by grind [])
theorem I7 (s : aL) (hs : s.AE) (name : aw) (t : Tree) (hb : t.eK) (ih : ∀ x ∈ t.aO, ∀ v ∈ x.ag, ∀ u ∈ v.m, ∀ name : aw, Pure Tryz.prog 203 [s.av, .str name, .agg u.cells] (.bool (u.ok s name))) : Pure Tryz.prog 203 [s.av, .str name, .agg t.cells] (.bool (t.ok s name)) := by
 have hsm := hs.m
 have hT := t.ok_eq s name
 refine Pure.go II mixed Tryz.func203 rfl rfl fun H => (aB.jc rfl (Fn rfl) rfl (Ih _ _ (by omega)) ⟨rfl, (aC (fun hg1 => ?_) (fun hg1 => ?_))⟩)
 ·refine aF.d1 rfl (ak (aH rfl) bW rfl rfl (aL.Fq (G4 hg1)) (so (aL.Fs (G4 hg1)) (aL.bV (G4 hg1))) rfl) (aF.d1 rfl (aX (aH rfl) (Fn rfl) rfl (Ib _ _ _ hb.here.s (hs.f _ (List.getElem_mem (aL.bV (G4 hg1)))) (hs.o _ (List.getElem_mem (aL.bV (G4 hg1)))) (fun x hx f => La _ _ _ (hb.here.v _ hx) (hb.here.vs _ hx) (ih _ hx)))) (aC (fun hg2 => ?_) (fun hg2 => ?_)))
  ·exact aF.d1 rfl (ak (aH rfl) bW rfl rfl (aL.Fq (G4 hg1)) (so (aL.Fs (G4 hg1)) (aL.bV (G4 hg1))) rfl) (aF.d1 rfl (aX (aH rfl) (Fn rfl) rfl (Lf _ _ hb.here.r (hs.f _ (List.getElem_mem (aL.bV (G4 hg1)))))) ⟨by kernel_rfl, (aN rfl rfl rfl (by rw [hT, aL.Ft (G4 hg1)]; grind))⟩)
  ·exact ⟨by kernel_rfl, (aN rfl rfl rfl (by rw [hT, aL.Ft (G4 hg1)]; grind))⟩
 ·exact ⟨by kernel_rfl, (aN rfl rfl rfl (by rw [hT, aL.KK (P9 hg1)]))⟩
theorem Lc (s : aL) (hs : s.AE) (t : Tree) (hb : t.eK) (name : aw) : Pure Tryz.prog 203 [s.av, .str name, .agg t.cells] (.bool (t.ok s name)) :=
 Tree.ind (Q := fun t => t.eK → ∀ name : aw, Pure Tryz.prog 203 [s.av, .str name, .agg t.cells] (.bool (t.ok s name))) (fun t ih hb name => I7 s hs name t hb (fun x hx v hv u hu => ih x hx v hv u hu (hb.sub hu hv hx))) t hb name
theorem Ju (s : aL) (f : ae) (v : bF) (hvs : v.s.length ≤ 9223372036854775807) (ih : ∀ u ∈ v.m, ∀ name : aw, Pure Tryz.prog 28 [s.av, .str name, .agg u.cells] (.bool (u.ok s name))) : Pure Tryz.prog 89 [s.av, f.av, .agg v.cells] (.bool (v.ok s f)) := by
 have hE := bF.ok_eq s f v
 have hT1 := @qF s f.ref v.m
 have hT0 := @rK s f.ref v.m
 have hn0 : ((v.n : Int) == 0) = decide (v.n = 0) := by rw [Bool.eq_iff_iff]; simp
 have hml : (((v.m.map Tree.av).length : Int) == 0) = decide (v.m.length = 0) := by rw [Bool.eq_iff_iff]; simp
 refine Pure.go II mixed Tryz.func89 rfl rfl fun H => (aB.jc rfl (Fn rfl) rfl (E0 _) (aC (fun hc1 => ?_) (fun hc1 => ?_)))
 ·refine aB.jc rfl (Fn rfl) rfl (NK _ _) (aC (fun hg2 => ?_) (fun hg2 => ?_))
  ·refine aC (fun hg3 => ?_) (fun hg3 => ?_)
   ·exact aN rfl rfl rfl (by grind [])
   ·exact aN rfl rfl rfl (by grind [])
  ·exact aN rfl rfl rfl (by grind [])
 ·refine aC (fun hc4 => ?_) (fun hc4 => ?_)
  ·refine aC (fun hg5 => ?_) (fun hg5 => ?_)
   ·refine aC (fun hg6 => ?_) (fun hg6 => ?_)
    ·exact aB.jc rfl (Fn rfl) rfl (xK _ hvs) (aN rfl rfl rfl (by grind []))
    ·exact aN rfl rfl rfl (by grind [])
   ·exact aN rfl rfl rfl (by grind [])
  ·refine aC (fun hc7 => ?_) (fun hc7 => ?_)
   ·refine aC (fun hg8 => ?_) (fun hg8 => ?_)
    ·exact aN rfl rfl rfl (by grind [])
    ·exact aN rfl rfl rfl (by grind [])
   ·refine aC (fun hc9 => ?_) (fun hc9 => ?_)
    ·refine ⟨rfl, (aC (fun hg10 => ?_) (fun hg10 => ?_))⟩
     ·refine aC (fun hg11 => ?_) (fun hg11 => ?_)
      ·refine aC (fun hg12 => ?_) (fun hg12 => ?_)
       ·exact aF.d1 rfl (ak (aH rfl) lQ rfl rfl (by decide) (dS (i := 0) Tree.bC (by grind)) rfl) (aF.d1 rfl (aX (aH rfl) (Fn rfl) rfl (ih _ (List.getElem_mem (by grind)) _)) ⟨by kernel_rfl, (aN rfl rfl rfl (by have hm1 : v.m.length = 1 := (by have h := hg12; simp at h; omega); have hq := hT1 hm1; have h0 : v.n = 0 := (by simpa using hg10); have hs0 : v.s = [] := (by simpa using hg11); have hty : f.ty = 15 := (by simpa using hc9); rw [hE, if_neg (by simp [hc1]), if_neg (by omega), if_neg (by omega), if_pos hty, hq, h0, hs0]; simp))⟩)
       ·exact ⟨by kernel_rfl, (aN rfl rfl rfl (by grind []))⟩
      ·exact ⟨by kernel_rfl, (aN rfl rfl rfl (by grind []))⟩
     ·exact ⟨by kernel_rfl, (aN rfl rfl rfl (by grind []))⟩
    ·exact aN rfl rfl rfl (by grind [])
theorem EU (s : aL) (m : aU) (x : Slot) (hm : m.fields.length ≤ 1000) (hl : x.ag.length ≤ 9223372036854775807) (hvs : ∀ v ∈ x.ag, v.s.length ≤ 9223372036854775807) (ih : ∀ v ∈ x.ag, ∀ u ∈ v.m, ∀ name : aw, Pure Tryz.prog 28 [s.av, .str name, .agg u.cells] (.bool (u.ok s name))) : Pure Tryz.prog 47 [s.av, m.av, .agg x.cells] (.bool (x.ok s m)) := by
 have hE := Slot.ok_eq s m x
 have hVA := fun f => rH s f x.ag
 refine Pure.go II mixed Tryz.func47 rfl rfl fun H => (aB.jn 1 rfl (Fn rfl) rfl (oJ _ _ hm) (aG.jn 999 999 [.h, .s 3, .b 3, .s 4, .b 4, .s 5, .b 5, .s 7] (fun (_ : Unit) => []) (fun (_ : Unit) => decide (m.at x.num < 0) = false ∧ 0 < x.ag.length) rfl ?_ ?_))
 ·refine aC (fun hg1 => ?_) (fun hg1 => ?_)
  ·exact aN rfl rfl rfl (by rw [hE, aU.Gl hg1])
  ·refine aC (fun hc2 => ?_) (fun hc2 => ?_)
   ·exact aN rfl rfl rfl (by rw [hE, aU.fl hg1]; grind)
   ·exact .b0 rfl ⟨(), by grind, rfl⟩
 ·rintro _ hF4
  refine aB.n1 3 rfl (ak (aH rfl) bY rfl rfl (aU.yP hF4.1) (so (aU.yQ hF4.1) (aU.dj hF4.1)) rfl) (aG.jn 999 999 [.h, .s 3, .b 3, .s 5, .b 5, .s 8, .b 8] (fun (_ : Unit) => []) (fun (_ : Unit) => ((m.fields[m.eX x.num]'(aU.dj hF4.1)).rep = true ∨ x.ag.length = 1)) rfl ?_ ?_)
  ·refine aC (fun hg3 => ?_) (fun hg3 => ?_)
   ·refine aC (fun hc4 => ?_) (fun hc4 => ?_)
    ·exact aN rfl rfl rfl (by rw [hE, aU.fl hF4.1]; grind)
    ·exact .b0 rfl ⟨(), by grind, rfl⟩
   ·exact .b0 rfl ⟨(), by grind, rfl⟩
  ·rintro _ hF7
   refine aG.lq [.s 9, .h, .s 3, .b 3, .s 5, .b 5, .s 8, .b 8] (fun (i : Nat) => [(.s 9, .sv (.v (.int .i64 (i : Int))))]) (fun (i : Nat) => (x.ag.drop i).all (bF.ok s (m.fields[m.eX x.num]'(aU.dj hF4.1))) = x.ag.all (bF.ok s (m.fields[m.eX x.num]'(aU.dj hF4.1)))) (fun (i : Nat) => x.ag.length - i) 0 rfl rfl (by simp) ?_
   rintro i hI
   refine aC (fun hc5 => ?_) (fun hc5 => ?_)
   ·have hi := cz hc5
    have hS := iK (p := bF.ok s (m.fields[m.eX x.num]'(aU.dj hF4.1))) hi
    refine ⟨rfl, (aF.d1 rfl (bP (aH rfl) ek rfl rfl (dS bF.bC hi) rfl) (aF.d1 rfl (aX (aH rfl) (Fn rfl) rfl (Ju _ _ _ (hvs _ (List.getElem_mem hi)) (ih _ (List.getElem_mem hi)))) ⟨by kernel_rfl, (aC (fun hc6 => ?_) (fun hc6 => ?_))⟩))⟩
    ·exact aN rfl rfl rfl (by rw [hE, aU.fl hF4.1]; grind)
    ·exact .b1 9 rfl (inc (by omega)) rfl ⟨i + 1, by omega, by grind, rfl⟩
   ·have hi := dA hc5
    have hS := lV (p := bF.ok s (m.fields[m.eX x.num]'(aU.dj hF4.1))) hi
    rw [aU.fl hF4.1] at hE
    have hN := Nd hF4.2
    have hNs := Nc hF4.2
    refine aB.jc rfl (Fn rfl) rfl (E2 _) (aC (fun hg7 => ?_) (fun hg7 => ?_))
    ·exact aN rfl rfl rfl (by grind)
    ·refine aB.d1 rfl (ak (aH rfl) ek rfl rfl (by decide) (dS (i := 0) bF.bC hF4.2) rfl) (aC (fun hg8 => ?_) (fun hg8 => ?_))
     ·exact aN rfl rfl rfl (by grind)
     ·exact aB.d1 rfl (ak (aH rfl) ek rfl rfl (by decide) (dS (i := 0) bF.bC hF4.2) rfl) (aN rfl rfl rfl (by grind))
theorem Hy (s : aL) (hs : s.AE) (name : aw) (t : Tree) (hb : t.eK) (ih : ∀ x ∈ t.aO, ∀ v ∈ x.ag, ∀ u ∈ v.m, ∀ name : aw, Pure Tryz.prog 28 [s.av, .str name, .agg u.cells] (.bool (u.ok s name))) : Pure Tryz.prog 28 [s.av, .str name, .agg t.cells] (.bool (t.ok s name)) := by
 have hsm := hs.m
 have hbs := hb.here.s
 have hbr := hb.here.r
 have hT := t.ok_eq s name
 refine Pure.go II mixed Tryz.func28 rfl rfl fun H => (aB.jc rfl (Fn rfl) rfl (jl _ _ (by omega)) (aC (fun hc1 => ?_) (fun hc1 => ?_)))
 ·exact aN rfl rfl rfl (by rw [hT, aL.KK hc1])
 ·rw [aL.Ft hc1] at hT
  refine aB.n1 5 rfl (ak (aH rfl) bW rfl rfl (aL.Fq hc1) (so (aL.Fs hc1) (aL.bV hc1)) rfl) (aB.d2 rfl (bD («as» := []) (aH rfl) bZ dn rfl rfl rfl (gQ rfl) rfl) (aG.lp 8 [.s 10, .s 9, .t 24, .h, .s 3, .b 3, .s 5, .b 5, .s 8, .b 8] (fun ((i, a) : Nat × List AV) => [(.s 10, .sv (.v (.int .i64 (i : Int)))), (.s 9, .sv (.ow 24 a)), (.t 24, .tk false 9 1 a)]) (fun ((i, a) : Nat × List AV) => a = (t.aO.take i).map (fun y => AV.str ((s.msgs[s.eX name]'(aL.bV hc1)).oneOf y)) ∧ iv s (s.msgs[s.eX name]'(aL.bV hc1)) t.aO i = dW s (s.msgs[s.eX name]'(aL.bV hc1)) t.aO none [] ∧ oZ (s.msgs[s.eX name]'(aL.bV hc1)) t.aO i) (fun ((i, a) : Nat × List AV) => t.aO.length - i) (0, _) rfl rfl ⟨rfl, oC s (s.msgs[s.eX name]'(aL.bV hc1)) t.aO, oZ.zero _ _⟩ ?_))
  rintro ⟨i, a⟩ ⟨rfl, hI, hG⟩
  refine aG.ci 3 999 rfl (fun hc2 => ?_) (fun hc2 => ?_)
  ·have hi := cz hc2
   have hS := @oD s (s.msgs[s.eX name]'(aL.bV hc1)) t.aO i hi
   refine aG.jn 999 999 [.h, .s 3, .b 3, .s 5, .b 5, .s 8, .b 8, .s 9, .t 24, .s 10] (fun (_ : Unit) => []) (fun (_ : Unit) => (match l7 t.aO i with | none => true | some n => decide (n < (t.aO[i]'hi).num)) = true ∧ (t.aO[i]'hi).ok s (s.msgs[s.eX name]'(aL.bV hc1)) = true) rfl ?_ ?_
   ·refine ⟨rfl, (aC (fun hg3 => ?_) (fun hg3 => ?_))⟩
    ·refine aF.d1 rfl (ak (aH rfl) dU rfl rfl (by rw [qh (by have := of_decide_eq_true hg3; omega) (by omega)]; exact Int.natCast_nonneg _) (KJ Slot.bC (qh (by have := of_decide_eq_true hg3; omega) (by omega)) (show i - 1 < t.aO.length by omega)) rfl) ?_
     refine aF.d1 rfl (bP (aH rfl) dU rfl rfl (dS Slot.bC hi) rfl) (aC (fun hg4 => ?_) (fun hg4 => ?_))
     ·exact ⟨by kernel_rfl, (aN rfl rfl rfl (by rw [kb (by have := of_decide_eq_true hg3; omega) hi] at hS; grind))⟩
     ·refine aF.d1 rfl (bP (aH rfl) dU rfl rfl (dS Slot.bC hi) rfl) (aF.d1 rfl (aX (aH rfl) (Fn rfl) rfl (EU _ _ _ (hs.f _ (List.getElem_mem (aL.bV hc1))) (hb.here.v _ (List.getElem_mem hi)) (hb.here.vs _ (List.getElem_mem hi)) (ih _ (List.getElem_mem hi)))) ⟨by kernel_rfl, (aC (fun hc5 => ?_) (fun hc5 => ?_))⟩)
      ·exact aN rfl rfl rfl (by have := OH hc5; grind)
      ·exact .b0 rfl ⟨(), ⟨by rw [kb (by have := of_decide_eq_true hg3; omega) hi]; simpa using hg4, OI hc5⟩, rfl⟩
    ·refine aF.d1 rfl (bP (aH rfl) dU rfl rfl (dS Slot.bC hi) rfl) (aF.d1 rfl (aX (aH rfl) (Fn rfl) rfl (EU _ _ _ (hs.f _ (List.getElem_mem (aL.bV hc1))) (hb.here.v _ (List.getElem_mem hi)) (hb.here.vs _ (List.getElem_mem hi)) (ih _ (List.getElem_mem hi)))) ⟨by kernel_rfl, (aC (fun hc6 => ?_) (fun hc6 => ?_))⟩)
     ·exact aN rfl rfl rfl (by have := OH hc6; grind)
     ·exact .b0 rfl ⟨(), ⟨by have h0 : i = 0 := (by have := of_decide_eq_false hg3; omega); subst h0; rw [sk], OI hc6⟩, rfl⟩
   ·rintro _ hF11
    have hat := Slot.KG hF11.2
    have hone := jE (aU.fl hat)
    refine ⟨rfl, (aF.d1 rfl (bP (aH rfl) dU rfl rfl (dS Slot.bC hi) rfl) (aF.d1 rfl (aX (aH rfl) (Fn rfl) rfl (oJ _ _ (hs.f _ (List.getElem_mem (aL.bV hc1))))) (aF.d1 rfl (ak (aH rfl) bY rfl rfl (aU.yP hat) (so (aU.yQ hat) (aU.dj hat)) rfl) ⟨by kernel_rfl, (aG.lq [.s 12, .h, .s 3, .b 3, .s 5, .b 5, .s 8, .b 8, .s 9, .t 24, .s 10, .s 11] (fun (k : Nat) => [(.s 12, .sv (.v (.int .i64 (k : Int))))]) (fun (k : Nat) => ((t.aO.take i).drop k).any (fun y => !(((s.msgs[s.eX name]'(aL.bV hc1)).fields[(s.msgs[s.eX name]'(aL.bV hc1)).eX (t.aO[i]'hi).num]'(aU.dj hat)).one == []) && ((s.msgs[s.eX name]'(aL.bV hc1)).oneOf y == ((s.msgs[s.eX name]'(aL.bV hc1)).fields[(s.msgs[s.eX name]'(aL.bV hc1)).eX (t.aO[i]'hi).num]'(aU.dj hat)).one)) = (t.aO.take i).any (fun y => !(((s.msgs[s.eX name]'(aL.bV hc1)).fields[(s.msgs[s.eX name]'(aL.bV hc1)).eX (t.aO[i]'hi).num]'(aU.dj hat)).one == []) && ((s.msgs[s.eX name]'(aL.bV hc1)).oneOf y == ((s.msgs[s.eX name]'(aL.bV hc1)).fields[(s.msgs[s.eX name]'(aL.bV hc1)).eX (t.aO[i]'hi).num]'(aU.dj hat)).one))) (fun (k : Nat) => (t.aO.take i).length - k) 0 rfl rfl (by simp) ?_)⟩)))⟩
    rintro k hK
    refine aC (fun hc7 => ?_) (fun hc7 => ?_)
    ·have hk := cz hc7
     have hU := bz (p := (fun y => !(((s.msgs[s.eX name]'(aL.bV hc1)).fields[(s.msgs[s.eX name]'(aL.bV hc1)).eX (t.aO[i]'hi).num]'(aU.dj hat)).one == []) && ((s.msgs[s.eX name]'(aL.bV hc1)).oneOf y == ((s.msgs[s.eX name]'(aL.bV hc1)).fields[(s.msgs[s.eX name]'(aL.bV hc1)).eX (t.aO[i]'hi).num]'(aU.dj hat)).one))) hk
     have hkl : (t.aO.take i).length ≤ t.aO.length := by rw [List.length_take]; omega
     refine aC (fun hg8 => ?_) (fun hg8 => ?_)
     ·refine aB.ii rfl cY rfl rfl (ca hk) rfl (aC (fun hc9 => ?_) (fun hc9 => ?_))
      ·exact aN rfl rfl rfl (by have hQ := sU (m := (s.msgs[s.eX name]'(aL.bV hc1))) (l := t.aO.take i) (one := ((s.msgs[s.eX name]'(aL.bV hc1)).fields[(s.msgs[s.eX name]'(aL.bV hc1)).eX (t.aO[i]'hi).num]'(aU.dj hat)).one); rw [hone] at hS; grind)
      ·exact .b1 12 rfl (inc (by omega)) rfl ⟨k + 1, by omega, by grind, rfl⟩
     ·exact .b1 12 rfl (inc (by omega)) rfl ⟨k + 1, by omega, by grind, rfl⟩
    ·have hk := dA hc7
     have hU := cZ (p := (fun y => !(((s.msgs[s.eX name]'(aL.bV hc1)).fields[(s.msgs[s.eX name]'(aL.bV hc1)).eX (t.aO[i]'hi).num]'(aU.dj hat)).one == []) && ((s.msgs[s.eX name]'(aL.bV hc1)).oneOf y == ((s.msgs[s.eX name]'(aL.bV hc1)).fields[(s.msgs[s.eX name]'(aL.bV hc1)).eX (t.aO[i]'hi).num]'(aU.dj hat)).one))) hk
     refine aB.d3 rfl (aj (aH rfl) bZ rfl rfl rfl rfl rfl (by have := hG.len; have := hs.f _ (List.getElem_mem (aL.bV hc1)); simp; omega) rfl) ?_
     have hQ := sU (m := (s.msgs[s.eX name]'(aL.bV hc1))) (l := t.aO.take i) (one := ((s.msgs[s.eX name]'(aL.bV hc1)).fields[(s.msgs[s.eX name]'(aL.bV hc1)).eX (t.aO[i]'hi).num]'(aU.dj hat)).one)
     exact ⟨Kept.c6 10 rfl (inc (by omega)) (Kept.az [.s 10, .s 9, .t 93, .h, .s 3, .b 3, .s 5, .b 5, .s 8, .b 8] rfl (by decide) (Kept.cO 93 24 (by decide) rfl (Kept.now ⟨(i + 1, _), (by dsimp only; omega), ⟨by rw [← hone]; exact e8 hi rfl, by rw [hone] at hS; grind, hG.step hi hF11.1 (Slot.JD hF11.2)⟩, rfl⟩)))⟩
  ·have hi := dA hc2
   have hS := @qI s (s.msgs[s.eX name]'(aL.bV hc1)) t.aO i hi
   refine aG.lq [.s 13, .h, .s 5, .b 5, .s 8, .b 8] (fun (j : Nat) => [(.s 13, .sv (.v (.int .i64 (j : Int))))]) (fun (j : Nat) => (t.rest.drop j).all (dZ (s.msgs[s.eX name]'(aL.bV hc1))) = t.rest.all (dZ (s.msgs[s.eX name]'(aL.bV hc1)))) (fun (j : Nat) => t.rest.length - j) 0 rfl rfl (by simp) ?_
   rintro j hJ
   refine aC (fun hc10 => ?_) (fun hc10 => ?_)
   ·have hj := cz hc10
    have hR := iK (p := dZ (s.msgs[s.eX name]'(aL.bV hc1))) hj
    have hA := (s.msgs[s.eX name]'(aL.bV hc1)).kr (t.rest[j]'hj).num
    refine ⟨rfl, (aF.d1 rfl (bP (aH rfl) n0 rfl rfl (ca hj) rfl) (aF.d1 rfl (aX (aH rfl) (Fn rfl) rfl (EW _)) (aC (fun hg11 => ?_) (fun hg11 => ?_))))⟩
    ·exact ⟨by kernel_rfl, (aN rfl rfl rfl (by grind [dZ]))⟩
    ·refine aF.d1 rfl (bP (aH rfl) n0 rfl rfl (ca hj) rfl) (aF.d1 rfl (aX (aH rfl) (Fn rfl) rfl (oJ _ _ (hs.f _ (List.getElem_mem (aL.bV hc1))))) ⟨by kernel_rfl, (aC (fun hc12 => ?_) (fun hc12 => ?_))⟩)
     ·exact aN rfl rfl rfl (by grind [dZ])
     ·exact .b1 13 rfl (inc (by omega)) rfl ⟨j + 1, by omega, by grind [dZ], rfl⟩
   ·have hj := dA hc10
    have hR := lV (p := dZ (s.msgs[s.eX name]'(aL.bV hc1))) hj
    exact aN rfl rfl rfl (by grind)
theorem zK (s : aL) (hs : s.AE) (t : Tree) (hb : t.eK) (name : aw) : Pure Tryz.prog 28 [s.av, .str name, .agg t.cells] (.bool (t.ok s name)) :=
 Tree.ind (Q := fun t => t.eK → ∀ name : aw, Pure Tryz.prog 28 [s.av, .str name, .agg t.cells] (.bool (t.ok s name))) (fun t ih hb name => Hy s hs name t hb (fun x hx v hv u hu => ih x hx v hv u hu (hb.sub hu hv hx))) t hb name
theorem fI {n : Int} (h0 : -9223372036854775808 ≤ n) (h : n < 9223372036854775808) : IntKind.i64.wrap n = n := by simp only [IntKind.wrap, IntKind.bits, IntKind.signed]; simp; omega
theorem yg {t : Int} (h : t < 1 ∨ 13 < t) : uw t = [] := by
 unfold uw
 split
 ·rfl
 ·have : t = 0 ∨ t = 14 ∨ t = 15 := by omega
  rcases this with rfl | rfl | rfl <;> rfl
structure wM where
 far : Nat
 neg : Bool
 deriving DecidableEq
def yt (t : Int) (n : Nat) : wM := if ed t = true ∧ 9223372036854775808 ≤ n then ⟨18446744073709551616 - n, true⟩ else ⟨n, false⟩
def wM.raw (x : wM) : Nat := if x.neg = true ∧ 0 < x.far then 18446744073709551616 - x.far else x.far
def wM.val (x : wM) (t : Int) : Option Nat := if c8 t = true ∧ je t x.raw = true ∧ yt t x.raw = x then some x.raw else none
theorem rd_val {t : Int} {n : Nat} {neg : Bool} (h : n < 18446744073709551616) : wM.val (if n = 0 then ⟨0, false⟩ else ⟨n, neg⟩) t = PQ t n neg := by
 unfold wM.val PQ
 by_cases h0 : n = 0
 ·subst h0
  simp only [wM.raw, yt]
  cases c8 t <;> simp
 ·rw [if_neg h0]
  simp only [wM.raw, yt]
  have hp : 0 < n := by omega
  cases hn : neg with
  | false =>
   cases hw : c8 t <;> cases hs : ed t <;> simp
   by_cases h2 : 9223372036854775808 ≤ n
   ·simp [h2]
   ·have h5 : n < 9223372036854775808 := by omega
    simp [h2, h5]
  | true =>
   cases hw : c8 t <;> cases hs : ed t <;> simp [hp]
   by_cases h2 : 9223372036854775808 < n
   ·have : ¬ 9223372036854775808 ≤ 18446744073709551616 - n := by omega
    simp [h2, this]
   ·have h3 : 9223372036854775808 ≤ 18446744073709551616 - n := by omega
    have h4 : 18446744073709551616 - (18446744073709551616 - n) = n := by omega
    simp [h2, h3, h4]
theorem FY : aq [] = false := by decide
theorem nX {α : Type} {p : α → Bool} : ∀ {l : List α} {i : Nat}, decide (bI p l i ≥ 0) = l.any p
 | [], i => rfl
 | a :: l, i => by
  unfold bI
  cases h : p a with
  | true => simp [h]
  | false => simp only [List.any_cons, h, Bool.false_or, if_false]; exact nX
theorem oS : ∀ (r pre : List aw), gG (pre ++ r) r pre.length = true ↔ (∀ x ∈ r, x ∉ pre) ∧ r.Nodup
 | [], pre => by simp [gG]
 | a :: r, pre => by
  have ih := oS r (pre ++ [a])
  rw [List.append_assoc, List.length_append] at ih
  simp only [List.singleton_append, List.length_cons, List.length_nil, Nat.zero_add] at ih
  simp only [gG, Bool.and_eq_true, Bool.not_eq_true', List.take_left, ih]
  constructor
  ·rintro ⟨h1, h2, h3⟩
   have h1' : a ∉ pre := fun hm => by
    have : (pre.any fun b => a == b) = true := List.any_eq_true.2 ⟨a, hm, by simp⟩
    rw [h1] at this; cases this
   refine ⟨fun x hx => ?_, List.nodup_cons.2 ⟨fun hm => h2 a hm (by simp), h3⟩⟩
   rcases List.mem_cons.1 hx with rfl | hx
   ·exact h1'
   ·exact fun hm => h2 x hx (by simp [hm])
  ·rintro ⟨h1, h2⟩
   have h3 := List.nodup_cons.1 h2
   refine ⟨?_, fun x hx hm => ?_, h3.2⟩
   ·rw [Bool.eq_false_iff]
    intro h
    obtain ⟨b, hb, e⟩ := List.any_eq_true.1 h
    have : a = b := by simpa using e
    subst this
    exact h1 a (by simp) hb
   ·rcases List.mem_append.1 hm with hm | hm
    ·exact h1 x (by simp [hx]) hm
    ·simp at hm; subst hm; exact h3.1 hx
theorem x5 (l : List aw) : once l = true ↔ l.Nodup := by
 have := oS l []
 simpa [once] using this
structure Pd where
 dst : Bool
 als : Bool
 num : Bool
 oth : Bool
 ty : Bool
 nms : Bool
 dv : Bool
def nK (k : Int) : Pd :=
 if k = 1 then ⟨true, false, false, false, false, false, false⟩
 else if k = 2 then ⟨false, false, true, false, false, false, false⟩
 else if k = 3 then ⟨false, false, false, false, true, false, false⟩
 else if k = 4 then ⟨true, true, true, true, false, false, false⟩
 else if k = 5 ∨ k = 6 then ⟨true, true, true, false, false, false, false⟩
 else if k = 8 then ⟨false, false, false, false, false, true, false⟩
 else if k = 9 then ⟨false, false, true, false, true, false, true⟩
 else ⟨false, false, false, false, false, false, false⟩
def N2 (h : Bool) (s : aw) : Bool := (h && aq s) || (!h && s == [])
def N0 (h : Bool) (n : Int) : Bool := (h && qg n) || (!h && decide (n = 0))
def aS.typed (x : aS) : Bool := if x.kind = 3 then c8 x.ty else if x.kind = 9 then !(uw x.ty == []) else decide (x.ty = 0)
def Ol (h : Bool) (l : List aw) : Bool := if h then decide (1 ≤ l.length) && decide (l.length ≤ 10) && l.all aq && once l else decide (l.length = 0)
def oG : aL := ⟨[], []⟩
def M5 (t : Int) : ae := ⟨[], 0, t, [], false, false, []⟩
def OU (h : Bool) (t : Int) (v : bF) : Bool := if h then v.ok oG (M5 t) else decide (v.n = 0) && v.s == [] && decide (v.m.length = 0)
def aS.right (x : aS) : Bool :=
 decide (1 ≤ x.kind) && decide (x.kind ≤ 10) && aq x.msg && aq x.field && N2 (nK x.kind).dst x.dest && N2 (nK x.kind).als x.also && N0 (nK x.kind).num x.num && N0 (nK x.kind).oth x.other &&
 x.typed && Ol (nK x.kind).nms x.names && OU (nK x.kind).dv x.ty x.dv
structure aS.eK (x : aS) : Prop where
 s : x.dv.s.length ≤ 9223372036854775807
 u : ∀ t ∈ x.dv.m, t.eK
 n : x.names.length ≤ 9223372036854775807
theorem CG : oG.AE := ⟨by decide, (fun m h => (by cases h)), (fun m h => (by cases h))⟩
def nF (v : bF) : Bool := decide (v.n = 0) && v.s == [] && decide (v.m.length = 0)
def cU (x : aS) (d a n o : Bool) : Bool :=
 if d ≠ !(x.dest == []) ∨ a ≠ !(x.also == []) ∨ n ≠ !decide (x.num = 0) ∨ o ≠ !decide (x.other = 0) then false
 else (!d || aq x.dest) && (!a || aq x.also) && (!n || qg x.num) && (!o || qg x.other)
def aS.cJ (x : aS) : Bool :=
 if aq x.msg = false ∨ aq x.field = false then false
 else if (x.kind ≠ 8 ∧ 0 < x.names.length) ∨ (x.kind ≠ 9 ∧ nF x.dv = false) ∨ (x.kind ≠ 3 ∧ x.kind ≠ 9 ∧ x.ty ≠ 0) then false
 else if x.kind = 1 then cU x true false false false
 else if x.kind = 2 then cU x false false true false
 else if x.kind = 3 then cU x false false false false && c8 x.ty
 else if x.kind = 4 then cU x true true true true
 else if x.kind = 5 ∨ x.kind = 6 then cU x true true true false
 else if x.kind = 7 ∨ x.kind = 10 then cU x false false false false
 else if x.kind = 8 then cU x false false false false && decide (1 ≤ x.names.length) && decide (x.names.length ≤ 10) && x.names.all aq && once x.names
 else if x.kind = 9 then cU x false false true false && decide (1 ≤ x.ty) && decide (x.ty ≤ 13) && x.dv.ok oG (M5 x.ty)
 else false
theorem I6 (x : aS) (d a n o : Bool) : cU x d a n o = (N2 d x.dest && N2 a x.also && N0 n x.num && N0 o x.other) := by
 have h1 : aq [] = false := FY
 have h2 : qg 0 = false := by decide
 unfold cU N2 N0
 by_cases e1 : x.dest = [] <;> by_cases e2 : x.also = [] <;> by_cases e3 : x.num = 0 <;> by_cases e4 : x.other = 0 <;> cases d <;> cases a <;> cases n <;> cases o <;> simp_all
theorem HS {t : Int} : (uw t == []) = !(decide (1 ≤ t) && decide (t ≤ 13)) := by
 by_cases h : t < 1 ∨ 13 < t
 ·rw [yg h]; simp; omega
 ·have : t = 1 ∨ t = 2 ∨ t = 3 ∨ t = 4 ∨ t = 5 ∨ t = 6 ∨ t = 7 ∨ t = 8 ∨ t = 9 ∨ t = 10 ∨ t = 11 ∨ t = 12 ∨ t = 13 := by omega
  rcases this with rfl | rfl | rfl | rfl | rfl | rfl | rfl | rfl | rfl | rfl | rfl | rfl | rfl <;> decide
theorem right_eq (x : aS) : x.cJ = x.right := by
 unfold aS.cJ aS.right
 simp only [I6]
 by_cases hk : (x.kind < 1 ∨ 10 < x.kind)
 ·have h1 : (decide (1 ≤ x.kind) && decide (x.kind ≤ 10)) = false := by simp; omega
  rw [h1]
  simp only [Bool.false_and]
  split
  ·rfl
  split
  ·rfl
  rw [if_neg (by omega), if_neg (by omega), if_neg (by omega), if_neg (by omega), if_neg (by omega), if_neg (by omega), if_neg (by omega), if_neg (by omega)]
 ·have : x.kind = 1 ∨ x.kind = 2 ∨ x.kind = 3 ∨ x.kind = 4 ∨ x.kind = 5 ∨ x.kind = 6 ∨ x.kind = 7 ∨ x.kind = 8 ∨ x.kind = 9 ∨ x.kind = 10 := by omega
  rcases this with h | h | h | h | h | h | h | h | h | h
  all_goals
   simp only [h, nK, aS.typed, Ol, OU, HS]
   cases aq x.msg <;> cases aq x.field <;> simp [nF, Ol, OU]
   try grind
theorem E6 (v : bF) : Pure Tryz.prog 113 [.agg v.cells] (.bool (nF v)) := by
 refine Pure.go II mixed Tryz.func113 rfl rfl fun H => (aC (fun hg1 => ?_) (fun hg1 => ?_))
 ·refine aC (fun hg2 => ?_) (fun hg2 => ?_)
  ·exact aN rfl rfl rfl (by first | grind [nF] | (rw [List.length_map]; simp_all [nF]; try (rw [Bool.eq_iff_iff]; simp)))
  ·exact aN rfl rfl rfl (by first | grind [nF] | (rw [List.length_map]; simp_all [nF]; try (rw [Bool.eq_iff_iff]; simp)))
 ·exact aN rfl rfl rfl (by first | grind [nF] | (rw [List.length_map]; simp_all [nF]; try (rw [Bool.eq_iff_iff]; simp)))
theorem IL (l : List aw) (hl : l.length ≤ 9223372036854775807) : Pure Tryz.prog 116 [.sl (l.map .str)] (.bool (l.all aq)) := by
 refine Pure.go II mixed Tryz.func116 rfl rfl fun H => (aG.lq [.s 3, .h, .s 0] (fun (k : Nat) => [(.s 3, .sv (.v (.int .i64 (k : Int))))]) (fun (k : Nat) => (l.drop k).all aq = l.all aq) (fun (k : Nat) => l.length - k) 0 rfl rfl (by simp) ?_)
 rintro k hI
 refine aC (fun hc1 => ?_) (fun hc1 => ?_)
 ·have hk := cz hc1
  refine aB.ii rfl cY rfl rfl (ca hk) rfl (aB.jc rfl (Fn rfl) rfl (du _) (aC (fun hc2 => ?_) (fun hc2 => ?_)))
  ·exact aN rfl rfl rfl (by rw [← hI, iK hk, show aq l[k] = false by simpa using hc2]; rfl)
  ·exact .b1 3 rfl (inc (by omega)) rfl ⟨k + 1, by omega, by rw [← hI, iK hk, show aq l[k] = true by simpa using hc2]; rfl, rfl⟩
 ·have hk := dA hc1
  exact aN rfl rfl rfl (by rw [← hI, lV hk])
theorem kC (x : aS) (d a n o : Bool) : Pure Tryz.prog 114 [x.av, .bool d, .bool a, .bool n, .bool o] (.bool (cU x d a n o)) := by
 refine Pure.go II mixed Tryz.func114 rfl rfl fun H => (aC (fun hg1 => ?_) (fun hg1 => ?_))
 ·exact aN rfl rfl rfl (by grind [cU])
 ·refine aC (fun hg2 => ?_) (fun hg2 => ?_)
  ·exact aN rfl rfl rfl (by grind [cU])
  ·refine aC (fun hg3 => ?_) (fun hg3 => ?_)
   ·exact aN rfl rfl rfl (by grind [cU])
   ·refine aC (fun hc4 => ?_) (fun hc4 => ?_)
    ·exact aN rfl rfl rfl (by grind [cU])
    ·refine aC (fun hg5 => ?_) (fun hg5 => ?_)
     ·refine aC (fun hg6 => ?_) (fun hg6 => ?_)
      ·refine aC (fun hg7 => ?_) (fun hg7 => ?_)
       ·refine aC (fun hg8 => ?_) (fun hg8 => ?_)
        ·exact aN rfl rfl rfl (by grind [cU])
        ·exact aB.jc rfl (Fn rfl) rfl (gC _) (aN rfl rfl rfl (by grind [cU]))
       ·refine aB.jc rfl (Fn rfl) rfl (gC _) (aC (fun hg9 => ?_) (fun hg9 => ?_))
        ·refine aC (fun hg10 => ?_) (fun hg10 => ?_)
         ·exact aN rfl rfl rfl (by grind [cU])
         ·exact aB.jc rfl (Fn rfl) rfl (gC _) (aN rfl rfl rfl (by grind [cU]))
        ·exact aN rfl rfl rfl (by grind [cU])
      ·refine aB.jc rfl (Fn rfl) rfl (du _) (aC (fun hg11 => ?_) (fun hg11 => ?_))
       ·refine aC (fun hg12 => ?_) (fun hg12 => ?_)
        ·refine aC (fun hg13 => ?_) (fun hg13 => ?_)
         ·exact aN rfl rfl rfl (by grind [cU])
         ·exact aB.jc rfl (Fn rfl) rfl (gC _) (aN rfl rfl rfl (by grind [cU]))
        ·refine aB.jc rfl (Fn rfl) rfl (gC _) (aC (fun hg14 => ?_) (fun hg14 => ?_))
         ·refine aC (fun hg15 => ?_) (fun hg15 => ?_)
          ·exact aN rfl rfl rfl (by grind [cU])
          ·exact aB.jc rfl (Fn rfl) rfl (gC _) (aN rfl rfl rfl (by grind [cU]))
         ·exact aN rfl rfl rfl (by grind [cU])
       ·exact aN rfl rfl rfl (by grind [cU])
     ·refine aB.jc rfl (Fn rfl) rfl (du _) (aC (fun hg16 => ?_) (fun hg16 => ?_))
      ·refine aC (fun hg17 => ?_) (fun hg17 => ?_)
       ·refine aC (fun hg18 => ?_) (fun hg18 => ?_)
        ·refine aC (fun hg19 => ?_) (fun hg19 => ?_)
         ·exact aN rfl rfl rfl (by grind [cU])
         ·exact aB.jc rfl (Fn rfl) rfl (gC _) (aN rfl rfl rfl (by grind [cU]))
        ·refine aB.jc rfl (Fn rfl) rfl (gC _) (aC (fun hg20 => ?_) (fun hg20 => ?_))
         ·refine aC (fun hg21 => ?_) (fun hg21 => ?_)
          ·exact aN rfl rfl rfl (by grind [cU])
          ·exact aB.jc rfl (Fn rfl) rfl (gC _) (aN rfl rfl rfl (by grind [cU]))
         ·exact aN rfl rfl rfl (by grind [cU])
       ·refine aB.jc rfl (Fn rfl) rfl (du _) (aC (fun hg22 => ?_) (fun hg22 => ?_))
        ·refine aC (fun hg23 => ?_) (fun hg23 => ?_)
         ·refine aC (fun hg24 => ?_) (fun hg24 => ?_)
          ·exact aN rfl rfl rfl (by grind [cU])
          ·exact aB.jc rfl (Fn rfl) rfl (gC _) (aN rfl rfl rfl (by grind [cU]))
         ·refine aB.jc rfl (Fn rfl) rfl (gC _) (aC (fun hg25 => ?_) (fun hg25 => ?_))
          ·refine aC (fun hg26 => ?_) (fun hg26 => ?_)
           ·exact aN rfl rfl rfl (by grind [cU])
           ·exact aB.jc rfl (Fn rfl) rfl (gC _) (aN rfl rfl rfl (by grind [cU]))
          ·exact aN rfl rfl rfl (by grind [cU])
        ·exact aN rfl rfl rfl (by grind [cU])
      ·exact aN rfl rfl rfl (by grind [cU])
set_option maxHeartbeats 4000000 in
theorem EX (x : aS) (hb : x.eK) : Pure Tryz.prog 65 [x.av] (.bool x.cJ) := by
 have hm : (x.names.map AV.str).length = x.names.length := List.length_map _
 refine Pure.gn 4 II mixed Tryz.func65 rfl rfl fun H => (aG.jn 999 0 [.h, .s 1, .b 1] (fun (_ : Unit) => []) (fun (_ : Unit) => ¬ (aq x.msg = false ∨ aq x.field = false)) rfl ?_ ?_)
 ·refine aB.jc rfl (Fn rfl) rfl (du _) (aC (fun hg1 => ?_) (fun hg1 => ?_))
  ·exact aN rfl rfl rfl (by grind [aS.cJ])
  ·refine aB.jc rfl (Fn rfl) rfl (du _) (aC (fun hc2 => ?_) (fun hc2 => ?_))
   ·exact aN rfl rfl rfl (by grind [aS.cJ])
   ·exact .b0 rfl ⟨(), by grind, rfl⟩
 ·rintro _ hF3
  refine aG.jn 999 999 [.h, .s 1, .b 1] (fun (_ : Unit) => []) (fun (_ : Unit) => ¬ ((x.kind ≠ 8 ∧ 0 < x.names.length) ∨ (x.kind ≠ 9 ∧ nF x.dv = false) ∨ (x.kind ≠ 3 ∧ x.kind ≠ 9 ∧ x.ty ≠ 0))) rfl ?_ ?_
  ·refine aC (fun hg3 => ?_) (fun hg3 => ?_)
   ·refine aC (fun hg4 => ?_) (fun hg4 => ?_)
    ·exact aN rfl rfl rfl (by grind [aS.cJ])
    ·refine aC (fun hg5 => ?_) (fun hg5 => ?_)
     ·refine aB.jc rfl (Fn rfl) rfl (E6 _) (aC (fun hg6 => ?_) (fun hg6 => ?_))
      ·exact aN rfl rfl rfl (by grind [aS.cJ])
      ·refine aC (fun hg7 => ?_) (fun hg7 => ?_)
       ·refine aC (fun hg8 => ?_) (fun hg8 => ?_)
        ·refine aC (fun hc9 => ?_) (fun hc9 => ?_)
         ·exact aN rfl rfl rfl (by grind [aS.cJ])
         ·exact .b0 rfl ⟨(), by grind, rfl⟩
        ·exact .b0 rfl ⟨(), by grind, rfl⟩
       ·exact .b0 rfl ⟨(), by grind, rfl⟩
     ·refine aC (fun hg10 => ?_) (fun hg10 => ?_)
      ·refine aC (fun hg11 => ?_) (fun hg11 => ?_)
       ·refine aC (fun hc12 => ?_) (fun hc12 => ?_)
        ·exact aN rfl rfl rfl (by grind [aS.cJ])
        ·exact .b0 rfl ⟨(), by grind, rfl⟩
       ·exact .b0 rfl ⟨(), by grind, rfl⟩
      ·exact .b0 rfl ⟨(), by grind, rfl⟩
   ·refine aC (fun hg13 => ?_) (fun hg13 => ?_)
    ·refine aB.jc rfl (Fn rfl) rfl (E6 _) (aC (fun hg14 => ?_) (fun hg14 => ?_))
     ·exact aN rfl rfl rfl (by grind [aS.cJ])
     ·refine aC (fun hg15 => ?_) (fun hg15 => ?_)
      ·refine aC (fun hg16 => ?_) (fun hg16 => ?_)
       ·refine aC (fun hc17 => ?_) (fun hc17 => ?_)
        ·exact aN rfl rfl rfl (by grind [aS.cJ])
        ·exact .b0 rfl ⟨(), by grind, rfl⟩
       ·exact .b0 rfl ⟨(), by grind, rfl⟩
      ·exact .b0 rfl ⟨(), by grind, rfl⟩
    ·refine aC (fun hg18 => ?_) (fun hg18 => ?_)
     ·refine aC (fun hg19 => ?_) (fun hg19 => ?_)
      ·refine aC (fun hc20 => ?_) (fun hc20 => ?_)
       ·exact aN rfl rfl rfl (by grind [aS.cJ])
       ·exact .b0 rfl ⟨(), by grind, rfl⟩
      ·exact .b0 rfl ⟨(), by grind, rfl⟩
     ·exact .b0 rfl ⟨(), by grind, rfl⟩
  ·rintro _ hF5
   refine aC (fun hc21 => ?_) (fun hc21 => ?_)
   ·exact aB.jc rfl (Fn rfl) rfl (kC _ _ _ _ _) (aN rfl rfl rfl (by grind [aS.cJ]))
   ·refine aC (fun hc22 => ?_) (fun hc22 => ?_)
    ·exact aB.jc rfl (Fn rfl) rfl (kC _ _ _ _ _) (aN rfl rfl rfl (by grind [aS.cJ]))
    ·refine aC (fun hc23 => ?_) (fun hc23 => ?_)
     ·refine aB.jc rfl (Fn rfl) rfl (kC _ _ _ _ _) (aC (fun hg24 => ?_) (fun hg24 => ?_))
      ·exact aB.jc rfl (Fn rfl) rfl (rp _) (aN rfl rfl rfl (by grind [aS.cJ]))
      ·exact aN rfl rfl rfl (by grind [aS.cJ])
     ·refine aC (fun hc25 => ?_) (fun hc25 => ?_)
      ·exact aB.jc rfl (Fn rfl) rfl (kC _ _ _ _ _) (aN rfl rfl rfl (by grind [aS.cJ]))
      ·refine aC (fun hc26 => ?_) (fun hc26 => ?_)
       ·exact aB.jc rfl (Fn rfl) rfl (kC _ _ _ _ _) (aN rfl rfl rfl (by grind [aS.cJ]))
       ·refine aC (fun hc27 => ?_) (fun hc27 => ?_)
        ·exact aB.jc rfl (Fn rfl) rfl (kC _ _ _ _ _) (aN rfl rfl rfl (by grind [aS.cJ]))
        ·refine aC (fun hc28 => ?_) (fun hc28 => ?_)
         ·exact aB.jc rfl (Fn rfl) rfl (kC _ _ _ _ _) (aN rfl rfl rfl (by grind [aS.cJ]))
         ·refine aC (fun hc29 => ?_) (fun hc29 => ?_)
          ·exact aB.jc rfl (Fn rfl) rfl (kC _ _ _ _ _) (aN rfl rfl rfl (by grind [aS.cJ]))
          ·refine aC (fun hc30 => ?_) (fun hc30 => ?_)
           ·refine aB.jc rfl (Fn rfl) rfl (kC _ _ _ _ _) (aC (fun hg31 => ?_) (fun hg31 => ?_))
            ·refine aC (fun hg32 => ?_) (fun hg32 => ?_)
             ·refine aC (fun hg33 => ?_) (fun hg33 => ?_)
              ·refine aB.jc rfl (Fn rfl) rfl (IL _ hb.n) (aC (fun hg34 => ?_) (fun hg34 => ?_))
               ·exact aB.jc rfl (Fn rfl) rfl (rr _ hb.n) (aN rfl rfl rfl (by grind [aS.cJ]))
               ·exact aN rfl rfl rfl (by grind [aS.cJ])
              ·exact aN rfl rfl rfl (by grind [aS.cJ])
             ·exact aN rfl rfl rfl (by grind [aS.cJ])
            ·exact aN rfl rfl rfl (by grind [aS.cJ])
           ·refine aC (fun hc35 => ?_) (fun hc35 => ?_)
            ·refine aB.jc rfl (Fn rfl) rfl (kC _ _ _ _ _) (aC (fun hg36 => ?_) (fun hg36 => ?_))
             ·refine aC (fun hg37 => ?_) (fun hg37 => ?_)
              ·refine aC (fun hg38 => ?_) (fun hg38 => ?_)
               ·exact aB.jc rfl (Fn rfl) rfl (Ju oG (M5 x.ty) x.dv hb.s fun u hu name => zK oG CG u (hb.u u hu) name) (aN rfl rfl rfl (by grind [aS.cJ]))
               ·exact aN rfl rfl rfl (by grind [aS.cJ])
              ·exact aN rfl rfl rfl (by grind [aS.cJ])
             ·exact aN rfl rfl rfl (by grind [aS.cJ])
            ·exact aN rfl rfl rfl (by grind [aS.cJ])
theorem IH (x : aS) (hb : x.eK) : Pure Tryz.prog 65 [x.av] (.bool x.right) := right_eq x ▸ EX x hb
open Go Go.RowKit
def cl {α : Type} (p : α → Bool) : List α → Nat
 | [] => 0
 | a :: l => if cl p l = l.length ∧ p a = true then l.length + 1 else cl p l
def fS {α : Type} (l : List α) (at_ : Nat) (x : α) : List α := l.take at_ ++ x :: l.drop at_
def ct {α : Type} (p : α → Bool) (x : α) (l : List α) : List α := fS l (l.length - cl p l) x
def bO {α : Type} (gt : α → α → Bool) (l : List α) : List α := l.foldl (fun acc x => ct (fun y => gt y x) x acc) []
def HI (t s : aw) : Bool := !(mw t s || t == s)
def eR (l : List aw) (from_ : Nat) (s : aw) : Nat := if l.length ≤ from_ then l.length else max from_ (l.length - cl (fun t => HI t s) l)
def eQ.sort (e : eQ) : eQ := ⟨e.name, bO (fun y x : ks => decide (y.num > x.num)) e.values⟩
def aU.sort (m : aU) : aU := ⟨m.name, bO (fun y x : ae => decide (y.num > x.num)) m.fields, bO (fun y x : Int => decide (y > x)) m.ai⟩
def zu (acc : List eQ) (e : eQ) : List eQ := fS acc (eR (acc.map (·.name)) 0 e.name) e.sort
def mM (acc : List aU) (m : aU) : List aU := fS acc (if acc.length = 0 then 0 else eR (acc.map (·.name)) 1 m.name) m.sort
def aL.sorted (s : aL) : aL := ⟨s.enums.foldl zu [], s.msgs.foldl mM []⟩
def aU.dJ (m : aU) (name : aw) : Int := bI (fun f : ae => f.name == name) m.fields 0
def aU.members (m : aU) (one : aw) : List Int := (m.fields.filter fun f => !(one == []) && f.one == one).map (·.num)
def aL.dQ (s : aL) (name : aw) : Nat := (s.msgs.map fun m => m.fields.countP fun f => decide (f.ty = 15) && f.ref == name).sum
def aU.free (m : aU) (num : Int) : Bool := qg num && (m.fields.all fun f => !(f.num == num)) && !(m.ai.any (· == num))
def ae.alone (f : ae) : Bool := !f.rep && f.one == []
def eY : ae := ⟨[], 0, 0, [], false, false, []⟩
def lg : aU := ⟨[], [], []⟩
def aU.aV (m : aU) (name : aw) : ae := (m.fields.find? fun f => f.name == name).getD eY
def aU.dh (m : aU) (name : aw) : Bool := m.fields.any fun f => f.name == name
def aS.bk (x : aS) : List aw := if x.kind = 8 then x.names else if x.kind = 9 then [] else if x.kind = 5 then [x.field, x.also] else [x.field]
def aL.boxed (s : aL) (m : aU) (f : ae) : Bool :=
 decide (f.ty = 15) && f.alone && decide (1 ≤ s.bL f.ref) && !(f.ref == m.name) && decide (s.dQ f.ref = 1) &&
  (match (s.fP f.ref).map (·.fields) with | some [g] => g.one == [] | _ => false)
def aS.asked (s : aL) (m : aU) (x : aS) : Bool :=
 let f := m.aV x.field
 if x.kind = 3 then decide (1 ≤ f.ty) && decide (f.ty ≤ 11) && !decide (f.ty = 7)
 else if x.kind = 4 then (decide (f.ty = 4) || decide (f.ty = 9)) && f.alone
 else if x.kind = 5 then !(x.field == x.also) && decide (f.ty = 3) && decide ((m.aV x.also).ty = 3) && f.alone && (m.aV x.also).alone
 else if x.kind = 6 then f.one == []
 else if x.kind = 10 then f.one == [] && !decide (f.ty = 15)
 else if x.kind = 7 then s.boxed m f
 else if x.kind = 8 then x.names.all fun n => (m.aV n).alone
 else true
def aS.goes (x : aS) : List aw := if x.kind = 2 ∨ x.kind = 4 ∨ x.kind = 6 ∨ x.kind = 7 ∨ x.kind = 10 then [x.field] else if x.kind = 5 then [x.field, x.also] else []
def aS.comes (s : aL) (f : ae) (x : aS) : List ae :=
 if x.kind = 2 then [{ f with num := x.num }]
 else if x.kind = 4 then [{ eY with name := x.dest, num := x.num, ty := 3 }, { eY with name := x.also, num := x.other, ty := 3 }]
 else if x.kind = 5 then [{ eY with name := x.dest, num := x.num, ty := 4 }]
 else if x.kind = 6 then [{ eY with name := x.also, num := x.num, ty := 15, ref := x.dest }]
 else if x.kind = 7 then [(((s.fP f.ref).getD lg).fields.headD eY)]
 else if x.kind = 9 then [{ eY with name := x.field, num := x.num, ty := x.ty }]
 else []
def bE (l : List ae) (names : List aw) : List ae := l.filter fun f => !(names.any fun n => f.name == n)
def iP : aU → List ae → Bool
 | _, [] => false
 | m, f :: l => !m.free f.num || iP { m with fields := m.fields ++ [f] } l
def aS.there (s : aL) (m : aU) (x : aS) (l : List ae) : Bool :=
 iP m l || (decide (x.kind = 6) && (decide (0 ≤ s.fL x.dest) || decide (0 ≤ s.bL x.dest))) || (decide (x.kind = 8) && decide (0 < ({ m with fields := m.fields ++ l }.members x.field).length))
def aS.changed (x : aS) (f : ae) : ae :=
 if x.kind = 8 then (if x.names.any (fun n => n == f.name) then { f with one := x.field } else f)
 else if f.name = x.field then (if x.kind = 1 then { f with name := x.dest } else if x.kind = 3 then { f with ty := x.ty } else f)
 else f
def aS.msgs (s : aL) (x : aS) (at_ : Nat) (r : aU) (ref : aw) : List aU :=
 let go := (s.msgs.zipIdx.filterMap fun (m, i) => if i = at_ then some r else if x.kind = 7 ∧ m.name = ref then none else some m)
 go ++ (if x.kind = 6 then [{ lg with name := x.dest, fields := [((s.msgs.getD at_ lg).aV x.field)] }] else [])
def aL.apply (s : aL) (x : aS) : Except Int aL :=
 if s.iN ≠ 0 ∨ x.right = false then .error 1
 else if s.bL x.msg < 0 then .error 5
 else
  let at_ := (s.bL x.msg).toNat
  let m := s.msgs.getD at_ lg
  if x.bk.all m.dh = false then .error 5
  else if x.asked s m = false then .error 7
  else
   let f := m.aV x.field
   let r : aU := { m with fields := bE m.fields x.goes }
   let more := x.comes s f
   if x.there s r more then .error 6
   else
    let r2 : aU := { r with fields := r.fields.map x.changed ++ more }
    let out := (⟨s.enums, x.msgs s at_ r2 f.ref⟩ : aL).sorted
    if out.iN ≠ 0 then .error out.iN else .ok out
def aL.dy : List aS → aL → List aL → Except Int (List aL)
 | [], _, acc => .ok acc
 | x :: l, s, acc => match s.apply x with
  | .ok t => dy l t (acc ++ [t])
  | .error e => .error e
def aL.all (s : aL) (l : List aS) : Except Int (List aL) := if s.iN ≠ 0 then .error s.iN else if 16 < l.length then .error 4 else aL.dy l s [s]
theorem kW (m : aU) (name : aw) (hl : m.fields.length ≤ 1000) : Pure Tryz.prog 67 [m.av, .str name] (.int .i64 (m.dJ name)) := by
 refine Pure.go II mixed Tryz.func67 rfl rfl fun H => (aG.lq [.s 5, .h, .s 1, .s 2, .b 2] (fun (i : Nat) => [(.s 5, .sv (.v (.int .i64 (i : Int))))]) (fun (i : Nat) => bI (fun f : ae => f.name == name) (m.fields.drop i) i = m.dJ name) (fun (i : Nat) => m.fields.length - i) 0 rfl rfl (by simp [aU.dJ]) ?_)
 rintro i hI
 refine aC (fun hc1 => ?_) (fun hc1 => ?_)
 ·have hi := cz hc1
  have hS := bo (p := (fun f : ae => f.name == name)) hi
  refine aB.ii rfl bY rfl rfl (ca hi) rfl (aC (fun hc2 => ?_) (fun hc2 => ?_))
  ·exact cC rfl rfl rfl (by grind [aU.dJ])
  ·exact .b1 5 rfl (inc (by omega)) rfl ⟨i + 1, by omega, by grind, rfl⟩
 ·have hi := dA hc1
  have hS := dT (p := (fun f : ae => f.name == name)) hi
  exact cC rfl rfl rfl (by grind [aU.dJ])
theorem AQ {m : aU} {num : Int} : decide (m.at num < 0) = m.fields.all fun f => !(f.num == num) := by
 rcases ao (fun f : ae => f.num == num) m.fields 0 with ⟨h1, h2⟩ | ⟨i, hi, h1, h2, h3⟩
 ·have e : m.at num = -1 := h1
  rw [e, List.all_eq_true.2 (fun f hf => by have := List.find?_eq_none.1 h2 f hf; simpa using this)]
  decide
 ·have e : m.at num = ((0 + i : Nat) : Int) := h1
  have h4 : (m.fields.all fun f => !(f.num == num)) = false := List.all_eq_false.2 ⟨m.fields[i], List.getElem_mem hi, by simpa using h3⟩
  rw [e, h4]
  simp
theorem LD (m : aU) (num : Int) (hl : m.fields.length ≤ 1000) (hb : m.ai.length ≤ 1000) : Pure Tryz.prog 119 [m.av, .int .i64 num] (.bool (m.free num)) := by
 refine Pure.go II mixed Tryz.func119 rfl rfl fun H => (aB.jc rfl (Fn rfl) rfl (gC _) (aC (fun hg1 => ?_) (fun hg1 => ?_)))
 ·refine aB.jc rfl (Fn rfl) rfl (oJ _ _ hl) (aC (fun hg2 => ?_) (fun hg2 => ?_))
  ·exact aB.jc rfl (Fn rfl) rfl (Jv _ _ (by omega)) (aN rfl rfl rfl (by have := @AQ m num; grind [aU.free]))
  ·exact aN rfl rfl rfl (by have := @AQ m num; grind [aU.free])
 ·exact aN rfl rfl rfl (by have := @AQ m num; grind [aU.free])
def jd (one : aw) (f : ae) : Bool := !(one == []) && f.one == one
theorem kZ {m : aU} {one : aw} {i : Nat} (hi : i < m.fields.length) (h : jd one m.fields[i] = true) : ((m.fields.take i).filter (jd one)).map (fun f => AV.int .i64 f.num) ++ [AV.int .i64 m.fields[i].num] = ((m.fields.take (i + 1)).filter (jd one)).map (fun f => AV.int .i64 f.num) := by
 have e : m.fields.take (i + 1) = m.fields.take i ++ [m.fields[i]] := by rw [List.take_add_one, List.getElem?_eq_getElem hi]; rfl
 have e2 : [m.fields[i]].filter (jd one) = [m.fields[i]] := by simp [h]
 rw [e, List.filter_append, List.map_append, e2]; rfl
theorem mg {m : aU} {one : aw} {i : Nat} (hi : i < m.fields.length) (h : jd one m.fields[i] = false) : ((m.fields.take i).filter (jd one)).map (fun f => AV.int .i64 f.num) = ((m.fields.take (i + 1)).filter (jd one)).map (fun f => AV.int .i64 f.num) := by
 have e : m.fields.take (i + 1) = m.fields.take i ++ [m.fields[i]] := by rw [List.take_add_one, List.getElem?_eq_getElem hi]; rfl
 have e2 : [m.fields[i]].filter (jd one) = [] := by simp [h]
 rw [e, List.filter_append, List.map_append, e2, List.map_nil, List.append_nil]
theorem uS (m : aU) (one : aw) (hl : m.fields.length ≤ 1000) : Pure Tryz.prog 120 [m.av, .str one] (.sl ((m.members one).map eJ)) := by
 refine Pure.gn 6 II mixed Tryz.func120 rfl rfl fun H => (aB.d2 rfl (bD («as» := []) (aH rfl) cI eu rfl rfl rfl (gQ rfl) rfl) (aG.lq [.s 6, .s 5, .t 7, .h, .s 1, .s 2, .b 2] (fun ((i, a) : Nat × List AV) => [(.s 6, .sv (.v (.int .i64 (i : Int)))), (.s 5, .sv (.ow 7 a)), (.t 7, .tk false 3 1 a)]) (fun ((i, a) : Nat × List AV) => a = ((m.fields.take i).filter (jd one)).map (fun f => AV.int .i64 f.num)) (fun ((i, a) : Nat × List AV) => m.fields.length - i) (0, []) rfl rfl (by simp) ?_))
 rintro ⟨i, a⟩ hI
 refine aC (fun hc1 => ?_) (fun hc1 => ?_)
 ·have hi := cz hc1
  refine aC (fun hg2 => ?_) (fun hg2 => ?_)
  ·refine aB.ii rfl bY rfl rfl (ca hi) rfl (aC (fun hc3 => ?_) (fun hc3 => ?_))
   ·refine aB.ii rfl bY rfl rfl (ca hi) rfl (aB.d3 rfl (aj (aH rfl) cI rfl rfl rfl rfl rfl (by rw [hI]; simp only [List.length_map, List.length_cons, List.length_nil]; have h1 := List.length_filter_le (jd one) (m.fields.take i); rw [List.length_take] at h1; omega) rfl) ?_)
    exact ⟨Kept.c6 6 rfl (inc (by omega)) (Kept.az [.s 6, .s 5, .t 35, .h, .s 1, .s 2, .b 2] rfl (by decide) (Kept.cO 35 7 (by decide) rfl (Kept.now ⟨(i + 1, _), by dsimp only; omega, by first | exact kZ hi (by simp_all [jd]) | exact mg hi (by simp_all [jd]) | (rw [hI]; first | exact kZ hi (by simp_all [jd]) | exact mg hi (by simp_all [jd])), rfl⟩)))⟩
   ·exact .b1 6 rfl (inc (by omega)) rfl ⟨(i + 1, _), by dsimp only; omega, by first | exact kZ hi (by simp_all [jd]) | exact mg hi (by simp_all [jd]) | (rw [hI]; first | exact kZ hi (by simp_all [jd]) | exact mg hi (by simp_all [jd])), rfl⟩
  ·exact .b1 6 rfl (inc (by omega)) rfl ⟨(i + 1, _), by dsimp only; omega, by first | exact kZ hi (by simp_all [jd]) | exact mg hi (by simp_all [jd]) | (rw [hI]; first | exact kZ hi (by simp_all [jd]) | exact mg hi (by simp_all [jd])), rfl⟩
 ·have hi := dA hc1
  exact cD rfl rfl rfl (congrArg AV.sl (by rw [hI, List.take_of_length_le (by omega)]; unfold aU.members; rw [List.map_map]; rfl))
def tn (name : aw) (f : ae) : Bool := decide (f.ty = 15) && f.ref == name
def tr (name : aw) (m : aU) : Nat := m.fields.countP (tn name)
theorem HU (s : aL) (name : aw) : s.dQ name = (s.msgs.map (tr name)).sum := rfl
theorem Dv {s : aL} {name : aw} {i : Nat} (hi : i < s.msgs.length) : ((s.msgs.take (i + 1)).map (tr name)).sum = ((s.msgs.take i).map (tr name)).sum + tr name s.msgs[i] := by
 have e : s.msgs.take (i + 1) = s.msgs.take i ++ [s.msgs[i]] := by rw [List.take_add_one, List.getElem?_eq_getElem hi]; rfl
 rw [e, List.map_append, List.sum_append]; simp
theorem pF {m : aU} {name : aw} {k : Nat} (hk : k < m.fields.length) : (m.fields.take (k + 1)).countP (tn name) = (m.fields.take k).countP (tn name) + (if tn name m.fields[k] = true then 1 else 0) := by
 have e : m.fields.take (k + 1) = m.fields.take k ++ [m.fields[k]] := by rw [List.take_add_one, List.getElem?_eq_getElem hk]; rfl
 rw [e, List.countP_append, List.countP_singleton]
theorem Dw {s : aL} (hs : s.sm) (name : aw) (i : Nat) : ((s.msgs.take i).map (tr name)).sum ≤ 60 := by
 have h : ∀ (l : List aU), (∀ m ∈ l, tr name m ≤ 10) → (l.map (tr name)).sum ≤ 10 * l.length := by
  intro l
  induction l with
  | nil => intro _; simp
  | cons a l ih =>
   intro h
   have h1 := h a (List.mem_cons_self ..)
   have h2 := ih fun m hm => h m (List.mem_cons_of_mem _ hm)
   simp; omega
 have h2 := h (s.msgs.take i) fun m hm => by
  have := hs.f m (List.mem_of_mem_take hm)
  have h3 : tr name m ≤ m.fields.length := List.countP_le_length
  omega
 have h4 : (s.msgs.take i).length ≤ s.msgs.length := by rw [List.length_take]; omega
 have := hs.m
 omega
theorem Ko (s : aL) (name : aw) (hs : s.sm) : Pure Tryz.prog 159 [s.av, .str name] (.int .i64 (s.dQ name : Int)) := by
 have hm := hs.m
 refine Pure.go II mixed Tryz.func159 rfl rfl fun H => (aG.lq [.s 6, .s 5, .h, .s 1, .s 2, .b 2] (fun ((i, n) : Nat × Int) => [(.s 6, .sv (.v (.int .i64 (i : Int)))), (.s 5, .sv (.v (.int .i64 n)))]) (fun ((i, n) : Nat × Int) => n = ((((s.msgs.take i).map (tr name)).sum : Nat) : Int)) (fun ((i, n) : Nat × Int) => s.msgs.length - i) (0, 0) rfl rfl (by simp) ?_)
 rintro ⟨i, n⟩ hI
 refine aC (fun hc1 => ?_) (fun hc1 => ?_)
 ·have hi := cz hc1
  have hf := hs.fi hi
  refine aG.lq [.s 7, .s 5, .h, .s 1, .s 2, .b 2, .s 6] (fun ((k, n) : Nat × Int) => [(.s 7, .sv (.v (.int .i64 (k : Int)))), (.s 5, .sv (.v (.int .i64 n)))]) (fun ((k, n) : Nat × Int) => n = ((((s.msgs.take i).map (tr name)).sum + ((s.msgs[i]'hi).fields.take k).countP (tn name) : Nat) : Int)) (fun ((k, n) : Nat × Int) => (s.msgs[i]'hi).fields.length - k) (0, _) rfl rfl (by rw [hI]; simp) ?_
  rintro ⟨k, n⟩ hK
  refine aB.ii rfl bW rfl rfl (ca hi) rfl (aC (fun hc2 => ?_) (fun hc2 => ?_))
  ·have hk := cz hc2
   refine aB.ii rfl bW rfl rfl (ca hi) rfl (aB.ii rfl bY rfl rfl (ca hk) rfl (aC (fun hg3 => ?_) (fun hg3 => ?_)))
   ·refine aC (fun hc4 => ?_) (fun hc4 => ?_)
    ·exact .b1 7 rfl (inc (by omega)) rfl ⟨(k + 1, _), by dsimp only; omega, by dsimp only; rw [hK, (fI (by have := Dw hs name i; have h2 := List.countP_le_length (p := tn name) (l := (s.msgs[i].fields.take k)); have h3 := hs.fi hi; rw [List.length_take] at h2; omega) (by have := Dw hs name i; have h2 := List.countP_le_length (p := tn name) (l := (s.msgs[i].fields.take k)); have h3 := hs.fi hi; rw [List.length_take] at h2; omega)), pF hk, if_pos (by simp_all [tn])]; omega, rfl⟩
    ·exact .b1 7 rfl (inc (by omega)) rfl ⟨(k + 1, _), by dsimp only; omega, by dsimp only; rw [hK, pF hk, if_neg (by simp_all [tn])]; omega, rfl⟩
   ·exact .b1 7 rfl (inc (by omega)) rfl ⟨(k + 1, _), by dsimp only; omega, by dsimp only; rw [hK, pF hk, if_neg (by simp_all [tn])]; omega, rfl⟩
  ·have hk := dA hc2
   exact .b1 6 rfl (inc (by omega)) rfl ⟨(i + 1, _), by dsimp only; omega, by dsimp only; rw [hK, Dv hi, List.take_of_length_le (l := s.msgs[i].fields) (i := k) (by omega)]; rfl, rfl⟩
 ·have hi := dA hc1
  exact cC rfl rfl rfl (by rw [hI, List.take_of_length_le (by omega), HU])
theorem mJ : lk Tryz.prog 88 = some (true, 7) := by kernel_rfl
theorem mc (f : ae) : Pure Tryz.prog 117 [f.av] (.bool f.alone) := by
 refine Pure.go II mixed Tryz.func117 rfl rfl fun H => (aC (fun hg1 => ?_) (fun hg1 => ?_))
 ·exact aN rfl rfl rfl (by grind [ae.alone])
 ·exact aN rfl rfl rfl (by grind [ae.alone])
theorem IK (x : aS) : Pure Tryz.prog 66 [x.av] (.sl (x.bk.map .str)) := by
 refine Pure.go II mixed Tryz.func66 rfl rfl fun H => (aC (fun hc1 => ?_) (fun hc1 => ?_))
 ·exact cD rfl rfl rfl (congrArg AV.sl (by simp_all [aS.bk]))
 ·refine aC (fun hc2 => ?_) (fun hc2 => ?_)
  ·exact cD rfl rfl rfl (congrArg AV.sl (by simp_all [aS.bk]))
  ·refine aC (fun hc3 => ?_) (fun hc3 => ?_)
   ·exact cD rfl rfl rfl (congrArg AV.sl (by simp_all [aS.bk]))
   ·exact cD rfl rfl rfl (congrArg AV.sl (by simp_all [aS.bk]))
theorem LB (x : aS) : Pure Tryz.prog 70 [x.av] (.sl (x.goes.map .str)) := by
 refine Pure.go II mixed Tryz.func70 rfl rfl fun H => (aC (fun hc1 => ?_) (fun hc1 => ?_))
 ·exact cD rfl rfl rfl (congrArg AV.sl (by simp_all [aS.goes]))
 ·refine aC (fun hc2 => ?_) (fun hc2 => ?_)
  ·exact cD rfl rfl rfl (congrArg AV.sl (by simp_all [aS.goes]))
  ·refine aC (fun hc3 => ?_) (fun hc3 => ?_)
   ·exact cD rfl rfl rfl (congrArg AV.sl (by simp_all [aS.goes]))
   ·refine aC (fun hc4 => ?_) (fun hc4 => ?_)
    ·exact cD rfl rfl rfl (congrArg AV.sl (by simp_all [aS.goes]))
    ·refine aC (fun hc5 => ?_) (fun hc5 => ?_)
     ·exact cD rfl rfl rfl (congrArg AV.sl (by simp_all [aS.goes]))
     ·refine aC (fun hc6 => ?_) (fun hc6 => ?_)
      ·exact cD rfl rfl rfl (congrArg AV.sl (by simp_all [aS.goes]))
      ·exact cD rfl rfl rfl (congrArg AV.sl (by simp_all [aS.goes]))
theorem yU {x : aS} {f : ae} {i : Nat} (hi : i < x.names.length) : (x.names.take (i + 1)).any (fun n => n == f.name) = ((x.names.take i).any (fun n => n == f.name) || x.names[i] == f.name) := by
 have e : x.names.take (i + 1) = x.names.take i ++ [x.names[i]] := by rw [List.take_add_one, List.getElem?_eq_getElem hi]; rfl
 rw [e, List.any_append]; simp
theorem Ga {x : aS} {f : ae} (h : x.kind = 8) {i : Nat} (hi : x.names.length ≤ i) {o : aw} (ho : o = if (x.names.take i).any (fun n => n == f.name) = true then x.field else f.one) : ({ f with one := o } : ae) = x.changed f := by
 rw [List.take_of_length_le hi] at ho
 unfold aS.changed
 rw [if_pos h, ho]
 split <;> rfl
theorem C1 (f : ae) (x : aS) (hl : x.names.length ≤ 9223372036854775807) : Pure Tryz.prog 73 [f.av, x.av] (x.changed f).av := by
 refine Pure.go II mixed Tryz.func73 rfl rfl fun H => (aC (fun hc1 => ?_) (fun hc1 => ?_))
 ·refine aG.lq [.s 5, .b 2, .h, .s 2, .s 3, .b 3, .s 4, .b 4] (fun ((i, o) : Nat × aw) => [(.s 5, .sv (.v (.int .i64 (i : Int)))), (.b 2, .bx [.v (.str f.name), .v (.int .i64 f.num), .v (.int .i64 f.ty), .v (.str f.ref), .v (.bool f.rep), .v (.bool f.loose), .v (.str o)])]) (fun ((i, o) : Nat × aw) => o = if (x.names.take i).any (fun n => n == f.name) = true then x.field else f.one) (fun ((i, o) : Nat × aw) => x.names.length - i) (0, f.one) rfl rfl (by simp) ?_
  rintro ⟨i, o⟩ hI
  refine aC (fun hc2 => ?_) (fun hc2 => ?_)
  ·have hi := cz hc2
   refine ⟨rfl, (aF.d1 rfl (bP (aH rfl) cY rfl rfl (ca hi) rfl) ⟨by kernel_rfl, (aC (fun hc3 => ?_) (fun hc3 => ?_))⟩)⟩
   ·exact .b1 5 rfl (inc (by omega)) rfl ⟨(i + 1, _), by dsimp only; omega, by dsimp only; rw [yU hi]; simp_all, rfl⟩
   ·exact .b1 5 rfl (inc (by omega)) rfl ⟨(i + 1, _), by dsimp only; omega, by dsimp only; rw [yU hi]; simp_all, rfl⟩
  ·have hi := dA hc2
   exact ⟨.inr rfl, (aM.r1 rfl (.cell mJ rfl rfl rfl rfl .nil)).cast (congrArg ae.av (Ga (by simpa using hc1) (by omega) hI)), rfl⟩
 ·refine aC (fun hc4 => ?_) (fun hc4 => ?_)
  ·exact ⟨.inr rfl, (aM.r1 rfl (.cell mJ rfl rfl rfl rfl .nil)).cast (congrArg ae.av (show f = x.changed f by simp_all [aS.changed])), rfl⟩
  ·refine aC (fun hc5 => ?_) (fun hc5 => ?_)
   ·refine aC (fun hc6 => ?_) (fun hc6 => ?_)
    ·exact ⟨.inr rfl, (aM.r1 rfl (.cell mJ rfl rfl rfl rfl .nil)).cast (by first | exact congrArg ae.av (show ({ f with name := x.dest } : ae) = x.changed f by simp_all [aS.changed]) | exact congrArg ae.av (show ({ f with ty := x.ty } : ae) = x.changed f by simp_all [aS.changed]) | exact congrArg ae.av (show f = x.changed f by simp_all [aS.changed]) | (exfalso; simp_all)), rfl⟩
    ·exact ⟨.inr rfl, (aM.r1 rfl (.cell mJ rfl rfl rfl rfl .nil)).cast (by first | exact congrArg ae.av (show ({ f with name := x.dest } : ae) = x.changed f by simp_all [aS.changed]) | exact congrArg ae.av (show ({ f with ty := x.ty } : ae) = x.changed f by simp_all [aS.changed]) | exact congrArg ae.av (show f = x.changed f by simp_all [aS.changed]) | (exfalso; simp_all)), rfl⟩
   ·refine aC (fun hc7 => ?_) (fun hc7 => ?_)
    ·exact ⟨.inr rfl, (aM.r1 rfl (.cell mJ rfl rfl rfl rfl .nil)).cast (by first | exact congrArg ae.av (show ({ f with name := x.dest } : ae) = x.changed f by simp_all [aS.changed]) | exact congrArg ae.av (show ({ f with ty := x.ty } : ae) = x.changed f by simp_all [aS.changed]) | exact congrArg ae.av (show f = x.changed f by simp_all [aS.changed]) | (exfalso; simp_all)), rfl⟩
    ·exact ⟨.inr rfl, (aM.r1 rfl (.cell mJ rfl rfl rfl rfl .nil)).cast (by first | exact congrArg ae.av (show ({ f with name := x.dest } : ae) = x.changed f by simp_all [aS.changed]) | exact congrArg ae.av (show ({ f with ty := x.ty } : ae) = x.changed f by simp_all [aS.changed]) | exact congrArg ae.av (show f = x.changed f by simp_all [aS.changed]) | (exfalso; simp_all)), rfl⟩
def mL (names : List aw) (f : ae) : Bool := !(names.any fun n => f.name == n)
theorem um {names : List aw} {f : ae} {k : Nat} (hk : k < names.length) : (names.take (k + 1)).any (fun n => f.name == n) = ((names.take k).any (fun n => f.name == n) || f.name == names[k]) := by
 have e : names.take (k + 1) = names.take k ++ [names[k]] := by rw [List.take_add_one, List.getElem?_eq_getElem hk]; rfl
 rw [e, List.any_append]; simp
structure Port where
 f : ae
 reg : Int
 part : Int
 deriving DecidableEq, Inhabited
def Port.cells (x : Port) : List AV := x.f.cells ++ [.int .i64 x.reg, .int .i64 x.part]
def Port.av (x : Port) : AV := .agg x.cells
structure al where
 kind : Int
 a : Int
 b : Int
 c : Int
 src : Int
 dst : Int
 lo : Int
 hi : Nat
 part : Int
 aE : List Int
 dv : bF
def jb : al := ⟨0, 0, 0, 0, 0, 0, 0, 0, 0, [], .mk 0 [] []⟩
def al.cells (x : al) : List AV := [.int .i64 x.kind, .int .i64 x.a, .int .i64 x.b, .int .i64 x.c, .int .i64 x.src, .int .i64 x.dst, .int .i64 x.lo, .int .u64 (x.hi : Int), .int .i64 x.part, .sl (x.aE.map eJ)] ++ x.dv.cells
def al.av (x : al) : AV := .agg x.cells
structure aQ where
 name : aw
 ins : List Port
 ops : List al
 outs : List Port
 aE : Int
 fB : List Int
 born : Bool
def bS : aQ := ⟨[], [], [], [], 0, [], false⟩
def aQ.cells (x : aQ) : List AV := [.str x.name, .sl (x.ins.map Port.av), .sl (x.ops.map al.av), .sl (x.outs.map Port.av), .int .i64 x.aE, .sl (x.fB.map eJ), .bool x.born]
def aQ.av (x : aQ) : AV := .agg x.cells
def dq (t : Int) : Int × Nat :=
 if c8 t = false then (0, 0)
 else if ed t && iX t then (-9223372036854775808, 9223372036854775807)
 else if ed t then (-2147483648, 2147483647)
 else if iX t then (0, 18446744073709551615)
 else (0, 4294967295)
def sY (a b : Int) : Int × Nat := (max (dq a).1 (dq b).1, min (dq a).2 (dq b).2)
def fe (l : List Int) (n : Int) : List Int :=
 let at_ := l.length - cl (fun y => decide (y ≥ n)) l
 if l[at_]? = some n then l else fS l at_ n
def bT (p : aQ) : aQ := { p with fB := p.outs.foldl (fun l x => fe l x.f.num) p.fB }
def kD (s : aL) (f : ae) (k : Nat) : Port := ⟨f, k, if f.ty = 15 then s.bL f.ref else -1⟩
def bG (s : aL) (m : aU) : List Port := m.fields.zipIdx.map fun (f, k) => kD s f k
def cK (s : aL) : List aQ := s.msgs.map fun m => bT { bS with name := m.name, ins := bG s m, outs := bG s m, aE := m.fields.length }
def bl (l : List Port) (name : aw) : Int := bI (fun x : Port => x.f.name == name) l 0
def ft : Port := ⟨eY, 0, 0⟩
def aJ (l : List Port) (name : aw) : Port := (l.find? fun x => x.f.name == name).getD ft
def aR (l : List Port) (name : aw) : List Port := l.filter fun x => !(x.f.name == name)
def bb (l : List Port) (x : Port) : List Port := ct (fun y => decide (y.f.num > x.f.num)) x l
def dV (name : aw) (num ty reg : Int) : Port := ⟨{ eY with name := name, num := num, ty := ty }, reg, -1⟩
def aP (p : aQ) (x : aS) : aQ :=
 let f := aJ p.outs x.field
 let n := p.aE
 if x.kind = 1 then { p with outs := bb (aR p.outs x.field) { f with f := { f.f with name := x.dest } } }
 else if x.kind = 2 then { p with outs := bb (aR p.outs x.field) { f with f := { f.f with num := x.num } } }
 else if x.kind = 3 then { p with ops := p.ops ++ [{ jb with kind := 1, a := f.reg, src := f.f.ty, dst := x.ty, lo := (sY f.f.ty x.ty).1, hi := (sY f.f.ty x.ty).2 }], outs := bb (aR p.outs x.field) { f with f := { f.f with ty := x.ty } } }
 else if x.kind = 4 then { p with ops := p.ops ++ [{ jb with kind := 2, a := f.reg, b := n, c := n + 1 }], aE := n + 2, outs := bb (bb (aR p.outs x.field) (dV x.dest x.num 3 n)) (dV x.also x.other 3 (n + 1)) }
 else if x.kind = 5 then { p with ops := p.ops ++ [{ jb with kind := 3, a := f.reg, b := (aJ (aR p.outs x.field) x.also).reg, c := n }], aE := n + 1, outs := bb (aR (aR p.outs x.field) x.also) (dV x.dest x.num 4 n) }
 else if x.kind = 8 then { p with ops := p.ops ++ [{ jb with kind := 6, aE := x.names.map fun s => (aJ p.outs s).reg }], outs := p.outs.map fun y => if x.names.any (fun s => s == y.f.name) then { y with f := { y.f with one := x.field } } else y }
 else if x.kind = 9 then { p with ops := p.ops ++ [{ jb with kind := 7, a := n, dv := x.dv }], aE := n + 1, outs := bb p.outs (dV x.field x.num x.ty n) }
 else { p with outs := aR p.outs x.field }
def au (all : List aQ) (at_ : Nat) (x : aS) : List aQ :=
 let p := all.getD at_ bS
 let f := aJ p.outs x.field
 let n := p.aE
 if x.kind = 6 then
  let i : Port := { f with reg := 0 }
  let w := bT { bS with name := x.dest, born := true, aE := 1, ins := [i], outs := [i] }
  let g : Port := ⟨{ eY with name := x.also, num := x.num, ty := 15, ref := x.dest }, n, all.length⟩
  (all ++ [w]).set at_ { p with ops := p.ops ++ [{ jb with kind := 4, a := f.reg, b := n, part := all.length }], aE := n + 1, outs := bb (aR p.outs x.field) g }
 else if x.kind = 7 then
  let g : Port := { ((all.getD f.part.toNat bS).outs.headD ft) with reg := n }
  all.set at_ { p with ops := p.ops ++ [{ jb with kind := 5, a := f.reg, b := n, part := f.part }], aE := n + 1, outs := bb (aR p.outs x.field) g }
 else all.set at_ (aP p x)
def cW (names : List aw) (s : aw) : Nat := names.length - 1 - (names.reverse.findIdx (· == s))
structure fg where
 all : List aQ
 names : List aw
def fg.step (w : fg) (x : aS) : fg :=
 let at_ := cW w.names x.msg
 let names := if x.kind = 7 then w.names.set (aJ (w.all.getD at_ bS).outs x.field).part.toNat [] else w.names
 let all := au w.all at_ x
 ⟨all.set at_ (bT (all.getD at_ bS)), if x.kind = 6 then names ++ [x.dest] else names⟩
def lower (s : aL) (l : List aS) : List aQ := (l.foldl fg.step ⟨cK s, s.msgs.map (·.name)⟩).all
theorem nt {α : Type} (p : α → Bool) : ∀ l : List α, cl p l ≤ l.length
 | [] => Nat.le_refl _
 | a :: l => by
  unfold cl
  have := nt p l
  split <;> simp <;> omega
theorem m9 {α : Type} (p : α → Bool) : ∀ l : List α, ∀ x ∈ l.drop (l.length - cl p l), p x = true
 | [], x, h => by simp at h
 | a :: l, x, h => by
  have ih := m9 p l
  have hle := nt p l
  unfold cl at h
  split at h
  ·rename_i hc
   simp only [List.length_cons, Nat.sub_self, List.drop_zero, List.mem_cons] at h
   rcases h with rfl | h
   ·exact hc.2
   ·rw [hc.1, Nat.sub_self] at ih
    exact ih x (by simpa using h)
  ·have e : (a :: l).length - cl p l = (l.length - cl p l) + 1 := by simp; omega
   rw [e, List.drop_succ_cons] at h
   exact ih x h
theorem ky {α : Type} (p : α → Bool) : ∀ (l : List α) (i : Nat), i + 1 = l.length - cl p l → ∀ x, l[i]? = some x → p x = false
 | [], i, h, x, hx => by simp at hx
 | a :: l, i, h, x, hx => by
  have ih := ky p l
  have hle := nt p l
  unfold cl at h
  split at h
  ·simp at h
  ·rename_i hc
   cases i with
   | zero =>
    simp at h hx
    subst hx
    have : cl p l = l.length := by omega
    cases hp : p a with
    | false => rfl
    | true => exact absurd ⟨this, hp⟩ hc
   | succ i =>
    simp at h
    exact ih i (by omega) x (by simpa using hx)
theorem nY {α : Type} (l : List α) (k : Nat) (x : α) : (fS l k x).Perm (x :: l) := by
 unfold fS
 have h := List.perm_middle (a := x) (l₁ := l.take k) (l₂ := l.drop k)
 rwa [List.take_append_drop] at h
theorem fA {α : Type} (p : α → Bool) (x : α) (l : List α) : (ct p x l).Perm (x :: l) := nY _ _ _
theorem mQ {α : Type} (f : List α → α → List α) (hf : ∀ acc x, (f acc x).Perm (x :: acc)) : ∀ (l acc : List α), (l.foldl f acc).Perm (l ++ acc)
 | [], acc => List.Perm.refl _
 | x :: l, acc => by
  rw [List.foldl_cons]
  exact (mQ f hf l (f acc x)).trans (((hf acc x).append_left l).trans List.perm_middle)
theorem iG {α : Type} (gt : α → α → Bool) (l : List α) : (bO gt l).Perm l := by
 have := mQ (fun acc x => ct (fun y => gt y x) x acc) (fun acc x => fA _ _ _) l []
 simpa [bO] using this
def dP {α : Type} (k : α → Int) (l : List α) : Prop := l.Pairwise fun a b => k a < k b
theorem rj : ∀ {l : List Int}, fp l = true → l.Pairwise (· < ·)
 | [], _ => List.Pairwise.nil
 | [a], _ => List.pairwise_singleton _ _
 | a :: b :: l, h => by
  simp only [fp, Bool.and_eq_true, decide_eq_true_eq] at h
  have ih := rj h.2
  refine List.pairwise_cons.2 ⟨fun c hc => ?_, ih⟩
  rcases List.mem_cons.1 hc with rfl | hc
  ·exact h.1
  ·exact Int.lt_trans h.1 ((List.pairwise_cons.1 ih).1 c hc)
theorem dP.x7 {α : Type} {k : α → Int} {l : List α} (h : fp (l.map k) = true) : dP k l := List.pairwise_map.1 (rj h)
theorem dP.filter {α : Type} {k : α → Int} {l : List α} (h : dP k l) (p : α → Bool) : dP k (l.filter p) := List.Pairwise.filter p h
theorem dP.unique {α : Type} {k : α → Int} : ∀ {l m : List α}, dP k l → dP k m → l.Perm m → l = m
 | [], m, _, _, h => by rw [List.nil_perm.1 h]
 | a :: l, [], _, _, h => by have := h.length_eq; simp at this
 | a :: l, b :: m, h1, h2, h => by
  obtain ⟨p1, p2⟩ := List.pairwise_cons.1 h1
  obtain ⟨q1, q2⟩ := List.pairwise_cons.1 h2
  have hab : a = b := by
   have ha : a ∈ b :: m := h.mem_iff.1 (List.mem_cons_self ..)
   have hb : b ∈ a :: l := h.mem_iff.2 (List.mem_cons_self ..)
   rcases List.mem_cons.1 ha with e | ha
   ·exact e
   ·rcases List.mem_cons.1 hb with e | hb
    ·exact e.symm
    ·have := q1 a ha
     have := p1 b hb
     omega
  subst hab
  rw [dP.unique p2 q2 (List.Perm.cons_inv h)]
theorem dP.ins {α : Type} {k : α → Int} {l : List α} (h : dP k l) {x : α} (hx : ∀ y ∈ l, k y ≠ k x) : dP k (ct (fun y => decide (k y > k x)) x l) := by
 have hle := nt (fun y => decide (k y > k x)) l
 have hall := m9 (fun y => decide (k y > k x)) l
 have hstop := ky (fun y => decide (k y > k x)) l
 unfold ct fS
 generalize hn : l.length - cl (fun y => decide (k y > k x)) l = n at hall hstop ⊢
 have hlow : ∀ y ∈ l.take n, k y < k x := by
  intro y hy
  obtain ⟨i, hi⟩ := List.mem_iff_getElem?.1 hy
  rw [List.getElem?_take] at hi
  split at hi
  ·rename_i hin
   have hlen : n ≤ l.length := by omega
   have hl : n - 1 < l.length := by omega
   have hz := hstop (n - 1) (by omega) l[n - 1] (List.getElem?_eq_getElem hl)
   have hne := hx l[n - 1] (List.getElem_mem hl)
   have hle2 : k l[n - 1] < k x := by
    have : ¬ k l[n - 1] > k x := of_decide_eq_false hz
    omega
   have hi2 := (List.getElem?_eq_some_iff.1 hi)
   obtain ⟨hil, rfl⟩ := hi2
   rcases Nat.lt_or_ge i (n - 1) with h1 | h1
   ·have := List.pairwise_iff_getElem.1 h i (n - 1) hil hl h1
    omega
   ·have : i = n - 1 := by omega
    subst this; exact hle2
  ·cases hi
 have hp : (l.take n ++ l.drop n).Pairwise fun a b => k a < k b := by rw [List.take_append_drop]; exact h
 obtain ⟨r1, r2, r3⟩ := List.pairwise_append.1 hp
 refine List.pairwise_append.2 ⟨r1, List.pairwise_cons.2 ⟨fun y hy => of_decide_eq_true (hall y hy), r2⟩, fun a ha b hb => ?_⟩
 rcases List.mem_cons.1 hb with rfl | hb
 ·exact hlow a ha
 ·exact r3 a ha b hb
theorem wc {α : Type} {k : α → Int} {l : List α} (h : dP k l) : dP k (bO (fun y x => decide (k y > k x)) l) → bO (fun y x => decide (k y > k x)) l = l := fun h2 => dP.unique h2 h (iG _ _)
theorem tA {α : Type} {k : α → Int} : ∀ (l acc : List α), dP k acc → (l ++ acc).Pairwise (fun a b => k a ≠ k b) → dP k (l.foldl (fun acc x => ct (fun y => decide (k y > k x)) x acc) acc)
 | [], acc, h, _ => h
 | x :: l, acc, h, hn => by
  rw [List.foldl_cons]
  have hx : ∀ y ∈ acc, k y ≠ k x := fun y hy e => by
   have := (List.pairwise_cons.1 (show (x :: (l ++ acc)).Pairwise _ from hn)).1 y (List.mem_append_right l hy)
   exact this e.symm
  refine tA l _ (h.ins hx) ?_
  have hp : (l ++ ct (fun y => decide (k y > k x)) x acc).Perm (x :: l ++ acc) := ((fA _ x acc).append_left l).trans List.perm_middle
  exact (hp.pairwise_iff (fun h e => h e.symm)).2 hn
structure AT (l : List aw) (from_ : Nat) (s : aw) (j : Int) : Prop where
 ex : ∃ i : Nat, j = (i : Int) ∧ l.length - cl (fun t => HI t s) l ≤ i ∧ i ≤ l.length ∧ (i = l.length ∨ from_ ≤ i)
theorem AT.start {l : List aw} {f : Nat} {s : aw} : AT l f s (l.length : Int) := ⟨l.length, rfl, by omega, Nat.le_refl _, .inl rfl⟩
theorem AT.nn {l : List aw} {f : Nat} {s : aw} {j : Int} (h : AT l f s j) : 0 ≤ j ∧ j ≤ (l.length : Int) := by
 obtain ⟨i, rfl, _, h, _⟩ := h.ex
 omega
theorem AT.step {l : List aw} {f : Nat} {s : aw} {j : Int} (h : AT l f s j) (hf : (f : Int) < j) {x : aw} (hx : l[(j - 1).toNat]? = some x) (hp : HI x s = true) : AT l f s (j - 1) := by
 obtain ⟨i, rfl, h1, h2, h3⟩ := h.ex
 have e : ((i : Int) - 1).toNat = i - 1 := by omega
 rw [e] at hx
 refine ⟨i - 1, by omega, ?_, by omega, .inr (by omega)⟩
 rcases Nat.lt_or_ge (i - 1) (l.length - cl (fun t => HI t s) l) with q | q
 ·have := ky (fun t => HI t s) l (i - 1) (by omega) x hx
  rw [hp] at this; cases this
 ·exact q
theorem AT.low {l : List aw} {f : Nat} {s : aw} {j : Int} (h : AT l f s j) (hf : ¬ (f : Int) < j) : j = (eR l f s : Int) := by
 obtain ⟨i, rfl, h1, h2, h3⟩ := h.ex
 unfold eR
 split <;> omega
theorem AT.stop {l : List aw} {f : Nat} {s : aw} {j : Int} (h : AT l f s j) (hf : (f : Int) < j) {x : aw} (hx : l[(j - 1).toNat]? = some x) (hp : HI x s = false) : j = (eR l f s : Int) := by
 obtain ⟨i, rfl, h1, h2, h3⟩ := h.ex
 have e : ((i : Int) - 1).toNat = i - 1 := by omega
 rw [e] at hx
 have hT : i ≤ l.length - cl (fun t => HI t s) l := by
  apply Classical.byContradiction
  intro hn
  have hm : x ∈ l.drop (l.length - cl (fun t => HI t s) l) := by
   refine List.mem_iff_getElem?.2 ⟨i - 1 - (l.length - cl (fun t => HI t s) l), ?_⟩
   rw [List.getElem?_drop, ← hx]
   congr 1; omega
  have := m9 (fun t => HI t s) l x hm
  rw [hp] at this; cases this
 unfold eR
 split <;> omega
def PD (l : List aw) (j : Int) : aw := l.getD (j - 1).toNat []
theorem zR {l : List aw} {f : Nat} {s : aw} {j : Int} (h : AT l f s j) (hf : (f : Int) < j) : l[(j - 1).toNat]? = some (PD l j) := by
 have hn := h.nn
 unfold PD
 rw [List.getD_eq_getElem?_getD, List.getElem?_eq_getElem (show (j - 1).toNat < l.length by omega)]; rfl
theorem NM {l : List aw} {f : Nat} {s : aw} {j : Int} (hl : l.length ≤ 1000000) (h : AT l f s j) (hf : (f : Int) < j) : (l.map AV.str)[(IntKind.i64.wrap (j - 1)).toNat]? = some (.str (PD l j)) := by
 have hn := h.nn
 rw [fI (by omega) (by omega), List.getElem?_map, zR h hf]; rfl
theorem Aj (l : List aw) (f : Nat) (s : aw) (hl : l.length ≤ 1000000) : Pure Tryz.prog 121 [.sl (l.map .str), .int .i64 (f : Int), .str s] (.int .i64 (eR l f s : Int)) := by
 refine Pure.go II mixed Tryz.func121 rfl rfl fun H => (aG.lq [.s 7, .h, .s 0, .s 1, .s 2] (fun (j : Int) => [(.s 7, .sv (.v (.int .i64 j)))]) (fun (j : Int) => AT l f s j) (fun (j : Int) => j.toNat) ((l.map AV.str).length : Int) rfl rfl (by rw [List.length_map]; exact AT.start) ?_)
 rintro j hI
 have hnn := hI.nn
 refine aC (fun hg1 => ?_) (fun hg1 => ?_)
 ·refine aB.d1 rfl (ak (aH rfl) cY rfl rfl (by have := of_decide_eq_true hg1; rw [fI (by omega) (by omega)]; omega) (NM hl hI (of_decide_eq_true hg1)) rfl) ?_
  refine aC (fun hc2 => ?_) (fun hc2 => ?_)
  ·exact .bc [.s 7, .h, .s 0, .s 1, .s 2] rfl ⟨_, by show (IntKind.i64.wrap (j - 1)).toNat < j.toNat; have := of_decide_eq_true hg1; rw [fI (by omega) (by omega)]; omega, by rw [fI (by have := of_decide_eq_true hg1; omega) (by omega)]; exact hI.step (of_decide_eq_true hg1) (zR hI (of_decide_eq_true hg1)) hc2, rfl⟩
  ·exact cC rfl rfl rfl (hI.stop (of_decide_eq_true hg1) (zR hI (of_decide_eq_true hg1)) hc2)
 ·exact cC rfl rfl rfl (hI.low (of_decide_eq_false hg1))
theorem nB : ∀ {l : List ae}, dO l = 0 → ∀ f ∈ l, f.iN = 0
 | [], _, f, h => by simp at h
 | g :: l, h, f, hf => by
  unfold dO at h
  split at h
  ·rename_i hg
   rcases List.mem_cons.1 hf with rfl | hf
   ·exact hg
   ·exact nB h f hf
  ·rename_i hg; exact absurd h hg
theorem q8 : ∀ {l : List aU}, ff l = 0 → ∀ m ∈ l, dO m.fields = 0
 | [], _, m, h => by simp at h
 | g :: l, h, m, hm => by
  unfold ff at h
  split at h
  ·rename_i hg
   rcases List.mem_cons.1 hm with rfl | hm
   ·exact hg
   ·exact q8 h m hm
  ·rename_i hg; exact absurd h hg
structure aL.lN (s : aL) : Prop where
 sm : s.sm
 ne : 0 < s.msgs.length
 nd : (s.enums.map (·.name) ++ s.msgs.map (·.name)).Nodup
 nm : ∀ m ∈ s.msgs, aq m.name = true
 fn : ∀ m ∈ s.msgs, (m.fields.map (·.name)).Nodup
 fr : ∀ m ∈ s.msgs, dP (·.num) m.fields
 br : ∀ m ∈ s.msgs, dP id m.ai
 refs : ∀ m ∈ s.msgs, ∀ f ∈ m.fields, (f.ty = 14 → 0 ≤ s.fL f.ref) ∧ (f.ty = 15 → 0 ≤ s.bL f.ref)
 fc : ∀ m ∈ s.msgs, ∀ f ∈ m.fields, f.iN = 0
theorem aL.gI {s : aL} (h : s.iN = 0) : s.lN := by
 unfold aL.iN at h
 split at h
 ·cases h
 rename_i h1
 split at h
 ·cases h
 rename_i h2
 split at h
 ·cases h
 rename_i h3
 split at h
 ·rename_i h4; exact absurd h h4
 rename_i h4
 split at h
 ·cases h
 rename_i h5
 split at h
 ·cases h
 rename_i h6
 split at h
 ·cases h
 rename_i h7
 split at h
 ·cases h
 rename_i h8
 have h1 : s.many = false := by simpa using h1
 have h2 : s.none = false := by simpa using h2
 have h3 : s.text = false := by simpa using h3
 have h4 : ff s.msgs = 0 := by simpa using h4
 have h5 : s.jf = false := by simpa using h5
 have h6 : s.order = false := by simpa using h6
 have h8 : s.refs = false := by simpa using h8
 simp only [aL.text, Bool.or_eq_false_iff, List.any_eq_false, Bool.not_eq_true, Bool.not_eq_false'] at h3
 simp only [aL.jf, Bool.or_eq_false_iff, List.any_eq_false, Bool.not_eq_true, Bool.not_eq_false'] at h5
 simp only [aL.order, Bool.or_eq_false_iff, List.any_eq_false, Bool.not_eq_true, Bool.not_eq_false'] at h6
 simp only [aL.refs, List.any_eq_false, Bool.not_eq_true, Bool.or_eq_false_iff, Bool.and_eq_false_iff, decide_eq_false_iff_not] at h8
 refine ⟨aL.Js h1, (aL.BK h2).1, (x5 _).1 h5.2, fun m hm => h3.2 m hm, fun m hm => ?_, fun m hm => ?_, fun m hm => ?_, fun m hm f hf => ?_, fun m hm f hf => nB (q8 h4 m hm) f hf⟩
 ·have := h5.1.2 m hm
  simp only [aU.jf, Bool.or_eq_false_iff, Bool.not_eq_false'] at this
  exact (x5 _).1 this.1
 ·have := h6.1.2 m hm
  simp only [aU.order, Bool.or_eq_false_iff, Bool.not_eq_false'] at this
  exact dP.x7 this.1.1
 ·have := h6.1.2 m hm
  simp only [aU.order, Bool.or_eq_false_iff, Bool.not_eq_false'] at this
  exact dP.x7 (k := id) (by rw [List.map_id]; exact this.1.2)
 ·have := h8 m hm f hf
  refine ⟨fun e => ?_, fun e => ?_⟩
  ·rcases this.1 with q | q
   ·exact absurd e q
   ·omega
  ·rcases this.2 with q | q
   ·exact absurd e q
   ·omega
theorem dP.ne {α : Type} {k : α → Int} {l : List α} (h : dP k l) : l.Pairwise fun a b => k a ≠ k b := h.imp fun h => by omega
theorem nz {α : Type} {k : α → Int} {l : List α} (h : l.Pairwise fun a b => k a ≠ k b) : dP k (bO (fun y x => decide (k y > k x)) l) := tA l [] List.Pairwise.nil (by simpa using h)
theorem ma {α : Type} {k : α → Int} {l : List α} (h : dP k l) : bO (fun y x => decide (k y > k x)) l = l := wc h (nz h.ne)
theorem aU.kz {m : aU} (h1 : dP (·.num) m.fields) (h2 : dP id m.ai) : m.sort = m := by
 unfold aU.sort
 have e1 := ma h1
 have e2 := ma h2
 simp only [id] at e2
 rw [e1, e2]
theorem Hj {l m : List ae} (hm : dP (·.num) m) (hp : l.Perm m) : bO (fun y x : ae => decide (y.num > x.num)) l = m := by
 have hn : l.Pairwise fun a b => a.num ≠ b.num := (hp.pairwise_iff (fun h e => h e.symm)).2 hm.ne
 exact dP.unique (nz (k := fun f : ae => f.num) hn) hm ((iG _ _).trans hp)
theorem BQ {α : Type} (nm : α → aw) {l : List α} (hn : (l.map nm).Nodup) {f : α} (hf : f ∈ l) {g : α → α} (hg : ∀ y ∈ l, nm y ≠ nm f → g y = y) : (l.map g).Perm (g f :: l.filter fun y => !(nm y == nm f)) := by
 induction l with
 | nil => cases hf
 | cons a l ih =>
  simp only [List.map_cons, List.nodup_cons] at hn
  rcases List.mem_cons.1 hf with rfl | hf
  ·have hall : ∀ y ∈ l, nm y ≠ nm f := fun y hy e => hn.1 (e ▸ List.mem_map_of_mem hy)
   rw [List.filter_cons_of_neg (by simp), List.filter_eq_self.2 (fun y hy => by simp [hall y hy]), List.map_cons]
   have : l.map g = l := by
    conv => rhs; rw [← List.map_id l]
    exact List.map_congr_left fun y hy => hg y (List.mem_cons_of_mem _ hy) (hall y hy)
   rw [this]
  ·have hne : nm a ≠ nm f := fun e => hn.1 (e ▸ List.mem_map_of_mem hf)
   rw [List.filter_cons_of_pos (by simp [hne]), List.map_cons, hg a (List.mem_cons_self ..) hne]
   exact ((ih hn.2 hf fun y hy => hg y (List.mem_cons_of_mem _ hy)).cons a).trans (List.Perm.swap _ _ _)
theorem DB (acc : List aU) (m : aU) : (mM acc m).Perm (m.sort :: acc) := nY _ _ _
theorem tB : ∀ (l acc : List aU), (l.foldl mM acc).Perm (l.map aU.sort ++ acc)
 | [], acc => List.Perm.refl _
 | m :: l, acc => by
  rw [List.foldl_cons]
  exact (tB l (mM acc m)).trans (((DB acc m).append_left _).trans List.perm_middle)
theorem ln (s : aL) : s.sorted.msgs.Perm (s.msgs.map aU.sort) := by
 have := tB s.msgs []
 simpa [aL.sorted] using this
theorem DC {a m : aU} {acc : List aU} : (mM (a :: acc) m).head? = some a := by
 have : 1 ≤ eR ((a :: acc).map (·.name)) 1 m.name := by
  unfold eR
  split
  ·simp
  ·omega
 unfold mM fS
 rw [if_neg (by simp)]
 obtain ⟨k, hk⟩ : ∃ k, eR ((a :: acc).map (·.name)) 1 m.name = k + 1 := ⟨_, (Nat.sub_add_cancel this).symm⟩
 rw [hk]
 simp
theorem tC : ∀ (l : List aU) (a : aU) (acc : List aU), (l.foldl mM (a :: acc)).head? = some a
 | [], a, acc => rfl
 | m :: l, a, acc => by
  rw [List.foldl_cons]
  have h := DC (a := a) (m := m) (acc := acc)
  cases e : mM (a :: acc) m with
  | nil => rw [e] at h; cases h
  | cons b r =>
   rw [e] at h
   simp at h
   subst h
   exact tC l b r
theorem lr {s : aL} {m : aU} (h : s.msgs.head? = some m) : s.sorted.msgs.head? = some m.sort := by
 unfold aL.sorted
 cases e : s.msgs with
 | nil => rw [e] at h; cases h
 | cons a l =>
  rw [e] at h
  simp at h
  subst h
  rw [List.foldl_cons]
  exact tC l a.sort []
structure Fit (names : List aw) (p : aQ) (m : aU) : Prop where
 rn : 0 ≤ p.aE
 outs : p.outs.map (·.f) = m.fields
 reg : ∀ x ∈ p.outs, 0 ≤ x.reg ∧ x.reg < p.aE
 dist : (p.outs.map (·.reg)).Nodup
 part : ∀ x ∈ p.outs, (x.f.ty = 15 → ∃ j : Nat, x.part = (j : Int) ∧ names[j]? = some x.f.ref) ∧ (x.f.ty ≠ 15 → x.part = -1)
structure Inv (t : aL) (w : fg) : Prop where
 len : w.names.length = w.all.length
 ok : t.lN
 root : w.names.head? = t.msgs.head?.map (·.name)
 uniq : ∀ (i j : Nat) n, w.names[i]? = some n → w.names[j]? = some n → n ≠ [] → i = j
 back : ∀ (i : Nat) n, w.names[i]? = some n → n ≠ [] → ∃ m ∈ t.msgs, m.name = n
 fwd : ∀ m ∈ t.msgs, ∃ (k : Nat) (p : aQ), w.names[k]? = some m.name ∧ w.all[k]? = some p ∧ Fit w.names p m
theorem gy {s : aw} (h : aq s = true) : s ≠ [] := by
 intro e; subst e; revert h; decide
theorem vP {α : Type} (r : α) (at_ : Nat) : ∀ (l : List α) (n : Nat), (l.zipIdx n).filterMap (fun (a, i) => if i = n + at_ then some r else some a) = l.set at_ r
 | [], n => rfl
 | a :: l, n => by
  rw [List.zipIdx_cons, List.filterMap_cons]
  cases at_ with
  | zero =>
   simp only [Nat.add_zero, if_true, List.set_cons_zero]
   congr 1
   have : ∀ (l : List α) (k : Nat), n < k → (l.zipIdx k).filterMap (fun (a, i) => if i = n then some r else some a) = l := by
    intro l
    induction l with
    | nil => intros; rfl
    | cons b l ih =>
     intro k hk
     rw [List.zipIdx_cons, List.filterMap_cons]
     have hne : ¬ k = n := by omega
     simp only [hne, if_false]
     rw [ih (k + 1) (by omega)]
   exact this l (n + 1) (by omega)
  | succ k =>
   have hne : ¬ n = n + (k + 1) := by omega
   simp only [hne, if_false, List.set_cons_succ]
   congr 1
   rw [← vP r k l (n + 1)]
   congr 1
   funext ⟨b, i⟩
   simp only [show n + (k + 1) = n + 1 + k by omega]
theorem z8 {s : aL} {x : aS} {at_ : Nat} {r : aU} {ref : aw} (h6 : x.kind ≠ 6) (h7 : x.kind ≠ 7) : x.msgs s at_ r ref = s.msgs.set at_ r := by
 unfold aS.msgs
 simp only [h6, h7, false_and, if_false, List.append_nil]
 have := vP r at_ s.msgs 0
 simp only [Nat.zero_add] at this
 exact this
theorem Cj {s : aL} {x : aS} {at_ : Nat} {r : aU} {ref : aw} (h6 : x.kind = 6) : x.msgs s at_ r ref = s.msgs.set at_ r ++ [{ lg with name := x.dest, fields := [((s.msgs.getD at_ lg).aV x.field)] }] := by
 unfold aS.msgs
 have h7 : ¬ x.kind = 7 := by omega
 simp only [h6, if_true]
 simp only [show ¬ (6 : Int) = 7 by decide, false_and, if_false]
 congr 1
 have := vP r at_ s.msgs 0
 simp only [Nat.zero_add] at this
 exact this
structure c4 (s : aL) (x : aS) (t : aL) (m : aU) (at_ : Nat) : Prop where
 iV : s.lN
 FQ : t.lN
 rt : x.right = true
 lt : at_ < s.msgs.length
 eq : s.msgs[at_]? = some m
 nm : m.name = x.msg
 has : x.bk.all m.dh = true
 ask : x.asked s m = true
 th : x.there s { m with fields := bE m.fields x.goes } (x.comes s (m.aV x.field)) = false
 out : t = (⟨s.enums, x.msgs s at_ { m with fields := (bE m.fields x.goes).map x.changed ++ x.comes s (m.aV x.field) } (m.aV x.field).ref⟩ : aL).sorted
theorem kf {α : Type} (p : α → Bool) (l : List α) (h : ¬ bI p l 0 < 0) : ∃ (i : Nat) (hi : i < l.length), bI p l 0 = (i : Int) ∧ p l[i] = true := by
 rcases ao p l 0 with ⟨h1, _⟩ | ⟨i, hi, h1, h2⟩
 ·rw [h1] at h; omega
 ·exact ⟨i, hi, by simpa using h1, h2.2⟩
theorem gq {s : aL} {x : aS} {t : aL} (h : s.apply x = .ok t) : ∃ m at_, c4 s x t m at_ := by
 unfold aL.apply at h
 split at h
 ·cases h
 rename_i h1
 split at h
 ·cases h
 rename_i h2
 obtain ⟨i, hi, e, hn⟩ := kf _ _ h2
 have e' : s.bL x.msg = (i : Int) := e
 have hget : s.msgs.getD i lg = s.msgs[i] := by rw [List.getD_eq_getElem?_getD, List.getElem?_eq_getElem hi]; rfl
 simp only [e', Int.toNat_natCast, hget] at h
 split at h
 ·cases h
 rename_i h3
 split at h
 ·cases h
 rename_i h4
 split at h
 ·cases h
 rename_i h5
 split at h
 ·cases h
 rename_i h6
 cases h
 have hc : s.iN = 0 ∧ x.right = true := by
  constructor
  ·exact Classical.byContradiction fun q => h1 (.inl q)
  ·cases hr : x.right with
   | true => rfl
   | false => exact absurd (.inr hr) h1
 refine ⟨s.msgs[i], i, aL.gI hc.1, aL.gI (by simpa using h6), hc.2, hi, List.getElem?_eq_getElem hi, by simpa using hn, by simpa using h3, by simpa using h4, by simpa using h5, rfl⟩
theorem fT {m : aU} {n : aw} (h : m.dh n = true) : m.aV n ∈ m.fields ∧ (m.aV n).name = n := by
 unfold aU.dh at h
 obtain ⟨f, hf, hn⟩ := List.any_eq_true.1 h
 unfold aU.aV
 cases e : m.fields.find? (fun f => f.name == n) with
 | none => exact absurd hn (by simpa using List.find?_eq_none.1 e f hf)
 | some g => exact ⟨List.mem_of_find?_eq_some e, by simpa using List.find?_some e⟩
theorem fq {l : List Port} {fs : List ae} (ho : l.map (·.f) = fs) {n : aw} (h : ∃ f ∈ fs, f.name = n) : aJ l n ∈ l ∧ (aJ l n).f = ((fs.find? fun f => f.name == n).getD eY) ∧ (aJ l n).f.name = n := by
 subst ho
 obtain ⟨f, hf, hn⟩ := h
 obtain ⟨y, hy, rfl⟩ := List.mem_map.1 hf
 unfold aJ
 rw [List.find?_map]
 cases e : l.find? (fun x => x.f.name == n) with
 | none => exact absurd hn (by simpa using List.find?_eq_none.1 e y hy)
 | some g =>
  have e2 : l.find? ((fun f => f.name == n) ∘ fun x : Port => x.f) = some g := e
  rw [e2]
  exact ⟨List.mem_of_find?_eq_some e, rfl, by simpa using List.find?_some e⟩
theorem ev (l : List Port) (x : Port) : (bb l x).map (·.f) = ct (fun y : ae => decide (y.num > x.f.num)) x.f (l.map (·.f)) := by
 have ht : ∀ l : List Port, cl (fun y : Port => decide (y.f.num > x.f.num)) l = cl (fun y : ae => decide (y.num > x.f.num)) (l.map (·.f)) := by
  intro l
  induction l with
  | nil => rfl
  | cons a l ih => simp only [cl, List.map_cons, ih, List.length_map]
 unfold bb ct fS
 rw [List.map_append, List.map_cons, List.map_take, List.map_drop, List.length_map, ht]
theorem dI (l : List Port) (n : aw) : (aR l n).map (·.f) = (l.map (·.f)).filter fun f => !(f.name == n) := by
 unfold aR
 rw [List.filter_map]
 rfl
theorem pC {l : List Port} {x y : Port} (h : y ∈ bb l x) : y = x ∨ y ∈ l := by
 have := (fA (fun y : Port => decide (y.f.num > x.f.num)) x l).mem_iff.1 h
 simpa using this
theorem yh (l : List Port) (x : Port) : (bb l x).Perm (x :: l) := fA _ _ _
def aL.yN (s : aL) (m : aU) (f : ae) : Int := if s.boxed m f = true then s.bL f.ref else -1
def aL.HH (s : aL) (n : aw) : aU := s.msgs.getD (s.bL n).toNat lg
theorem vr {s : aL} {n : aw} (h : decide (s.bL n < 1) = false) : (s.msgs.map aU.av)[(s.bL n).toNat]? = some (.agg (s.HH n).cells) := by
 have h := of_decide_eq_false h
 obtain ⟨i, hi, e, _⟩ := kf (fun m : aU => m.name == n) s.msgs (by show ¬ s.bL n < 0; omega)
 have e : s.bL n = (i : Int) := e
 unfold aL.HH
 rw [e, Int.toNat_natCast, List.getElem?_map, List.getElem?_eq_getElem hi, List.getD_eq_getElem?_getD, List.getElem?_eq_getElem hi]
 rfl
theorem JU {m : aU} (h : (!(((m.fields.map ae.av).length : Int) == 1)) = false) : (m.fields.map ae.av)[(0 : Int).toNat]? = some (.agg (m.fields.headD eY).cells) := by
 rw [List.length_map] at h
 cases e : m.fields with
 | nil => rw [e] at h; simp at h
 | cons a l => rfl
theorem mT {s : aL} {m : aU} {f : ae} : s.yN m f = if f.ty = 15 ∧ f.alone = true ∧ 1 ≤ s.bL f.ref ∧ f.ref ≠ m.name ∧ s.dQ f.ref = 1 ∧ (s.HH f.ref).fields.length = 1 ∧ ((s.HH f.ref).fields.headD eY).one = [] then s.bL f.ref else -1 := by
 unfold aL.yN
 congr 1
 simp only [aL.boxed, Bool.and_eq_true, decide_eq_true_eq, Bool.not_eq_true', beq_eq_false_iff_ne, eq_iff_iff]
 rcases ao (fun m' : aU => m'.name == f.ref) s.msgs 0 with ⟨q1, q2⟩ | ⟨i, hi, q1, q2, q3⟩
 ·have e : s.bL f.ref = -1 := q1
  rw [e]
  constructor
  ·rintro ⟨⟨⟨⟨_, h⟩, _⟩, _⟩, _⟩; omega
  ·rintro ⟨_, _, h, _⟩; omega
 ·have e : s.bL f.ref = ((0 + i : Nat) : Int) := q1
  have e2 : s.fP f.ref = some s.msgs[i] := q2
  have e3 : s.HH f.ref = s.msgs[i] := by
   unfold aL.HH
   rw [e, Int.toNat_natCast, Nat.zero_add, List.getD_eq_getElem?_getD, List.getElem?_eq_getElem hi]; rfl
  rw [e2, e3]
  simp only [Option.map_some]
  cases s.msgs[i].fields with
  | nil => simp
  | cons a l =>
   cases l with
   | nil => simp [and_assoc]
   | cons b r => simp
theorem IW (s : aL) (m : aU) (f : ae) (hs : s.sm) : Pure Tryz.prog 118 [s.av, m.av, f.av] (.int .i64 (s.yN m f)) := by
 have hm := hs.m
 refine Pure.go II mixed Tryz.func118 rfl rfl fun H => (aC (fun hg1 => ?_) (fun hg1 => ?_))
 ·exact cC rfl rfl rfl (by rw [mT]; simp_all <;> omega)
 ·refine aB.jc rfl (Fn rfl) rfl (mc _) (aC (fun hc2 => ?_) (fun hc2 => ?_))
  ·exact cC rfl rfl rfl (by rw [mT]; simp_all <;> omega)
  ·refine aB.jc rfl (Fn rfl) rfl (jl _ _ (by omega)) (aC (fun hg3 => ?_) (fun hg3 => ?_))
   ·exact cC rfl rfl rfl (by rw [mT]; simp_all <;> omega)
   ·refine aC (fun hg4 => ?_) (fun hg4 => ?_)
    ·exact cC rfl rfl rfl (by rw [mT]; simp_all <;> omega)
    ·refine aB.jc rfl (Fn rfl) rfl (Ko _ _ hs) (aC (fun hg5 => ?_) (fun hg5 => ?_))
     ·exact cC rfl rfl rfl (by rw [mT]; simp_all <;> omega)
     ·refine aB.d1 rfl (ak (aH rfl) bW rfl rfl (by have := of_decide_eq_false hg3; omega) (vr hg3) rfl) ?_
      refine aC (fun hg6 => ?_) (fun hg6 => ?_)
      ·exact cC rfl rfl rfl (by rw [mT]; simp_all <;> omega)
      ·refine aB.d1 rfl (ak (aH rfl) bW rfl rfl (by have := of_decide_eq_false hg3; omega) (vr hg3) rfl) ?_
       refine aB.d1 rfl (ak (aH rfl) bY rfl rfl (by decide) (JU hg6) rfl) (aC (fun hc7 => ?_) (fun hc7 => ?_))
       ·exact cC rfl rfl rfl (by rw [mT]; simp_all <;> omega)
       ·exact cC rfl rfl rfl (by rw [mT]; simp_all <;> omega)
theorem kq {s : aL} {m : aU} {f : ae} (h : s.boxed m f = true) : 1 ≤ s.bL f.ref ∧ (s.HH f.ref).fields.length = 1 ∧ ((s.fP f.ref).getD lg).fields.headD eY = (s.HH f.ref).fields.headD eY := by
 simp only [aL.boxed, Bool.and_eq_true, decide_eq_true_eq, Bool.not_eq_true', beq_eq_false_iff_ne] at h
 obtain ⟨⟨⟨⟨⟨h1, h2⟩, h3⟩, h4⟩, h5⟩, h6⟩ := h
 rcases ao (fun m' : aU => m'.name == f.ref) s.msgs 0 with ⟨q1, q2⟩ | ⟨i, hi, q1, q2, q3⟩
 ·have e : s.bL f.ref = -1 := q1
  rw [e] at h3; omega
 ·have e : s.bL f.ref = ((0 + i : Nat) : Int) := q1
  have e2 : s.fP f.ref = some s.msgs[i] := q2
  have e3 : s.HH f.ref = s.msgs[i] := by
   unfold aL.HH
   rw [e, Int.toNat_natCast, Nat.zero_add, List.getD_eq_getElem?_getD, List.getElem?_eq_getElem hi]; rfl
  rw [e2] at h6 ⊢
  rw [e3]
  simp only [Option.map_some, Option.getD_some] at h6 ⊢
  refine ⟨h3, ?_, trivial⟩
  split at h6
  ·rename_i hh; simp at hh; rw [hh]; rfl
  ·cases h6
theorem Fu {m : aU} (h : m.fields.length = 1) : (m.fields.map ae.av)[(0 : Int).toNat]? = some (.agg (m.fields.headD eY).cells) := by
 cases e : m.fields with
 | nil => rw [e] at h; simp at h
 | cons a l => rfl
theorem IV (s : aL) (f : ae) (x : aS) (m : aU) (hs : s.sm) (h7 : x.kind = 7 → s.boxed m f = true) : Pure Tryz.prog 71 [s.av, f.av, x.av] (.sl ((x.comes s f).map ae.av)) := by
 have hm := hs.m
 refine Pure.go II mixed Tryz.func71 rfl rfl fun H => (aC (fun hc1 => ?_) (fun hc1 => ?_))
 ·exact cD rfl rfl rfl (congrArg AV.sl (by have hk : x.kind = 2 := (by simpa using hc1); simp only [aS.comes, hk, if_false, if_true]; rfl))
 ·refine aC (fun hc2 => ?_) (fun hc2 => ?_)
  ·exact cD rfl rfl rfl (congrArg AV.sl (by have hk : x.kind = 4 := (by simpa using hc2); simp only [aS.comes, hk, show ¬ (4 : Int) = 2 by decide, if_false, if_true]; rfl))
  ·refine aC (fun hc3 => ?_) (fun hc3 => ?_)
   ·exact cD rfl rfl rfl (congrArg AV.sl (by have hk : x.kind = 5 := (by simpa using hc3); simp only [aS.comes, hk, show ¬ (5 : Int) = 2 by decide, show ¬ (5 : Int) = 4 by decide, if_false, if_true]; rfl))
   ·refine aC (fun hc4 => ?_) (fun hc4 => ?_)
    ·exact cD rfl rfl rfl (congrArg AV.sl (by have hk : x.kind = 6 := (by simpa using hc4); simp only [aS.comes, hk, show ¬ (6 : Int) = 2 by decide, show ¬ (6 : Int) = 4 by decide, show ¬ (6 : Int) = 5 by decide, if_false, if_true]; rfl))
    ·refine aC (fun hc5 => ?_) (fun hc5 => ?_)
     ·refine ⟨rfl, (aF.d1 rfl (aX (aH rfl) (Fn rfl) rfl (jl _ _ (by omega))) (aF.d1 rfl (ak (aH rfl) bW rfl rfl (by have := kq (h7 (by simpa using hc5)); omega) (vr (by have := kq (h7 (by simpa using hc5)); simp; omega)) rfl) ?_))⟩
      exact aF.d1 rfl (ak (aH rfl) bY rfl rfl (by decide) (Fu (kq (h7 (by simpa using hc5))).2.1) rfl) ⟨by kernel_rfl, (cD rfl rfl rfl (congrArg AV.sl (by have hb := kq (h7 (by simpa using hc5)); have hk : x.kind = 7 := (by simpa using hc5); simp only [aS.comes, hk, show ¬ (7 : Int) = 2 by decide, show ¬ (7 : Int) = 4 by decide, show ¬ (7 : Int) = 5 by decide, show ¬ (7 : Int) = 6 by decide, if_false, if_true, List.map_cons, List.map_nil]; rw [hb.2.2]; rfl)))⟩
     ·refine aC (fun hc6 => ?_) (fun hc6 => ?_)
      ·exact cD rfl rfl rfl (congrArg AV.sl (by have hk : x.kind = 9 := (by simpa using hc6); simp only [aS.comes, hk, show ¬ (9 : Int) = 2 by decide, show ¬ (9 : Int) = 4 by decide, show ¬ (9 : Int) = 5 by decide, show ¬ (9 : Int) = 6 by decide, show ¬ (9 : Int) = 7 by decide, if_false, if_true]; rfl))
      ·exact cD rfl rfl rfl (congrArg AV.sl (by simp_all [aS.comes]))
theorem Rel.OR {E : eB} {N : Nat} {G : Gh} {L : Loc} {a : Act} {w : World} {s : St} (h : Rel E N G L a w s) {k : Nat} {cs cs' : List Sv} (hk : get s (.b k) = some (.bx cs)) (hl : cs'.length = cs.length)
  (hw : ∀ (j : Nat) x x', cs[j]? = some x → cs'[j]? = some x' → x'.flat = true ∧ ∀ v, SV G L v x → SV G L v x') : Rel E N G L a w ((.b k, .bx cs') :: s) := by
 have ho : ∀ c blk, owns ((.b k, .bx cs') :: s) L c blk → owns s L c blk := by
  intro c blk hc
  by_cases e : c = .b k
  ·subst e
   exact ⟨⟨_, hk, rfl⟩, hc.2⟩
  ·exact dM e hc
 refine ⟨h.size, h.defs, h.ge, h.kn, h.old, h.obs, h.obn, h.fr, fun n x g => h.slot n x (by simpa [get] using g), fun j cv g hlv => ?_, fun j m el esz xs g => h.tok j m el esz xs (by simpa [get] using g), fun c d blk hc hd => h.disj c d blk (ho _ _ hc) (ho _ _ hd), ?_, fun c blk hc H g => h.hdisj c blk (ho _ _ hc) H (by simpa [get] using g), fun j g => ?_, fun j g => h.notok j (by simpa [get] using g)⟩
 ·by_cases e : j = k
  ·subst e
   simp [get] at g
   subst g
   obtain ⟨blk, o, q1, q2, q3, ⟨arr, el, e1, e2, e3⟩, q5, q6⟩ := h.box j _ hk rfl
   refine ⟨blk, o, q1, q2, q3, ⟨arr, el, e1, by rw [hl]; exact e2, fun i x' hx' => ?_⟩, q5, q6⟩
   have hlt : i < cs.length := by rw [← hl]; exact (List.getElem?_eq_some_iff.1 hx').1
   obtain ⟨w1, w2⟩ := hw i _ x' (List.getElem?_eq_getElem hlt) hx'
   exact ⟨w1, w2 _ (e3 i _ (List.getElem?_eq_getElem hlt)).2⟩
  ·exact h.box j cv (by simpa [get, Ne.symm e] using g) hlv
 ·obtain ⟨H, g, rest⟩ := h.heap
  exact ⟨H, by simpa [get] using g, rest⟩
 ·by_cases e : j = k
  ·subst e; simp [get] at g
  ·exact h.nobox j (by simpa [get, Ne.symm e] using g)
def xr : Sv → Sv
 | .ow _ xs => .v (.sl xs)
 | x => x
theorem SV.forget {G : Gh} {L : Loc} {v : Value} {x : Sv} (h : SV G L v x) : SV G L v (xr x) := by
 cases x <;> first | exact h | exact h.1
theorem Kept.forget {s : St} {Q : St → Prop} (k : Nat) {cs : List Sv} (hk : get s (.b k) = some (.bx cs)) (h : Kept ((.b k, .bx (cs.map xr)) :: s) Q) : Kept s Q := fun E N a w ⟨G, L, hr⟩ => by
 refine h E N a w ⟨G, L, hr.OR hk (by simp) fun j x x' hx hx' => ?_⟩
 rw [List.getElem?_map, hx] at hx'
 cases hx'
 obtain ⟨blk, o, q1, q2, q3, ⟨arr, el, e1, e2, e3⟩, q5, q6⟩ := hr.box k _ hk rfl
 have hf := (e3 j x hx).1
 refine ⟨?_, fun v hv => hv.forget⟩
 cases x <;> first | exact hf | rfl
theorem iS : se Tryz.prog 71 = some (88, 7, 72) := by kernel_rfl
theorem m6 : cE Tryz.prog 88 = some [AV.str [], AV.int IntKind.i64 (0), AV.int IntKind.i64 (0), AV.str [], AV.bool false, AV.bool false, AV.str []] := by kernel_rfl
def wZ (m : aU) (l : List ae) : Nat → List ae
 | 0 => m.fields
 | i + 1 => m.fields ++ l.take (i + 1)
theorem nq (m : aU) (l : List ae) (i : Nat) : wZ m l i = m.fields ++ l.take i := by
 cases i with
 | zero => exact (List.append_nil _).symm
 | succ i => rfl
def aU.upto (m : aU) (l : List ae) (i : Nat) : aU := { m with fields := wZ m l i }
theorem ll {m : aU} {l : List ae} {i : Nat} : (m.upto l i).fields.length ≤ m.fields.length + l.length := by
 show (wZ m l i).length ≤ _
 rw [nq, List.length_append, List.length_take]; omega
theorem uA {m : aU} {l : List ae} {i : Nat} (hi : i < l.length) : (m.upto l i).fields ++ [l[i]] = (m.upto l (i + 1)).fields := by
 have e : l.take (i + 1) = l.take i ++ [l[i]] := by rw [List.take_add_one, List.getElem?_eq_getElem hi]; rfl
 show wZ m l i ++ [l[i]] = wZ m l (i + 1)
 rw [nq, nq, e, List.append_assoc]
theorem HW {m : aU} {l : List ae} {i : Nat} (hi : i < l.length) : (m.upto l i).fields.map ae.av ++ [l[i].av] = (m.upto l (i + 1)).fields.map ae.av := by
 rw [← uA hi, List.map_append]; rfl
theorem PX {v : CV} {n t : Sv} {rest : List (aI × CV)} {a b : List AV} (h : a = b) : ((aI.s 9, v) :: (aI.b 5, CV.bx [n, .v (.sl a), t]) :: rest) = [(aI.s 9, v), (aI.b 5, CV.bx [n, .v (.sl b), t])] ++ rest := by rw [h]; rfl
theorem rM {m : aU} {l : List ae} {i : Nat} (hi : i < l.length) : iP (m.upto l i) (l.drop i) = (!(m.upto l i).free l[i].num || iP (m.upto l (i + 1)) (l.drop (i + 1))) := by
 rw [List.drop_eq_getElem_cons hi]
 show (_ || iP { m.upto l i with fields := (m.upto l i).fields ++ [l[i]] } _) = _
 rw [uA hi]; rfl
theorem Bw {m : aU} {l : List ae} {i : Nat} (hi : l.length ≤ i) : iP (m.upto l i) (l.drop i) = false := by
 rw [List.drop_eq_nil_of_le hi]; rfl
theorem Bv {s : aL} {m : aU} {x : aS} {l : List ae} {i : Nat} (hi : i < l.length) (hI : iP (m.upto l i) (l.drop i) = iP m l) (h : (!(m.upto l i).free l[i].num) = true) : true = x.there s m l := by
 unfold aS.there
 rw [← hI, rM hi, h]; rfl
theorem jD {s : aL} {m : aU} {x : aS} {l : List ae} {i : Nat} (hi : l.length ≤ i) (hI : iP (m.upto l i) (l.drop i) = iP m l) : x.there s m l = ((decide (x.kind = 6) && (decide (0 ≤ s.fL x.dest) || decide (0 ≤ s.bL x.dest))) || (decide (x.kind = 8) && decide (0 < ((m.upto l i).members x.field).length))) := by
 have e : m.upto l i = { m with fields := m.fields ++ l } := by unfold aU.upto; rw [nq, List.take_of_length_le hi]
 unfold aS.there
 rw [← hI, Bw hi, e, Bool.false_or]
theorem Hz (s : aL) (m : aU) (x : aS) (l : List ae) (hs : s.sm) (hm : m.fields.length ≤ 100) (hb : m.ai.length ≤ 100) (hl : l.length ≤ 100) : Pure Tryz.prog 72 [s.av, m.av, x.av, .sl (l.map ae.av)] (.bool (x.there s m l)) := by
 have hsm := hs.m
 have hse := hs.e
 refine Pure.go II mixed Tryz.func72 rfl rfl fun H => (aG.lq [.s 9, .b 5, .h, .s 3, .s 4, .b 4, .s 5, .s 6, .b 6] (fun (i : Nat) => [(.s 9, .sv (.v (.int .i64 (i : Int)))), (.b 5, .bx [.v (.str m.name), .v (.sl ((m.upto l i).fields.map ae.av)), .v (.sl (m.ai.map eJ))])]) (fun (i : Nat) => iP (m.upto l i) (l.drop i) = iP m l) (fun (i : Nat) => l.length - i) 0 rfl rfl rfl ?_)
 rintro i hI
 refine aC (fun hc1 => ?_) (fun hc1 => ?_)
 ·have hi := cz hc1
  refine ⟨rfl, (aF.d1 rfl (bP (aH rfl) bY rfl rfl (ca hi) rfl) (aF.n1 1 rfl (aX (aH rfl) (Fn rfl) rfl (LD (m.upto l i) _ (by have := @ll m l i; omega) (by show m.ai.length ≤ 1000; omega))) ?_))⟩
  refine ⟨by kernel_rfl, (aG.ci 999 2 rfl (fun hc2 => ?_) (fun hc2 => ?_))⟩
  ·exact aN rfl rfl rfl (Bv hi hI hc2)
  ·refine ⟨rfl, (aF.d2 rfl (bD («as» := []) (aH rfl) iS m6 rfl rfl rfl (gQ rfl) rfl) (aF.d3 rfl (aj (aH rfl) iS rfl rfl rfl (by first | rfl | exact ba ae.cells (fun _ => rfl) _) rfl (by have := @ll m l i; simp; omega) rfl) ?_))⟩
   refine aF.d1 rfl (bP (aH rfl) bY rfl rfl (ca hi) rfl) (aF.d3 rfl (aj (aH rfl) iS rfl rfl rfl (by first | rfl | exact ba ae.cells (fun _ => rfl) _) rfl (by have := @ll m l i; simp; omega) rfl) ?_)
   exact ⟨by kernel_rfl, (⟨Kept.c6 9 rfl (inc (by omega)) (Kept.forget 5 rfl (Kept.az [.s 9, .b 5, .h, .s 3, .s 4, .b 4, .s 5, .s 6, .b 6] rfl (by decide) (Kept.now ⟨i + 1, by omega, by rw [← hI, rM hi]; simp_all, PX (HW hi)⟩)))⟩)⟩
 ·have hi := dA hc1
  refine aC (fun hg3 => ?_) (fun hg3 => ?_)
  ·refine aB.jc rfl (Fn rfl) rfl (xB _ _ (by omega)) (aC (fun hg4 => ?_) (fun hg4 => ?_))
   ·exact aN rfl rfl rfl (by rw [jD hi hI]; simp_all)
   ·refine aB.jc rfl (Fn rfl) rfl (jl _ _ (by omega)) (aC (fun hc5 => ?_) (fun hc5 => ?_))
    ·exact aN rfl rfl rfl (by rw [jD hi hI]; simp_all)
    ·refine aC (fun hg6 => ?_) (fun hg6 => ?_)
     ·refine aB.jc rfl (Fn rfl) rfl (uS (m.upto l i) _ (by have := @ll m l i; omega)) ?_
      exact aN rfl rfl rfl (by rw [jD hi hI]; simp_all)
     ·exact aN rfl rfl rfl (by rw [jD hi hI]; simp_all)
  ·refine aC (fun hg7 => ?_) (fun hg7 => ?_)
   ·refine aB.jc rfl (Fn rfl) rfl (uS (m.upto l i) _ (by have := @ll m l i; omega)) ?_
    exact aN rfl rfl rfl (by rw [jD hi hI]; simp_all)
   ·exact aN rfl rfl rfl (by rw [jD hi hI]; simp_all)
theorem lT {m : aU} {n : aw} (h : m.dh n = true) : 0 ≤ m.dJ n := by
 rcases ao (fun f : ae => f.name == n) m.fields 0 with ⟨q1, q2⟩ | ⟨i, hi, q1, q2, q3⟩
 ·have h4 : m.fields.any (fun f => f.name == n) = false := List.any_eq_false.2 (fun f hf => by have := List.find?_eq_none.1 q2 f hf; simpa using this)
  unfold aU.dh at h
  rw [h4] at h; cases h
 ·have e : m.dJ n = ((0 + i : Nat) : Int) := q1
  omega
theorem jv {m : aU} {n : aw} (h : 0 ≤ m.dJ n) : (m.fields.map ae.av)[(m.dJ n).toNat]? = some (.agg (m.aV n).cells) := by
 rcases ao (fun f : ae => f.name == n) m.fields 0 with ⟨q1, q2⟩ | ⟨i, hi, q1, q2, q3⟩
 ·have e : m.dJ n = -1 := q1
  omega
 ·have e : m.dJ n = ((0 + i : Nat) : Int) := q1
  have e2 : m.fields.find? (fun f => f.name == n) = some m.fields[i] := q2
  unfold aU.aV
  rw [e, e2, Int.toNat_natCast, Nat.zero_add, List.getElem?_map, List.getElem?_eq_getElem hi]; rfl
theorem tG {m : aU} {n : aw} (h : ¬ 0 ≤ m.dJ n) : m.aV n = eY := by
 rcases ao (fun f : ae => f.name == n) m.fields 0 with ⟨q1, q2⟩ | ⟨i, hi, q1, q2, q3⟩
 ·have e2 : m.fields.find? (fun f => f.name == n) = none := q2
  unfold aU.aV
  rw [e2]; rfl
 ·have e : m.dJ n = ((0 + i : Nat) : Int) := q1
  omega
theorem qU {m : aU} {x : aS} (h : x.bk.all m.dh = true) (hk : x.kind = 8) {i : Nat} (hi : i < x.names.length) : m.dh x.names[i] = true := by
 have e : x.bk = x.names := by unfold aS.bk; rw [if_pos hk]
 rw [e] at h
 exact List.all_eq_true.1 h _ (List.getElem_mem hi)
theorem sV {m : aU} {x : aS} (h : x.bk.all m.dh = true) (hk : x.kind = 5) : m.dh x.also = true := by
 have e : x.bk = [x.field, x.also] := by unfold aS.bk; rw [hk]; rfl
 rw [e] at h
 simp at h; exact h.2
theorem Gj {s : aL} {m : aU} {f : ae} : decide (0 ≤ s.yN m f) = s.boxed m f := by
 unfold aL.yN
 cases h : s.boxed m f with
 | true => have := (kq h).1; simp; omega
 | false => simp
theorem Gm {s : aL} {m : aU} {x : aS} (hk : x.kind = 8) {i : Nat} (hi : i < x.names.length) (h : (!(m.aV x.names[i]).alone) = true) : false = x.asked s m := by
 symm
 unfold aS.asked
 rw [hk]
 show x.names.all _ = false
 exact List.all_eq_false.2 ⟨_, List.getElem_mem hi, by simpa using h⟩
theorem D4 {s : aL} {m : aU} {x : aS} (hk : x.kind = 8) {i : Nat} (hi : x.names.length ≤ i) (hI : ∀ k (hk : k < x.names.length), k < i → (m.aV x.names[k]).alone = true) : true = x.asked s m := by
 symm
 unfold aS.asked
 rw [hk]
 show x.names.all _ = true
 refine List.all_eq_true.2 fun n hn => ?_
 obtain ⟨k, hk2, rfl⟩ := List.getElem_of_mem hn
 exact hI k hk2 (by omega)
theorem IY (s : aL) (m : aU) (x : aS) (hs : s.sm) (hm : m.fields.length ≤ 1000) (hn : x.bk.all m.dh = true) (hl : x.names.length ≤ 1000) : Pure Tryz.prog 68 [s.av, m.av, x.av] (.bool (x.asked s m)) := by
 have hsm := hs.m
 have hse := hs.e
 refine Pure.gn 11 II mixed Tryz.func68 rfl rfl fun H => (aG.jn 999 999 [.h, .s 3, .b 3, .s 4, .b 4, .s 5, .b 5] (fun (_ : Unit) => [(.s 7, .sv (.lp 7 0)), (.b 7, .bx [.v (.str (m.aV x.field).name), .v (.int .i64 (m.aV x.field).num), .v (.int .i64 (m.aV x.field).ty), .v (.str (m.aV x.field).ref), .v (.bool (m.aV x.field).rep), .v (.bool (m.aV x.field).loose), .v (.str (m.aV x.field).one)])]) (fun (_ : Unit) => True) rfl ?_ ?_)
 ·refine aB.jc rfl (Fn rfl) rfl (kW _ _ (by omega)) (aC (fun hc1 => ?_) (fun hc1 => ?_))
  ·exact aB.d1 rfl (ak (aH rfl) bY rfl rfl (of_decide_eq_true hc1) (jv (of_decide_eq_true hc1)) rfl) (.bc [.s 7, .b 7, .h, .s 3, .b 3, .s 4, .b 4, .s 5, .b 5] rfl ⟨(), trivial, rfl⟩)
  ·exact .bc [.s 7, .b 7, .h, .s 3, .b 3, .s 4, .b 4, .s 5, .b 5] rfl ⟨(), trivial, by rw [tG (of_decide_eq_false hc1)]; rfl⟩
 ·rintro _ hF5
  refine aC (fun hc2 => ?_) (fun hc2 => ?_)
  ·refine aC (fun hg3 => ?_) (fun hg3 => ?_)
   ·refine aC (fun hg4 => ?_) (fun hg4 => ?_)
    ·exact aN rfl rfl rfl (by clear hn; simp_all [aS.asked] <;> first | rfl | omega | (intros; omega) | grind)
    ·exact aN rfl rfl rfl (by clear hn; simp_all [aS.asked] <;> first | rfl | omega | (intros; omega) | grind)
   ·exact aN rfl rfl rfl (by clear hn; simp_all [aS.asked] <;> first | rfl | omega | (intros; omega) | grind)
  ·refine aC (fun hc5 => ?_) (fun hc5 => ?_)
   ·refine aC (fun hg6 => ?_) (fun hg6 => ?_)
    ·exact aB.jc rfl (Fn rfl) rfl (mc _) (aN rfl rfl rfl (by clear hn; simp_all [aS.asked] <;> first | rfl | omega | (intros; omega) | grind))
    ·refine aC (fun hg7 => ?_) (fun hg7 => ?_)
     ·exact aB.jc rfl (Fn rfl) rfl (mc _) (aN rfl rfl rfl (by clear hn; simp_all [aS.asked] <;> first | rfl | omega | (intros; omega) | grind))
     ·exact aN rfl rfl rfl (by clear hn; simp_all [aS.asked] <;> first | rfl | omega | (intros; omega) | grind)
   ·refine aC (fun hc8 => ?_) (fun hc8 => ?_)
    ·refine ⟨rfl, (aF.d1 rfl (aX (aH rfl) (Fn rfl) rfl (kW _ _ (by omega))) (aF.d1 rfl (ak (aH rfl) bY rfl rfl (lT (sV hn (by simpa using hc8))) (jv (lT (sV hn (by simpa using hc8)))) rfl) ⟨by kernel_rfl, (aC (fun hg9 => ?_) (fun hg9 => ?_))⟩))⟩
     ·refine aC (fun hg10 => ?_) (fun hg10 => ?_)
      ·refine aC (fun hg11 => ?_) (fun hg11 => ?_)
       ·refine aB.jc rfl (Fn rfl) rfl (mc _) (aC (fun hg12 => ?_) (fun hg12 => ?_))
        ·exact aB.jc rfl (Fn rfl) rfl (mc _) (aN rfl rfl rfl (by clear hn; simp_all [aS.asked] <;> first | rfl | omega | (intros; omega) | grind))
        ·exact aN rfl rfl rfl (by clear hn; simp_all [aS.asked] <;> first | rfl | omega | (intros; omega) | grind)
       ·exact aN rfl rfl rfl (by clear hn; simp_all [aS.asked] <;> first | rfl | omega | (intros; omega) | grind)
      ·exact aN rfl rfl rfl (by clear hn; simp_all [aS.asked] <;> first | rfl | omega | (intros; omega) | grind)
     ·exact aN rfl rfl rfl (by clear hn; simp_all [aS.asked] <;> first | rfl | omega | (intros; omega) | grind)
    ·refine aC (fun hc13 => ?_) (fun hc13 => ?_)
     ·exact aN rfl rfl rfl (by clear hn; simp_all [aS.asked] <;> first | rfl | omega | (intros; omega) | grind)
     ·refine aC (fun hc14 => ?_) (fun hc14 => ?_)
      ·refine aC (fun hg15 => ?_) (fun hg15 => ?_)
       ·exact aN rfl rfl rfl (by clear hn; simp_all [aS.asked] <;> first | rfl | omega | (intros; omega) | grind)
       ·exact aN rfl rfl rfl (by clear hn; simp_all [aS.asked] <;> first | rfl | omega | (intros; omega) | grind)
      ·refine aC (fun hc16 => ?_) (fun hc16 => ?_)
       ·exact aB.jc rfl (Fn rfl) rfl (IW _ _ _ hs) (aN rfl rfl rfl (by rw [Gj]; simp_all [aS.asked]))
       ·refine aC (fun hc17 => ?_) (fun hc17 => ?_)
        ·refine aG.lq [.s 10, .h, .s 4, .b 4, .s 5, .b 5] (fun (i : Nat) => [(.s 10, .sv (.v (.int .i64 (i : Int))))]) (fun (i : Nat) => ∀ k (hk : k < x.names.length), k < i → (m.aV x.names[k]).alone = true) (fun (i : Nat) => x.names.length - i) 0 rfl rfl (by intro k _ h; omega) ?_
         rintro i hI
         refine aC (fun hc18 => ?_) (fun hc18 => ?_)
         ·have hi := cz hc18
          refine ⟨rfl, (aF.d1 rfl (bP (aH rfl) cY rfl rfl (ca hi) rfl) (aF.d1 rfl (aX (aH rfl) (Fn rfl) rfl (kW _ _ (by omega))) (aF.d1 rfl (ak (aH rfl) bY rfl rfl (lT (qU hn (by simpa using hc17) hi)) (jv (lT (qU hn (by simpa using hc17) hi))) rfl) (aF.d1 rfl (aX (aH rfl) (Fn rfl) rfl (mc _)) ⟨by kernel_rfl, (aC (fun hc19 => ?_) (fun hc19 => ?_))⟩))))⟩
          ·exact aN rfl rfl rfl (Gm (by simpa using hc17) hi hc19)
          ·exact .b1 10 rfl (inc (by omega)) rfl ⟨i + 1, by omega, fun k hk h => by rcases Nat.lt_or_ge k i with q | q; exact hI k hk q; have e : k = i := (by omega); subst e; simpa using hc19, rfl⟩
         ·have hi := dA hc18
          exact aN rfl rfl rfl (D4 (by simpa using hc17) hi hI)
        ·exact aN rfl rfl rfl (by clear hn; simp_all [aS.asked] <;> first | rfl | omega | (intros; omega) | grind)
theorem MR : lk Tryz.prog 73 = some (true, 3) := by kernel_rfl
structure qa {α : Type} (p : α → Bool) (l : List α) (j : Int) : Prop where
 ex : ∃ i : Nat, j = (i : Int) ∧ l.length - cl p l ≤ i ∧ i ≤ l.length
theorem qa.start {α : Type} {p : α → Bool} {l : List α} : qa p l (l.length : Int) := ⟨l.length, rfl, by omega, Nat.le_refl _⟩
theorem qa.nn {α : Type} {p : α → Bool} {l : List α} {j : Int} (h : qa p l j) : 0 ≤ j ∧ j ≤ (l.length : Int) := by
 obtain ⟨i, rfl, _, h⟩ := h.ex
 omega
theorem qa.step {α : Type} {p : α → Bool} {l : List α} {j : Int} (h : qa p l j) (hf : 0 < j) {x : α} (hx : l[(j - 1).toNat]? = some x) (hp : p x = true) : qa p l (j - 1) := by
 obtain ⟨i, rfl, h1, h2⟩ := h.ex
 have e : ((i : Int) - 1).toNat = i - 1 := by omega
 rw [e] at hx
 refine ⟨i - 1, by omega, ?_, by omega⟩
 rcases Nat.lt_or_ge (i - 1) (l.length - cl p l) with q | q
 ·have := ky p l (i - 1) (by omega) x hx
  rw [hp] at this; cases this
 ·exact q
theorem qa.low {α : Type} {p : α → Bool} {l : List α} {j : Int} (h : qa p l j) (hf : ¬ 0 < j) : j.toNat = l.length - cl p l := by
 obtain ⟨i, rfl, h1, h2⟩ := h.ex
 omega
theorem qa.stop {α : Type} {p : α → Bool} {l : List α} {j : Int} (h : qa p l j) (hf : 0 < j) {x : α} (hx : l[(j - 1).toNat]? = some x) (hp : p x = false) : j.toNat = l.length - cl p l := by
 obtain ⟨i, rfl, h1, h2⟩ := h.ex
 have e : ((i : Int) - 1).toNat = i - 1 := by omega
 rw [e] at hx
 have hT : i ≤ l.length - cl p l := by
  apply Classical.byContradiction
  intro hn
  have hm : x ∈ l.drop (l.length - cl p l) := by
   refine List.mem_iff_getElem?.2 ⟨i - 1 - (l.length - cl p l), ?_⟩
   rw [List.getElem?_drop, ← hx]
   congr 1; omega
  have := m9 p l x hm
  rw [hp] at this; cases this
 omega
theorem yw {α : Type} (gt : α → α → Bool) (l : List α) : (bO gt l).length = l.length := (iG gt l).length_eq
theorem wb {α : Type} (gt : α → α → Bool) {l : List α} {i : Nat} (hi : i < l.length) : bO gt (l.take (i + 1)) = ct (fun y => gt y l[i]) l[i] (bO gt (l.take i)) := by
 have e : l.take (i + 1) = l.take i ++ [l[i]] := by rw [List.take_add_one, List.getElem?_eq_getElem hi]; rfl
 unfold bO
 rw [e, List.foldl_append]; rfl
theorem mj {α : Type} (X : List α) {j : Int} : (X.drop (0 : Int).toNat).take (j.toNat - (0 : Int).toNat) = X.take j.toNat ∧ (X.drop j.toNat).take ((X.length : Int).toNat - j.toNat) = X.drop j.toNat := by
 refine ⟨by simp, List.take_of_length_le (by simp)⟩
theorem pc {α : Type} (f : α → AV) {gt : α → α → Bool} {l : List α} {i : Nat} (hi : i < l.length) {j : Int} (hj : j.toNat = (bO gt (l.take i)).length - cl (fun y => gt y l[i]) (bO gt (l.take i))) :
  ([] ++ ((((bO gt (l.take i)).map f).drop (0 : Int).toNat).take (j.toNat - (0 : Int).toNat))) ++ [f l[i]] ++ ((((bO gt (l.take i)).map f).drop j.toNat).take ((((bO gt (l.take i)).map f).length : Int).toNat - j.toNat)) = (bO gt (l.take (i + 1))).map f := by
 rw [wb gt hi, (mj _).1, (mj _).2]
 unfold ct fS
 rw [← hj, List.map_append, List.map_cons, List.map_take, List.map_drop, List.nil_append, List.append_assoc]; rfl
def Mo {α : Type} (d : α) (l : List α) (j : Int) : α := l.getD (j - 1).toNat d
theorem mq {α : Type} (d : α) {p : α → Bool} {l : List α} {j : Int} (h : qa p l j) (hf : 0 < j) : l[(j - 1).toNat]? = some (Mo d l j) := by
 have hn := h.nn
 unfold Mo
 rw [List.getD_eq_getElem?_getD, List.getElem?_eq_getElem (show (j - 1).toNat < l.length by omega)]; rfl
theorem OX {p : ae → Bool} {l : List ae} {j : Int} (hl : l.length ≤ 1000000) (h : qa p l j) (hf : 0 < j) : (l.map ae.av)[(IntKind.i64.wrap (j - 1)).toNat]? = some (.agg (Mo eY l j).cells) := by
 have hn := h.nn
 rw [fI (by omega) (by omega), List.getElem?_map, mq eY h hf]; rfl
theorem Mz {p : Int → Bool} {l : List Int} {j : Int} (hl : l.length ≤ 1000000) (h : qa p l j) (hf : 0 < j) : (l.map eJ)[(IntKind.i64.wrap (j - 1)).toNat]? = some (.int .i64 (Mo 0 l j)) := by
 have hn := h.nn
 rw [fI (by omega) (by omega), List.getElem?_map, mq 0 h hf]; rfl
theorem okF (l : List ae) (a b : Nat) : cg 7 (((l.map ae.av).drop a).take b) = true := by
 rw [← List.map_drop, ← List.map_take]; exact ba ae.cells (fun _ => rfl) _
theorem x6 (l : List Int) (a b : Nat) : cg 1 (((l.map eJ).drop a).take b) = true := by
 rw [← List.map_drop, ← List.map_take]; exact dN .i64 id _
theorem yr {α : Type} {gt : α → α → Bool} {l : List α} {i : Nat} (h : l.length ≤ 1000) : (bO gt (l.take i)).length ≤ 1000 := by
 rw [yw, List.length_take]; omega
theorem PV {v : CV} {n t : Sv} {rest : List (aI × CV)} {a b : List AV} (h : a = b) : ((aI.s 4, v) :: (aI.b 3, CV.bx [n, .v (.sl a), t]) :: rest) = [(aI.s 4, v), (aI.b 3, CV.bx [n, .v (.sl b), t])] ++ rest := by rw [h]; rfl
theorem PU {v : CV} {n t : Sv} {rest : List (aI × CV)} {a b : List AV} (h : a = b) : ((aI.s 7, v) :: (aI.b 3, CV.bx [n, t, .v (.sl a)]) :: rest) = [(aI.s 7, v), (aI.b 3, CV.bx [n, t, .v (.sl b)])] ++ rest := by rw [h]; rfl
theorem IM (m : aU) (hm : m.fields.length ≤ 1000) (hb : m.ai.length ≤ 1000) : Pure Tryz.prog 122 [m.av] m.sort.av := by
 refine Pure.go II mixed Tryz.func122 rfl rfl fun H => (aG.lq [.s 4, .b 3, .h, .s 1, .b 1, .s 2, .b 2, .s 3] (fun (i : Nat) => [(.s 4, .sv (.v (.int .i64 (i : Int)))), (.b 3, .bx [.v (.str m.name), .v (.sl ((bO (fun y x : ae => decide (y.num > x.num)) (m.fields.take i)).map ae.av)), .v (.sl (([] : List Int).map eJ))])]) (fun (i : Nat) => True) (fun (i : Nat) => m.fields.length - i) 0 rfl rfl trivial ?_)
 rintro i hI
 refine aC (fun hc1 => ?_) (fun hc1 => ?_)
 ·have hi := cz hc1
  refine aB.ii rfl bY rfl rfl (ca hi) rfl (aG.lp 6 [.s 6, .h, .s 1, .b 1, .s 2, .b 2, .s 3, .b 3, .s 4, .s 5, .b 5] (fun (j : Int) => [(.s 6, .sv (.v (.int .i64 j)))]) (fun (j : Int) => qa (fun y : ae => decide (y.num > (m.fields[i]'hi).num)) (bO (fun y x : ae => decide (y.num > x.num)) (m.fields.take i)) j) (fun (j : Int) => j.toNat) (((bO (fun y x : ae => decide (y.num > x.num)) (m.fields.take i)).map ae.av).length : Int) rfl rfl (by rw [List.length_map]; exact qa.start) ?_)
  rintro j hJ
  have hnn := hJ.nn
  have hle := @yr _ (fun y x : ae => decide (y.num > x.num)) m.fields i hm
  refine ⟨rfl, (aF.ti 999 14 rfl (fun hg2 => ?_) (fun hg2 => ?_))⟩
  ·refine aF.n1 6 rfl (ak (aH rfl) bY rfl rfl (by have := of_decide_eq_true hg2; rw [fI (by omega) (by omega)]; omega) (OX (by omega) hJ (of_decide_eq_true hg2)) rfl) ?_
   refine ⟨by kernel_rfl, (aG.ci 999 2 rfl (fun hc3 => ?_) (fun hc3 => ?_))⟩
   ·exact .bc [.s 6, .h, .s 1, .b 1, .s 2, .b 2, .s 3, .b 3, .s 4, .s 5, .b 5] rfl ⟨_, by show (IntKind.i64.wrap (j - 1)).toNat < j.toNat; have := of_decide_eq_true hg2; rw [fI (by omega) (by omega)]; omega, by rw [fI (by have := of_decide_eq_true hg2; omega) (by omega)]; exact hJ.step (of_decide_eq_true hg2) (mq eY hJ (of_decide_eq_true hg2)) hc3, rfl⟩
   ·refine ⟨rfl, (aF.d2 rfl (bD («as» := []) (aH rfl) iS m6 rfl rfl rfl (gQ rfl) rfl) (aF.d1 rfl (bJ (aH rfl) bY rfl (fun e he => by obtain ⟨f, _, rfl⟩ := List.mem_map.1 he; rfl) rfl rfl (by omega) (by first | omega | (rw [List.length_map]; omega)) (by first | omega | (rw [List.length_map]; omega))) ?_))⟩
    iterate 2 (refine aF.d3 rfl (aj (aH rfl) iS rfl rfl rfl (by first | rfl | exact okF _ _ _ | exact x6 _ _ _) rfl (by simp only [LL]; omega) rfl) ?_)
    refine aF.d1 rfl (bJ (aH rfl) bY rfl (fun e he => by obtain ⟨f, _, rfl⟩ := List.mem_map.1 he; rfl) rfl rfl (by omega) (by first | omega | (rw [List.length_map]; omega)) (by first | omega | (rw [List.length_map]; omega))) ?_
    refine aF.d3 rfl (aj (aH rfl) iS rfl rfl rfl (by first | rfl | exact okF _ _ _ | exact x6 _ _ _) rfl (by simp only [LL]; omega) rfl) ?_
    exact ⟨by kernel_rfl, (⟨Kept.c6 4 rfl (inc (by omega)) (Kept.forget 3 rfl (Kept.az [.s 4, .b 3, .h, .s 1, .b 1, .s 2, .b 2, .s 3] rfl (by decide) (Kept.now ⟨i + 1, by omega, trivial, PV (pc ae.av hi (hJ.stop (of_decide_eq_true hg2) (mq eY hJ (of_decide_eq_true hg2)) hc3))⟩)))⟩)⟩
  ·refine ⟨by kernel_rfl, (⟨rfl, (aF.d2 rfl (bD («as» := []) (aH rfl) iS m6 rfl rfl rfl (gQ rfl) rfl) (aF.d1 rfl (bJ (aH rfl) bY rfl (fun e he => by obtain ⟨f, _, rfl⟩ := List.mem_map.1 he; rfl) rfl rfl (by omega) (by first | omega | (rw [List.length_map]; omega)) (by first | omega | (rw [List.length_map]; omega))) ?_))⟩)⟩
   iterate 2 (refine aF.d3 rfl (aj (aH rfl) iS rfl rfl rfl (by first | rfl | exact okF _ _ _ | exact x6 _ _ _) rfl (by simp only [LL]; omega) rfl) ?_)
   refine aF.d1 rfl (bJ (aH rfl) bY rfl (fun e he => by obtain ⟨f, _, rfl⟩ := List.mem_map.1 he; rfl) rfl rfl (by omega) (by first | omega | (rw [List.length_map]; omega)) (by first | omega | (rw [List.length_map]; omega))) ?_
   refine aF.d3 rfl (aj (aH rfl) iS rfl rfl rfl (by first | rfl | exact okF _ _ _ | exact x6 _ _ _) rfl (by simp only [LL]; omega) rfl) ?_
   exact ⟨by kernel_rfl, (⟨Kept.c6 4 rfl (inc (by omega)) (Kept.forget 3 rfl (Kept.az [.s 4, .b 3, .h, .s 1, .b 1, .s 2, .b 2, .s 3] rfl (by decide) (Kept.now ⟨i + 1, by omega, trivial, PV (pc ae.av hi (hJ.low (of_decide_eq_false hg2)))⟩)))⟩)⟩
 ·have hi := dA hc1
  refine aG.lq [.s 7, .b 3, .h, .s 1, .b 1, .s 2, .b 2, .s 3] (fun (k : Nat) => [(.s 7, .sv (.v (.int .i64 (k : Int)))), (.b 3, .bx [.v (.str m.name), .v (.sl ((bO (fun y x : ae => decide (y.num > x.num)) (m.fields.take i)).map ae.av)), .v (.sl ((bO (fun y x : Int => decide (y > x)) (m.ai.take k)).map eJ))])]) (fun (k : Nat) => True) (fun (k : Nat) => m.ai.length - k) 0 rfl rfl trivial ?_
  rintro k hI
  refine aC (fun hc4 => ?_) (fun hc4 => ?_)
  ·have hk := cz hc4
   refine aB.ii rfl c9 rfl rfl (ca hk) rfl (aG.lp 6 [.s 9, .h, .s 1, .b 1, .s 2, .b 2, .s 3, .b 3, .s 7, .s 8] (fun (j : Int) => [(.s 9, .sv (.v (.int .i64 j)))]) (fun (j : Int) => qa (fun y : Int => decide (y > (m.ai[k]'hk))) (bO (fun y x : Int => decide (y > x)) (m.ai.take k)) j) (fun (j : Int) => j.toNat) (((bO (fun y x : Int => decide (y > x)) (m.ai.take k)).map eJ).length : Int) rfl rfl (by rw [List.length_map]; exact qa.start) ?_)
   rintro j hJ
   have hnn := hJ.nn
   have hle := @yr _ (fun y x : Int => decide (y > x)) m.ai k hb
   refine aB.ti 999 12 rfl (fun hg5 => ?_) (fun hg5 => ?_)
   ·refine aB.n1 4 rfl (ak (aH rfl) c9 rfl rfl (by have := of_decide_eq_true hg5; rw [fI (by omega) (by omega)]; omega) (Mz (by omega) hJ (of_decide_eq_true hg5)) rfl) ?_
    refine aG.ci 999 2 rfl (fun hc6 => ?_) (fun hc6 => ?_)
    ·exact .bc [.s 9, .h, .s 1, .b 1, .s 2, .b 2, .s 3, .b 3, .s 7, .s 8] rfl ⟨_, by show (IntKind.i64.wrap (j - 1)).toNat < j.toNat; have := of_decide_eq_true hg5; rw [fI (by omega) (by omega)]; omega, by rw [fI (by have := of_decide_eq_true hg5; omega) (by omega)]; exact hJ.step (of_decide_eq_true hg5) (mq 0 hJ (of_decide_eq_true hg5)) hc6, rfl⟩
    ·refine ⟨rfl, (aF.d2 rfl (bD («as» := []) (aH rfl) cI eu rfl rfl rfl (gQ rfl) rfl) (aF.d1 rfl (bJ (aH rfl) c9 rfl (fun e he => by obtain ⟨f, _, rfl⟩ := List.mem_map.1 he; rfl) rfl rfl (by omega) (by first | omega | (rw [List.length_map]; omega)) (by first | omega | (rw [List.length_map]; omega))) ?_))⟩
     iterate 2 (refine aF.d3 rfl (aj (aH rfl) cI rfl rfl rfl (by first | rfl | exact okF _ _ _ | exact x6 _ _ _) rfl (by simp only [LL]; omega) rfl) ?_)
     refine aF.d1 rfl (bJ (aH rfl) c9 rfl (fun e he => by obtain ⟨f, _, rfl⟩ := List.mem_map.1 he; rfl) rfl rfl (by omega) (by first | omega | (rw [List.length_map]; omega)) (by first | omega | (rw [List.length_map]; omega))) ?_
     refine aF.d3 rfl (aj (aH rfl) cI rfl rfl rfl (by first | rfl | exact okF _ _ _ | exact x6 _ _ _) rfl (by simp only [LL]; omega) rfl) ?_
     exact ⟨by kernel_rfl, (⟨Kept.c6 7 rfl (inc (by omega)) (Kept.forget 3 rfl (Kept.az [.s 7, .b 3, .h, .s 1, .b 1, .s 2, .b 2, .s 3] rfl (by decide) (Kept.now ⟨k + 1, by omega, trivial, PU (pc eJ hk (hJ.stop (of_decide_eq_true hg5) (mq 0 hJ (of_decide_eq_true hg5)) hc6))⟩)))⟩)⟩
   ·refine ⟨rfl, (aF.d2 rfl (bD («as» := []) (aH rfl) cI eu rfl rfl rfl (gQ rfl) rfl) (aF.d1 rfl (bJ (aH rfl) c9 rfl (fun e he => by obtain ⟨f, _, rfl⟩ := List.mem_map.1 he; rfl) rfl rfl (by omega) (by first | omega | (rw [List.length_map]; omega)) (by first | omega | (rw [List.length_map]; omega))) ?_))⟩
    iterate 2 (refine aF.d3 rfl (aj (aH rfl) cI rfl rfl rfl (by first | rfl | exact okF _ _ _ | exact x6 _ _ _) rfl (by simp only [LL]; omega) rfl) ?_)
    refine aF.d1 rfl (bJ (aH rfl) c9 rfl (fun e he => by obtain ⟨f, _, rfl⟩ := List.mem_map.1 he; rfl) rfl rfl (by omega) (by first | omega | (rw [List.length_map]; omega)) (by first | omega | (rw [List.length_map]; omega))) ?_
    refine aF.d3 rfl (aj (aH rfl) cI rfl rfl rfl (by first | rfl | exact okF _ _ _ | exact x6 _ _ _) rfl (by simp only [LL]; omega) rfl) ?_
    exact ⟨by kernel_rfl, (⟨Kept.c6 7 rfl (inc (by omega)) (Kept.forget 3 rfl (Kept.az [.s 7, .b 3, .h, .s 1, .b 1, .s 2, .b 2, .s 3] rfl (by decide) (Kept.now ⟨k + 1, by omega, trivial, PU (pc eJ hk (hJ.low (of_decide_eq_false hg5)))⟩)))⟩)⟩
  ·have hk := dA hc4
   exact ⟨.inr rfl, (aM.r1 rfl (.cell MR rfl rfl rfl rfl .nil)).cast (by rw [List.take_of_length_le (l := m.fields) (by omega), List.take_of_length_le (l := m.ai) (by omega)]; rfl), rfl⟩
end Go.Proofs.YtgmdapgedlachaaGreatDoor.X
