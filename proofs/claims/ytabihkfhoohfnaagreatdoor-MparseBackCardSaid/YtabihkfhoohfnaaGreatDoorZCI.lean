/- names, in the program. -/
import Derived.Test.YtabihkfhoohfnaaGreatDoorZCF
import Derived.Test.YtabihkfhoohfnaaGreatDoorZCD
import Derived.Sort.OwnSorted
import Derived.Lib.Walk
import Derived.WalkKit
import Derived.BigCall
import Derived.BigGuard
import Derived.Test.YtabihkfhoohfnaaGreatDoorZCH
set_option linter.unusedVariables false
set_option linter.unusedSimpArgs false
set_option linter.unusedSectionVars false
set_option maxRecDepth 100000
namespace Go.Proofs.YtabihkfhoohfnaaGreatDoor.X
open Go Go.RowKit Go.Proofs
theorem fn103_q : isFn Tryz.prog 103 = true := by kernel_rfl
theorem fn61_q : isFn Tryz.prog 61 = true := by kernel_rfl
theorem fn62_q : isFn Tryz.prog 62 = true := by kernel_rfl
theorem pos1 {k : Nat} (h : decide ((k : Int) > 0) = true) : 0 < k := by have := of_decide_eq_true h; omega
theorem zero1 {k : Nat} (h : decide ((k : Int) > 0) = false) : k = 0 := by have := of_decide_eq_false h; omega
def letR (n : Nat) : Bool := (decide (97 ≤ n) && decide (n ≤ 122)) || (decide (65 ≤ n) && decide (n ≤ 90))
def digR (n : Nat) : Bool := (decide (48 ≤ n) && decide (n ≤ 57)) || decide (n = 95)
theorem rune_ok {s : Str} {p : Nat} (h : p < s.length) (hr : letR (dec s p).1 = true ∨ digR (dec s p).1 = true) : dec s p = (s[p].toNat, 1) := by
 have hc : s[p]? = some s[p] := List.getElem?_eq_getElem h
 by_cases h2 : s[p].toNat < 128
 ·exact dec_lo hc h2
 ·have := dec_hi hc h2
  simp only [letR, digR, Bool.or_eq_true, Bool.and_eq_true, decide_eq_true_eq] at hr
  omega
theorem letR_byte (c : UInt8) : letR c.toNat = letter c := rfl
theorem idc_byte (c : UInt8) : (letR c.toNat || digR c.toNat) = idc c := by simp only [idc, digR, letR_byte, Bool.or_assoc]
/-- so far: all may stand in a name, and a letter is first -/
def NameI (s : Str) (p : Nat) : Prop := p ≤ s.length ∧ (s.take p).all idc = true ∧ (0 < p → letter (s.headD 0) = true)
theorem head_get {s : Str} (h : 0 < s.length) : s.headD 0 = s[0] := by
 cases s with
 | nil => simp at h
 | cons a l => rfl
theorem name_step {s : Str} {p : Nat} (h : p < s.length) (hI : NameI s p) (hr : letR (dec s p).1 = true ∨ (p ≠ 0 ∧ digR (dec s p).1 = true)) : NameI s (p + (dec s p).2) ∧ (dec s p).2 = 1 := by
 have hd := rune_ok h (hr.imp id (·.2))
 have h1 : (dec s p).1 = s[p].toNat := by rw [hd]
 have h2 : (dec s p).2 = 1 := by rw [hd]
 rw [h1] at hr
 rw [h2]
 obtain ⟨i1, i2, i3⟩ := hI
 refine ⟨⟨by omega, ?_, fun _ => ?_⟩, rfl⟩
 ·rw [List.take_succ_eq_append_getElem h, List.all_append, i2]
  have := idc_byte s[p]
  simp only [List.all_cons, List.all_nil, Bool.and_true, Bool.true_and, ← this]
  rcases hr with h | ⟨_, h⟩ <;> simp [h]
 ·rcases Nat.eq_zero_or_pos p with h0 | h0
  ·subst h0
   rcases hr with h3 | h3
   ·rw [head_get h]; exact h3
   ·exact absurd rfl h3.1
  ·exact i3 h0
theorem name_no {s : Str} {p : Nat} (h : p < s.length) (hr : letR (dec s p).1 = false ∧ (p = 0 ∨ digR (dec s p).1 = false)) : nameOK s = false := by
 have hc : s[p]? = some s[p] := List.getElem?_eq_getElem h
 have key : letter s[p] = false ∧ (p = 0 ∨ idc s[p] = false) := by
  by_cases h2 : s[p].toNat < 128
  ·have hd := dec_lo hc h2
   rw [hd] at hr
   refine ⟨hr.1, hr.2.imp id fun h3 => ?_⟩
   rw [← idc_byte]; simp [h3, letR_byte]; exact hr.1
  ·have h3 : letter s[p] = false := by simp only [letter, Bool.or_eq_false_iff, Bool.and_eq_false_iff, decide_eq_false_iff_not]; omega
   refine ⟨h3, .inr ?_⟩
   rw [← idc_byte, letR_byte, h3]
   simp only [digR, Bool.false_or, Bool.or_eq_false_iff, Bool.and_eq_false_iff, decide_eq_false_iff_not]; omega
 unfold nameOK
 rcases key.2 with h0 | h0
 ·subst h0
  rw [head_get h, key.1]; simp
 ·have : s.all idc = false := by
   rw [Bool.eq_false_iff]; intro hall
   have := List.all_eq_true.1 hall s[p] (List.getElem_mem h)
   rw [h0] at this; cases this
  rw [this]; simp
/-- is it a word of the languages? -/
def wordP (s : Str) : Bool := wordsL.any (· == s)
theorem name_end {s : Str} (hI : NameI s s.length) (hn : s ≠ []) : nameOK s = (decide (s.length ≤ 12) && !wordP s) := by
 obtain ⟨_, h2, h3⟩ := hI
 have hp : 0 < s.length := by cases s with | nil => exact absurd rfl hn | cons a l => simp
 unfold nameOK wordP
 rw [List.take_length] at h2
 rw [h2, h3 hp, decide_eq_true (show 1 ≤ s.length by omega), List.not_any_eq_all_not]
 simp
theorem name_full {s : Str} {p : Nat} (h : NameI s p) (h2 : s.length ≤ p) : NameI s s.length := by
 have : p = s.length := by have := h.1; omega
 subst this; exact h
theorem name_nil : nameOK [] = false := by decide
theorem beq_flip' {s w : Str} (h : (s == w) = false) : (w == s) = false := by
 rw [beq_eq_false_iff_ne] at *; exact fun e => h e.symm
theorem p_letter (n : Nat) : Pure Tryz.prog 61 [.int .i32 (n : Int)] (.bool (letR n)) := by
 refine Pure.of_tri Tryz.func61 rfl rfl (ltb rfl) fun H => ?_
 refine Tri.seq (Tri.region ?_)
 refine TriL.c1 rfl (op_as (ltb rfl) rfl) ?_
 refine TriL.nil (Tri.seq (Tri.region ?_))
 refine TriL.c1 rfl (op_mv (ltb rfl) rfl) ?_
 refine TriL.c1 rfl (op_bin (ltb rfl) rfl rfl rfl) ?_
 refine TriL.c1 rfl (op_mv (ltb rfl) rfl) ?_
 refine TriL.split (d := 5) rfl (fun hg1 => ?_) (fun hg1 => ?_)
 ·refine TriL.g1 rfl (ltb rfl) rfl hg1 (op_mv (ltb rfl) rfl) ?_
  refine TriL.g1 rfl (ltb rfl) rfl hg1 (op_bin (ltb rfl) rfl rfl rfl) ?_
  refine TriL.c1 rfl (op_pickt (ltb rfl) rfl hg1 rfl) ?_
  refine TriL.c1 rfl (op_mv (ltb rfl) rfl) ?_
  refine TriL.split (d := 9) rfl (fun hg2 => ?_) (fun hg2 => ?_)
  ·iterate 3 (refine TriL.skipu rfl rfl (ltb rfl) (ltb rfl) rfl hg2 ?_)
   iterate 2 (refine TriL.skipg rfl rfl (ltb rfl) (ltb rfl) rfl ?_)
   refine TriL.skipu rfl rfl (ltb rfl) (ltb rfl) rfl hg2 ?_
   refine TriL.c1 rfl (op_pickt (ltb rfl) rfl hg2 rfl) ?_
   refine TriL.c1 rfl (op_as (ltb rfl) rfl) ?_
   refine TriL.nil (Tri.ret ?_)
   exact ⟨.inr rfl, (ResOK.r1 rfl (.tmp rfl .nil)).cast (congrArg AV.bool (by grind [letR])), rfl⟩
  ·refine TriL.g1 rfl (ltb rfl) rfl hg2 (op_mv (ltb rfl) rfl) ?_
   refine TriL.g1 rfl (ltb rfl) rfl hg2 (op_bin (ltb rfl) rfl rfl rfl) ?_
   refine TriL.g1 rfl (ltb rfl) rfl hg2 (op_mv (ltb rfl) rfl) ?_
   refine TriL.split (d := 12) rfl (fun hg3 => ?_) (fun hg3 => ?_)
   ·refine TriL.g1 rfl (ltb rfl) rfl hg3 (op_mv (ltb rfl) rfl) ?_
    refine TriL.g1 rfl (ltb rfl) rfl hg3 (op_bin (ltb rfl) rfl rfl rfl) ?_
    refine TriL.g1 rfl (ltb rfl) rfl hg2 (op_pickt (ltb rfl) rfl hg3 rfl) ?_
    refine TriL.c1 rfl (op_pickf (ltb rfl) rfl hg2 rfl) ?_
    refine TriL.c1 rfl (op_as (ltb rfl) rfl) ?_
    refine TriL.nil (Tri.ret ?_)
    exact ⟨.inr rfl, (ResOK.r1 rfl (.tmp rfl .nil)).cast (congrArg AV.bool (by grind [letR])), rfl⟩
   ·iterate 2 (refine TriL.skipu rfl rfl (ltb rfl) (ltb rfl) rfl hg3 ?_)
    refine TriL.g1 rfl (ltb rfl) rfl hg2 (op_pickf (ltb rfl) rfl hg3 rfl) ?_
    refine TriL.c1 rfl (op_pickf (ltb rfl) rfl hg2 rfl) ?_
    refine TriL.c1 rfl (op_as (ltb rfl) rfl) ?_
    refine TriL.nil (Tri.ret ?_)
    exact ⟨.inr rfl, (ResOK.r1 rfl (.tmp rfl .nil)).cast (congrArg AV.bool (by grind [letR])), rfl⟩
 ·iterate 2 (refine TriL.skipu rfl rfl (ltb rfl) (ltb rfl) rfl hg1 ?_)
  refine TriL.c1 rfl (op_pickf (ltb rfl) rfl hg1 rfl) ?_
  refine TriL.c1 rfl (op_mv (ltb rfl) rfl) ?_
  refine TriL.g1 rfl (ltb rfl) rfl rfl (op_mv (ltb rfl) rfl) ?_
  refine TriL.g1 rfl (ltb rfl) rfl rfl (op_bin (ltb rfl) rfl rfl rfl) ?_
  refine TriL.g1 rfl (ltb rfl) rfl rfl (op_mv (ltb rfl) rfl) ?_
  refine TriL.split (d := 12) rfl (fun hg4 => ?_) (fun hg4 => ?_)
  ·refine TriL.g1 rfl (ltb rfl) rfl hg4 (op_mv (ltb rfl) rfl) ?_
   refine TriL.g1 rfl (ltb rfl) rfl hg4 (op_bin (ltb rfl) rfl rfl rfl) ?_
   refine TriL.g1 rfl (ltb rfl) rfl rfl (op_pickt (ltb rfl) rfl hg4 rfl) ?_
   refine TriL.c1 rfl (op_pickf (ltb rfl) rfl rfl rfl) ?_
   refine TriL.c1 rfl (op_as (ltb rfl) rfl) ?_
   refine TriL.nil (Tri.ret ?_)
   exact ⟨.inr rfl, (ResOK.r1 rfl (.tmp rfl .nil)).cast (congrArg AV.bool (by grind [letR])), rfl⟩
  ·iterate 2 (refine TriL.skipu rfl rfl (ltb rfl) (ltb rfl) rfl hg4 ?_)
   refine TriL.g1 rfl (ltb rfl) rfl rfl (op_pickf (ltb rfl) rfl hg4 rfl) ?_
   refine TriL.c1 rfl (op_pickf (ltb rfl) rfl rfl rfl) ?_
   refine TriL.c1 rfl (op_as (ltb rfl) rfl) ?_
   refine TriL.nil (Tri.ret ?_)
   exact ⟨.inr rfl, (ResOK.r1 rfl (.tmp rfl .nil)).cast (congrArg AV.bool (by grind [letR])), rfl⟩
theorem wordP_miss {s : Str} (h1 : (s == [101, 110, 117, 109]) = false) (h2 : (s == [109, 101, 115, 115, 97, 103, 101]) = false) (h3 : (s == [111, 110, 101, 111, 102]) = false) (h4 : (s == [114, 101, 112, 101, 97, 116, 101, 100]) = false) (h5 : (s == [114, 101, 115, 101, 114, 118, 101, 100]) = false) (h6 : (s == [108, 111, 111, 115, 101]) = false) (h7 : (s == [105, 110, 116, 51, 50]) = false) (h8 : (s == [105, 110, 116, 54, 52]) = false) (h9 : (s == [117, 105, 110, 116, 51, 50]) = false) (h10 : (s == [117, 105, 110, 116, 54, 52]) = false) (h11 : (s == [115, 105, 110, 116, 51, 50]) = false) (h12 : (s == [115, 105, 110, 116, 54, 52]) = false) (h13 : (s == [98, 111, 111, 108]) = false) (h14 : (s == [102, 105, 120, 101, 100, 51, 50]) = false) (h15 : (s == [102, 105, 120, 101, 100, 54, 52]) = false) (h16 : (s == [115, 102, 105, 120, 101, 100, 51, 50]) = false) (h17 : (s == [115, 102, 105, 120, 101, 100, 54, 52]) = false) (h18 : (s == [115, 116, 114, 105, 110, 103]) = false) (h19 : (s == [98, 121, 116, 101, 115]) = false) (h20 : (s == [114, 101, 110, 97, 109, 101]) = false) (h21 : (s == [114, 101, 110, 117, 109, 98, 101, 114]) = false) (h22 : (s == [114, 101, 116, 121, 112, 101]) = false) (h23 : (s == [115, 112, 108, 105, 116]) = false) (h24 : (s == [106, 111, 105, 110]) = false) (h25 : (s == [119, 114, 97, 112]) = false) (h26 : (s == [117, 110, 119, 114, 97, 112]) = false) (h27 : (s == [97, 100, 100]) = false) (h28 : (s == [100, 114, 111, 112]) = false) (h29 : (s == [116, 111]) = false) (h30 : (s == [105, 110, 116, 111]) = false) (h31 : (s == [97, 115]) = false) (h32 : (s == [111, 102]) = false) (h33 : (s == [100, 101, 102, 97, 117, 108, 116]) = false) (h34 : (s == [116, 114, 117, 101]) = false) (h35 : (s == [102, 97, 108, 115, 101]) = false) : false = wordP s := by
 simp only [wordP, wordsL, List.any_cons, List.any_nil, beq_flip' h1, beq_flip' h2, beq_flip' h3, beq_flip' h4, beq_flip' h5, beq_flip' h6, beq_flip' h7, beq_flip' h8, beq_flip' h9, beq_flip' h10, beq_flip' h11, beq_flip' h12, beq_flip' h13, beq_flip' h14, beq_flip' h15, beq_flip' h16, beq_flip' h17, beq_flip' h18, beq_flip' h19, beq_flip' h20, beq_flip' h21, beq_flip' h22, beq_flip' h23, beq_flip' h24, beq_flip' h25, beq_flip' h26, beq_flip' h27, beq_flip' h28, beq_flip' h29, beq_flip' h30, beq_flip' h31, beq_flip' h32, beq_flip' h33, beq_flip' h34, beq_flip' h35]; rfl
theorem p_wordP (s : Str) : Pure Tryz.prog 62 [.str s] (.bool (wordP s)) := by
 refine Pure.of_tri Tryz.func62 rfl rfl (ltb rfl) fun H => ?_
 refine Tri.seq (Tri.region ?_)
 refine TriL.c1 rfl (op_as (ltb rfl) rfl) ?_
 refine TriL.nil (Tri.seq (Tri.seq (Tri.region ?_)))
 refine TriL.c1 rfl (op_mv (ltb rfl) rfl) ?_
 refine TriL.nil (Tri.blk (Tri.seq (Tri.seq (Tri.region ?_))))
 refine TriL.c1 rfl (op_bin (ltb rfl) rfl rfl rfl) ?_
 refine TriL.c1 rfl (op_as (ltb rfl) rfl) ?_
 refine TriL.nil ?_
 refine Tri.cond rfl (fun hc1 => ?_) (fun hc1 => ?_)
 ·refine Tri.skip ?_
  refine Tri.condT rfl hc1 ?_
  refine Tri.skip (Tri.seq (Tri.region ?_))
  refine TriL.c1 rfl (op_as (ltb rfl) rfl) ?_
  refine TriL.nil (Tri.ret ?_)
  exact ⟨.inr rfl, (ResOK.r1 rfl (.tmp rfl .nil)).cast (congrArg AV.bool (by rw [eq_of_beq hc1]; rfl)), rfl⟩
 ·refine Tri.seq (Tri.region ?_)
  refine TriL.c1 rfl (op_bin (ltb rfl) rfl rfl rfl) ?_
  refine TriL.c1 rfl (op_as (ltb rfl) rfl) ?_
  refine TriL.nil ?_
  refine Tri.cond rfl (fun hc2 => ?_) (fun hc2 => ?_)
  ·refine Tri.skip ?_
   refine Tri.condT rfl hc2 ?_
   refine Tri.skip (Tri.seq (Tri.region ?_))
   refine TriL.c1 rfl (op_as (ltb rfl) rfl) ?_
   refine TriL.nil (Tri.ret ?_)
   exact ⟨.inr rfl, (ResOK.r1 rfl (.tmp rfl .nil)).cast (congrArg AV.bool (by rw [eq_of_beq hc2]; rfl)), rfl⟩
  ·refine Tri.seq (Tri.region ?_)
   refine TriL.c1 rfl (op_bin (ltb rfl) rfl rfl rfl) ?_
   refine TriL.c1 rfl (op_as (ltb rfl) rfl) ?_
   refine TriL.nil ?_
   refine Tri.cond rfl (fun hc3 => ?_) (fun hc3 => ?_)
   ·refine Tri.skip ?_
    refine Tri.condT rfl hc3 ?_
    refine Tri.skip (Tri.seq (Tri.region ?_))
    refine TriL.c1 rfl (op_as (ltb rfl) rfl) ?_
    refine TriL.nil (Tri.ret ?_)
    exact ⟨.inr rfl, (ResOK.r1 rfl (.tmp rfl .nil)).cast (congrArg AV.bool (by rw [eq_of_beq hc3]; rfl)), rfl⟩
   ·refine Tri.seq (Tri.region ?_)
    refine TriL.c1 rfl (op_bin (ltb rfl) rfl rfl rfl) ?_
    refine TriL.c1 rfl (op_as (ltb rfl) rfl) ?_
    refine TriL.nil ?_
    refine Tri.cond rfl (fun hc4 => ?_) (fun hc4 => ?_)
    ·refine Tri.skip ?_
     refine Tri.condT rfl hc4 ?_
     refine Tri.skip (Tri.seq (Tri.region ?_))
     refine TriL.c1 rfl (op_as (ltb rfl) rfl) ?_
     refine TriL.nil (Tri.ret ?_)
     exact ⟨.inr rfl, (ResOK.r1 rfl (.tmp rfl .nil)).cast (congrArg AV.bool (by rw [eq_of_beq hc4]; rfl)), rfl⟩
    ·refine Tri.seq (Tri.region ?_)
     refine TriL.c1 rfl (op_bin (ltb rfl) rfl rfl rfl) ?_
     refine TriL.c1 rfl (op_as (ltb rfl) rfl) ?_
     refine TriL.nil ?_
     refine Tri.cond rfl (fun hc5 => ?_) (fun hc5 => ?_)
     ·refine Tri.skip ?_
      refine Tri.condT rfl hc5 ?_
      refine Tri.skip (Tri.seq (Tri.region ?_))
      refine TriL.c1 rfl (op_as (ltb rfl) rfl) ?_
      refine TriL.nil (Tri.ret ?_)
      exact ⟨.inr rfl, (ResOK.r1 rfl (.tmp rfl .nil)).cast (congrArg AV.bool (by rw [eq_of_beq hc5]; rfl)), rfl⟩
     ·-- region 8 ident.go:16
      refine Tri.region ?_
      refine TriL.c1 rfl (op_bin (ltb rfl) rfl rfl rfl) ?_
      refine TriL.c1 rfl (op_as (ltb rfl) rfl) ?_
      refine TriL.nil ?_
      refine Tri.cond rfl (fun hc6 => ?_) (fun hc6 => ?_)
      ·refine Tri.skip (Tri.seq (Tri.region ?_))
       refine TriL.c1 rfl (op_as (ltb rfl) rfl) ?_
       refine TriL.nil (Tri.ret ?_)
       exact ⟨.inr rfl, (ResOK.r1 rfl (.tmp rfl .nil)).cast (congrArg AV.bool (by rw [eq_of_beq hc6]; rfl)), rfl⟩
      ·refine Tri.seq (Tri.seq (Tri.region ?_))
       refine TriL.c1 rfl (op_bin (ltb rfl) rfl rfl rfl) ?_
       refine TriL.c1 rfl (op_as (ltb rfl) rfl) ?_
       refine TriL.nil ?_
       refine Tri.cond rfl (fun hc7 => ?_) (fun hc7 => ?_)
       ·refine Tri.skip ?_
        refine Tri.condT rfl hc7 ?_
        refine Tri.skip (Tri.seq (Tri.region ?_))
        refine TriL.c1 rfl (op_as (ltb rfl) rfl) ?_
        refine TriL.nil (Tri.ret ?_)
        exact ⟨.inr rfl, (ResOK.r1 rfl (.tmp rfl .nil)).cast (congrArg AV.bool (by rw [eq_of_beq hc7]; rfl)), rfl⟩
       ·refine Tri.seq (Tri.region ?_)
        refine TriL.c1 rfl (op_bin (ltb rfl) rfl rfl rfl) ?_
        refine TriL.c1 rfl (op_as (ltb rfl) rfl) ?_
        refine TriL.nil ?_
        refine Tri.cond rfl (fun hc8 => ?_) (fun hc8 => ?_)
        ·refine Tri.skip ?_
         refine Tri.condT rfl hc8 ?_
         refine Tri.skip (Tri.seq (Tri.region ?_))
         refine TriL.c1 rfl (op_as (ltb rfl) rfl) ?_
         refine TriL.nil (Tri.ret ?_)
         exact ⟨.inr rfl, (ResOK.r1 rfl (.tmp rfl .nil)).cast (congrArg AV.bool (by rw [eq_of_beq hc8]; rfl)), rfl⟩
        ·refine Tri.seq (Tri.region ?_)
         refine TriL.c1 rfl (op_bin (ltb rfl) rfl rfl rfl) ?_
         refine TriL.c1 rfl (op_as (ltb rfl) rfl) ?_
         refine TriL.nil ?_
         refine Tri.cond rfl (fun hc9 => ?_) (fun hc9 => ?_)
         ·refine Tri.skip ?_
          refine Tri.condT rfl hc9 ?_
          refine Tri.skip (Tri.seq (Tri.region ?_))
          refine TriL.c1 rfl (op_as (ltb rfl) rfl) ?_
          refine TriL.nil (Tri.ret ?_)
          exact ⟨.inr rfl, (ResOK.r1 rfl (.tmp rfl .nil)).cast (congrArg AV.bool (by rw [eq_of_beq hc9]; rfl)), rfl⟩
         ·refine Tri.seq (Tri.region ?_)
          refine TriL.c1 rfl (op_bin (ltb rfl) rfl rfl rfl) ?_
          refine TriL.c1 rfl (op_as (ltb rfl) rfl) ?_
          refine TriL.nil ?_
          refine Tri.cond rfl (fun hc10 => ?_) (fun hc10 => ?_)
          ·refine Tri.skip ?_
           refine Tri.condT rfl hc10 ?_
           refine Tri.skip (Tri.seq (Tri.region ?_))
           refine TriL.c1 rfl (op_as (ltb rfl) rfl) ?_
           refine TriL.nil (Tri.ret ?_)
           exact ⟨.inr rfl, (ResOK.r1 rfl (.tmp rfl .nil)).cast (congrArg AV.bool (by rw [eq_of_beq hc10]; rfl)), rfl⟩
          ·refine Tri.seq (Tri.region ?_)
           refine TriL.c1 rfl (op_bin (ltb rfl) rfl rfl rfl) ?_
           refine TriL.c1 rfl (op_as (ltb rfl) rfl) ?_
           refine TriL.nil ?_
           refine Tri.cond rfl (fun hc11 => ?_) (fun hc11 => ?_)
           ·refine Tri.skip ?_
            refine Tri.condT rfl hc11 ?_
            refine Tri.skip (Tri.seq (Tri.region ?_))
            refine TriL.c1 rfl (op_as (ltb rfl) rfl) ?_
            refine TriL.nil (Tri.ret ?_)
            exact ⟨.inr rfl, (ResOK.r1 rfl (.tmp rfl .nil)).cast (congrArg AV.bool (by rw [eq_of_beq hc11]; rfl)), rfl⟩
           ·refine Tri.seq (Tri.region ?_)
            refine TriL.c1 rfl (op_bin (ltb rfl) rfl rfl rfl) ?_
            refine TriL.c1 rfl (op_as (ltb rfl) rfl) ?_
            refine TriL.nil ?_
            refine Tri.cond rfl (fun hc12 => ?_) (fun hc12 => ?_)
            ·refine Tri.skip ?_
             refine Tri.condT rfl hc12 ?_
             refine Tri.skip (Tri.seq (Tri.region ?_))
             refine TriL.c1 rfl (op_as (ltb rfl) rfl) ?_
             refine TriL.nil (Tri.ret ?_)
             exact ⟨.inr rfl, (ResOK.r1 rfl (.tmp rfl .nil)).cast (congrArg AV.bool (by rw [eq_of_beq hc12]; rfl)), rfl⟩
            ·-- region 15 ident.go:17
             refine Tri.region ?_
             refine TriL.c1 rfl (op_bin (ltb rfl) rfl rfl rfl) ?_
             refine TriL.c1 rfl (op_as (ltb rfl) rfl) ?_
             refine TriL.nil ?_
             refine Tri.cond rfl (fun hc13 => ?_) (fun hc13 => ?_)
             ·refine Tri.skip (Tri.seq (Tri.region ?_))
              refine TriL.c1 rfl (op_as (ltb rfl) rfl) ?_
              refine TriL.nil (Tri.ret ?_)
              exact ⟨.inr rfl, (ResOK.r1 rfl (.tmp rfl .nil)).cast (congrArg AV.bool (by rw [eq_of_beq hc13]; rfl)), rfl⟩
             ·refine Tri.seq (Tri.seq (Tri.region ?_))
              refine TriL.c1 rfl (op_bin (ltb rfl) rfl rfl rfl) ?_
              refine TriL.c1 rfl (op_as (ltb rfl) rfl) ?_
              refine TriL.nil ?_
              refine Tri.cond rfl (fun hc14 => ?_) (fun hc14 => ?_)
              ·refine Tri.skip ?_
               refine Tri.condT rfl hc14 ?_
               refine Tri.skip (Tri.seq (Tri.region ?_))
               refine TriL.c1 rfl (op_as (ltb rfl) rfl) ?_
               refine TriL.nil (Tri.ret ?_)
               exact ⟨.inr rfl, (ResOK.r1 rfl (.tmp rfl .nil)).cast (congrArg AV.bool (by rw [eq_of_beq hc14]; rfl)), rfl⟩
              ·refine Tri.seq (Tri.region ?_)
               refine TriL.c1 rfl (op_bin (ltb rfl) rfl rfl rfl) ?_
               refine TriL.c1 rfl (op_as (ltb rfl) rfl) ?_
               refine TriL.nil ?_
               refine Tri.cond rfl (fun hc15 => ?_) (fun hc15 => ?_)
               ·refine Tri.skip ?_
                refine Tri.condT rfl hc15 ?_
                refine Tri.skip (Tri.seq (Tri.region ?_))
                refine TriL.c1 rfl (op_as (ltb rfl) rfl) ?_
                refine TriL.nil (Tri.ret ?_)
                exact ⟨.inr rfl, (ResOK.r1 rfl (.tmp rfl .nil)).cast (congrArg AV.bool (by rw [eq_of_beq hc15]; rfl)), rfl⟩
               ·refine Tri.seq (Tri.region ?_)
                refine TriL.c1 rfl (op_bin (ltb rfl) rfl rfl rfl) ?_
                refine TriL.c1 rfl (op_as (ltb rfl) rfl) ?_
                refine TriL.nil ?_
                refine Tri.cond rfl (fun hc16 => ?_) (fun hc16 => ?_)
                ·refine Tri.skip ?_
                 refine Tri.condT rfl hc16 ?_
                 refine Tri.skip (Tri.seq (Tri.region ?_))
                 refine TriL.c1 rfl (op_as (ltb rfl) rfl) ?_
                 refine TriL.nil (Tri.ret ?_)
                 exact ⟨.inr rfl, (ResOK.r1 rfl (.tmp rfl .nil)).cast (congrArg AV.bool (by rw [eq_of_beq hc16]; rfl)), rfl⟩
                ·refine Tri.seq (Tri.region ?_)
                 refine TriL.c1 rfl (op_bin (ltb rfl) rfl rfl rfl) ?_
                 refine TriL.c1 rfl (op_as (ltb rfl) rfl) ?_
                 refine TriL.nil ?_
                 refine Tri.cond rfl (fun hc17 => ?_) (fun hc17 => ?_)
                 ·refine Tri.skip ?_
                  refine Tri.condT rfl hc17 ?_
                  refine Tri.skip (Tri.seq (Tri.region ?_))
                  refine TriL.c1 rfl (op_as (ltb rfl) rfl) ?_
                  refine TriL.nil (Tri.ret ?_)
                  exact ⟨.inr rfl, (ResOK.r1 rfl (.tmp rfl .nil)).cast (congrArg AV.bool (by rw [eq_of_beq hc17]; rfl)), rfl⟩
                 ·refine Tri.seq (Tri.region ?_)
                  refine TriL.c1 rfl (op_bin (ltb rfl) rfl rfl rfl) ?_
                  refine TriL.c1 rfl (op_as (ltb rfl) rfl) ?_
                  refine TriL.nil ?_
                  refine Tri.cond rfl (fun hc18 => ?_) (fun hc18 => ?_)
                  ·refine Tri.skip ?_
                   refine Tri.condT rfl hc18 ?_
                   refine Tri.skip (Tri.seq (Tri.region ?_))
                   refine TriL.c1 rfl (op_as (ltb rfl) rfl) ?_
                   refine TriL.nil (Tri.ret ?_)
                   exact ⟨.inr rfl, (ResOK.r1 rfl (.tmp rfl .nil)).cast (congrArg AV.bool (by rw [eq_of_beq hc18]; rfl)), rfl⟩
                  ·-- region 21 ident.go:18
                   refine Tri.region ?_
                   refine TriL.c1 rfl (op_bin (ltb rfl) rfl rfl rfl) ?_
                   refine TriL.c1 rfl (op_as (ltb rfl) rfl) ?_
                   refine TriL.nil ?_
                   refine Tri.cond rfl (fun hc19 => ?_) (fun hc19 => ?_)
                   ·refine Tri.skip (Tri.seq (Tri.region ?_))
                    refine TriL.c1 rfl (op_as (ltb rfl) rfl) ?_
                    refine TriL.nil (Tri.ret ?_)
                    exact ⟨.inr rfl, (ResOK.r1 rfl (.tmp rfl .nil)).cast (congrArg AV.bool (by rw [eq_of_beq hc19]; rfl)), rfl⟩
                   ·refine Tri.seq (Tri.seq (Tri.region ?_))
                    refine TriL.c1 rfl (op_bin (ltb rfl) rfl rfl rfl) ?_
                    refine TriL.c1 rfl (op_as (ltb rfl) rfl) ?_
                    refine TriL.nil ?_
                    refine Tri.cond rfl (fun hc20 => ?_) (fun hc20 => ?_)
                    ·refine Tri.skip ?_
                     refine Tri.condT rfl hc20 ?_
                     refine Tri.skip (Tri.seq (Tri.region ?_))
                     refine TriL.c1 rfl (op_as (ltb rfl) rfl) ?_
                     refine TriL.nil (Tri.ret ?_)
                     exact ⟨.inr rfl, (ResOK.r1 rfl (.tmp rfl .nil)).cast (congrArg AV.bool (by rw [eq_of_beq hc20]; rfl)), rfl⟩
                    ·refine Tri.seq (Tri.region ?_)
                     refine TriL.c1 rfl (op_bin (ltb rfl) rfl rfl rfl) ?_
                     refine TriL.c1 rfl (op_as (ltb rfl) rfl) ?_
                     refine TriL.nil ?_
                     refine Tri.cond rfl (fun hc21 => ?_) (fun hc21 => ?_)
                     ·refine Tri.skip ?_
                      refine Tri.condT rfl hc21 ?_
                      refine Tri.skip (Tri.seq (Tri.region ?_))
                      refine TriL.c1 rfl (op_as (ltb rfl) rfl) ?_
                      refine TriL.nil (Tri.ret ?_)
                      exact ⟨.inr rfl, (ResOK.r1 rfl (.tmp rfl .nil)).cast (congrArg AV.bool (by rw [eq_of_beq hc21]; rfl)), rfl⟩
                     ·refine Tri.seq (Tri.region ?_)
                      refine TriL.c1 rfl (op_bin (ltb rfl) rfl rfl rfl) ?_
                      refine TriL.c1 rfl (op_as (ltb rfl) rfl) ?_
                      refine TriL.nil ?_
                      refine Tri.cond rfl (fun hc22 => ?_) (fun hc22 => ?_)
                      ·refine Tri.skip ?_
                       refine Tri.condT rfl hc22 ?_
                       refine Tri.skip (Tri.seq (Tri.region ?_))
                       refine TriL.c1 rfl (op_as (ltb rfl) rfl) ?_
                       refine TriL.nil (Tri.ret ?_)
                       exact ⟨.inr rfl, (ResOK.r1 rfl (.tmp rfl .nil)).cast (congrArg AV.bool (by rw [eq_of_beq hc22]; rfl)), rfl⟩
                      ·refine Tri.seq (Tri.region ?_)
                       refine TriL.c1 rfl (op_bin (ltb rfl) rfl rfl rfl) ?_
                       refine TriL.c1 rfl (op_as (ltb rfl) rfl) ?_
                       refine TriL.nil ?_
                       refine Tri.cond rfl (fun hc23 => ?_) (fun hc23 => ?_)
                       ·refine Tri.skip ?_
                        refine Tri.condT rfl hc23 ?_
                        refine Tri.skip (Tri.seq (Tri.region ?_))
                        refine TriL.c1 rfl (op_as (ltb rfl) rfl) ?_
                        refine TriL.nil (Tri.ret ?_)
                        exact ⟨.inr rfl, (ResOK.r1 rfl (.tmp rfl .nil)).cast (congrArg AV.bool (by rw [eq_of_beq hc23]; rfl)), rfl⟩
                       ·refine Tri.seq (Tri.region ?_)
                        refine TriL.c1 rfl (op_bin (ltb rfl) rfl rfl rfl) ?_
                        refine TriL.c1 rfl (op_as (ltb rfl) rfl) ?_
                        refine TriL.nil ?_
                        refine Tri.cond rfl (fun hc24 => ?_) (fun hc24 => ?_)
                        ·refine Tri.skip ?_
                         refine Tri.condT rfl hc24 ?_
                         refine Tri.skip (Tri.seq (Tri.region ?_))
                         refine TriL.c1 rfl (op_as (ltb rfl) rfl) ?_
                         refine TriL.nil (Tri.ret ?_)
                         exact ⟨.inr rfl, (ResOK.r1 rfl (.tmp rfl .nil)).cast (congrArg AV.bool (by rw [eq_of_beq hc24]; rfl)), rfl⟩
                        ·refine Tri.seq (Tri.region ?_)
                         refine TriL.c1 rfl (op_bin (ltb rfl) rfl rfl rfl) ?_
                         refine TriL.c1 rfl (op_as (ltb rfl) rfl) ?_
                         refine TriL.nil ?_
                         refine Tri.cond rfl (fun hc25 => ?_) (fun hc25 => ?_)
                         ·refine Tri.skip ?_
                          refine Tri.condT rfl hc25 ?_
                          refine Tri.skip (Tri.seq (Tri.region ?_))
                          refine TriL.c1 rfl (op_as (ltb rfl) rfl) ?_
                          refine TriL.nil (Tri.ret ?_)
                          exact ⟨.inr rfl, (ResOK.r1 rfl (.tmp rfl .nil)).cast (congrArg AV.bool (by rw [eq_of_beq hc25]; rfl)), rfl⟩
                         ·refine Tri.seq (Tri.region ?_)
                          refine TriL.c1 rfl (op_bin (ltb rfl) rfl rfl rfl) ?_
                          refine TriL.c1 rfl (op_as (ltb rfl) rfl) ?_
                          refine TriL.nil ?_
                          refine Tri.cond rfl (fun hc26 => ?_) (fun hc26 => ?_)
                          ·refine Tri.skip ?_
                           refine Tri.condT rfl hc26 ?_
                           refine Tri.skip (Tri.seq (Tri.region ?_))
                           refine TriL.c1 rfl (op_as (ltb rfl) rfl) ?_
                           refine TriL.nil (Tri.ret ?_)
                           exact ⟨.inr rfl, (ResOK.r1 rfl (.tmp rfl .nil)).cast (congrArg AV.bool (by rw [eq_of_beq hc26]; rfl)), rfl⟩
                          ·refine Tri.seq (Tri.region ?_)
                           refine TriL.c1 rfl (op_bin (ltb rfl) rfl rfl rfl) ?_
                           refine TriL.c1 rfl (op_as (ltb rfl) rfl) ?_
                           refine TriL.nil ?_
                           refine Tri.cond rfl (fun hc27 => ?_) (fun hc27 => ?_)
                           ·refine Tri.skip ?_
                            refine Tri.condT rfl hc27 ?_
                            refine Tri.skip (Tri.seq (Tri.region ?_))
                            refine TriL.c1 rfl (op_as (ltb rfl) rfl) ?_
                            refine TriL.nil (Tri.ret ?_)
                            exact ⟨.inr rfl, (ResOK.r1 rfl (.tmp rfl .nil)).cast (congrArg AV.bool (by rw [eq_of_beq hc27]; rfl)), rfl⟩
                           ·-- region 30 ident.go:19
                            refine Tri.region ?_
                            refine TriL.c1 rfl (op_bin (ltb rfl) rfl rfl rfl) ?_
                            refine TriL.c1 rfl (op_as (ltb rfl) rfl) ?_
                            refine TriL.nil ?_
                            refine Tri.cond rfl (fun hc28 => ?_) (fun hc28 => ?_)
                            ·refine Tri.skip (Tri.seq (Tri.region ?_))
                             refine TriL.c1 rfl (op_as (ltb rfl) rfl) ?_
                             refine TriL.nil (Tri.ret ?_)
                             exact ⟨.inr rfl, (ResOK.r1 rfl (.tmp rfl .nil)).cast (congrArg AV.bool (by rw [eq_of_beq hc28]; rfl)), rfl⟩
                            ·refine Tri.seq (Tri.seq (Tri.region ?_))
                             refine TriL.c1 rfl (op_bin (ltb rfl) rfl rfl rfl) ?_
                             refine TriL.c1 rfl (op_as (ltb rfl) rfl) ?_
                             refine TriL.nil ?_
                             refine Tri.cond rfl (fun hc29 => ?_) (fun hc29 => ?_)
                             ·refine Tri.skip ?_
                              refine Tri.condT rfl hc29 ?_
                              refine Tri.skip (Tri.seq (Tri.region ?_))
                              refine TriL.c1 rfl (op_as (ltb rfl) rfl) ?_
                              refine TriL.nil (Tri.ret ?_)
                              exact ⟨.inr rfl, (ResOK.r1 rfl (.tmp rfl .nil)).cast (congrArg AV.bool (by rw [eq_of_beq hc29]; rfl)), rfl⟩
                             ·refine Tri.seq (Tri.region ?_)
                              refine TriL.c1 rfl (op_bin (ltb rfl) rfl rfl rfl) ?_
                              refine TriL.c1 rfl (op_as (ltb rfl) rfl) ?_
                              refine TriL.nil ?_
                              refine Tri.cond rfl (fun hc30 => ?_) (fun hc30 => ?_)
                              ·refine Tri.skip ?_
                               refine Tri.condT rfl hc30 ?_
                               refine Tri.skip (Tri.seq (Tri.region ?_))
                               refine TriL.c1 rfl (op_as (ltb rfl) rfl) ?_
                               refine TriL.nil (Tri.ret ?_)
                               exact ⟨.inr rfl, (ResOK.r1 rfl (.tmp rfl .nil)).cast (congrArg AV.bool (by rw [eq_of_beq hc30]; rfl)), rfl⟩
                              ·refine Tri.seq (Tri.region ?_)
                               refine TriL.c1 rfl (op_bin (ltb rfl) rfl rfl rfl) ?_
                               refine TriL.c1 rfl (op_as (ltb rfl) rfl) ?_
                               refine TriL.nil ?_
                               refine Tri.cond rfl (fun hc31 => ?_) (fun hc31 => ?_)
                               ·refine Tri.skip ?_
                                refine Tri.condT rfl hc31 ?_
                                refine Tri.skip (Tri.seq (Tri.region ?_))
                                refine TriL.c1 rfl (op_as (ltb rfl) rfl) ?_
                                refine TriL.nil (Tri.ret ?_)
                                exact ⟨.inr rfl, (ResOK.r1 rfl (.tmp rfl .nil)).cast (congrArg AV.bool (by rw [eq_of_beq hc31]; rfl)), rfl⟩
                               ·refine Tri.seq (Tri.region ?_)
                                refine TriL.c1 rfl (op_bin (ltb rfl) rfl rfl rfl) ?_
                                refine TriL.c1 rfl (op_as (ltb rfl) rfl) ?_
                                refine TriL.nil ?_
                                refine Tri.cond rfl (fun hc32 => ?_) (fun hc32 => ?_)
                                ·refine Tri.skip ?_
                                 refine Tri.condT rfl hc32 ?_
                                 refine Tri.skip (Tri.seq (Tri.region ?_))
                                 refine TriL.c1 rfl (op_as (ltb rfl) rfl) ?_
                                 refine TriL.nil (Tri.ret ?_)
                                 exact ⟨.inr rfl, (ResOK.r1 rfl (.tmp rfl .nil)).cast (congrArg AV.bool (by rw [eq_of_beq hc32]; rfl)), rfl⟩
                                ·refine Tri.seq (Tri.region ?_)
                                 refine TriL.c1 rfl (op_bin (ltb rfl) rfl rfl rfl) ?_
                                 refine TriL.c1 rfl (op_as (ltb rfl) rfl) ?_
                                 refine TriL.nil ?_
                                 refine Tri.cond rfl (fun hc33 => ?_) (fun hc33 => ?_)
                                 ·refine Tri.skip ?_
                                  refine Tri.condT rfl hc33 ?_
                                  refine Tri.skip (Tri.seq (Tri.region ?_))
                                  refine TriL.c1 rfl (op_as (ltb rfl) rfl) ?_
                                  refine TriL.nil (Tri.ret ?_)
                                  exact ⟨.inr rfl, (ResOK.r1 rfl (.tmp rfl .nil)).cast (congrArg AV.bool (by rw [eq_of_beq hc33]; rfl)), rfl⟩
                                 ·refine Tri.seq (Tri.region ?_)
                                  refine TriL.c1 rfl (op_bin (ltb rfl) rfl rfl rfl) ?_
                                  refine TriL.c1 rfl (op_as (ltb rfl) rfl) ?_
                                  refine TriL.nil ?_
                                  refine Tri.cond rfl (fun hc34 => ?_) (fun hc34 => ?_)
                                  ·refine Tri.skip ?_
                                   refine Tri.condT rfl hc34 ?_
                                   refine Tri.skip (Tri.seq (Tri.region ?_))
                                   refine TriL.c1 rfl (op_as (ltb rfl) rfl) ?_
                                   refine TriL.nil (Tri.ret ?_)
                                   exact ⟨.inr rfl, (ResOK.r1 rfl (.tmp rfl .nil)).cast (congrArg AV.bool (by rw [eq_of_beq hc34]; rfl)), rfl⟩
                                  ·-- region 37 ident.go:20
                                   refine Tri.region ?_
                                   refine TriL.c1 rfl (op_bin (ltb rfl) rfl rfl rfl) ?_
                                   refine TriL.c1 rfl (op_as (ltb rfl) rfl) ?_
                                   refine TriL.nil ?_
                                   refine Tri.cond rfl (fun hc35 => ?_) (fun hc35 => ?_)
                                   ·refine Tri.skip (Tri.seq (Tri.region ?_))
                                    refine TriL.c1 rfl (op_as (ltb rfl) rfl) ?_
                                    refine TriL.nil (Tri.ret ?_)
                                    exact ⟨.inr rfl, (ResOK.r1 rfl (.tmp rfl .nil)).cast (congrArg AV.bool (by rw [eq_of_beq hc35]; rfl)), rfl⟩
                                   ·refine Tri.seq (Tri.region ?_)
                                    refine TriL.c1 rfl (op_as (ltb rfl) rfl) ?_
                                    refine TriL.nil (Tri.ret ?_)
                                    exact ⟨.inr rfl, (ResOK.r1 rfl (.tmp rfl .nil)).cast (congrArg AV.bool (wordP_miss hc1 hc2 hc3 hc4 hc5 hc6 hc7 hc8 hc9 hc10 hc11 hc12 hc13 hc14 hc15 hc16 hc17 hc18 hc19 hc20 hc21 hc22 hc23 hc24 hc25 hc26 hc27 hc28 hc29 hc30 hc31 hc32 hc33 hc34 hc35)), rfl⟩
theorem p_nameOK (s : Str) : Pure Tryz.prog 28 [.str s] (.bool (nameOK s)) := by
 refine Pure.of_tri Tryz.func28 rfl rfl (ltb rfl) fun H => ?_
 refine Tri.seq (Tri.region ?_)
 refine TriL.c1 rfl (op_as (ltb rfl) rfl) ?_
 refine TriL.nil (Tri.seq (Tri.seq (Tri.region ?_)))
 refine TriL.c1 rfl (op_mv (ltb rfl) rfl) ?_
 refine TriL.c2 rfl (op_rng (ltb rfl) un9_q rfl rfl) ?_
 refine TriL.nil (Tri.blk ?_)
 refine Tri.ofKept (Kept.keep [.b 7, .h, .s 0, .s 7] rfl (by decide) (Kept.now ?_))
 -- LOOP 1
 refine Tri.loopk (fun (p : Nat) => [(.b 7, .it s p)]) _ (fun (p : Nat) => NameI s p) (fun (p : Nat) => s.length - p) 0 rfl ⟨Nat.zero_le _, by simp, fun h => by omega⟩ ?_
 rintro p hI
 refine Tri.seq (Tri.region ?_)
 rcases Nat.lt_or_ge p s.length with hx1 | hx1
 ·refine TriL.c2 rfl (op_nxt1 (ltb rfl) rfl rfl hx1) ?_
  refine TriL.c1 rfl (op_ext (ltb rfl) rfl rfl) ?_
  refine TriL.nil (Tri.seq ?_)
  refine Tri.condT rfl rfl ?_
  refine Tri.skip (Tri.blk (Tri.seq (Tri.region ?_)))
  iterate 2 (refine TriL.c1 rfl (op_ext (ltb rfl) rfl rfl) ?_)
  iterate 2 (refine TriL.c1 rfl (op_as (ltb rfl) rfl) ?_)
  refine TriL.nil ?_
  refine Tri.joinu [.h, .s 0, .s 3, .s 4, .s 7, .b 7] (fun (dg : Bool) => [(.s 5, .sv (.v (.bool dg)))]) (fun (dg : Bool) => dg = digR (dec s p).1) rfl ?_ ?_
  ·-- region 4 ident.go:30
   refine Tri.region ?_
   refine TriL.c1 rfl (op_mv (ltb rfl) rfl) ?_
   refine TriL.c1 rfl (op_bin (ltb rfl) rfl rfl rfl) ?_
   refine TriL.c1 rfl (op_mv (ltb rfl) rfl) ?_
   refine TriL.split (d := 14) rfl (fun hg2 => ?_) (fun hg2 => ?_)
   ·refine TriL.g1 rfl (ltb rfl) rfl hg2 (op_mv (ltb rfl) rfl) ?_
    refine TriL.g1 rfl (ltb rfl) rfl hg2 (op_bin (ltb rfl) rfl rfl rfl) ?_
    refine TriL.c1 rfl (op_pickt (ltb rfl) rfl hg2 rfl) ?_
    refine TriL.c1 rfl (op_mv (ltb rfl) rfl) ?_
    refine TriL.split (d := 18) rfl (fun hg3 => ?_) (fun hg3 => ?_)
    ·iterate 2 (refine TriL.skipu rfl rfl (ltb rfl) (ltb rfl) rfl hg3 ?_)
     refine TriL.c1 rfl (op_pickt (ltb rfl) rfl hg3 rfl) ?_
     refine TriL.c1 rfl (op_as (ltb rfl) rfl) ?_
     refine TriL.kept (Kept.keep [.s 5, .h, .s 0, .s 3, .s 4, .s 7, .b 7] rfl (by decide) (Kept.now ?_))
     exact ⟨_, by grind [digR], rfl⟩
    ·refine TriL.g1 rfl (ltb rfl) rfl hg3 (op_mv (ltb rfl) rfl) ?_
     refine TriL.g1 rfl (ltb rfl) rfl hg3 (op_bin (ltb rfl) rfl rfl rfl) ?_
     refine TriL.c1 rfl (op_pickf (ltb rfl) rfl hg3 rfl) ?_
     refine TriL.c1 rfl (op_as (ltb rfl) rfl) ?_
     refine TriL.kept (Kept.keep [.s 5, .h, .s 0, .s 3, .s 4, .s 7, .b 7] rfl (by decide) (Kept.now ?_))
     exact ⟨_, by grind [digR], rfl⟩
   ·iterate 2 (refine TriL.skipu rfl rfl (ltb rfl) (ltb rfl) rfl hg2 ?_)
    refine TriL.c1 rfl (op_pickf (ltb rfl) rfl hg2 rfl) ?_
    refine TriL.c1 rfl (op_mv (ltb rfl) rfl) ?_
    refine TriL.g1 rfl (ltb rfl) rfl rfl (op_mv (ltb rfl) rfl) ?_
    refine TriL.g1 rfl (ltb rfl) rfl rfl (op_bin (ltb rfl) rfl rfl rfl) ?_
    refine TriL.c1 rfl (op_pickf (ltb rfl) rfl rfl rfl) ?_
    refine TriL.c1 rfl (op_as (ltb rfl) rfl) ?_
    refine TriL.kept (Kept.keep [.s 5, .h, .s 0, .s 3, .s 4, .s 7, .b 7] rfl (by decide) (Kept.now ?_))
    exact ⟨_, by grind [digR], rfl⟩
  ·rintro dg hdg
   refine Tri.seq (Tri.region ?_)
   refine TriL.c1 rfl (op_mv (ltb rfl) rfl) ?_
   refine TriL.c1 rfl (op_call (ltb rfl) fn61_q rfl (p_letter _)) ?_
   refine TriL.c1 rfl (op_un (ltb rfl) rfl rfl) ?_
   refine TriL.c1 rfl (op_mv (ltb rfl) rfl) ?_
   refine TriL.split (d := 25) rfl (fun hg4 => ?_) (fun hg4 => ?_)
   ·refine TriL.g1 rfl (ltb rfl) rfl hg4 (op_mv (ltb rfl) rfl) ?_
    refine TriL.g1 rfl (ltb rfl) rfl hg4 (op_bin (ltb rfl) rfl rfl rfl) ?_
    refine TriL.g1 rfl (ltb rfl) rfl hg4 (op_mv (ltb rfl) rfl) ?_
    refine TriL.split (d := 28) rfl (fun hg5 => ?_) (fun hg5 => ?_)
    ·iterate 2 (refine TriL.skipu rfl rfl (ltb rfl) (ltb rfl) rfl hg5 ?_)
     refine TriL.g1 rfl (ltb rfl) rfl hg4 (op_pickt (ltb rfl) rfl hg5 rfl) ?_
     refine TriL.c1 rfl (op_pickt (ltb rfl) rfl hg4 rfl) ?_
     refine TriL.nil ?_
     refine Tri.condT rfl rfl ?_
     refine Tri.seq (Tri.region ?_)
     refine TriL.c1 rfl (op_as (ltb rfl) rfl) ?_
     refine TriL.nil (Tri.ret ?_)
     exact ⟨.inr rfl, (ResOK.r1 rfl (.tmp rfl .nil)).cast (congrArg AV.bool (name_no hx1 (by grind)).symm), rfl⟩
    ·refine TriL.g1 rfl (ltb rfl) rfl hg5 (op_mv (ltb rfl) rfl) ?_
     refine TriL.g1 rfl (ltb rfl) rfl hg5 (op_un (ltb rfl) rfl rfl) ?_
     refine TriL.g1 rfl (ltb rfl) rfl hg4 (op_pickf (ltb rfl) rfl hg5 rfl) ?_
     refine TriL.c1 rfl (op_pickt (ltb rfl) rfl hg4 rfl) ?_
     refine TriL.nil ?_
     refine Tri.cond rfl (fun hc6 => ?_) (fun hc6 => ?_)
     ·refine Tri.seq (Tri.region ?_)
      refine TriL.c1 rfl (op_as (ltb rfl) rfl) ?_
      refine TriL.nil (Tri.ret ?_)
      exact ⟨.inr rfl, (ResOK.r1 rfl (.tmp rfl .nil)).cast (congrArg AV.bool (name_no hx1 (by grind)).symm), rfl⟩
     ·refine Tri.ofKept (Kept.keep [.b 7, .h, .s 0, .s 7] rfl (by decide) (Kept.now ?_))
      refine Tri.skip ?_
      have hst := name_step hx1 hI (by grind)
      exact ⟨_, by have := hst.2; omega, hst.1, rfl⟩
   ·iterate 3 (refine TriL.skipu rfl rfl (ltb rfl) (ltb rfl) rfl hg4 ?_)
    iterate 2 (refine TriL.skipg rfl rfl (ltb rfl) (ltb rfl) rfl ?_)
    refine TriL.skipu rfl rfl (ltb rfl) (ltb rfl) rfl hg4 ?_
    refine TriL.c1 rfl (op_pickf (ltb rfl) rfl hg4 rfl) ?_
    refine TriL.nil ?_
    refine Tri.condF rfl rfl ?_
    refine Tri.ofKept (Kept.keep [.b 7, .h, .s 0, .s 7] rfl (by decide) (Kept.now ?_))
    refine Tri.skip ?_
    have hst := name_step hx1 hI (by grind)
    exact ⟨_, by have := hst.2; omega, hst.1, rfl⟩
 ·refine TriL.c1 rfl (op_nxt0 (ltb rfl) rfl rfl hx1) ?_
  refine TriL.c1 rfl (op_ext (ltb rfl) rfl rfl) ?_
  refine TriL.nil (Tri.seq ?_)
  refine Tri.condF rfl rfl ?_
  refine Tri.exit (Tri.seq (Tri.region ?_))
  refine TriL.c1 rfl (op_mv (ltb rfl) rfl) ?_
  refine TriL.c1 rfl (op_bin (ltb rfl) rfl rfl rfl) ?_
  refine TriL.c1 rfl (op_mv (ltb rfl) rfl) ?_
  refine TriL.split (d := 35) rfl (fun hg7 => ?_) (fun hg7 => ?_)
  ·refine TriL.g1 rfl (ltb rfl) rfl hg7 (op_mv (ltb rfl) rfl) ?_
   refine TriL.g1 rfl (ltb rfl) rfl hg7 (op_lens (ltb rfl) un9_q rfl) ?_
   refine TriL.g1 rfl (ltb rfl) rfl hg7 (op_bin (ltb rfl) rfl rfl rfl) ?_
   refine TriL.c1 rfl (op_pickt (ltb rfl) rfl hg7 rfl) ?_
   refine TriL.c1 rfl (op_mv (ltb rfl) rfl) ?_
   refine TriL.split (d := 40) rfl (fun hg8 => ?_) (fun hg8 => ?_)
   ·refine TriL.g1 rfl (ltb rfl) rfl hg8 (op_mv (ltb rfl) rfl) ?_
    refine TriL.g1 rfl (ltb rfl) rfl hg8 (op_call (ltb rfl) fn62_q rfl (p_wordP _)) ?_
    refine TriL.g1 rfl (ltb rfl) rfl hg8 (op_un (ltb rfl) rfl rfl) ?_
    refine TriL.c1 rfl (op_pickt (ltb rfl) rfl hg8 rfl) ?_
    refine TriL.c1 rfl (op_as (ltb rfl) rfl) ?_
    refine TriL.nil (Tri.ret ?_)
    exact ⟨.inr rfl, (ResOK.r1 rfl (.tmp rfl .nil)).cast (congrArg AV.bool (by rw [name_end (name_full hI hx1) (by grind)]; grind)), rfl⟩
   ·iterate 3 (refine TriL.skipu rfl rfl (ltb rfl) (ltb rfl) rfl hg8 ?_)
    refine TriL.c1 rfl (op_pickf (ltb rfl) rfl hg8 rfl) ?_
    refine TriL.c1 rfl (op_as (ltb rfl) rfl) ?_
    refine TriL.nil (Tri.ret ?_)
    exact ⟨.inr rfl, (ResOK.r1 rfl (.tmp rfl .nil)).cast (congrArg AV.bool (by rw [name_end (name_full hI hx1) (by grind)]; grind)), rfl⟩
  ·iterate 3 (refine TriL.skipu rfl rfl (ltb rfl) (ltb rfl) rfl hg7 ?_)
   refine TriL.c1 rfl (op_pickf (ltb rfl) rfl hg7 rfl) ?_
   refine TriL.c1 rfl (op_mv (ltb rfl) rfl) ?_
   iterate 3 (refine TriL.skipu rfl rfl (ltb rfl) (ltb rfl) rfl rfl ?_)
   refine TriL.c1 rfl (op_pickf (ltb rfl) rfl rfl rfl) ?_
   refine TriL.c1 rfl (op_as (ltb rfl) rfl) ?_
   refine TriL.nil (Tri.ret ?_)
   exact ⟨.inr rfl, (ResOK.r1 rfl (.tmp rfl .nil)).cast (congrArg AV.bool (by have h0 : s = [] := (by grind); subst h0; exact name_nil.symm)), rfl⟩
theorem rise_step {l : List Str} {k : Nat} (h : k < l.length) (hI : 0 < k → riseS (l.drop (k - 1)) = riseS l) (hr : k = 0 ∨ ∃ h0 : k - 1 < l.length, lessB l[k - 1] l[k] = true) : 0 < k + 1 → riseS (l.drop (k + 1 - 1)) = riseS l := by
 intro _
 rcases Nat.eq_zero_or_pos k with h0 | h0
 ·subst h0; rfl
 ·rcases hr with h1 | ⟨h1, h2⟩
  ·omega
  ·rw [← hI h0, riseS_step h0 h, h2]; simp
theorem rise_no {l : List Str} {k : Nat} (h : k < l.length) (hI : 0 < k → riseS (l.drop (k - 1)) = riseS l) (h0 : 0 < k) (h2 : lessB l[k - 1] l[k] = false) : riseS l = false := by
 rw [← hI h0, riseS_step h0 h, h2]; simp
theorem rise_end {l : List Str} {k : Nat} (h : l.length ≤ k) (hI : 0 < k → riseS (l.drop (k - 1)) = riseS l) : riseS l = true := by
 rcases Nat.eq_zero_or_pos k with h0 | h0
 ·have : l = [] := List.length_eq_zero_iff.1 (by omega)
  subst this; rfl
 ·rw [← hI h0]; exact riseS_end h0 h
theorem p_riseS (l : List Str) (hl : l.length ≤ 9223372036854775807) : Pure Tryz.prog 106 [.sl (l.map .str)] (.bool (riseS l)) := by
 refine Pure.of_tri Tryz.func106 rfl rfl (ltb rfl) fun H => ?_
 refine Tri.seq (Tri.region ?_)
 refine TriL.c1 rfl (op_as (ltb rfl) rfl) ?_
 refine TriL.nil (Tri.seq (Tri.seq (Tri.region ?_)))
 refine TriL.c1 rfl (op_mv (ltb rfl) rfl) ?_
 refine TriL.c1 rfl (op_lenl (ltb rfl) un40_q rfl) ?_
 refine TriL.c1 rfl (op_mv (ltb rfl) rfl) ?_
 refine TriL.nil (Tri.blk ?_)
 refine Tri.ofKept (Kept.keep [.s 7, .h, .s 0, .s 5, .s 6] rfl (by decide) (Kept.now ?_))
 -- LOOP 1
 refine Tri.loopk (fun (k : Nat) => [(.s 7, .sv (.v (.int .i64 (k : Int))))]) _ (fun (k : Nat) => 0 < k → riseS (l.drop (k - 1)) = riseS l) (fun (k : Nat) => l.length - k) 0 rfl (fun h => by omega) ?_
 rintro k hI
 refine Tri.seq (Tri.region ?_)
 refine TriL.c1 rfl (op_bin (ltb rfl) rfl rfl rfl) ?_
 refine TriL.nil (Tri.seq ?_)
 refine Tri.cond rfl (fun hc1 => ?_) (fun hc1 => ?_)
 ·have hk := ltm hc1
  refine Tri.skip (Tri.seq (Tri.blk (Tri.seq (Tri.region ?_))))
  refine TriL.c1 rfl (op_mv (ltb rfl) rfl) ?_
  refine TriL.c1 rfl (op_iak (ltb rfl) ie40_q rfl rfl (Int.natCast_nonneg _) (ixm hk) rfl) ?_
  refine TriL.c1 rfl (op_ldk (ltb rfl) lk9_q rfl rfl) ?_
  iterate 2 (refine TriL.c1 rfl (op_as (ltb rfl) rfl) ?_)
  refine TriL.nil (Tri.seq (Tri.region ?_))
  refine TriL.c1 rfl (op_mv (ltb rfl) rfl) ?_
  refine TriL.c1 rfl (op_bin (ltb rfl) rfl rfl rfl) ?_
  refine TriL.c1 rfl (op_mv (ltb rfl) rfl) ?_
  refine TriL.split (d := 14) rfl (fun hg2 => ?_) (fun hg2 => ?_)
  ·iterate 2 (refine TriL.g1 rfl (ltb rfl) rfl hg2 (op_mv (ltb rfl) rfl) ?_)
   refine TriL.g1 rfl (ltb rfl) rfl hg2 (op_bin (ltb rfl) rfl rfl rfl) ?_
   refine TriL.g1 rfl (ltb rfl) rfl hg2 (op_iak (ltb rfl) ie40_q rfl rfl (by rw [dec1 (pos1 hg2) (by omega)]; exact Int.natCast_nonneg _) (by rw [dec1 (pos1 hg2) (by omega)]; exact ixm (show k - 1 < l.length by omega)) rfl) ?_
   refine TriL.g1 rfl (ltb rfl) rfl hg2 (op_ldk (ltb rfl) lk9_q rfl rfl) ?_
   refine TriL.g1 rfl (ltb rfl) rfl hg2 (op_mv (ltb rfl) rfl) ?_
   refine TriL.g1 rfl (ltb rfl) rfl hg2 (op_bin (ltb rfl) rfl rfl rfl) ?_
   refine TriL.c1 rfl (op_pickt (ltb rfl) rfl hg2 rfl) ?_
   refine TriL.nil ?_
   refine Tri.cond rfl (fun hc3 => ?_) (fun hc3 => ?_)
   ·refine Tri.seq (Tri.region ?_)
    refine TriL.c1 rfl (op_as (ltb rfl) rfl) ?_
    refine TriL.nil (Tri.ret ?_)
    exact ⟨.inr rfl, (ResOK.r1 rfl (.tmp rfl .nil)).cast (congrArg AV.bool (rise_no hk hI (pos1 hg2) (by simpa using hc3)).symm), rfl⟩
   ·refine Tri.skip (Tri.region ?_)
    refine TriL.c1 rfl (op_bin (ltb rfl) rfl rfl rfl) ?_
    refine TriL.c1 rfl (op_mv (ltb rfl) rfl) ?_
    refine TriL.kept (Kept.seti 7 rfl (inc (by omega)) (Kept.keep [.s 7, .h, .s 0, .s 5, .s 6] rfl (by decide) (Kept.now ?_)))
    exact ⟨k + 1, by omega, rise_step hk hI (.inr ⟨by omega, by simpa using hc3⟩), rfl⟩
  ·iterate 7 (refine TriL.skipu rfl rfl (ltb rfl) (ltb rfl) rfl hg2 ?_)
   refine TriL.c1 rfl (op_pickf (ltb rfl) rfl hg2 rfl) ?_
   refine TriL.nil ?_
   refine Tri.condF rfl rfl ?_
   refine Tri.skip (Tri.region ?_)
   refine TriL.c1 rfl (op_bin (ltb rfl) rfl rfl rfl) ?_
   refine TriL.c1 rfl (op_mv (ltb rfl) rfl) ?_
   refine TriL.kept (Kept.seti 7 rfl (inc (by omega)) (Kept.keep [.s 7, .h, .s 0, .s 5, .s 6] rfl (by decide) (Kept.now ?_)))
   exact ⟨k + 1, by omega, rise_step hk hI (.inl (zero1 hg2)), rfl⟩
 ·have hk := gem hc1
  refine Tri.exit (Tri.seq (Tri.region ?_))
  refine TriL.c1 rfl (op_as (ltb rfl) rfl) ?_
  refine TriL.nil (Tri.ret ?_)
  exact ⟨.inr rfl, (ResOK.r1 rfl (.tmp rfl .nil)).cast (congrArg AV.bool (rise_end hk hI).symm), rfl⟩
theorem p_ixS (l : List Str) (f : FuncId) (p : Str → Bool) (hfn : isFn Tryz.prog f = true) (hp : ∀ s, Pure Tryz.prog f [.str s] (.bool (p s))) (hl : l.length ≤ 9223372036854775807) : Pure Tryz.prog 103 [.sl (l.map .str), .fn f []] (.int .i64 (ixFrom p l 0)) := by
 refine Pure.of_tri Tryz.func103 rfl rfl (ltb rfl) fun H => ?_
 refine Tri.seq (Tri.region ?_)
 refine TriL.c1 rfl (op_as (ltb rfl) rfl) ?_
 refine TriL.nil (Tri.seq (Tri.seq (Tri.region ?_)))
 refine TriL.c1 rfl (op_mv (ltb rfl) rfl) ?_
 refine TriL.c1 rfl (op_lenl (ltb rfl) un40_q rfl) ?_
 refine TriL.c1 rfl (op_mv (ltb rfl) rfl) ?_
 refine TriL.nil (Tri.blk ?_)
 refine Tri.ofKept (Kept.keep [.s 8, .h, .s 0, .s 1, .s 7] rfl (by decide) (Kept.now ?_))
 -- LOOP 1
 refine Tri.loopk (fun (k : Nat) => [(.s 8, .sv (.v (.int .i64 (k : Int))))]) _ (fun (k : Nat) => ixFrom p (l.drop k) k = ixFrom p l 0) (fun (k : Nat) => l.length - k) 0 rfl (by simp) ?_
 rintro k hI
 refine Tri.seq (Tri.region ?_)
 refine TriL.c1 rfl (op_bin (ltb rfl) rfl rfl rfl) ?_
 refine TriL.nil (Tri.seq ?_)
 refine Tri.cond rfl (fun hc1 => ?_) (fun hc1 => ?_)
 ·have hk := ltm hc1
  refine Tri.skip (Tri.seq (Tri.blk (Tri.seq (Tri.region ?_))))
  refine TriL.c1 rfl (op_mv (ltb rfl) rfl) ?_
  refine TriL.c1 rfl (op_as (ltb rfl) rfl) ?_
  refine TriL.nil (Tri.seq (Tri.region ?_))
  iterate 3 (refine TriL.c1 rfl (op_mv (ltb rfl) rfl) ?_)
  refine TriL.c1 rfl (op_iak (ltb rfl) ie40_q rfl rfl (Int.natCast_nonneg _) (ixm hk) rfl) ?_
  refine TriL.c1 rfl (op_ldk (ltb rfl) lk9_q rfl rfl) ?_
  refine TriL.c1 rfl (op_callc (ltb rfl) hfn rfl rfl (hp _)) ?_
  refine TriL.nil ?_
  refine Tri.cond rfl (fun hc2 => ?_) (fun hc2 => ?_)
  ·refine Tri.seq (Tri.region ?_)
   refine TriL.c1 rfl (op_mv (ltb rfl) rfl) ?_
   refine TriL.c1 rfl (op_as (ltb rfl) rfl) ?_
   refine TriL.nil (Tri.ret ?_)
   exact ⟨.inr rfl, (ResOK.r1 rfl (.tmp rfl .nil)).cast (congrArg (AV.int .i64) (by rw [← hI, ixFrom_step hk, if_pos hc2])), rfl⟩
  ·refine Tri.skip (Tri.region ?_)
   refine TriL.c1 rfl (op_bin (ltb rfl) rfl rfl rfl) ?_
   refine TriL.c1 rfl (op_mv (ltb rfl) rfl) ?_
   refine TriL.kept (Kept.seti 8 rfl (inc (by omega)) (Kept.keep [.s 8, .h, .s 0, .s 1, .s 7] rfl (by decide) (Kept.now ?_)))
   exact ⟨k + 1, by omega, by rw [← hI, ixFrom_step hk, if_neg (by rw [hc2]; decide)], rfl⟩
 ·have hk := gem hc1
  refine Tri.exit (Tri.seq (Tri.region ?_))
  refine TriL.c1 rfl (op_as (ltb rfl) rfl) ?_
  refine TriL.nil (Tri.ret ?_)
  exact ⟨.inr rfl, (ResOK.r1 rfl (.tmp rfl .nil)).cast (congrArg (AV.int .i64) (by rw [← hI, ixFrom_end hk])), rfl⟩
theorem ixFrom_any {α : Type} {p : α → Bool} : ∀ {l : List α} {i : Nat}, decide (ixFrom p l i ≥ 0) = l.any p
 | [], i => rfl
 | a :: l, i => by
  unfold ixFrom
  cases h : p a with
  | true => simp [h]
  | false => simp only [List.any_cons, h, Bool.false_or, if_false]; exact ixFrom_any
theorem p_anyS (l : List Str) (f : FuncId) (p : Str → Bool) (hfn : isFn Tryz.prog f = true) (hp : ∀ s, Pure Tryz.prog f [.str s] (.bool (p s))) (hl : l.length ≤ 9223372036854775807) : Pure Tryz.prog 67 [.sl (l.map .str), .fn f []] (.bool (l.any p)) := by
 refine Pure.of_tri Tryz.func67 rfl rfl (ltb rfl) fun H => ?_
 refine Tri.seq (Tri.region ?_)
 refine TriL.c1 rfl (op_as (ltb rfl) rfl) ?_
 refine TriL.nil (Tri.seq (Tri.region ?_))
 iterate 2 (refine TriL.c1 rfl (op_mv (ltb rfl) rfl) ?_)
 refine TriL.c1 rfl (op_call (ltb rfl) fn103_q rfl (p_ixS l f p hfn hp hl)) ?_
 refine TriL.c1 rfl (op_bin (ltb rfl) rfl rfl rfl) ?_
 refine TriL.c1 rfl (op_as (ltb rfl) rfl) ?_
 refine TriL.nil (Tri.ret ?_)
 exact ⟨.inr rfl, (ResOK.r1 rfl (.tmp rfl .nil)).cast (congrArg AV.bool ixFrom_any), rfl⟩
open Go Go.RowKit Go.Proofs Go.Sort
/- No name twice, in the program: it sorts a copy. Condition: the list is not too long. -/
theorem pure_calls {P : Program} {f : FuncId} {xs : List AV} {b : Bool} (h : Pure P f xs (.bool b)) {W : World} {args : Array Value} (hg : gok W ∧ gN ≤ W.heap.size) (hv : VL (gh0 W) args xs) :
  Calls P f args W fun e w' => e = .returned (.bool b) ∧ Below W.heap.size W w' := by
 refine (h hp0 (gh0 W) W args ⟨hg.1, hg.2, fun g _ => hp0_foot _ _ g⟩ (fun b o v e => e) (hp0_ok _ _ fun _ => rfl) hv).mono fun e w' ⟨v, G', he, hV, _, _, _, hf, _⟩ => ?_
 cases hV
 exact ⟨he, hf.os, hf.tape, hf.output, hf.size, fun k hk => hf.block k hk (hp0_foot _ _ k)⟩
theorem clone_calls (l : List Str) (hl : l.length ≤ 1000000) {G : Gh} {w : World} {x : Value} (hk : KnOK G w) (hx : V G x (.sl (l.map .str))) :
  Calls Tryz.prog 104 #[x] w fun e w1 => ∃ v', e = .returned v' ∧ w1.ownsRow w.heap.size 9 1 v' l.length (l.map encStr) ∧ Below w.heap.size w w1 := by
 generalize ha : AV.sl (l.map .str) = a at hx
 cases hx
 case slE a cap =>
  have hl0 : l = [] := by simpa using ha
  subst hl0
  cases a with
  | none =>
   refine (Tryz.slices_Clone_string_nil 0 cap w).mono ?_
   rintro e w1 ⟨rfl, rfl⟩
   exact ⟨_, rfl, World.ownsRow_nil _ _ _ _, Below.refl _ _⟩
  | some a =>
   refine (Tryz.slices_Clone_string_zero a cap w).mono ?_
   rintro e w1 ⟨v', rfl, ho, _, hb⟩
   exact ⟨_, rfl, ho, hb⟩
 case slN b off cap esz xs vs hc he hkn hf hv =>
  have hxs : xs = l.map .str := by injection ha with e; exact e.symm
  subst hxs
  have hcell : ∀ (j : Nat) (s : Str), l[j]? = some s → w.cell? ⟨b, off + j, none⟩ = some (.string ⟨s.toArray⟩) := by
   intro j s hj
   have e1 : (l.map AV.str)[j]? = some (.str s) := by simp [hj]
   have e0 : esz = 1 := (he j _ e1).symm
   have h1 := hkn j _ 0 (.str s) e1 rfl
   have h2 := hv j _ 0 (.str s) e1 rfl
   have h3 := h2.str_eq
   rw [h3, e0, Nat.mul_one, Nat.add_zero] at h1
   exact hk _ _ _ h1
  have hz : (l.map fun s => (⟨s.toArray⟩ : ByteArray)).length = l.length := by simp
  have h := Tryz.slices_Clone_string b off l.length cap (l.map fun s => (⟨s.toArray⟩ : ByteArray)) w (by simp) (by omega) (fun j hj => by
   rw [hz] at hj
   rw [hcell j _ (List.getElem?_eq_getElem hj)]
   simp [hj])
  rw [List.length_map]
  refine h.mono ?_
  rintro e w1 ⟨v', rfl, ho, _, hb⟩
  refine ⟨_, rfl, ?_, hb⟩
  have e2 : ((l.map fun s => (⟨s.toArray⟩ : ByteArray)).take l.length).map Value.string = l.map encStr := by
   rw [List.take_of_length_le (by simp)]; simp
  rw [e2] at ho; exact ho
 all_goals cases ha
theorem sort_calls (l : List Str) (hl : l.length ≤ 1000000) {B : Nat} {w : World} {v : Value} (ho : w.ownsRow B 9 1 v l.length (l.map encStr)) :
  Calls Tryz.prog 105 #[v] w fun e w2 => e = .returned (.tuple #[]) ∧ w2.ownsRow B 9 1 v l.length ((sortS l).map encStr) ∧ Below B w w2 := by
 rcases ho.2 with ⟨rfl, h0⟩ | ⟨g, cap, cur, rfl, hbase, hb, h1, h2, h3, h4⟩
 ·have hl0 : l = [] := List.length_eq_zero_iff.1 h0
  subst hl0
  refine (Tryz.slices_Sort_string_none none 0 w).mono ?_
  rintro e w2 ⟨rfl, rfl⟩
  have hs : sortS [] = [] := by simp [sortS]
  rw [hs]
  exact ⟨rfl, World.ownsRow_nil _ _ _ _, Below.refl _ _⟩
 ·refine (Tryz.slices_Sort_string g 0 cap l w (holds_of_block hb (by simpa using h4)) (Array.getElem?_eq_some_iff.1 hb).1 (by omega)).mono ?_
  rintro e w2 ⟨rfl, n, os, rfl⟩
  have hg := grownBy_sorted (w := w) (g := g) (n := n) (os := os) (sortS l).toArray
  refine ⟨rfl, ownsRow_sorted (sortS_len l) hbase hb h1 h2 h3, hg.os, hg.tape, hg.output, hg.size, fun k hk => ?_⟩
  have hlt := (Array.getElem?_eq_some_iff.1 hb).1
  exact hg.block k (by omega) (by intro e; cases e; omega)
theorem rise_calls (l : List Str) (hl : l.length ≤ 1000000) {B : Nat} {w : World} {v : Value} (hg : gok w ∧ gN ≤ w.heap.size) (ho : w.ownsRow B 9 1 v l.length (l.map encStr)) :
  Calls Tryz.prog 106 #[v] w fun e w' => e = .returned (.bool (riseS l)) ∧ Below w.heap.size w w' := by
 refine pure_calls (p_riseS l (by omega)) hg ⟨rfl, fun j x e => ?_⟩
 match j, e with
 | 0, e =>
  cases e
  show V (gh0 w) v _
  rcases ho.2 with ⟨rfl, h0⟩ | ⟨g, cap, cur, rfl, hbase, hb, h1, h2, h3, h4⟩
  ·have hl0 : l = [] := List.length_eq_zero_iff.1 h0
   subst hl0
   exact .slE none 0
  ·have hH := holds_of_block hb (ss := l) (by simpa using h4)
   have hcell : ∀ (i : Nat) (s : Str), l[i]? = some s → w.cell? ⟨g, 0 + i, none⟩ = some (.string ⟨s.toArray⟩) := by
    intro i s hi
    have hlt : i < l.length := (List.getElem?_eq_some_iff.1 hi).1
    have := (hH i (by simpa using hlt)).1
    rw [this]
    have : l[i] = s := by rw [List.getElem?_eq_getElem hlt] at hi; exact Option.some.inj hi
    simp [hlt, this]
   have key := V.slN (G := gh0 w) g 0 cap 1 (l.map .str) (fun i j => .string ⟨(l.getD i []).toArray⟩) (by simpa using h1) (fun i e h => by
     obtain ⟨s, _, rfl⟩ := List.mem_map.1 (List.mem_of_getElem? h); rfl)
    (fun i e j c h1 h2 => by
     obtain ⟨s, hs, rfl⟩ := Option.map_eq_some_iff.1 (by simpa using h1)
     cases j with
     | zero =>
      show w.cell? ⟨g, 0 + i * 1 + 0, none⟩ = _
      rw [Nat.mul_one, Nat.add_zero, hcell i s hs]
      simp [hs]
     | succ j => simp [AV.cells] at h2)
    (fun i e j c h1 h2 => by
     obtain ⟨s, hs, rfl⟩ := Option.map_eq_some_iff.1 (by simpa using h1)
     cases j with
     | zero => simp [AV.cells] at h2; subst h2; rfl
     | succ j => simp [AV.cells] at h2)
    (fun i e j c h1 h2 => by
     obtain ⟨s, hs, rfl⟩ := Option.map_eq_some_iff.1 (by simpa using h1)
     cases j with
     | zero => simp [AV.cells] at h2; subst h2; simp [hs]; exact .str _
     | succ j => simp [AV.cells] at h2)
   rw [List.length_map] at key
   exact key
 | j + 1, e => cases e
set_option maxHeartbeats 4000000 in
set_option maxRecDepth 100000 in
theorem p_once0 (l : List Str) (hl : l.length ≤ 1000000) : Pure Tryz.prog 68 [.sl (l.map .str)] (.bool (riseS (sortS l))) := Pure.of_calls fun G w c hg hn hk hV => by
 obtain ⟨x, rfl, hx⟩ := hV.one
 have hclone := clone_calls l hl hk hx
 clear hx hV
 go_enter Tryz.func68, Tryz.ntmps68
 go_wp2_with (go_at_call 104; refine hclone.mono ?_)
 rintro e w1 ⟨v1, rfl, ho1, hb1⟩
 have hsort := sort_calls l hl ho1
 go_wp2_with (go_at_call 105; refine hsort.mono ?_)
 rintro e w2 ⟨rfl, ho2, hb2⟩
 have hb12 := hb1.trans hb2
 have hg2 : gok w2 ∧ gN ≤ w2.heap.size := ⟨gloc (fun k hk => hb12.block k (by omega)) hg, Nat.le_trans hn hb12.size⟩
 have hrise := rise_calls (sortS l) (by rw [sortS_len]; exact hl) hg2 (by rw [sortS_len]; exact ho2)
 go_wp2_with (go_at_call 106; refine hrise.mono ?_)
 rintro e w3 ⟨rfl, hb3⟩
 go_wp2
 go_ret
 exact ⟨_, rfl, .bool _, hb12.trans (hb3.mono hb12.size)⟩
theorem p_once (l : List Str) (hl : l.length ≤ 1000000) : Pure Tryz.prog 68 [.sl (l.map .str)] (.bool (once l)) := rise_sort l ▸ p_once0 l hl
end Go.Proofs.YtabihkfhoohfnaaGreatDoor.X
