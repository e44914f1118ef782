/- lex: all tokens, in the program and in the document. -/
import Derived.Test.YtabihkfhoohfnaaGreatDoorZAG
import Derived.Test.YtabihkfhoohfnaaGreatDoorZAD
import Derived.Test.YtabihkfhoohfnaaGreatDoorZAF
import Derived.Test.YtabihkfhoohfnaaGreatDoorZAC
set_option linter.unusedVariables false
set_option linter.unusedSimpArgs false
set_option linter.unusedSectionVars false
set_option maxRecDepth 100000
namespace Go.Proofs.YtabihkfhoohfnaaGreatDoor.X
open Go Go.RowKit Go.Proofs
theorem isRem_ne {c : UInt8} {r : List UInt8} (h : c.toNat ≠ 47) : isRem (c :: r) = false := by
 have : ¬ (47 : UInt8) = c := fun e => h (by rw [← e]; rfl)
 unfold isRem Lib.hasPrefix
 cases r <;> simp [List.isPrefixOf, this]
theorem isRem_one {c : UInt8} : isRem [c] = false := by
 unfold isRem Lib.hasPrefix
 simp [List.isPrefixOf]
theorem isRem_ne2 {c d : UInt8} {r : List UInt8} (h : d.toNat ≠ 47) : isRem (c :: d :: r) = false := by
 have : ¬ (47 : UInt8) = d := fun e => h (by rw [← e]; rfl)
 unfold isRem Lib.hasPrefix
 simp [List.isPrefixOf, this]
theorem isRem_two {c d : UInt8} {r : List UInt8} (h : c.toNat = 47) (h2 : d.toNat = 47) : isRem (c :: d :: r) = true := by
 obtain rfl : c = 47 := UInt8.toNat_inj.1 h
 obtain rfl : d = 47 := UInt8.toNat_inj.1 h2
 unfold isRem Lib.hasPrefix
 simp [List.isPrefixOf]
def StPs (H : Hp) (s : List UInt8) (j : Int) : St := [(.h, .hp H), (.s 0, .sv (.v (.str s))), (.s 1, .sv (.v (.int .i64 j)))]
theorem bl_no {c : UInt8} (h1 : ((c.toNat : Int) == 32) = false) (h2 : ((c.toNat : Int) == 10) = false) (h3 : ((c.toNat : Int) == 9) = false) : isBl c = false :=
 decide_eq_false (by have := beq_eq_false_iff_ne.1 h1; have := beq_eq_false_iff_ne.1 h2; have := beq_eq_false_iff_ne.1 h3; omega)
theorem bl_1 {c : UInt8} (h : ((c.toNat : Int) == 32) = true) : isBl c = true := decide_eq_true (by have := eq_of_beq h; omega)
theorem bl_2 {c : UInt8} (h : ((c.toNat : Int) == 10) = true) : isBl c = true := decide_eq_true (by have := eq_of_beq h; omega)
theorem bl_3 {c : UInt8} (h : ((c.toNat : Int) == 9) = true) : isBl c = true := decide_eq_true (by have := eq_of_beq h; omega)
theorem pass_pure (s : List UInt8) (a0 : Nat) (hs : s.length ≤ 1073741824) (h0 : a0 ≤ s.length) : Pure Tryz.prog 47 [.str s, .int .i64 a0] (.int .i64 (a0 + skp (s.drop a0) : Nat)) := by
 refine Pure.of_tri Tryz.func47 rfl rfl (ltb rfl) fun H => ?_
 refine Tri.seq (Tri.region ?_)
 refine TriL.c1 rfl (op_as (ltb rfl) rfl) ?_
 refine TriL.kept (Kept.keep [.h, .s 0, .s 1] rfl (by decide) (Kept.now ?_))
 refine Tri.seq (Tri.blk ?_)
 -- LOOP 1: KEEP
 refine Tri.loop (fun q w => ∃ (a : Nat) (j : Int), w = StPs H s j ∧ j = a ∧ a ≤ s.length ∧ a + skp (s.drop a) = a0 + skp (s.drop a0) ∧ q = s.length - a) ?_ (n := s.length - a0) ⟨a0, a0, rfl, rfl, h0, rfl, rfl⟩
 rintro q w ⟨a, j, rfl, hj, ha, hI, rfl⟩
 refine Tri.seq (Tri.seq (Tri.region ?_))
 iterate 2 (refine TriL.c1 rfl (op_mv (ltb rfl) rfl) ?_)
 refine TriL.c1 rfl (op_lens (ltb rfl) un9_q rfl) ?_
 refine TriL.c1 rfl (op_bin (ltb rfl) rfl rfl rfl) ?_
 refine TriL.nil ?_
 refine Tri.cond rfl (fun hc1 => ?_) (fun hc1 => ?_)
 ·have hlt : a < s.length := by have := of_decide_eq_true hc1; omega
  obtain ⟨c, hc⟩ : ∃ c, s[a]? = some c := ⟨s[a], List.getElem?_eq_getElem hlt⟩
  have hda := drop_at hc
  refine Tri.skip (Tri.blk (Tri.seq (Tri.seq (Tri.region ?_))))
  iterate 2 (refine TriL.c1 rfl (op_mv (ltb rfl) rfl) ?_)
  refine TriL.c1 rfl (op_ixs (ltb rfl) un9_q rfl rfl (by omega) (ixc hj hc)) ?_
  refine TriL.c1 rfl (op_bin (ltb rfl) rfl rfl rfl) ?_
  refine TriL.c1 rfl (op_mv (ltb rfl) rfl) ?_
  refine TriL.split (d := 13) rfl (fun hg2 => ?_) (fun hg2 => ?_)
  ·iterate 4 (refine TriL.skipu rfl rfl (ltb rfl) (ltb rfl) rfl hg2 ?_)
   refine TriL.c1 rfl (op_pickt (ltb rfl) rfl hg2 rfl) ?_
   refine TriL.c1 rfl (op_mv (ltb rfl) rfl) ?_
   iterate 4 (refine TriL.skipu rfl rfl (ltb rfl) (ltb rfl) rfl rfl ?_)
   refine TriL.c1 rfl (op_pickt (ltb rfl) rfl rfl rfl) ?_
   refine TriL.nil ?_
   refine Tri.condT rfl rfl ?_
   refine Tri.seq (Tri.region ?_)
   refine TriL.c1 rfl (op_mv (ltb rfl) rfl) ?_
   refine TriL.c1 rfl (op_bin (ltb rfl) rfl rfl rfl) ?_
   refine TriL.c1 rfl (op_as (ltb rfl) rfl) ?_
   refine TriL.kept (Kept.keep [.h, .s 0, .s 1] rfl (by decide) (Kept.now ?_))
   refine Tri.exit ?_
   exact ⟨s.length - (a + 1), by omega, a + 1, IntKind.i64.wrap (j + 1), rfl, by rw [hj, wr64] <;> omega, by omega, by rw [← hI, hda, skp_bl (bl_1 hg2)]; omega, rfl⟩
  ·iterate 2 (refine TriL.g1 rfl (ltb rfl) rfl hg2 (op_mv (ltb rfl) rfl) ?_)
   refine TriL.g1 rfl (ltb rfl) rfl hg2 (op_ixs (ltb rfl) un9_q rfl rfl (by omega) (ixc hj hc)) ?_
   refine TriL.g1 rfl (ltb rfl) rfl hg2 (op_bin (ltb rfl) rfl rfl rfl) ?_
   refine TriL.c1 rfl (op_pickf (ltb rfl) rfl hg2 rfl) ?_
   refine TriL.c1 rfl (op_mv (ltb rfl) rfl) ?_
   refine TriL.split (d := 19) rfl (fun hg3 => ?_) (fun hg3 => ?_)
   ·iterate 4 (refine TriL.skipu rfl rfl (ltb rfl) (ltb rfl) rfl hg3 ?_)
    refine TriL.c1 rfl (op_pickt (ltb rfl) rfl hg3 rfl) ?_
    refine TriL.nil ?_
    refine Tri.condT rfl rfl ?_
    refine Tri.seq (Tri.region ?_)
    refine TriL.c1 rfl (op_mv (ltb rfl) rfl) ?_
    refine TriL.c1 rfl (op_bin (ltb rfl) rfl rfl rfl) ?_
    refine TriL.c1 rfl (op_as (ltb rfl) rfl) ?_
    refine TriL.kept (Kept.keep [.h, .s 0, .s 1] rfl (by decide) (Kept.now ?_))
    refine Tri.exit ?_
    exact ⟨s.length - (a + 1), by omega, a + 1, IntKind.i64.wrap (j + 1), rfl, by rw [hj, wr64] <;> omega, by omega, by rw [← hI, hda, skp_bl (bl_2 hg3)]; omega, rfl⟩
   ·iterate 2 (refine TriL.g1 rfl (ltb rfl) rfl hg3 (op_mv (ltb rfl) rfl) ?_)
    refine TriL.g1 rfl (ltb rfl) rfl hg3 (op_ixs (ltb rfl) un9_q rfl rfl (by omega) (ixc hj hc)) ?_
    refine TriL.g1 rfl (ltb rfl) rfl hg3 (op_bin (ltb rfl) rfl rfl rfl) ?_
    refine TriL.c1 rfl (op_pickf (ltb rfl) rfl hg3 rfl) ?_
    refine TriL.nil ?_
    refine Tri.cond rfl (fun hc4 => ?_) (fun hc4 => ?_)
    ·refine Tri.seq (Tri.region ?_)
     refine TriL.c1 rfl (op_mv (ltb rfl) rfl) ?_
     refine TriL.c1 rfl (op_bin (ltb rfl) rfl rfl rfl) ?_
     refine TriL.c1 rfl (op_as (ltb rfl) rfl) ?_
     refine TriL.kept (Kept.keep [.h, .s 0, .s 1] rfl (by decide) (Kept.now ?_))
     refine Tri.exit ?_
     exact ⟨s.length - (a + 1), by omega, a + 1, IntKind.i64.wrap (j + 1), rfl, by rw [hj, wr64] <;> omega, by omega, by rw [← hI, hda, skp_bl (bl_3 hc4)]; omega, rfl⟩
    ·have hb := bl_no hg2 hg3 hc4
     have hw1 : IntKind.i64.wrap (j + 1) = ((a + 1 : Nat) : Int) := by rw [hj, wr64] <;> omega
     refine Tri.skip (Tri.seq (Tri.seq (Tri.region ?_)))
     iterate 2 (refine TriL.c1 rfl (op_mv (ltb rfl) rfl) ?_)
     refine TriL.c1 rfl (op_ixs (ltb rfl) un9_q rfl rfl (by omega) (ixc hj hc)) ?_
     refine TriL.c1 rfl (op_bin (ltb rfl) rfl rfl rfl) ?_
     refine TriL.c1 rfl (op_mv (ltb rfl) rfl) ?_
     refine TriL.split (d := 31) rfl (fun hg5 => ?_) (fun hg5 => ?_)
     ·iterate 5 (refine TriL.skipu rfl rfl (ltb rfl) (ltb rfl) rfl hg5 ?_)
      refine TriL.c1 rfl (op_pickt (ltb rfl) rfl hg5 rfl) ?_
      refine TriL.c1 rfl (op_mv (ltb rfl) rfl) ?_
      iterate 5 (refine TriL.skipu rfl rfl (ltb rfl) (ltb rfl) rfl rfl ?_)
      refine TriL.c1 rfl (op_pickt (ltb rfl) rfl rfl rfl) ?_
      refine TriL.nil ?_
      refine Tri.condT rfl rfl ?_
      refine Tri.seq (Tri.region ?_)
      refine TriL.c1 rfl (op_mv (ltb rfl) rfl) ?_
      refine TriL.c1 rfl (op_as (ltb rfl) rfl) ?_
      refine TriL.nil (Tri.ret ?_)
      exact ⟨.inr rfl, (ResOK.r1 rfl (.tmp rfl .nil)).cast (by
       have hr : isRem (s.drop a) = false := by rw [hda]; exact isRem_ne (by have h : (!((c.toNat : Int) == 47)) = true := hg5; simp at h; omega)
       have hz : skp (s.drop a) = 0 := by rw [hda] at hr ⊢; exact skp_no hb hr
       rw [hj, ← hI, hz]; rfl), rfl⟩
     ·refine TriL.g1 rfl (ltb rfl) rfl hg5 (op_mv (ltb rfl) rfl) ?_
      refine TriL.g1 rfl (ltb rfl) rfl hg5 (op_bin (ltb rfl) rfl rfl rfl) ?_
      refine TriL.g1 rfl (ltb rfl) rfl hg5 (op_mv (ltb rfl) rfl) ?_
      refine TriL.g1 rfl (ltb rfl) rfl hg5 (op_lens (ltb rfl) un9_q rfl) ?_
      refine TriL.g1 rfl (ltb rfl) rfl hg5 (op_bin (ltb rfl) rfl rfl rfl) ?_
      refine TriL.c1 rfl (op_pickf (ltb rfl) rfl hg5 rfl) ?_
      refine TriL.c1 rfl (op_mv (ltb rfl) rfl) ?_
      refine TriL.split (d := 38) rfl (fun hg6 => ?_) (fun hg6 => ?_)
      ·iterate 5 (refine TriL.skipu rfl rfl (ltb rfl) (ltb rfl) rfl hg6 ?_)
       refine TriL.c1 rfl (op_pickt (ltb rfl) rfl hg6 rfl) ?_
       refine TriL.nil ?_
       refine Tri.condT rfl rfl ?_
       refine Tri.seq (Tri.region ?_)
       refine TriL.c1 rfl (op_mv (ltb rfl) rfl) ?_
       refine TriL.c1 rfl (op_as (ltb rfl) rfl) ?_
       refine TriL.nil (Tri.ret ?_)
       exact ⟨.inr rfl, (ResOK.r1 rfl (.tmp rfl .nil)).cast (by
        have hr : isRem (s.drop a) = false := by rw [hda]; rw [show s.drop (a + 1) = [] from List.drop_of_length_le (by have := of_decide_eq_true hg6; rw [hw1] at this; omega)]; exact isRem_one
        have hz : skp (s.drop a) = 0 := by rw [hda] at hr ⊢; exact skp_no hb hr
        rw [hj, ← hI, hz]; rfl), rfl⟩
      ·have hlt2 : a + 1 < s.length := by have := of_decide_eq_false hg6; rw [hw1] at this; omega
       obtain ⟨d, hd⟩ : ∃ d, s[a + 1]? = some d := ⟨s[a + 1], List.getElem?_eq_getElem hlt2⟩
       have hdb := drop_at hd
       iterate 2 (refine TriL.g1 rfl (ltb rfl) rfl hg6 (op_mv (ltb rfl) rfl) ?_)
       refine TriL.g1 rfl (ltb rfl) rfl hg6 (op_bin (ltb rfl) rfl rfl rfl) ?_
       refine TriL.g1 rfl (ltb rfl) rfl hg6 (op_ixs (ltb rfl) un9_q rfl rfl (by rw [hw1]; omega) (ixc hw1 hd)) ?_
       refine TriL.g1 rfl (ltb rfl) rfl hg6 (op_bin (ltb rfl) rfl rfl rfl) ?_
       refine TriL.c1 rfl (op_pickf (ltb rfl) rfl hg6 rfl) ?_
       refine TriL.nil ?_
       refine Tri.cond rfl (fun hc7 => ?_) (fun hc7 => ?_)
       ·refine Tri.seq (Tri.region ?_)
        refine TriL.c1 rfl (op_mv (ltb rfl) rfl) ?_
        refine TriL.c1 rfl (op_as (ltb rfl) rfl) ?_
        refine TriL.nil (Tri.ret ?_)
        exact ⟨.inr rfl, (ResOK.r1 rfl (.tmp rfl .nil)).cast (by
         have hr : isRem (s.drop a) = false := by rw [hda]; rw [hdb]; exact isRem_ne2 (by have h : (!((d.toNat : Int) == 47)) = true := hc7; simp at h; omega)
         have hz : skp (s.drop a) = 0 := by rw [hda] at hr ⊢; exact skp_no hb hr
         rw [hj, ← hI, hz]; rfl), rfl⟩
       ·have hr : isRem (s.drop a) = true := by
          rw [hda, hdb]
          have h1 : (!((c.toNat : Int) == 47)) = false := hg5
          have h2 : (!((d.toNat : Int) == 47)) = false := hc7
          simp at h1 h2
          exact isRem_two (by omega) (by omega)
        have hsp := spn_rem hr
        have hskp : skp (s.drop a) = skp (s.drop (a + spn noNl (s.drop a))) + spn noNl (s.drop a) := by
         have h5 : skp (s.drop a) = skp ((s.drop a).drop (spn noNl (s.drop a))) + spn noNl (s.drop a) := by
          rw [hda] at hr ⊢; exact skp_rem hb hr
         rw [h5, List.drop_drop]
        refine Tri.ofKept (Kept.keep [.h, .s 0, .s 1] rfl (by decide) (Kept.now ?_))
        refine Tri.skip (Tri.blk ?_)
        -- LOOP 2: KEEP
        refine Tri.loop (fun q w => ∃ (b : Nat) (j2 : Int), w = StPs H s j2 ∧ j2 = b ∧ a ≤ b ∧ b ≤ s.length ∧ b - a ≤ spn noNl (s.drop a) ∧ q = s.length - b) ?_ (n := s.length - a) ⟨a, j, rfl, hj, Nat.le_refl _, ha, by omega, rfl⟩
        rintro q w ⟨b, j2, rfl, hj2, hb2, hb3, hb4, rfl⟩
        have hsl := spn_le noNl (s.drop a)
        rw [List.length_drop] at hsl
        refine Tri.seq (Tri.seq (Tri.region ?_))
        iterate 2 (refine TriL.c1 rfl (op_mv (ltb rfl) rfl) ?_)
        refine TriL.c1 rfl (op_lens (ltb rfl) un9_q rfl) ?_
        refine TriL.c1 rfl (op_bin (ltb rfl) rfl rfl rfl) ?_
        refine TriL.c1 rfl (op_mv (ltb rfl) rfl) ?_
        refine TriL.split (d := 50) rfl (fun hg8 => ?_) (fun hg8 => ?_)
        ·have hlt3 : b < s.length := by have := of_decide_eq_true hg8; omega
         obtain ⟨e, he⟩ : ∃ e, s[b]? = some e := ⟨s[b], List.getElem?_eq_getElem hlt3⟩
         have hsd := spn_drop noNl (s.drop a) (b - a) e hb4 (by rw [List.getElem?_drop, show a + (b - a) = b by omega]; exact he)
         iterate 2 (refine TriL.g1 rfl (ltb rfl) rfl hg8 (op_mv (ltb rfl) rfl) ?_)
         refine TriL.g1 rfl (ltb rfl) rfl hg8 (op_ixs (ltb rfl) un9_q rfl rfl (by omega) (ixc hj2 he)) ?_
         refine TriL.g1 rfl (ltb rfl) rfl hg8 (op_bin (ltb rfl) rfl rfl rfl) ?_
         refine TriL.c1 rfl (op_pickt (ltb rfl) rfl hg8 rfl) ?_
         refine TriL.nil ?_
         refine Tri.cond rfl (fun hc9 => ?_) (fun hc9 => ?_)
         ·refine Tri.skip (Tri.blk (Tri.region ?_))
          refine TriL.c1 rfl (op_mv (ltb rfl) rfl) ?_
          refine TriL.c1 rfl (op_bin (ltb rfl) rfl rfl rfl) ?_
          refine TriL.c1 rfl (op_as (ltb rfl) rfl) ?_
          refine TriL.kept (Kept.keep [.h, .s 0, .s 1] rfl (by decide) (Kept.now ?_))
          have hnn : noNl e = true := by
           have h : (!((e.toNat : Int) == 10)) = true := hc9
           simp at h
           exact decide_eq_true (by omega)
          exact ⟨s.length - (b + 1), by omega, b + 1, IntKind.i64.wrap (j2 + 1), rfl, by rw [hj2, wr64] <;> omega, by omega, by omega, by have := hsd.1 hnn; omega, rfl⟩
         ·refine Tri.ofKept (Kept.keep [.h, .s 0, .s 1] rfl (by decide) (Kept.now ?_))
          refine Tri.exit ?_
          have e5 : spn noNl (s.drop a) = b - a := hsd.2 (by
           have h : (!((e.toNat : Int) == 10)) = false := hc9
           simp at h
           exact decide_eq_false (by omega))
          exact ⟨s.length - b, by omega, b, j2, rfl, hj2, hb3, by rw [← hI, hskp, e5, show a + (b - a) = b by omega]; omega, rfl⟩
        ·iterate 4 (refine TriL.skipu rfl rfl (ltb rfl) (ltb rfl) rfl hg8 ?_)
         refine TriL.c1 rfl (op_pickf (ltb rfl) rfl hg8 rfl) ?_
         refine TriL.nil ?_
         refine Tri.condF rfl rfl ?_
         refine Tri.ofKept (Kept.keep [.h, .s 0, .s 1] rfl (by decide) (Kept.now ?_))
         refine Tri.exit ?_
         have e5 : spn noNl (s.drop a) = b - a := by have := of_decide_eq_false hg8; omega
         exact ⟨s.length - b, by omega, b, j2, rfl, hj2, hb3, by rw [← hI, hskp, e5, show a + (b - a) = b by omega]; omega, rfl⟩
 ·refine Tri.exit (Tri.seq (Tri.region ?_))
  refine TriL.c1 rfl (op_mv (ltb rfl) rfl) ?_
  refine TriL.c1 rfl (op_as (ltb rfl) rfl) ?_
  refine TriL.nil (Tri.ret ?_)
  exact ⟨.inr rfl, (ResOK.r1 rfl (.tmp rfl .nil)).cast (by rw [hj, ← hI, List.drop_of_length_le (by have := of_decide_eq_false hc1; omega), skp_nil]; rfl), rfl⟩
open Go
/- Plain laws: how many tokens a text has, and what they are like. No condition. -/
/-- the tokens are not more than the bytes -/
theorem lexGo_len : ∀ (n : Nat) (r : List UInt8) (p : Nat), r.length ≤ n → (lexGo r p).1.length ≤ r.length
 | n, [], p, _ => by simp [lexGo_nil]
 | 0, c :: r, p, h => by simp at h
 | n + 1, c :: r, p, h => by
  by_cases hb : isBl c = true
  ·rw [lexGo_bl hb]
   have := lexGo_len n r (p + 1) (by simp at h; omega)
   simp; omega
  ·have hb' : isBl c = false := by simpa using hb
   by_cases hr : isRem (c :: r) = true
   ·have := spn_rem hr
    rw [lexGo_rem hb' hr]
    have := lexGo_len n ((c :: r).drop (spn noNl (c :: r))) (p + spn noNl (c :: r)) (by rw [List.length_drop]; simp at h ⊢; omega)
    rw [List.length_drop] at this; omega
   ·have hr' : isRem (c :: r) = false := by simpa using hr
    by_cases hk : (nxtT (c :: r)).2 = 0
    ·rw [lexGo_no hb' hr' hk]; simp
    ·rw [lexGo_tok hb' hr' hk]
     have := lexGo_len n ((c :: r).drop (nxtT (c :: r)).2) (p + (nxtT (c :: r)).2) (by rw [List.length_drop]; simp at h ⊢; omega)
     rw [List.length_drop] at this
     simp at this ⊢; omega
/-- what a token is like -/
structure TkOK (t : Tk) : Prop where
 n : t.n < 18446744073709551616
 k : t.k = 1 ∨ t.k = 2 ∨ t.k = 3 ∨ t.k = 4
 m : t.k = 4 → t.s.length = 1
theorem nxt_ok {s : List UInt8} (h : (nxtT s).2 ≠ 0) : TkOK (nxtT s).1 := by
 unfold nxtT at h ⊢
 split at h
 ·rename_i hw
  rw [if_pos hw]
  cases s with
  | nil => simp [wordT] at hw
  | cons c r =>
   unfold wordT at hw ⊢
   simp only at hw ⊢
   split at hw
   ·rename_i hc; rw [if_pos hc]; exact ⟨by simp, .inl rfl, fun e => by cases e⟩
   ·simp at hw
 ·rename_i hw
  rw [if_neg hw]
  split at h
  ·rename_i hn
   rw [if_pos hn]
   unfold numTk at hn ⊢
   cases e : numTok s with
   | none => rw [e] at hn; simp [zeroT] at hn
   | some x =>
    obtain ⟨u, neg, k⟩ := x
    simp only
    refine ⟨?_, .inr (.inl rfl), fun e => by cases e⟩
    unfold numTok at e
    split at e
    ·rename_i u' hp
     split at e
     ·cases e
     ·cases e; exact parse_lt hp
    ·cases e
  ·rename_i hn
   rw [if_neg hn]
   split at h
   ·rename_i ht
    rw [if_pos ht]
    unfold txtTk at ht ⊢
    cases e : txtT s with
    | none => rw [e] at ht; simp [zeroT] at ht
    | some x => exact ⟨by simp, .inr (.inr (.inl rfl)), fun e => by cases e⟩
   ·rename_i ht
    rw [if_neg ht]
    cases s with
    | nil => simp [markT, zeroT] at h
    | cons c r =>
     unfold markT at h ⊢
     simp only at h ⊢
     split at h
     ·rename_i hc; rw [if_pos hc]; exact ⟨by simp, .inr (.inr (.inr rfl)), fun _ => rfl⟩
     ·simp [zeroT] at h
theorem lexGo_ok : ∀ (n : Nat) (r : List UInt8) (p : Nat), r.length ≤ n → ∀ t ∈ (lexGo r p).1, TkOK t
 | n, [], p, _, t, h => by simp [lexGo_nil] at h
 | 0, c :: r, p, hn, _, _ => by simp at hn
 | n + 1, c :: r, p, hn, t, h => by
  by_cases hb : isBl c = true
  ·rw [lexGo_bl hb] at h
   exact lexGo_ok n r (p + 1) (by simp at hn; omega) t h
  ·have hb' : isBl c = false := by simpa using hb
   by_cases hr : isRem (c :: r) = true
   ·rw [lexGo_rem hb' hr] at h
    have h3 := spn_rem hr
    exact lexGo_ok n _ _ (by rw [List.length_drop]; simp at hn ⊢; omega) t h
   ·have hr' : isRem (c :: r) = false := by simpa using hr
    by_cases hk : (nxtT (c :: r)).2 = 0
    ·rw [lexGo_no hb' hr' hk] at h; simp at h
    ·rw [lexGo_tok hb' hr' hk] at h
     rcases List.mem_cons.1 h with rfl | h
     ·have := nxt_ok hk
      exact ⟨this.n, this.k, this.m⟩
     ·exact lexGo_ok n _ _ (by rw [List.length_drop]; simp at hn ⊢; omega) t h
/- lex: all tokens, in the program and in the document. -/
theorem fn47_q : isFn Tryz.prog 47 = true := by kernel_rfl
theorem fn48_q : isFn Tryz.prog 48 = true := by kernel_rfl
theorem fn57_q : isFn Tryz.prog 57 = true := by kernel_rfl
theorem fo112_4_q : fo Tryz.prog 112 4 = some 4 := by kernel_rfl
theorem fo68_4_q : fo Tryz.prog 68 4 = some 4 := by kernel_rfl
theorem se61_q : se Tryz.prog 61 = some (68, 5, 48) := by kernel_rfl
theorem se70_q : se Tryz.prog 70 = some (112, 5, 48) := by kernel_rfl
theorem zAe61_q : zeroA Tryz.prog 68 = some [AV.int IntKind.i64 (0), AV.str [], AV.int IntKind.u64 (0), AV.bool false, AV.int IntKind.i64 (0)] := by kernel_rfl
theorem zAe70_q : zeroA Tryz.prog 112 = some [AV.int IntKind.i64 (0), AV.str [], AV.int IntKind.u64 (0), AV.bool false, AV.int IntKind.i64 (0)] := by kernel_rfl
theorem next' {s : List UInt8} {j : Int} {a : Nat} (hj : j = a) (hs : s.length ≤ 1073741824) : Pure Tryz.prog 57 [.str ((s.drop j.toNat).take ((s.length : Int).toNat - j.toNat))] (tkn (nxtT (s.drop a))) := by
 rw [cutL hj]; exact next_pure _ (by rw [List.length_drop]; omega)
theorem one' {s : List UInt8} {j : Int} {a : Nat} (hj : j = a) (hs : s.length ≤ 1073741824) : Pure Tryz.prog 48 [.str ((s.drop j.toNat).take ((s.length : Int).toNat - j.toNat))] (tkn (nxtT (s.drop a))) := by
 rw [cutL hj]; exact one_pure _ (by rw [List.length_drop]; omega)
theorem spn' {s : List UInt8} {j : Int} {a : Nat} (hj : j = a) (hs : s.length ≤ 1073741824) : Pure Tryz.prog 55 [.str ((s.drop j.toNat).take ((s.length : Int).toNat - j.toNat)), .fn 56 []] (.int .i64 (spn noNl (s.drop a) : Nat)) := by
 rw [cutL hj]; exact span_pure _ _ noNl nonl_pure (by kernel_rfl) (by rw [List.length_drop]; omega)
theorem pass' {s : List UInt8} {j : Int} {a : Nat} (hj : j = a) (hs : s.length ≤ 1073741824) (ha : a ≤ s.length) : Pure Tryz.prog 47 [.str s, .int .i64 j] (.int .i64 (a + skp (s.drop a) : Nat)) := hj ▸ pass_pure s a hs ha
/-- so far: these tokens, and those of the rest -/
def LI (s : List UInt8) (ts : List Tk) (a : Nat) : Prop := lexGo s 0 = (ts ++ (lexGo (s.drop a) a).1, (lexGo (s.drop a) a).2)
theorem LI.skip {s : List UInt8} {ts : List Tk} {a b : Nat} (h : LI s ts a) (e : lexGo (s.drop a) a = lexGo (s.drop b) b) : LI s ts b := by
 unfold LI at *; rw [h, e]
theorem LI.tok {s : List UInt8} {ts : List Tk} {a : Nat} {t : Tk} {b : Nat} (h : LI s ts a) (e : lexGo (s.drop a) a = (t :: (lexGo (s.drop b) b).1, (lexGo (s.drop b) b).2)) : LI s (ts ++ [t]) b := by
 unfold LI at *; rw [h, e]; simp
theorem LI.stop {s : List UInt8} {ts : List Tk} {a : Nat} (h : LI s ts a) (e : s.drop a = []) : lexGo s 0 = (ts, none) := by
 unfold LI at h; rw [h, e, lexGo_nil]; simp
theorem LI.bad {s : List UInt8} {ts : List Tk} {a p : Nat} (h : LI s ts a) (e : lexGo (s.drop a) a = ([], some p)) : lexGo s 0 = (ts, some p) := by
 unfold LI at h; rw [h, e]; simp
theorem tok_step {s : List UInt8} {a : Nat} {c : UInt8} {r : List UInt8} (hd : s.drop a = c :: r) (hb : isBl c = false) (hr : isRem (s.drop a) = false) :
  ((nxtT (s.drop a)).2 = 0 → lexGo (s.drop a) a = ([], some a)) ∧ ((nxtT (s.drop a)).2 ≠ 0 → lexGo (s.drop a) a = ((nxtT (s.drop a)).1.at a :: (lexGo (s.drop (a + (nxtT (s.drop a)).2)) (a + (nxtT (s.drop a)).2)).1, (lexGo (s.drop (a + (nxtT (s.drop a)).2)) (a + (nxtT (s.drop a)).2)).2)) := by
 refine ⟨fun h => ?_, fun h => ?_⟩
 ·rw [hd] at hr h ⊢; exact lexGo_no hb hr h
 ·have e : lexGo (s.drop a) a = ((nxtT (s.drop a)).1.at a :: (lexGo ((s.drop a).drop (nxtT (s.drop a)).2) (a + (nxtT (s.drop a)).2)).1, (lexGo ((s.drop a).drop (nxtT (s.drop a)).2) (a + (nxtT (s.drop a)).2)).2) := by
   rw [hd] at hr h ⊢; exact lexGo_tok hb hr h
  rw [List.drop_drop] at e; exact e
def StAl (H : Hp) (s : List UInt8) (ts : List Tk) (j : Int) : St := [(.h, .hp H), (.s 0, .sv (.v (.str s))), (.s 7, .sv (.ow 7 (ts.map Tk.av))), (.t 7, .tk false 112 5 (ts.map Tk.av)), (.s 8, .sv (.v (.int .i64 j)))]
def StRa (H : Hp) (s : List UInt8) (ts : List Tk) (j : Int) : St := [(.h, .hp H), (.s 0, .sv (.v (.str s))), (.s 7, .sv (.ow 15 (ts.map Tk.av))), (.t 15, .tk false 68 5 (ts.map Tk.av)), (.s 8, .sv (.v (.int .i64 j)))]
theorem map_tok (ts : List Tk) (t : Tk) (a : Nat) (j : Int) (hj : j = a) : (ts ++ [t.at a]).map Tk.av = ts.map Tk.av ++ [.agg [.int .i64 t.k, .str t.s, .int .u64 t.n, .bool t.neg, .int .i64 j]] := by
 subst hj; rw [List.map_append]; rfl
theorem map_end (ts : List Tk) (n : Nat) : (ts ++ [(⟨0, [], 0, false, n⟩ : Tk)]).map Tk.av = ts.map Tk.av ++ [.agg [.int .i64 0, .str [], .int .u64 0, .bool false, .int .i64 n]] := by
 rw [List.map_append]; rfl
theorem all_pure (s : List UInt8) (most : Int) (hs : s.length ≤ 1073741824) : Pure Tryz.prog 25 [.str s, .int .i64 most] (allV s most) := by
 refine Pure.of_tri Tryz.func25 rfl rfl (ltb rfl) fun H => ?_
 refine Tri.seq (Tri.region ?_)
 iterate 3 (refine TriL.c1 rfl (op_as (ltb rfl) rfl) ?_)
 refine TriL.nil ?_
 refine Tri.scope ?_
 refine Tri.seq (Tri.seq (Tri.region ?_))
 refine TriL.c1 rfl (op_mv (ltb rfl) rfl) ?_
 refine TriL.c1 rfl (op_lens (ltb rfl) un9_q rfl) ?_
 refine TriL.c1 rfl (op_mv (ltb rfl) rfl) ?_
 refine TriL.c1 rfl (op_bin (ltb rfl) rfl rfl rfl) ?_
 refine TriL.nil ?_
 refine Tri.cond rfl (fun hc1 => ?_) (fun hc1 => ?_)
 ·refine Tri.seq (Tri.region ?_)
  iterate 3 (refine TriL.c1 rfl (op_as (ltb rfl) rfl) ?_)
  refine TriL.nil (Tri.ret ?_)
  exact ⟨.inr rfl, (ResOK.r3 rfl (.tmp rfl (.tmp rfl (.tmp rfl .nil)))).cast (by rw [allV_long (of_decide_eq_true hc1)]), rfl⟩
 ·refine Tri.skip (Tri.seq (Tri.region ?_))
  refine TriL.c2 rfl (op_nilt (k := 7) (el := 112) (esz := 5) (c := 0) (ltb rfl) rfl (by decide)) ?_
  refine TriL.nil (Tri.seq (Tri.region ?_))
  refine TriL.c1 rfl (op_as (ltb rfl) rfl) ?_
  refine TriL.kept (Kept.keep [.h, .s 0, .s 7, .t 7, .s 8] rfl (by decide) (Kept.now ?_))
  refine Tri.seq ?_
  refine Tri.label ?_
  refine Tri.seq (Tri.blk ?_)
  -- LOOP 1: KEEP
  refine Tri.loop (fun q w => ∃ (a : Nat) (ts : List Tk) (j : Int), w = StAl H s ts j ∧ j = a ∧ a ≤ s.length ∧ ts.length ≤ a ∧ LI s ts a ∧ q = s.length - a) ?_ (n := s.length) ⟨0, [], 0, rfl, rfl, Nat.zero_le _, Nat.le_refl _, by unfold LI; simp, rfl⟩
  rintro q w ⟨a, ts, j, rfl, hj, ha, ho, hI, rfl⟩
  refine Tri.seq (Tri.seq (Tri.region ?_))
  iterate 2 (refine TriL.c1 rfl (op_mv (ltb rfl) rfl) ?_)
  refine TriL.c1 rfl (op_lens (ltb rfl) un9_q rfl) ?_
  refine TriL.c1 rfl (op_bin (ltb rfl) rfl rfl rfl) ?_
  refine TriL.nil ?_
  refine Tri.cond rfl (fun hc2 => ?_) (fun hc2 => ?_)
  ·have hlt : a < s.length := by have := of_decide_eq_true hc2; omega
   obtain ⟨c, hc⟩ : ∃ c, s[a]? = some c := ⟨s[a], List.getElem?_eq_getElem hlt⟩
   have hda := drop_at hc
   refine Tri.skip (Tri.blk ?_)
   refine Tri.join (fun w => w = StAl H s ts j ∧ isBl c = false ∧ isRem (s.drop a) = false) ?_ ?_
   ·refine Tri.blk (Tri.seq (Tri.region ?_))
    iterate 2 (refine TriL.c1 rfl (op_mv (ltb rfl) rfl) ?_)
    refine TriL.c1 rfl (op_ixs (ltb rfl) un9_q rfl rfl (by omega) (ixc hj hc)) ?_
    refine TriL.c1 rfl (op_bin (ltb rfl) rfl rfl rfl) ?_
    refine TriL.c1 rfl (op_mv (ltb rfl) rfl) ?_
    refine TriL.split (d := 24) rfl (fun hg3 => ?_) (fun hg3 => ?_)
    ·iterate 4 (refine TriL.skipu rfl rfl (ltb rfl) (ltb rfl) rfl hg3 ?_)
     refine TriL.c1 rfl (op_pickt (ltb rfl) rfl hg3 rfl) ?_
     refine TriL.c1 rfl (op_mv (ltb rfl) rfl) ?_
     iterate 4 (refine TriL.skipu rfl rfl (ltb rfl) (ltb rfl) rfl rfl ?_)
     refine TriL.c1 rfl (op_pickt (ltb rfl) rfl rfl rfl) ?_
     refine TriL.c1 rfl (op_as (ltb rfl) rfl) ?_
     refine TriL.nil ?_
     refine Tri.condT rfl rfl ?_
     refine Tri.seq (Tri.region ?_)
     refine TriL.c1 rfl (op_mv (ltb rfl) rfl) ?_
     refine TriL.c1 rfl (op_bin (ltb rfl) rfl rfl rfl) ?_
     refine TriL.c1 rfl (op_as (ltb rfl) rfl) ?_
     refine TriL.kept (Kept.keep [.h, .s 0, .s 7, .t 7, .s 8] rfl (by decide) (Kept.now ?_))
     refine Tri.exit ?_
     exact ⟨s.length - (a + 1), by omega, a + 1, ts, IntKind.i64.wrap (j + 1), rfl, by rw [hj, wr64] <;> omega, by omega, by omega, hI.skip (by rw [hda, lexGo_bl (bl_1 hg3)]), rfl⟩
    ·iterate 2 (refine TriL.g1 rfl (ltb rfl) rfl hg3 (op_mv (ltb rfl) rfl) ?_)
     refine TriL.g1 rfl (ltb rfl) rfl hg3 (op_ixs (ltb rfl) un9_q rfl rfl (by omega) (ixc hj hc)) ?_
     refine TriL.g1 rfl (ltb rfl) rfl hg3 (op_bin (ltb rfl) rfl rfl rfl) ?_
     refine TriL.c1 rfl (op_pickf (ltb rfl) rfl hg3 rfl) ?_
     refine TriL.c1 rfl (op_mv (ltb rfl) rfl) ?_
     refine TriL.split (d := 30) rfl (fun hg4 => ?_) (fun hg4 => ?_)
     ·iterate 4 (refine TriL.skipu rfl rfl (ltb rfl) (ltb rfl) rfl hg4 ?_)
      refine TriL.c1 rfl (op_pickt (ltb rfl) rfl hg4 rfl) ?_
      refine TriL.c1 rfl (op_as (ltb rfl) rfl) ?_
      refine TriL.nil ?_
      refine Tri.condT rfl rfl ?_
      refine Tri.seq (Tri.region ?_)
      refine TriL.c1 rfl (op_mv (ltb rfl) rfl) ?_
      refine TriL.c1 rfl (op_bin (ltb rfl) rfl rfl rfl) ?_
      refine TriL.c1 rfl (op_as (ltb rfl) rfl) ?_
      refine TriL.kept (Kept.keep [.h, .s 0, .s 7, .t 7, .s 8] rfl (by decide) (Kept.now ?_))
      refine Tri.exit ?_
      exact ⟨s.length - (a + 1), by omega, a + 1, ts, IntKind.i64.wrap (j + 1), rfl, by rw [hj, wr64] <;> omega, by omega, by omega, hI.skip (by rw [hda, lexGo_bl (bl_2 hg4)]), rfl⟩
     ·iterate 2 (refine TriL.g1 rfl (ltb rfl) rfl hg4 (op_mv (ltb rfl) rfl) ?_)
      refine TriL.g1 rfl (ltb rfl) rfl hg4 (op_ixs (ltb rfl) un9_q rfl rfl (by omega) (ixc hj hc)) ?_
      refine TriL.g1 rfl (ltb rfl) rfl hg4 (op_bin (ltb rfl) rfl rfl rfl) ?_
      refine TriL.c1 rfl (op_pickf (ltb rfl) rfl hg4 rfl) ?_
      refine TriL.c1 rfl (op_as (ltb rfl) rfl) ?_
      refine TriL.nil ?_
      refine Tri.cond rfl (fun hc5 => ?_) (fun hc5 => ?_)
      ·refine Tri.seq (Tri.region ?_)
       refine TriL.c1 rfl (op_mv (ltb rfl) rfl) ?_
       refine TriL.c1 rfl (op_bin (ltb rfl) rfl rfl rfl) ?_
       refine TriL.c1 rfl (op_as (ltb rfl) rfl) ?_
       refine TriL.kept (Kept.keep [.h, .s 0, .s 7, .t 7, .s 8] rfl (by decide) (Kept.now ?_))
       refine Tri.exit ?_
       exact ⟨s.length - (a + 1), by omega, a + 1, ts, IntKind.i64.wrap (j + 1), rfl, by rw [hj, wr64] <;> omega, by omega, by omega, hI.skip (by rw [hda, lexGo_bl (bl_3 hc5)]), rfl⟩
      ·refine Tri.seq (Tri.region ?_)
       iterate 2 (refine TriL.c1 rfl (op_mv (ltb rfl) rfl) ?_)
       refine TriL.c1 rfl (op_cuts (ltb rfl) un9_q rfl rfl rfl (by omega) (by omega) (by omega)) ?_
       refine TriL.c1 rfl (op_call (ltb rfl) fn54_q rfl (has' [47, 47] hj)) ?_
       refine TriL.c1 rfl (op_as (ltb rfl) rfl) ?_
       refine TriL.nil ?_
       refine Tri.cond rfl (fun hc6 => ?_) (fun hc6 => ?_)
       ·refine Tri.seq (Tri.region ?_)
        iterate 3 (refine TriL.c1 rfl (op_mv (ltb rfl) rfl) ?_)
        refine TriL.c1 rfl (op_cuts (ltb rfl) un9_q rfl rfl rfl (by omega) (by omega) (by omega)) ?_
        refine TriL.c1 rfl (op_call (ltb rfl) fn55_q rfl (spn' hj hs)) ?_
        refine TriL.c1 rfl (op_bin (ltb rfl) rfl rfl rfl) ?_
        refine TriL.c1 rfl (op_as (ltb rfl) rfl) ?_
        refine TriL.kept (Kept.keep [.h, .s 0, .s 7, .t 7, .s 8] rfl (by decide) (Kept.now ?_))
        refine Tri.exit ?_
        have hr : isRem (s.drop a) = true := hc6
        have hb := bl_no hg3 hg4 hc5
        have hsp := spn_rem hr
        have hsl := spn_le noNl (s.drop a)
        rw [List.length_drop] at hsl
        have e : lexGo (s.drop a) a = lexGo (s.drop (a + spn noNl (s.drop a))) (a + spn noNl (s.drop a)) := by
         have h5 : lexGo (s.drop a) a = lexGo ((s.drop a).drop (spn noNl (s.drop a))) (a + spn noNl (s.drop a)) := by
          rw [hda] at hr ⊢; exact lexGo_rem hb hr
         rw [h5, List.drop_drop]
        exact ⟨s.length - (a + spn noNl (s.drop a)), by omega, a + spn noNl (s.drop a), ts, IntKind.i64.wrap (j + (spn noNl (s.drop a) : Int)), rfl, by rw [hj, wr64] <;> omega, by omega, by omega, hI.skip e, rfl⟩
       ·refine Tri.ofKept (Kept.keep [.h, .s 0, .s 7, .t 7, .s 8] rfl (by decide) (Kept.now ?_))
        refine Tri.skip ?_
        exact ⟨rfl, bl_no hg3 hg4 hc5, hc6⟩
   ·rintro w ⟨rfl, hb, hr⟩
    obtain ⟨hk0, hkn⟩ := tok_step hda hb hr
    refine Tri.seq (Tri.region ?_)
    iterate 2 (refine TriL.c1 rfl (op_mv (ltb rfl) rfl) ?_)
    refine TriL.c1 rfl (op_cuts (ltb rfl) un9_q rfl rfl rfl (by omega) (by omega) (by omega)) ?_
    refine TriL.c1 rfl (op_call (ltb rfl) fn57_q rfl (next' hj hs)) ?_
    refine TriL.c1 rfl (op_mv (ltb rfl) rfl) ?_
    iterate 2 (refine TriL.c1 rfl (op_ext (ltb rfl) rfl rfl) ?_)
    refine TriL.c2 rfl (op_all (ltb rfl) zA112_q rfl) ?_
    refine TriL.c1 rfl (op_stl lk112_q rfl rfl rfl rfl rfl (leb rfl)) ?_
    refine TriL.c1 rfl (op_as (ltb rfl) rfl) ?_
    refine TriL.nil (Tri.seq (Tri.seq (Tri.region ?_)))
    refine TriL.c1 rfl (op_mv (ltb rfl) rfl) ?_
    refine TriL.c1 rfl (op_bin (ltb rfl) rfl rfl rfl) ?_
    refine TriL.nil ?_
    refine Tri.cond rfl (fun hc7 => ?_) (fun hc7 => ?_)
    ·refine Tri.seq (Tri.region ?_)
     refine TriL.c1 rfl (op_mv (ltb rfl) rfl) ?_
     iterate 3 (refine TriL.c1 rfl (op_as (ltb rfl) rfl) ?_)
     refine TriL.nil (Tri.ret ?_)
     exact ⟨.inr rfl, (ResOK.r3 rfl (.tmp rfl (.tmp rfl (.tmp rfl .nil)))).cast (by rw [allV_bad (by have := of_decide_eq_false hc1; omega) (hI.bad (hk0 (by have := eq_of_beq hc7; omega))), hj]), rfl⟩
    ·have hk1 : (nxtT (s.drop a)).2 ≠ 0 := by have := beq_eq_false_iff_ne.1 hc7; omega
     have hk2 : a + (nxtT (s.drop a)).2 ≤ s.length := by have := nxt_le (s.drop a); rw [List.length_drop] at this; omega
     have hw : IntKind.i64.wrap (j + ((nxtT (s.drop a)).2 : Int)) = ((a + (nxtT (s.drop a)).2 : Nat) : Int) := by rw [hj, wr64] <;> omega
     refine Tri.skip (Tri.seq (Tri.region ?_))
     refine TriL.c1 rfl (op_mv (ltb rfl) rfl) ?_
     refine TriL.c1 rfl (op_fal (ltb rfl) fo112_4_q rfl) ?_
     refine TriL.c1 rfl (op_stl lk3_q rfl rfl rfl rfl rfl (leb rfl)) ?_
     refine TriL.nil (Tri.seq (Tri.region ?_))
     refine TriL.c1 rfl (op_mv (ltb rfl) rfl) ?_
     refine TriL.c1 rfl (op_ldl (ltb rfl) lk112_q rfl rfl rfl) ?_
     refine TriL.c1 rfl (op_lit («as» := [_]) (ltb rfl) se70_q zAe70_q rfl rfl rfl (leb rfl)) ?_
     refine TriL.c3 rfl (op_app (ltb rfl) se70_q rfl rfl rfl rfl rfl (by simp; omega) (by simp; omega)) ?_
     refine TriL.c1 rfl (op_as (ltb rfl) rfl) ?_
     refine TriL.nil (Tri.region ?_)
     iterate 2 (refine TriL.c1 rfl (op_mv (ltb rfl) rfl) ?_)
     refine TriL.c1 rfl (op_bin (ltb rfl) rfl rfl rfl) ?_
     refine TriL.c1 rfl (op_as (ltb rfl) rfl) ?_
     refine TriL.kept (Kept.keep [.h, .s 0, .s 7, .t 64, .s 8] rfl (by decide) (Kept.ren 64 7 (by decide) rfl (Kept.now ?_)))
     exact ⟨s.length - (a + (nxtT (s.drop a)).2), by omega, a + (nxtT (s.drop a)).2, ts ++ [(nxtT (s.drop a)).1.at a], IntKind.i64.wrap (j + ((nxtT (s.drop a)).2 : Int)), by unfold StAl; rw [map_tok ts _ a j hj]; rfl, hw, hk2, by simp; omega, hI.tok (hkn hk1), rfl⟩
  ·refine Tri.exit (Tri.seq (Tri.region ?_))
   iterate 2 (refine TriL.c1 rfl (op_mv (ltb rfl) rfl) ?_)
   refine TriL.c1 rfl (op_lens (ltb rfl) un9_q rfl) ?_
   refine TriL.c1 rfl (op_bld (ltb rfl) spl112_q zA112_q rfl rfl) ?_
   refine TriL.c1 rfl (op_lit («as» := [_]) (ltb rfl) se70_q zAe70_q rfl rfl rfl (leb rfl)) ?_
   refine TriL.c3 rfl (op_app (ltb rfl) se70_q rfl rfl rfl rfl rfl (by simp; omega) (by simp; omega)) ?_
   refine TriL.c1 rfl (op_mv (ltb rfl) rfl) ?_
   refine TriL.c1 rfl (op_lens (ltb rfl) un9_q rfl) ?_
   iterate 3 (refine TriL.c1 rfl (op_as (ltb rfl) rfl) ?_)
   refine TriL.nil (Tri.ret ?_)
   exact ⟨.inr rfl, (ResOK.r3 rfl (.tmp rfl (.tmp rfl (.tmp rfl .nil)))).cast (by rw [allV_ok (by have := of_decide_eq_false hc1; omega) (hI.stop (List.drop_of_length_le (by have := of_decide_eq_false hc2; omega))), map_end]; rfl), rfl⟩
theorem rall_pure (s : List UInt8) (most : Int) (hs : s.length ≤ 1073741824) : Pure Tryz.prog 23 [.str s, .int .i64 most] (allV s most) := by
 refine Pure.of_tri Tryz.func23 rfl rfl (ltb rfl) fun H => ?_
 refine Tri.seq (Tri.region ?_)
 iterate 3 (refine TriL.c1 rfl (op_as (ltb rfl) rfl) ?_)
 refine TriL.nil (Tri.seq (Tri.seq (Tri.region ?_)))
 refine TriL.c1 rfl (op_mv (ltb rfl) rfl) ?_
 refine TriL.c1 rfl (op_lens (ltb rfl) un9_q rfl) ?_
 refine TriL.c1 rfl (op_mv (ltb rfl) rfl) ?_
 refine TriL.c1 rfl (op_bin (ltb rfl) rfl rfl rfl) ?_
 refine TriL.nil ?_
 refine Tri.cond rfl (fun hc1 => ?_) (fun hc1 => ?_)
 ·refine Tri.seq (Tri.region ?_)
  iterate 3 (refine TriL.c1 rfl (op_as (ltb rfl) rfl) ?_)
  refine TriL.nil (Tri.ret ?_)
  exact ⟨.inr rfl, (ResOK.r3 rfl (.tmp rfl (.tmp rfl (.tmp rfl .nil)))).cast (by rw [allV_long (of_decide_eq_true hc1)]), rfl⟩
 ·refine Tri.skip (Tri.seq (Tri.region ?_))
  refine TriL.c2 rfl (op_litt («as» := []) (ltb rfl) se61_q zAe61_q rfl rfl rfl (leb rfl) rfl) ?_
  refine TriL.c1 rfl (op_as (ltb rfl) rfl) ?_
  refine TriL.nil (Tri.seq (Tri.region ?_))
  refine TriL.c1 rfl (op_mv (ltb rfl) rfl) ?_
  refine TriL.c1 rfl (op_call (ltb rfl) fn47_q rfl (pass' (a := 0) rfl hs (Nat.zero_le _))) ?_
  refine TriL.c1 rfl (op_as (ltb rfl) rfl) ?_
  refine TriL.kept (Kept.keep [.h, .s 0, .s 7, .t 15, .s 8] rfl (by decide) (Kept.now ?_))
  obtain ⟨z1, z2, z3⟩ := skp_all s.length s (Nat.le_refl _)
  refine Tri.seq (Tri.blk ?_)
  -- LOOP 1: KEEP
  refine Tri.loop (fun q w => ∃ (a : Nat) (ts : List Tk) (j : Int), w = StRa H s ts j ∧ j = a ∧ a ≤ s.length ∧ ts.length ≤ a ∧ LI s ts a ∧ skp (s.drop a) = 0 ∧ q = s.length - a) ?_ (n := s.length - (0 + skp (s.drop 0))) ⟨0 + skp (s.drop 0), [], _, rfl, rfl, by simpa using z1, Nat.zero_le _, by unfold LI; rw [List.drop_zero, Nat.zero_add, z2 0, Nat.zero_add]; simp, by rw [List.drop_zero, Nat.zero_add]; exact z3, rfl⟩
  rintro q w ⟨a, ts, j, rfl, hj, ha, ho, hI, hz, rfl⟩
  refine Tri.seq (Tri.seq (Tri.region ?_))
  iterate 2 (refine TriL.c1 rfl (op_mv (ltb rfl) rfl) ?_)
  refine TriL.c1 rfl (op_lens (ltb rfl) un9_q rfl) ?_
  refine TriL.c1 rfl (op_bin (ltb rfl) rfl rfl rfl) ?_
  refine TriL.nil ?_
  refine Tri.cond rfl (fun hc2 => ?_) (fun hc2 => ?_)
  ·have hlt : a < s.length := by have := of_decide_eq_true hc2; omega
   obtain ⟨c, hc⟩ : ∃ c, s[a]? = some c := ⟨s[a], List.getElem?_eq_getElem hlt⟩
   have hda := drop_at hc
   obtain ⟨hb, hr⟩ := skp_zero (c := c) (r := s.drop (a + 1)) (by rw [← hda]; exact hz)
   rw [← hda] at hr
   obtain ⟨hk0, hkn⟩ := tok_step hda hb hr
   refine Tri.skip (Tri.blk (Tri.seq (Tri.region ?_)))
   iterate 2 (refine TriL.c1 rfl (op_mv (ltb rfl) rfl) ?_)
   refine TriL.c1 rfl (op_cuts (ltb rfl) un9_q rfl rfl rfl (by omega) (by omega) (by omega)) ?_
   refine TriL.c1 rfl (op_call (ltb rfl) fn48_q rfl (one' hj hs)) ?_
   refine TriL.c1 rfl (op_mv (ltb rfl) rfl) ?_
   iterate 2 (refine TriL.c1 rfl (op_ext (ltb rfl) rfl rfl) ?_)
   refine TriL.c2 rfl (op_all (ltb rfl) zA68_q rfl) ?_
   refine TriL.c1 rfl (op_stl lk68_q rfl rfl rfl rfl rfl (leb rfl)) ?_
   refine TriL.c1 rfl (op_as (ltb rfl) rfl) ?_
   refine TriL.nil (Tri.seq (Tri.seq (Tri.region ?_)))
   refine TriL.c1 rfl (op_mv (ltb rfl) rfl) ?_
   refine TriL.c1 rfl (op_bin (ltb rfl) rfl rfl rfl) ?_
   refine TriL.nil ?_
   refine Tri.cond rfl (fun hc3 => ?_) (fun hc3 => ?_)
   ·refine Tri.seq (Tri.region ?_)
    refine TriL.c1 rfl (op_mv (ltb rfl) rfl) ?_
    iterate 3 (refine TriL.c1 rfl (op_as (ltb rfl) rfl) ?_)
    refine TriL.nil (Tri.ret ?_)
    exact ⟨.inr rfl, (ResOK.r3 rfl (.tmp rfl (.tmp rfl (.tmp rfl .nil)))).cast (by rw [allV_bad (by have := of_decide_eq_false hc1; omega) (hI.bad (hk0 (by have := eq_of_beq hc3; omega))), hj]), rfl⟩
   ·have hk1 : (nxtT (s.drop a)).2 ≠ 0 := by have := beq_eq_false_iff_ne.1 hc3; omega
    have hk2 : a + (nxtT (s.drop a)).2 ≤ s.length := by have := nxt_le (s.drop a); rw [List.length_drop] at this; omega
    have hw : IntKind.i64.wrap (j + ((nxtT (s.drop a)).2 : Int)) = ((a + (nxtT (s.drop a)).2 : Nat) : Int) := by rw [hj, wr64] <;> omega
    refine Tri.skip (Tri.seq (Tri.region ?_))
    refine TriL.c1 rfl (op_mv (ltb rfl) rfl) ?_
    refine TriL.c1 rfl (op_fal (ltb rfl) fo68_4_q rfl) ?_
    refine TriL.c1 rfl (op_stl lk3_q rfl rfl rfl rfl rfl (leb rfl)) ?_
    refine TriL.nil (Tri.seq (Tri.region ?_))
    refine TriL.c1 rfl (op_mv (ltb rfl) rfl) ?_
    refine TriL.c1 rfl (op_ldl (ltb rfl) lk68_q rfl rfl rfl) ?_
    refine TriL.c1 rfl (op_lit («as» := [_]) (ltb rfl) se61_q zAe61_q rfl rfl rfl (leb rfl)) ?_
    refine TriL.c3 rfl (op_app (ltb rfl) se61_q rfl rfl rfl rfl rfl (by simp; omega) (by simp; omega)) ?_
    refine TriL.c1 rfl (op_as (ltb rfl) rfl) ?_
    refine TriL.nil (Tri.region ?_)
    iterate 3 (refine TriL.c1 rfl (op_mv (ltb rfl) rfl) ?_)
    refine TriL.c1 rfl (op_bin (ltb rfl) rfl rfl rfl) ?_
    refine TriL.c1 rfl (op_call (ltb rfl) fn47_q rfl (pass' hw hs hk2)) ?_
    refine TriL.c1 rfl (op_as (ltb rfl) rfl) ?_
    refine TriL.kept (Kept.keep [.h, .s 0, .s 7, .t 37, .s 8] rfl (by decide) (Kept.ren 37 15 (by decide) rfl (Kept.now ?_)))
    obtain ⟨z1, z2, z3⟩ := skp_all _ (s.drop (a + (nxtT (s.drop a)).2)) (Nat.le_refl _)
    rw [List.drop_drop] at z2 z3
    rw [List.length_drop] at z1
    exact ⟨s.length - (a + (nxtT (s.drop a)).2 + skp (s.drop (a + (nxtT (s.drop a)).2))), by omega, a + (nxtT (s.drop a)).2 + skp (s.drop (a + (nxtT (s.drop a)).2)), ts ++ [(nxtT (s.drop a)).1.at a], _, by unfold StRa; rw [map_tok ts _ a j hj]; rfl, rfl, by omega, by simp; omega, (hI.tok (hkn hk1)).skip (z2 _), z3, rfl⟩
  ·refine Tri.exit (Tri.seq (Tri.region ?_))
   iterate 2 (refine TriL.c1 rfl (op_mv (ltb rfl) rfl) ?_)
   refine TriL.c1 rfl (op_lens (ltb rfl) un9_q rfl) ?_
   refine TriL.c1 rfl (op_bld (ltb rfl) spl68_q zA68_q rfl rfl) ?_
   refine TriL.c1 rfl (op_lit («as» := [_]) (ltb rfl) se61_q zAe61_q rfl rfl rfl (leb rfl)) ?_
   refine TriL.c3 rfl (op_app (ltb rfl) se61_q rfl rfl rfl rfl rfl (by simp; omega) (by simp; omega)) ?_
   refine TriL.c1 rfl (op_mv (ltb rfl) rfl) ?_
   refine TriL.c1 rfl (op_lens (ltb rfl) un9_q rfl) ?_
   iterate 3 (refine TriL.c1 rfl (op_as (ltb rfl) rfl) ?_)
   refine TriL.nil (Tri.ret ?_)
   exact ⟨.inr rfl, (ResOK.r3 rfl (.tmp rfl (.tmp rfl (.tmp rfl .nil)))).cast (by rw [allV_ok (by have := of_decide_eq_false hc1; omega) (hI.stop (List.drop_of_length_le (by have := of_decide_eq_false hc2; omega))), map_end]; rfl), rfl⟩
/- words of types; the values of digits; in the program and in the document. -/
theorem asz143_q : asz Tryz.prog 143 = some (16, 9, 1) := by kernel_rfl
theorem fn196_q : isFn Tryz.prog 196 = true := by kernel_rfl
theorem fn197_q : isFn Tryz.prog 197 = true := by kernel_rfl
theorem fn216_q : isFn Tryz.prog 216 = true := by kernel_rfl
theorem fn65_q : isFn Tryz.prog 65 = true := by kernel_rfl
theorem fn79_q : isFn Tryz.prog 79 = true := by kernel_rfl
theorem fo215_0_q : fo Tryz.prog 215 0 = some 0 := by kernel_rfl
theorem fo215_1_q : fo Tryz.prog 215 1 = some 1 := by kernel_rfl
theorem lk215_q : lk Tryz.prog 215 = some (true, 2) := by kernel_rfl
theorem spl215_q : spl Tryz.prog 215 = some [(0, 1), (1, 1)] := by kernel_rfl
theorem zA143_q : zeroA Tryz.prog 143 = some [AV.str [], AV.str [], AV.str [], AV.str [], AV.str [], AV.str [], AV.str [], AV.str [], AV.str [], AV.str [], AV.str [], AV.str [], AV.str [], AV.str [], AV.str [], AV.str []] := by kernel_rfl
theorem zA215_q : zeroA Tryz.prog 215 = some [AV.int IntKind.u64 (0), AV.bool false] := by kernel_rfl
theorem word_cell {t : Int} (h0 : 0 ≤ t) (h1 : t < 16) : (tyWords.map AV.str)[t.toNat]? = some (.str (wordOf t)) := by
 have : t = 0 ∨ t = 1 ∨ t = 2 ∨ t = 3 ∨ t = 4 ∨ t = 5 ∨ t = 6 ∨ t = 7 ∨ t = 8 ∨ t = 9 ∨ t = 10 ∨ t = 11 ∨ t = 12 ∨ t = 13 ∨ t = 14 ∨ t = 15 := by omega
 rcases this with rfl | rfl | rfl | rfl | rfl | rfl | rfl | rfl | rfl | rfl | rfl | rfl | rfl | rfl | rfl | rfl <;> rfl
theorem wordOf_out {t : Int} (h : t < 1 ∨ 13 < t) : wordOf t = [] := by
 unfold wordOf
 split
 ·rfl
 ·have : t = 0 ∨ t = 14 ∨ t = 15 := by omega
  rcases this with rfl | rfl | rfl <;> rfl
theorem lt16 {k : Nat} (h : decide ((k : Int) < 16) = true) : k < tyWords.length := by have := of_decide_eq_true h; show k < 16; omega
theorem ge16 {k : Nat} (h : decide ((k : Int) < 16) = false) : tyWords.length ≤ k := by have := of_decide_eq_false h; show 16 ≤ k; omega
theorem wordOf_ix {k : Nat} (h : k < tyWords.length) : wordOf ((k : Nat) : Int) = tyWords[k] := by
 have h' : k < 16 := h
 unfold wordOf
 rw [if_neg (by omega)]
 simp [h]
theorem word14 {k : Nat} (h : k < (tyWords.take 14).length) : tyWords.getD k [] = (tyWords.take 14)[k] := by
 have h2 : k < 14 := h
 have h3 : k < tyWords.length := Nat.lt_of_lt_of_le h2 (by decide)
 rw [List.getElem_take, List.getD_eq_getElem?_getD, List.getElem?_eq_getElem h3]; rfl
theorem ofT_hit {s : Str} {k : Nat} (h : s ≠ []) (e : ((k : Nat) : Int) = ixFrom (· == s) tyWords 0) : ofT s = k := by
 unfold ofT
 rw [if_neg h, ← e, if_neg (by omega)]
theorem ofT_miss {s : Str} (e : -1 = ixFrom (· == s) tyWords 0) : ofT s = 0 := by
 unfold ofT
 split
 ·rfl
 ·rw [← e, if_pos (by omega)]
theorem p_word (t : Int) : Pure Tryz.prog 65 [.int .i64 t] (.str (wordOf t)) := by
 refine Pure.of_tri Tryz.func65 rfl rfl (ltb rfl) fun H => ?_
 refine Tri.seq (Tri.region ?_)
 refine TriL.c1 rfl (op_as (ltb rfl) rfl) ?_
 refine TriL.nil (Tri.seq (Tri.seq (Tri.region ?_)))
 refine TriL.c1 rfl (op_mv (ltb rfl) rfl) ?_
 refine TriL.c1 rfl (op_bin (ltb rfl) rfl rfl rfl) ?_
 refine TriL.c1 rfl (op_mv (ltb rfl) rfl) ?_
 refine TriL.split (d := 5) rfl (fun hg1 => ?_) (fun hg1 => ?_)
 ·iterate 2 (refine TriL.skipu rfl rfl (ltb rfl) (ltb rfl) rfl hg1 ?_)
  refine TriL.c1 rfl (op_pickt (ltb rfl) rfl hg1 rfl) ?_
  refine TriL.nil ?_
  refine Tri.condT rfl rfl ?_
  refine Tri.seq (Tri.region ?_)
  refine TriL.c1 rfl (op_as (ltb rfl) rfl) ?_
  refine TriL.nil (Tri.ret ?_)
  exact ⟨.inr rfl, (ResOK.r1 rfl (.tmp rfl .nil)).cast (congrArg AV.str (by grind [wordOf])), rfl⟩
 ·refine TriL.g1 rfl (ltb rfl) rfl hg1 (op_mv (ltb rfl) rfl) ?_
  refine TriL.g1 rfl (ltb rfl) rfl hg1 (op_bin (ltb rfl) rfl rfl rfl) ?_
  refine TriL.c1 rfl (op_pickf (ltb rfl) rfl hg1 rfl) ?_
  refine TriL.nil ?_
  refine Tri.cond rfl (fun hc2 => ?_) (fun hc2 => ?_)
  ·refine Tri.seq (Tri.region ?_)
   refine TriL.c1 rfl (op_as (ltb rfl) rfl) ?_
   refine TriL.nil (Tri.ret ?_)
   exact ⟨.inr rfl, (ResOK.r1 rfl (.tmp rfl .nil)).cast (congrArg AV.str (by grind [wordOf])), rfl⟩
  ·refine Tri.skip (Tri.seq (Tri.region ?_))
   refine TriL.c1 rfl (op_blda (ltb rfl) asz143_q zA143_q rfl rfl) ?_
   refine TriL.c1 rfl (op_mv (ltb rfl) rfl) ?_
   refine TriL.c1 rfl (op_ixa (ltb rfl) asz143_q lk9_q rfl rfl (by grind) (by grind) (word_cell (by grind) (by grind))) ?_
   refine TriL.c1 rfl (op_as (ltb rfl) rfl) ?_
   refine TriL.nil (Tri.ret ?_)
   exact ⟨.inr rfl, (ResOK.r1 rfl (.tmp rfl .nil)).cast (congrArg AV.str (by grind [wordOf])), rfl⟩
theorem p_of (s : Str) : Pure Tryz.prog 164 [.str s] (.int .i64 (ofT s)) := by
 refine Pure.of_tri Tryz.func164 rfl rfl (ltb rfl) fun H => ?_
 refine Tri.seq (Tri.region ?_)
 refine TriL.c1 rfl (op_as (ltb rfl) rfl) ?_
 refine TriL.nil (Tri.seq (Tri.seq (Tri.region ?_)))
 refine TriL.c1 rfl (op_mv (ltb rfl) rfl) ?_
 refine TriL.c1 rfl (op_bin (ltb rfl) rfl rfl rfl) ?_
 refine TriL.nil ?_
 refine Tri.cond rfl (fun hc1 => ?_) (fun hc1 => ?_)
 ·refine Tri.seq (Tri.region ?_)
  refine TriL.c1 rfl (op_as (ltb rfl) rfl) ?_
  refine TriL.nil (Tri.ret ?_)
  exact ⟨.inr rfl, (ResOK.r1 rfl (.tmp rfl .nil)).cast (congrArg (AV.int .i64) (by have := eq_of_beq hc1; unfold ofT; rw [if_pos this])), rfl⟩
 ·refine Tri.skip (Tri.seq (Tri.seq (Tri.region ?_)))
  refine TriL.c1 rfl (op_mv (ltb rfl) rfl) ?_
  refine TriL.nil (Tri.blk ?_)
  refine Tri.ofKept (Kept.keep [.s 6, .h, .s 0] rfl (by decide) (Kept.now ?_))
  -- LOOP 1
  refine Tri.loopk (fun (k : Nat) => [(.s 6, .sv (.v (.int .i64 (k : Int))))]) _ (fun (k : Nat) => ixFrom (· == s) (tyWords.drop k) k = ixFrom (· == s) tyWords 0) (fun (k : Nat) => tyWords.length - k) 0 rfl (by simp) ?_
  rintro k hI
  refine Tri.seq (Tri.region ?_)
  refine TriL.c1 rfl (op_bin (ltb rfl) rfl rfl rfl) ?_
  refine TriL.nil (Tri.seq ?_)
  refine Tri.cond rfl (fun hc2 => ?_) (fun hc2 => ?_)
  ·have hk := lt16 hc2
   refine Tri.skip (Tri.seq (Tri.blk (Tri.seq (Tri.region ?_))))
   refine TriL.c1 rfl (op_mv (ltb rfl) rfl) ?_
   refine TriL.c1 rfl (op_as (ltb rfl) rfl) ?_
   refine TriL.nil (Tri.seq (Tri.region ?_))
   refine TriL.c1 rfl (op_mv (ltb rfl) rfl) ?_
   refine TriL.c1 rfl (op_call (ltb rfl) fn65_q rfl (p_word _)) ?_
   refine TriL.c1 rfl (op_mv (ltb rfl) rfl) ?_
   refine TriL.c1 rfl (op_bin (ltb rfl) rfl rfl rfl) ?_
   refine TriL.nil ?_
   refine Tri.cond rfl (fun hc3 => ?_) (fun hc3 => ?_)
   ·refine Tri.seq (Tri.region ?_)
    refine TriL.c1 rfl (op_mv (ltb rfl) rfl) ?_
    refine TriL.c1 rfl (op_as (ltb rfl) rfl) ?_
    refine TriL.nil (Tri.ret ?_)
    exact ⟨.inr rfl, (ResOK.r1 rfl (.tmp rfl .nil)).cast (congrArg (AV.int .i64) (ofT_hit (by simpa using hc1) (by rw [← hI, ixFrom_step hk, if_pos (by rw [← wordOf_ix hk]; exact hc3)])).symm), rfl⟩
   ·refine Tri.skip (Tri.region ?_)
    refine TriL.c1 rfl (op_bin (ltb rfl) rfl rfl rfl) ?_
    refine TriL.c1 rfl (op_mv (ltb rfl) rfl) ?_
    refine TriL.kept (Kept.seti 6 rfl (inc (by have : k < 16 := hk; omega)) (Kept.keep [.s 6, .h, .s 0] rfl (by decide) (Kept.now ?_)))
    exact ⟨k + 1, by omega, by rw [← hI, ixFrom_step hk, if_neg (by rw [← wordOf_ix hk]; simpa using hc3)], rfl⟩
  ·have hk := ge16 hc2
   refine Tri.exit (Tri.seq (Tri.region ?_))
   refine TriL.c1 rfl (op_as (ltb rfl) rfl) ?_
   refine TriL.nil (Tri.ret ?_)
   exact ⟨.inr rfl, (ResOK.r1 rfl (.tmp rfl .nil)).cast (congrArg (AV.int .i64) (ofT_miss (by rw [← hI, ixFrom_end hk])).symm), rfl⟩
theorem r_tywords : Pure Tryz.prog 79 [] (.sl ((tyWords.take 14).map .str)) := by
 refine Pure.of_tri Tryz.func79 rfl rfl (Nat.zero_le _) fun H => ?_
 refine Tri.seq (Tri.region ?_)
 refine TriL.c1 rfl (op_as (ltb rfl) rfl) ?_
 refine TriL.nil (Tri.seq (Tri.region ?_))
 refine TriL.c1 rfl (op_lit («as» := [_, _, _, _, _, _, _, _, _, _, _, _, _, _]) (ltb rfl) se40_q zAe40_q rfl rfl rfl (leb rfl)) ?_
 refine TriL.c1 rfl (op_as (ltb rfl) rfl) ?_
 refine TriL.nil (Tri.ret ?_)
 exact ⟨.inr rfl, (ResOK.r1 rfl (.tmp rfl .nil)).cast rfl, rfl⟩
theorem ofT_hit2 {s : Str} {k : Nat} (h1 : 1 ≤ k) (h : k < (tyWords.take 14).length) (e : ((tyWords.take 14)[k] == s) = true) : ofT s = k := by
 have h2 : k < 14 := h
 have e' := eq_of_beq e
 subst e'
 have : k = 1 ∨ k = 2 ∨ k = 3 ∨ k = 4 ∨ k = 5 ∨ k = 6 ∨ k = 7 ∨ k = 8 ∨ k = 9 ∨ k = 10 ∨ k = 11 ∨ k = 12 ∨ k = 13 := by omega
 rcases this with rfl | rfl | rfl | rfl | rfl | rfl | rfl | rfl | rfl | rfl | rfl | rfl | rfl <;> rfl
theorem ofT_miss2 {s : Str} (h : ∀ m, 1 ≤ m → m < 14 → tyWords.getD m [] ≠ s) : ofT s = 0 := by
 unfold ofT
 split
 ·rfl
 ·rename_i h0
  have e1 := h 1 (by decide) (by decide)
  have e2 := h 2 (by decide) (by decide)
  have e3 := h 3 (by decide) (by decide)
  have e4 := h 4 (by decide) (by decide)
  have e5 := h 5 (by decide) (by decide)
  have e6 := h 6 (by decide) (by decide)
  have e7 := h 7 (by decide) (by decide)
  have e8 := h 8 (by decide) (by decide)
  have e9 := h 9 (by decide) (by decide)
  have e10 := h 10 (by decide) (by decide)
  have e11 := h 11 (by decide) (by decide)
  have e12 := h 12 (by decide) (by decide)
  have e13 := h 13 (by decide) (by decide)
  simp only [tyWords, List.getD_cons_zero, List.getD_cons_succ] at e1 e2 e3 e4 e5 e6 e7 e8 e9 e10 e11 e12 e13
  have h0' : ([] : Str) ≠ s := fun e => h0 e.symm
  have : ixFrom (· == s) tyWords 0 = -1 := by
   simp only [tyWords, ixFrom, beq_iff_eq, h0', e1, e2, e3, e4, e5, e6, e7, e8, e9, e10, e11, e12, e13, if_false]
  rw [this]; rfl
theorem r_of (s : Str) : Pure Tryz.prog 120 [.str s] (.int .i64 (ofT s)) := by
 refine Pure.of_tri Tryz.func120 rfl rfl (ltb rfl) fun H => ?_
 refine Tri.seq (Tri.region ?_)
 refine TriL.c1 rfl (op_as (ltb rfl) rfl) ?_
 refine TriL.nil (Tri.seq (Tri.region ?_))
 refine TriL.c1 rfl (op_call (ltb rfl) fn79_q rfl r_tywords) ?_
 refine TriL.c1 rfl (op_as (ltb rfl) rfl) ?_
 refine TriL.nil (Tri.seq (Tri.seq (Tri.region ?_)))
 refine TriL.c1 rfl (op_as (ltb rfl) rfl) ?_
 refine TriL.nil (Tri.blk ?_)
 refine Tri.ofKept (Kept.keep [.s 4, .h, .s 0, .s 3] rfl (by decide) (Kept.now ?_))
 -- LOOP 1
 refine Tri.loopk (fun (k : Nat) => [(.s 4, .sv (.v (.int .i64 (k : Int))))]) _ (fun (k : Nat) => 1 ≤ k ∧ ∀ m, 1 ≤ m → m < k → tyWords.getD m [] ≠ s) (fun (k : Nat) => (tyWords.take 14).length - k) 1 rfl ⟨by decide, fun m h1 h2 => by omega⟩ ?_
 rintro k ⟨h0, hI⟩
 refine Tri.seq (Tri.seq (Tri.region ?_))
 iterate 2 (refine TriL.c1 rfl (op_mv (ltb rfl) rfl) ?_)
 refine TriL.c1 rfl (op_lenl (ltb rfl) un40_q rfl) ?_
 refine TriL.c1 rfl (op_bin (ltb rfl) rfl rfl rfl) ?_
 refine TriL.nil ?_
 refine Tri.cond rfl (fun hc1 => ?_) (fun hc1 => ?_)
 ·have hk := ltm hc1
  refine Tri.skip (Tri.seq (Tri.blk (Tri.seq (Tri.region ?_))))
  iterate 2 (refine TriL.c1 rfl (op_mv (ltb rfl) rfl) ?_)
  refine TriL.c1 rfl (op_iak (ltb rfl) ie40_q rfl rfl (Int.natCast_nonneg _) (ixm hk) rfl) ?_
  refine TriL.c1 rfl (op_ldk (ltb rfl) lk9_q rfl rfl) ?_
  refine TriL.c1 rfl (op_mv (ltb rfl) rfl) ?_
  refine TriL.c1 rfl (op_bin (ltb rfl) rfl rfl rfl) ?_
  refine TriL.nil ?_
  refine Tri.cond rfl (fun hc2 => ?_) (fun hc2 => ?_)
  ·refine Tri.seq (Tri.region ?_)
   refine TriL.c1 rfl (op_mv (ltb rfl) rfl) ?_
   refine TriL.c1 rfl (op_as (ltb rfl) rfl) ?_
   refine TriL.nil (Tri.ret ?_)
   exact ⟨.inr rfl, (ResOK.r1 rfl (.tmp rfl .nil)).cast (congrArg (AV.int .i64) (ofT_hit2 h0 hk hc2).symm), rfl⟩
  ·refine Tri.skip (Tri.region ?_)
   refine TriL.c1 rfl (op_mv (ltb rfl) rfl) ?_
   refine TriL.c1 rfl (op_bin (ltb rfl) rfl rfl rfl) ?_
   refine TriL.c1 rfl (op_as (ltb rfl) rfl) ?_
   refine TriL.kept (Kept.seti 4 rfl (inc (by have : k < 14 := hk; omega)) (Kept.keep [.s 4, .h, .s 0, .s 3] rfl (by decide) (Kept.now ?_)))
   exact ⟨k + 1, by omega, ⟨by omega, fun m h1 h2 => (by rcases Nat.lt_or_eq_of_le (Nat.le_of_lt_succ h2) with h | h; exact hI m h1 h; subst h; rw [word14 hk]; simpa using hc2)⟩, rfl⟩
 ·have hk := gem hc1
  refine Tri.exit (Tri.seq (Tri.region ?_))
  refine TriL.c1 rfl (op_as (ltb rfl) rfl) ?_
  refine TriL.nil (Tri.ret ?_)
  exact ⟨.inr rfl, (ResOK.r1 rfl (.tmp rfl .nil)).cast (congrArg (AV.int .i64) (ofT_miss2 fun m h1 h2 => hI m h1 (Nat.lt_of_lt_of_le h2 hk)).symm), rfl⟩
/-- a number: how far from 0, and on which side -/
structure CNum where
 far : Nat
 neg : Bool
 deriving DecidableEq
def CNum.cells (x : CNum) : List AV := [.int .u64 (x.far : Int), .bool x.neg]
def CNum.av (x : CNum) : AV := .agg x.cells
def splitT (t : Int) (n : Nat) : CNum := if signT t = true ∧ 9223372036854775808 ≤ n then ⟨18446744073709551616 - n, true⟩ else ⟨n, false⟩
def CNum.raw (x : CNum) : Nat := if x.neg = true ∧ 0 < x.far then 18446744073709551616 - x.far else x.far
def CNum.val (x : CNum) (t : Int) : Option Nat := if wholeT t = true ∧ mayT t x.raw = true ∧ splitT t x.raw = x then some x.raw else none
def optV (o : Option Nat) : AV := .tup [.int .u64 ((o.getD 0 : Nat) : Int), .bool o.isSome]
theorem neg64 {n : Nat} (h : n < 18446744073709551616) : IntKind.u64.wrap (0 - (n : Int)) = (((if 0 < n then 18446744073709551616 - n else n) : Nat) : Int) := by
 simp only [IntKind.wrap, IntKind.bits, IntKind.signed]
 by_cases h0 : 0 < n
 ·simp [h0]; omega
 ·have : n = 0 := by omega
  subst this; rfl
theorem neg64p {n : Nat} (h : n < 18446744073709551616) (h0 : 0 < n) : IntKind.u64.wrap (0 - (n : Int)) = ((18446744073709551616 - n : Nat) : Int) := by rw [neg64 h, if_pos h0]
theorem s64_neg {n : Nat} (h : n < 18446744073709551616) : decide (IntKind.i64.wrap (n : Int) < 0) = decide (9223372036854775808 ≤ n) := by
 have := s64_eq h
 unfold s64 at this
 rw [this]
 split <;> simp <;> omega
theorem rd_val {t : Int} {n : Nat} {neg : Bool} (h : n < 18446744073709551616) : CNum.val (if n = 0 then ⟨0, false⟩ else ⟨n, neg⟩) t = rdT t n neg := by
 unfold CNum.val rdT
 by_cases h0 : n = 0
 ·subst h0
  simp only [CNum.raw, splitT]
  cases wholeT t <;> simp
 ·rw [if_neg h0]
  simp only [CNum.raw, splitT]
  have hp : 0 < n := by omega
  cases hn : neg with
  | false =>
   cases hw : wholeT t <;> cases hs : signT t <;> simp
   by_cases h2 : 9223372036854775808 ≤ n
   ·simp [h2]
   ·have h5 : n < 9223372036854775808 := by omega
    simp [h2, h5]
  | true =>
   cases hw : wholeT t <;> cases hs : signT t <;> simp [hp]
   by_cases h2 : 9223372036854775808 < n
   ·have : ¬ 9223372036854775808 ≤ 18446744073709551616 - n := by omega
    simp [h2, this]
   ·have h3 : 9223372036854775808 ≤ 18446744073709551616 - n := by omega
    have h4 : 18446744073709551616 - (18446744073709551616 - n) = n := by omega
    simp [h2, h3, h4]
theorem eqGuardCNum : Tryz.prog.eqGuardType Tryz.prog.depth 215 = false := by kernel_rfl
theorem neqCNum_run (a b : CNum) (w : World) : (binOp .neq 215 (.agg #[.int .u64 (a.far : Int), .bool a.neg]) (.agg #[.int .u64 (b.far : Int), .bool b.neg])).run Tryz.prog w = .ok (.bool (!decide (a = b))) w := by
 obtain ⟨a0, a1⟩ := a
 obtain ⟨b0, b1⟩ := b
 go_simp
 by_cases h0 : a0 = b0
 ·by_cases h1 : a1 = b1
  ·simp [h0, h1, Int.natCast_inj]
  ·simp [h0, h1, Int.natCast_inj]
 ·simp [h0, Int.natCast_inj]
theorem CNum_val {G : Gh} {v : Value} {t : CNum} (h : V G v (.agg t.cells)) : v = (.agg #[.int .u64 (t.far : Int), .bool t.neg]) := by
 unfold CNum.cells at h
 cases h with
 | agg vs cs hl hf hv =>
  obtain ⟨l⟩ := vs
  match l, hl with
  | [x0, x1], _ =>
   have h0 : V G x0 (.int .u64 (t.far : Int)) := hv 0 _ rfl
   cases h0
   have h1 : V G x1 (.bool t.neg) := hv 1 _ rfl
   cases h1
   rfl
theorem op_nes215 {N : Nat} {s : St} {d : Nat} {ty : TypeId} {pos : String} {af : Array Edge} {g : Option (Nat × Bool)} {t2 : TypeId} {x y : Operand} {u v : AV} (a b : CNum) (hN : d < N) (hx : opv x s = some u) (hy : opv y s = some v) (hu : u = .agg a.cells) (hv : v = .agg b.cells) :
  OpOK Tryz.prog N ⟨some d, .binOp .neq 215 x y t2, ty, pos, af, g⟩ s (rd x ++ rd y) [(.s d, .sv (.v (.bool (!decide (a = b)))))] := by
 subst hu hv
 exact OpOK.val rfl hN fun E G L c w tt hr hR => by
  refine ⟨.bool (!decide (a = b)), ?_, .bool _⟩
  have h1 := CNum_val (opv_sound hr hR.left hx)
  have h2 := CNum_val (opv_sound hr hR.right hy)
  have hgd := run_eqGuard_agg (P := Tryz.prog) w .neq 215 x y #[.int .u64 (a.far : Int), .bool a.neg] #[.int .u64 (b.far : Int), .bool b.neg] eqGuardCNum
  simp only [execOp, Sem.run_bind, h1, h2, hgd, Result.andThen_ok, neqCNum_run, Sem.run_pure]
theorem p_czero : Pure Tryz.prog 196 [] (CNum.av ⟨0, false⟩) := by
 refine Pure.of_tri Tryz.func196 rfl rfl (Nat.zero_le _) fun H => ?_
 refine Tri.seq (Tri.region ?_)
 refine TriL.c2 rfl (op_all (ltb rfl) zA215_q rfl) ?_
 refine TriL.nil (Tri.seq (Tri.region ?_))
 refine TriL.c1 rfl (op_bld (ltb rfl) spl215_q zA215_q rfl rfl) ?_
 refine TriL.c1 rfl (op_stl lk215_q rfl rfl rfl rfl rfl (leb rfl)) ?_
 refine TriL.nil (Tri.ret ?_)
 exact ⟨.inr rfl, (ResOK.r1 rfl (.cell lk215_q rfl rfl rfl rfl .nil)).cast rfl, rfl⟩
theorem p_split (t : Int) (n : Nat) (hn : n < 18446744073709551616) : Pure Tryz.prog 216 [.int .i64 t, .int .u64 (n : Int)] (splitT t n).av := by
 refine Pure.of_tri Tryz.func216 rfl rfl (ltb rfl) fun H => ?_
 refine Tri.seq (Tri.region ?_)
 refine TriL.c2 rfl (op_all (ltb rfl) zA215_q rfl) ?_
 refine TriL.nil (Tri.seq (Tri.seq (Tri.region ?_)))
 refine TriL.c1 rfl (op_mv (ltb rfl) rfl) ?_
 refine TriL.c1 rfl (op_call (ltb rfl) fn148_q rfl (p_signT _)) ?_
 refine TriL.c1 rfl (op_mv (ltb rfl) rfl) ?_
 refine TriL.split (d := 7) rfl (fun hg1 => ?_) (fun hg1 => ?_)
 ·refine TriL.g1 rfl (ltb rfl) rfl hg1 (op_mv (ltb rfl) rfl) ?_
  refine TriL.g1 rfl (ltb rfl) rfl hg1 (op_cvi (ltb rfl) un41_q un2_q rfl) ?_
  refine TriL.g1 rfl (ltb rfl) rfl hg1 (op_bin (ltb rfl) rfl rfl rfl) ?_
  refine TriL.c1 rfl (op_pickt (ltb rfl) rfl hg1 rfl) ?_
  refine TriL.nil ?_
  refine Tri.cond rfl (fun hc2 => ?_) (fun hc2 => ?_)
  ·refine Tri.seq (Tri.region ?_)
   refine TriL.c1 rfl (op_mv (ltb rfl) rfl) ?_
   refine TriL.c1 rfl (op_un (ltb rfl) rfl rfl) ?_
   refine TriL.c1 rfl (op_bld (ltb rfl) spl215_q zA215_q rfl rfl) ?_
   refine TriL.c1 rfl (op_stl lk215_q rfl rfl rfl rfl rfl (leb rfl)) ?_
   refine TriL.nil (Tri.ret ?_)
   exact ⟨.inr rfl, (ResOK.r1 rfl (.cell lk215_q rfl rfl rfl rfl .nil)).cast (by rw [s64_neg hn] at hc2; have h3 := of_decide_eq_true hc2; simp only [splitT, if_pos (And.intro hg1 h3), CNum.av, CNum.cells]; rw [neg64p hn (by omega)]), rfl⟩
  ·refine Tri.skip (Tri.seq (Tri.region ?_))
   refine TriL.c1 rfl (op_mv (ltb rfl) rfl) ?_
   refine TriL.c1 rfl (op_bld (ltb rfl) spl215_q zA215_q rfl rfl) ?_
   refine TriL.c1 rfl (op_stl lk215_q rfl rfl rfl rfl rfl (leb rfl)) ?_
   refine TriL.nil (Tri.ret ?_)
   exact ⟨.inr rfl, (ResOK.r1 rfl (.cell lk215_q rfl rfl rfl rfl .nil)).cast (by rw [s64_neg hn] at hc2; have h3 := of_decide_eq_false hc2; simp only [splitT, if_neg (fun h : signT t = true ∧ 9223372036854775808 ≤ n => h3 h.2), CNum.av, CNum.cells]), rfl⟩
 ·iterate 3 (refine TriL.skipu rfl rfl (ltb rfl) (ltb rfl) rfl hg1 ?_)
  refine TriL.c1 rfl (op_pickf (ltb rfl) rfl hg1 rfl) ?_
  refine TriL.nil ?_
  refine Tri.condF rfl rfl ?_
  refine Tri.skip (Tri.seq (Tri.region ?_))
  refine TriL.c1 rfl (op_mv (ltb rfl) rfl) ?_
  refine TriL.c1 rfl (op_bld (ltb rfl) spl215_q zA215_q rfl rfl) ?_
  refine TriL.c1 rfl (op_stl lk215_q rfl rfl rfl rfl rfl (leb rfl)) ?_
  refine TriL.nil (Tri.ret ?_)
  exact ⟨.inr rfl, (ResOK.r1 rfl (.cell lk215_q rfl rfl rfl rfl .nil)).cast (by simp only [splitT, if_neg (fun h : signT t = true ∧ 9223372036854775808 ≤ n => by rw [hg1] at h; cases h.1), CNum.av, CNum.cells]), rfl⟩
theorem CNum.raw_lt {x : CNum} (h : x.far < 18446744073709551616) : x.raw < 18446744073709551616 := by unfold CNum.raw; split <;> omega
theorem CNum.raw_neg {x : CNum} (h : x.far < 18446744073709551616) (hn : x.neg = true) : IntKind.u64.wrap (0 - (x.far : Int)) = (x.raw : Int) := by
 rw [neg64 h]; unfold CNum.raw; simp only [hn, true_and]
theorem CNum.raw_pos {x : CNum} (hn : x.neg = false) : (x.far : Int) = (x.raw : Int) := by unfold CNum.raw; simp [hn]
theorem CNum.val_no {x : CNum} {t : Int} (h : ¬ (wholeT t = true ∧ mayT t x.raw = true ∧ splitT t x.raw = x)) : x.val t = none := if_neg h
theorem CNum.val_yes {x : CNum} {t : Int} (h1 : wholeT t = true) (h2 : mayT t x.raw = true) (h3 : splitT t x.raw = x) : x.val t = some x.raw := if_pos ⟨h1, h2, h3⟩
theorem p_cval (x : CNum) (t : Int) (hn : x.far < 18446744073709551616) : Pure Tryz.prog 197 [x.av, .int .i64 t] (optV (x.val t)) := by
 refine Pure.of_tri Tryz.func197 rfl rfl (ltb rfl) fun H => ?_
 refine Tri.seq (Tri.region ?_)
 refine TriL.c2 rfl (op_box (ltb rfl) rfl rfl rfl) ?_
 iterate 2 (refine TriL.c1 rfl (op_as (ltb rfl) rfl) ?_)
 refine TriL.nil (Tri.seq (Tri.region ?_))
 refine TriL.c1 rfl (op_fal (ltb rfl) fo215_0_q rfl) ?_
 refine TriL.c1 rfl (op_ldl (ltb rfl) lk41_q rfl rfl rfl) ?_
 refine TriL.c1 rfl (op_as (ltb rfl) rfl) ?_
 refine TriL.nil ?_
 refine Tri.joinu [.h, .s 1, .s 2, .b 2] (fun (m : Int) => [(.s 6, .sv (.v (.int .u64 m)))]) (fun (m : Int) => m = (x.raw : Int)) rfl ?_ ?_
 ·refine Tri.seq (Tri.region ?_)
  refine TriL.c1 rfl (op_fal (ltb rfl) fo215_1_q rfl) ?_
  refine TriL.c1 rfl (op_ldl (ltb rfl) lk4_q rfl rfl rfl) ?_
  refine TriL.nil ?_
  refine Tri.cond rfl (fun hc1 => ?_) (fun hc1 => ?_)
  ·-- region 3 conv.go:30
   refine Tri.region ?_
   refine TriL.c1 rfl (op_mv (ltb rfl) rfl) ?_
   refine TriL.c1 rfl (op_un (ltb rfl) rfl rfl) ?_
   refine TriL.c1 rfl (op_as (ltb rfl) rfl) ?_
   refine TriL.kept (Kept.keep [.s 6, .h, .s 1, .s 2, .b 2] rfl (by decide) (Kept.now ?_))
   exact ⟨_, x.raw_neg hn hc1, rfl⟩
  ·refine Tri.ofKept (Kept.keep [.s 6, .h, .s 1, .s 2, .b 2] rfl (by decide) (Kept.now ?_))
   refine Tri.skip ?_
   exact ⟨_, x.raw_pos hc1, rfl⟩
 ·rintro m rfl
  refine Tri.seq (Tri.seq ?_)
  refine Tri.drawn mixed rfl ?_
  refine TriD.c1 rfl (op_mv (ltb rfl) rfl) ?_
  refine TriD.c1 rfl (op_call (ltb rfl) fn64_q rfl (p_wholeT _)) ?_
  refine TriD.c1 rfl (op_un (ltb rfl) rfl rfl) ?_
  refine TriD.c1 rfl (op_mv (ltb rfl) rfl) ?_
  refine TriD.split (d := 16) rfl (fun hg2 => ?_) (fun hg2 => ?_)
  ·iterate 4 (refine TriD.skipu rfl rfl (ltb rfl) (ltb rfl) rfl hg2 ?_)
   refine TriD.c1 rfl (op_pickt (ltb rfl) rfl hg2 rfl) ?_
   refine TriD.c1 rfl (op_mv (ltb rfl) rfl) ?_
   iterate 5 (refine TriD.skipu rfl rfl (ltb rfl) (ltb rfl) rfl rfl ?_)
   refine TriD.c1 rfl (op_pickt (ltb rfl) rfl rfl rfl) ?_
   refine TriD.nil (by kernel_rfl) (Kept.now ?_)
   refine Tri.condT rfl rfl ?_
   refine Tri.seq (Tri.region ?_)
   iterate 2 (refine TriL.c1 rfl (op_as (ltb rfl) rfl) ?_)
   refine TriL.nil (Tri.ret ?_)
   exact ⟨.inr rfl, (ResOK.r2 rfl (.tmp rfl (.tmp rfl .nil))).cast (by rw [x.val_no (by grind)]; rfl), rfl⟩
  ·iterate 2 (refine TriD.g1 rfl (ltb rfl) rfl hg2 (op_mv (ltb rfl) rfl) ?_)
   refine TriD.g1 rfl (ltb rfl) rfl hg2 (op_call (ltb rfl) fn108_q rfl (p_may _ _)) ?_
   refine TriD.g1 rfl (ltb rfl) rfl hg2 (op_un (ltb rfl) rfl rfl) ?_
   refine TriD.c1 rfl (op_pickf (ltb rfl) rfl hg2 rfl) ?_
   refine TriD.c1 rfl (op_mv (ltb rfl) rfl) ?_
   refine TriD.split (d := 22) rfl (fun hg3 => ?_) (fun hg3 => ?_)
   ·iterate 5 (refine TriD.skipu rfl rfl (ltb rfl) (ltb rfl) rfl hg3 ?_)
    refine TriD.c1 rfl (op_pickt (ltb rfl) rfl hg3 rfl) ?_
    refine TriD.nil (by kernel_rfl) (Kept.now ?_)
    refine Tri.condT rfl rfl ?_
    refine Tri.seq (Tri.region ?_)
    iterate 2 (refine TriL.c1 rfl (op_as (ltb rfl) rfl) ?_)
    refine TriL.nil (Tri.ret ?_)
    exact ⟨.inr rfl, (ResOK.r2 rfl (.tmp rfl (.tmp rfl .nil))).cast (by rw [x.val_no (by grind)]; rfl), rfl⟩
   ·iterate 2 (refine TriD.g1 rfl (ltb rfl) rfl hg3 (op_mv (ltb rfl) rfl) ?_)
    refine TriD.g1 rfl (ltb rfl) rfl hg3 (op_call (ltb rfl) fn216_q rfl (p_split _ _ (x.raw_lt hn))) ?_
    refine TriD.g1 rfl (ltb rfl) rfl hg3 (op_ldl (ltb rfl) lk215_q rfl rfl rfl) ?_
    refine TriD.g1 rfl (ltb rfl) rfl hg3 (op_nes215 (splitT t x.raw) x (ltb rfl) rfl rfl rfl rfl) ?_
    refine TriD.c1 rfl (op_pickf (ltb rfl) rfl hg3 rfl) ?_
    refine TriD.nil (by kernel_rfl) (Kept.now ?_)
    refine Tri.cond rfl (fun hc4 => ?_) (fun hc4 => ?_)
    ·refine Tri.seq (Tri.region ?_)
     iterate 2 (refine TriL.c1 rfl (op_as (ltb rfl) rfl) ?_)
     refine TriL.nil (Tri.ret ?_)
     exact ⟨.inr rfl, (ResOK.r2 rfl (.tmp rfl (.tmp rfl .nil))).cast (by rw [x.val_no (by grind)]; rfl), rfl⟩
    ·refine Tri.skip (Tri.seq (Tri.region ?_))
     refine TriL.c1 rfl (op_mv (ltb rfl) rfl) ?_
     iterate 2 (refine TriL.c1 rfl (op_as (ltb rfl) rfl) ?_)
     refine TriL.nil (Tri.ret ?_)
     exact ⟨.inr rfl, (ResOK.r2 rfl (.tmp rfl (.tmp rfl .nil))).cast (by rw [x.val_yes (by grind) (by grind) (by grind)]; rfl), rfl⟩
theorem p_read (t : Int) (n : Nat) (neg : Bool) (hn : n < 18446744073709551616) : Pure Tryz.prog 166 [.int .i64 t, .int .u64 (n : Int), .bool neg] (optV (rdT t n neg)) := by
 refine Pure.of_tri Tryz.func166 rfl rfl (ltb rfl) fun H => ?_
 refine Tri.seq (Tri.region ?_)
 iterate 2 (refine TriL.c1 rfl (op_as (ltb rfl) rfl) ?_)
 refine TriL.nil (Tri.seq (Tri.region ?_))
 iterate 2 (refine TriL.c1 rfl (op_mv (ltb rfl) rfl) ?_)
 refine TriL.c1 rfl (op_bld (ltb rfl) spl215_q zA215_q rfl rfl) ?_
 refine TriL.c2 rfl (op_all (ltb rfl) zA215_q rfl) ?_
 refine TriL.c1 rfl (op_stl lk215_q rfl rfl rfl rfl rfl (leb rfl)) ?_
 refine TriL.nil ?_
 refine Tri.joinu [.h, .s 0] (fun (x : CNum) => [(.b 8, .bx [.v (.int .u64 (x.far : Int)), .v (.bool x.neg)]), (.s 8, .sv (.lp 8 0))]) (fun (x : CNum) => x = if n = 0 then ⟨0, false⟩ else ⟨n, neg⟩) rfl ?_ ?_
 ·refine Tri.seq (Tri.region ?_)
  refine TriL.c1 rfl (op_mv (ltb rfl) rfl) ?_
  refine TriL.c1 rfl (op_bin (ltb rfl) rfl rfl rfl) ?_
  refine TriL.nil ?_
  refine Tri.cond rfl (fun hc1 => ?_) (fun hc1 => ?_)
  ·-- region 3 conv.go:62
   refine Tri.region ?_
   refine TriL.c1 rfl (op_call (ltb rfl) fn196_q rfl p_czero) ?_
   refine TriL.c1 rfl (op_stl lk215_q rfl rfl rfl rfl rfl (leb rfl)) ?_
   refine TriL.kept (Kept.keep [.b 8, .s 8, .h, .s 0] rfl (by decide) (Kept.now ?_))
   exact ⟨⟨0, false⟩, (by rw [if_pos (by have := eq_of_beq hc1; omega)]), rfl⟩
  ·refine Tri.ofKept (Kept.keep [.b 8, .s 8, .h, .s 0] rfl (by decide) (Kept.now ?_))
   refine Tri.skip ?_
   exact ⟨⟨n, neg⟩, (by rw [if_neg (by simpa using hc1)]), rfl⟩
 ·rintro x hx
  refine Tri.seq (Tri.region ?_)
  refine TriL.c1 rfl (op_ldl (ltb rfl) lk215_q rfl rfl rfl) ?_
  refine TriL.c1 rfl (op_mv (ltb rfl) rfl) ?_
  refine TriL.c1 rfl (op_call (ltb rfl) fn197_q rfl (p_cval _ _ (by rw [hx]; split <;> first | exact hn | decide))) ?_
  iterate 2 (refine TriL.c1 rfl (op_ext (ltb rfl) rfl rfl) ?_)
  iterate 2 (refine TriL.c1 rfl (op_as (ltb rfl) rfl) ?_)
  refine TriL.nil (Tri.ret ?_)
  exact ⟨.inr rfl, (ResOK.r2 rfl (.tmp rfl (.tmp rfl .nil))).cast (by rw [hx, rd_val hn]; rfl), rfl⟩
theorem r_read (t : Int) (n : Nat) (neg : Bool) (hn : n < 18446744073709551616) : Pure Tryz.prog 121 [.int .i64 t, .int .u64 (n : Int), .bool neg] (optV (rdT t n neg)) := by
 refine Pure.of_tri Tryz.func121 rfl rfl (ltb rfl) fun H => ?_
 refine Tri.seq (Tri.region ?_)
 iterate 2 (refine TriL.c1 rfl (op_as (ltb rfl) rfl) ?_)
 refine TriL.nil (Tri.seq (Tri.seq (Tri.region ?_)))
 refine TriL.c1 rfl (op_mv (ltb rfl) rfl) ?_
 refine TriL.c1 rfl (op_call (ltb rfl) fn37_q rfl (r_wholeT _)) ?_
 refine TriL.c1 rfl (op_un (ltb rfl) rfl rfl) ?_
 refine TriL.nil ?_
 refine Tri.cond rfl (fun hc1 => ?_) (fun hc1 => ?_)
 ·refine Tri.seq (Tri.region ?_)
  iterate 2 (refine TriL.c1 rfl (op_as (ltb rfl) rfl) ?_)
  refine TriL.nil (Tri.ret ?_)
  exact ⟨.inr rfl, (ResOK.r2 rfl (.tmp rfl (.tmp rfl .nil))).cast (by rw [show rdT t n neg = none by grind [rdT]]; rfl), rfl⟩
 ·refine Tri.skip (Tri.seq (Tri.region ?_))
  refine TriL.c1 rfl (op_mv (ltb rfl) rfl) ?_
  refine TriL.c1 rfl (op_as (ltb rfl) rfl) ?_
  refine TriL.nil ?_
  refine Tri.joinu [.h, .s 0] (fun (m : Int) => [(.s 8, .sv (.v (.int .u64 m)))]) (fun (m : Int) => ∃ v : Nat, m = (v : Int) ∧ rdT t n neg = if mayT t v then some v else none) rfl ?_ ?_
  ·refine Tri.seq (Tri.region ?_)
   iterate 2 (refine TriL.c1 rfl (op_mv (ltb rfl) rfl) ?_)
   refine TriL.split (d := 14) rfl (fun hg2 => ?_) (fun hg2 => ?_)
   ·refine TriL.g1 rfl (ltb rfl) rfl hg2 (op_mv (ltb rfl) rfl) ?_
    refine TriL.g1 rfl (ltb rfl) rfl hg2 (op_bin (ltb rfl) rfl rfl rfl) ?_
    refine TriL.c1 rfl (op_pickt (ltb rfl) rfl hg2 rfl) ?_
    refine TriL.nil ?_
    refine Tri.cond rfl (fun hc3 => ?_) (fun hc3 => ?_)
    ·refine Tri.seq (Tri.seq (Tri.region ?_))
     refine TriL.c1 rfl (op_mv (ltb rfl) rfl) ?_
     refine TriL.c1 rfl (op_call (ltb rfl) fn111_q rfl (r_signT _)) ?_
     refine TriL.c1 rfl (op_un (ltb rfl) rfl rfl) ?_
     refine TriL.c1 rfl (op_mv (ltb rfl) rfl) ?_
     refine TriL.split (d := 21) rfl (fun hg4 => ?_) (fun hg4 => ?_)
     ·iterate 2 (refine TriL.skipu rfl rfl (ltb rfl) (ltb rfl) rfl hg4 ?_)
      refine TriL.c1 rfl (op_pickt (ltb rfl) rfl hg4 rfl) ?_
      refine TriL.nil ?_
      refine Tri.condT rfl rfl ?_
      refine Tri.seq (Tri.region ?_)
      iterate 2 (refine TriL.c1 rfl (op_as (ltb rfl) rfl) ?_)
      refine TriL.nil (Tri.ret ?_)
      exact ⟨.inr rfl, (ResOK.r2 rfl (.tmp rfl (.tmp rfl .nil))).cast (by rw [show rdT t n neg = none by grind [rdT]]; rfl), rfl⟩
     ·refine TriL.g1 rfl (ltb rfl) rfl hg4 (op_mv (ltb rfl) rfl) ?_
      refine TriL.g1 rfl (ltb rfl) rfl hg4 (op_bin (ltb rfl) rfl rfl rfl) ?_
      refine TriL.c1 rfl (op_pickf (ltb rfl) rfl hg4 rfl) ?_
      refine TriL.nil ?_
      refine Tri.cond rfl (fun hc5 => ?_) (fun hc5 => ?_)
      ·refine Tri.seq (Tri.region ?_)
       iterate 2 (refine TriL.c1 rfl (op_as (ltb rfl) rfl) ?_)
       refine TriL.nil (Tri.ret ?_)
       exact ⟨.inr rfl, (ResOK.r2 rfl (.tmp rfl (.tmp rfl .nil))).cast (by rw [show rdT t n neg = none by grind [rdT]]; rfl), rfl⟩
      ·refine Tri.skip (Tri.region ?_)
       refine TriL.c1 rfl (op_mv (ltb rfl) rfl) ?_
       refine TriL.c1 rfl (op_bin (ltb rfl) rfl rfl rfl) ?_
       refine TriL.c1 rfl (op_as (ltb rfl) rfl) ?_
       refine TriL.kept (Kept.keep [.s 8, .h, .s 0] rfl (by decide) (Kept.now ?_))
       exact ⟨_, ⟨18446744073709551616 - n, neg64p hn (by grind), by grind [rdT]⟩, rfl⟩
    ·refine Tri.seq (Tri.region ?_)
     refine TriL.c1 rfl (op_mv (ltb rfl) rfl) ?_
     refine TriL.c1 rfl (op_call (ltb rfl) fn111_q rfl (r_signT _)) ?_
     refine TriL.c1 rfl (op_mv (ltb rfl) rfl) ?_
     refine TriL.split (d := 29) rfl (fun hg6 => ?_) (fun hg6 => ?_)
     ·refine TriL.g1 rfl (ltb rfl) rfl hg6 (op_mv (ltb rfl) rfl) ?_
      refine TriL.g1 rfl (ltb rfl) rfl hg6 (op_bin (ltb rfl) rfl rfl rfl) ?_
      refine TriL.c1 rfl (op_pickt (ltb rfl) rfl hg6 rfl) ?_
      refine TriL.nil ?_
      refine Tri.cond rfl (fun hc7 => ?_) (fun hc7 => ?_)
      ·refine Tri.seq (Tri.region ?_)
       iterate 2 (refine TriL.c1 rfl (op_as (ltb rfl) rfl) ?_)
       refine TriL.nil (Tri.ret ?_)
       exact ⟨.inr rfl, (ResOK.r2 rfl (.tmp rfl (.tmp rfl .nil))).cast (by rw [show rdT t n neg = none by grind [rdT]]; rfl), rfl⟩
      ·refine Tri.ofKept (Kept.keep [.s 8, .h, .s 0] rfl (by decide) (Kept.now ?_))
       refine Tri.skip ?_
       exact ⟨_, ⟨n, rfl, by grind [rdT]⟩, rfl⟩
     ·iterate 2 (refine TriL.skipu rfl rfl (ltb rfl) (ltb rfl) rfl hg6 ?_)
      refine TriL.c1 rfl (op_pickf (ltb rfl) rfl hg6 rfl) ?_
      refine TriL.nil ?_
      refine Tri.condF rfl rfl ?_
      refine Tri.ofKept (Kept.keep [.s 8, .h, .s 0] rfl (by decide) (Kept.now ?_))
      refine Tri.skip ?_
      exact ⟨_, ⟨n, rfl, by grind [rdT]⟩, rfl⟩
   ·iterate 2 (refine TriL.skipu rfl rfl (ltb rfl) (ltb rfl) rfl hg2 ?_)
    refine TriL.c1 rfl (op_pickf (ltb rfl) rfl hg2 rfl) ?_
    refine TriL.nil ?_
    refine Tri.condF rfl rfl ?_
    refine Tri.seq (Tri.region ?_)
    refine TriL.c1 rfl (op_mv (ltb rfl) rfl) ?_
    refine TriL.c1 rfl (op_call (ltb rfl) fn111_q rfl (r_signT _)) ?_
    refine TriL.c1 rfl (op_mv (ltb rfl) rfl) ?_
    refine TriL.split (d := 29) rfl (fun hg8 => ?_) (fun hg8 => ?_)
    ·refine TriL.g1 rfl (ltb rfl) rfl hg8 (op_mv (ltb rfl) rfl) ?_
     refine TriL.g1 rfl (ltb rfl) rfl hg8 (op_bin (ltb rfl) rfl rfl rfl) ?_
     refine TriL.c1 rfl (op_pickt (ltb rfl) rfl hg8 rfl) ?_
     refine TriL.nil ?_
     refine Tri.cond rfl (fun hc9 => ?_) (fun hc9 => ?_)
     ·refine Tri.seq (Tri.region ?_)
      iterate 2 (refine TriL.c1 rfl (op_as (ltb rfl) rfl) ?_)
      refine TriL.nil (Tri.ret ?_)
      exact ⟨.inr rfl, (ResOK.r2 rfl (.tmp rfl (.tmp rfl .nil))).cast (by rw [show rdT t n neg = none by grind [rdT]]; rfl), rfl⟩
     ·refine Tri.ofKept (Kept.keep [.s 8, .h, .s 0] rfl (by decide) (Kept.now ?_))
      refine Tri.skip ?_
      exact ⟨_, ⟨n, rfl, by grind [rdT]⟩, rfl⟩
    ·iterate 2 (refine TriL.skipu rfl rfl (ltb rfl) (ltb rfl) rfl hg8 ?_)
     refine TriL.c1 rfl (op_pickf (ltb rfl) rfl hg8 rfl) ?_
     refine TriL.nil ?_
     refine Tri.condF rfl rfl ?_
     refine Tri.ofKept (Kept.keep [.s 8, .h, .s 0] rfl (by decide) (Kept.now ?_))
     refine Tri.skip ?_
     exact ⟨_, ⟨n, rfl, by grind [rdT]⟩, rfl⟩
  ·rintro m ⟨v, rfl, hv⟩
   refine Tri.seq (Tri.seq (Tri.region ?_))
   iterate 2 (refine TriL.c1 rfl (op_mv (ltb rfl) rfl) ?_)
   refine TriL.c1 rfl (op_call (ltb rfl) fn74_q rfl (r_may _ _)) ?_
   refine TriL.c1 rfl (op_un (ltb rfl) rfl rfl) ?_
   refine TriL.nil ?_
   refine Tri.cond rfl (fun hc10 => ?_) (fun hc10 => ?_)
   ·refine Tri.seq (Tri.region ?_)
    iterate 2 (refine TriL.c1 rfl (op_as (ltb rfl) rfl) ?_)
    refine TriL.nil (Tri.ret ?_)
    exact ⟨.inr rfl, (ResOK.r2 rfl (.tmp rfl (.tmp rfl .nil))).cast (by rw [hv, if_neg (by grind)]; rfl), rfl⟩
   ·refine Tri.skip (Tri.seq (Tri.region ?_))
    refine TriL.c1 rfl (op_mv (ltb rfl) rfl) ?_
    iterate 2 (refine TriL.c1 rfl (op_as (ltb rfl) rfl) ?_)
    refine TriL.nil (Tri.ret ?_)
    exact ⟨.inr rfl, (ResOK.r2 rfl (.tmp rfl (.tmp rfl .nil))).cast (by rw [hv, if_pos (by grind)]; rfl), rfl⟩
/- mparse: the reader: tokens one by one. -/
theorem con116_q : Program.concrete Tryz.prog 116 = true := by kernel_rfl
theorem fn132_q : isFn Tryz.prog 132 = true := by kernel_rfl
theorem fn134_q : isFn Tryz.prog 134 = true := by kernel_rfl
theorem fn136_q : isFn Tryz.prog 136 = true := by kernel_rfl
theorem fn137_q : isFn Tryz.prog 137 = true := by kernel_rfl
theorem fn138_q : isFn Tryz.prog 138 = true := by kernel_rfl
theorem fn164_q : isFn Tryz.prog 164 = true := by kernel_rfl
theorem fn59_q : isFn Tryz.prog 59 = true := by kernel_rfl
theorem fn98_q : isFn Tryz.prog 98 = true := by kernel_rfl
theorem fn99_q : isFn Tryz.prog 99 = true := by kernel_rfl
theorem fo112_0_q : fo Tryz.prog 112 0 = some 0 := by kernel_rfl
theorem fo112_1_q : fo Tryz.prog 112 1 = some 1 := by kernel_rfl
theorem fo112_2_q : fo Tryz.prog 112 2 = some 2 := by kernel_rfl
theorem fo112_3_q : fo Tryz.prog 112 3 = some 3 := by kernel_rfl
theorem fo75_0_q : fo Tryz.prog 75 0 = some 0 := by kernel_rfl
theorem fo75_1_q : fo Tryz.prog 75 1 = some 1 := by kernel_rfl
theorem fof112_1_q : fof Tryz.prog 112 1 = some (1, false, 1) := by kernel_rfl
theorem fof112_4_q : fof Tryz.prog 112 4 = some (4, false, 1) := by kernel_rfl
theorem ie70_q : ie Tryz.prog 70 = some 5 := by kernel_rfl
theorem lk70_q : lk Tryz.prog 70 = some (false, 1) := by kernel_rfl
theorem lk88_q : lk Tryz.prog 88 = some (false, 1) := by kernel_rfl
theorem spl116_q : spl Tryz.prog 116 = some [(0, 1)] := by kernel_rfl
theorem zA116_q : zeroA Tryz.prog 116 = some [AV.int IntKind.i64 (0)] := by kernel_rfl
def Tk.cells (t : Tk) : List AV := [.int .i64 t.k, .str t.s, .int .u64 t.n, .bool t.neg, .int .i64 t.pos]
theorem Tk.av_eq (t : Tk) : t.av = .agg t.cells := rfl
/-- a reader at a token -/
def rdC (L : List Tk) (i : Nat) : List Hc := [.v (.sl (L.map Tk.av)), .v (.int .i64 (i : Int))]
def Hat (H : Hp) (id : Nat) (L : List Tk) (j : Nat) : Hp := H.set id (rdC L j)
/-- what a reader gives up with -/
def pv (L : List Tk) (j : Nat) : Value := .iface 116 (.agg #[.int .i64 ((tkAt L j).pos : Int)])
structure Toks (L : List Tk) : Prop where
 len : L.length ≤ 1000000
 fin : ∀ i, i < L.length → (tkAt L i).k ≠ 0 → i + 1 < L.length
 n : ∀ t ∈ L, t.n < 18446744073709551616
 m : ∀ t ∈ L, t.k = 4 → t.s.length = 1
theorem tkAt_eq {L : List Tk} {i : Nat} (h : i < L.length) : tkAt L i = L[i] := by simp [tkAt, h]
theorem tkAt_ix {L : List Tk} {i : Nat} (h : i < L.length) : (L.map Tk.av)[((i : Nat) : Int).toNat]? = some (.agg (tkAt L i).cells) := by
 rw [tkAt_eq h]; exact ixmE Tk.av_eq h
theorem inc1 {n : Nat} (h : n < 9223372036854775807) : IntKind.i64.wrap ((n : Int) + 1) = ((n + 1 : Nat) : Int) := inc h
/-- one token further -/
theorem Hat_inc (H : Hp) (id : Nat) {L : List Tk} (hL : Toks L) {i : Nat} (hi : i < L.length) : (Hat H id L i).set id ((rdC L i).set 1 (.v (.int .i64 (IntKind.i64.wrap ((i : Int) + 1))))) = Hat H id L (i + 1) := by
 rw [inc1 (by have := hL.len; omega)]; exact Hp.set_set
theorem now_run {L : List Tk} (hL : Toks L) (H : Hp) (id : Nat) {i : Nat} (hi : i < L.length) : Run Tryz.prog 59 [.op id 0] (Hat H id L i) (tkAt L i).av (Hat H id L i) := by
 refine Run.of_tri Tryz.func59 rfl rfl (ltb rfl) ?_
 refine Tri.seq (Tri.region ?_)
 refine TriL.c2 rfl (op_all (ltb rfl) zA112_q rfl) ?_
 refine TriL.nil (Tri.seq ?_)
 refine Tri.drawn mixed rfl ?_
 refine TriD.c1 rfl (op_mv (ltb rfl) rfl) ?_
 refine TriD.c1 rfl (op_nckc (ltb rfl) rfl) ?_
 refine TriD.c1 rfl (op_fac (ltb rfl) fo75_0_q rfl) ?_
 refine TriD.c1 rfl (op_ldc (ltb rfl) lk70_q rfl rfl Hp.set_obj rfl) ?_
 refine TriD.c1 rfl (op_mv (ltb rfl) rfl) ?_
 refine TriD.c1 rfl (op_nckc (ltb rfl) rfl) ?_
 refine TriD.c1 rfl (op_fac (ltb rfl) fo75_1_q rfl) ?_
 refine TriD.c1 rfl (op_ldc (ltb rfl) lk3_q rfl rfl Hp.set_obj rfl) ?_
 refine TriD.c1 rfl (op_iak (ltb rfl) ie70_q rfl rfl (Int.natCast_nonneg _) (tkAt_ix hi) rfl) ?_
 refine TriD.c1 rfl (op_ldk (ltb rfl) lk112_q rfl rfl) ?_
 refine TriD.c1 rfl (op_stl lk112_q rfl rfl rfl rfl rfl (leb rfl)) ?_
 refine TriD.nil (by kernel_rfl) (Kept.now ?_)
 refine Tri.ret ?_
 exact ⟨.inr rfl, (ResOK.r1 rfl (.cell lk112_q rfl rfl rfl rfl .nil)).cast rfl, rfl⟩
theorem fail_run {L : List Tk} (hL : Toks L) (H : Hp) (id : Nat) {i : Nat} (hi : i < L.length) : RunP Tryz.prog 137 [.op id 0] (Hat H id L i) (pv L i) (Hat H id L i) := by
 refine RunP.of_tri Tryz.func137 rfl rfl (ltb rfl) ?_
 refine Tri.regionP ?_
 refine TriLP.c1 rfl (op_mv (ltb rfl) rfl) ?_
 refine TriLP.c2 rfl (op_callh (ltb rfl) fn59_q rfl rfl (now_run hL H id hi)) ?_
 refine TriLP.c1 rfl (op_fld (ltb rfl) fof112_4_q rfl rfl (by intro _; exact leb rfl)) ?_
 refine TriLP.c1 rfl (op_bld (ltb rfl) spl116_q zA116_q rfl rfl) ?_
 refine TriLP.c1 rfl (op_mki (ltb rfl) con116_q rfl) ?_
 refine TriLP.panic rfl rfl ?_
 exact ⟨rfl, rfl⟩
theorem take_run {L : List Tk} (hL : Toks L) (H : Hp) (id : Nat) {i : Nat} (hi : i < L.length) (w : Str) : Run Tryz.prog 136 [.op id 0, .str w] (Hat H id L i) (.bool (gTake L w i)) (Hat H id L (if gTake L w i then i + 1 else i)) := by
 refine Run.of_tri Tryz.func136 rfl rfl (ltb rfl) ?_
 refine Tri.seq (Tri.region ?_)
 refine TriL.c1 rfl (op_as (ltb rfl) rfl) ?_
 refine TriL.nil (Tri.seq (Tri.region ?_))
 refine TriL.c1 rfl (op_mv (ltb rfl) rfl) ?_
 refine TriL.c2 rfl (op_callh (ltb rfl) fn59_q rfl rfl (now_run hL H id hi)) ?_
 refine TriL.c2 rfl (op_all (ltb rfl) zA112_q rfl) ?_
 refine TriL.c1 rfl (op_stl lk112_q rfl rfl rfl rfl rfl (leb rfl)) ?_
 refine TriL.nil (Tri.seq (Tri.seq (Tri.region ?_)))
 refine TriL.c1 rfl (op_fal (ltb rfl) fo112_1_q rfl) ?_
 refine TriL.c1 rfl (op_ldl (ltb rfl) lk9_q rfl rfl rfl) ?_
 refine TriL.c1 rfl (op_mv (ltb rfl) rfl) ?_
 refine TriL.c1 rfl (op_bin (ltb rfl) rfl rfl rfl) ?_
 refine TriL.c1 rfl (op_mv (ltb rfl) rfl) ?_
 refine TriL.split (d := 12) rfl (fun hg1 => ?_) (fun hg1 => ?_)
 ·iterate 4 (refine TriL.skipu rfl rfl (ltb rfl) (ltb rfl) rfl hg1 ?_)
  iterate 3 (refine TriL.skipg rfl rfl (ltb rfl) (ltb rfl) rfl ?_)
  refine TriL.skipu rfl rfl (ltb rfl) (ltb rfl) rfl hg1 ?_
  refine TriL.c1 rfl (op_pickt (ltb rfl) rfl hg1 rfl) ?_
  refine TriL.nil ?_
  refine Tri.condT rfl rfl ?_
  refine Tri.seq (Tri.region ?_)
  refine TriL.c1 rfl (op_as (ltb rfl) rfl) ?_
  refine TriL.nil (Tri.ret ?_)
  exact ⟨.inr rfl, (ResOK.r1 rfl (.tmp rfl .nil)).cast (congrArg AV.bool (by grind [gTake])), (congrArg (fun h => some (CV.hp h)) (congrArg (Hat H id L) (if_neg (by grind [gTake])).symm))⟩
 ·refine TriL.g1 rfl (ltb rfl) rfl hg1 (op_fal (ltb rfl) fo112_0_q rfl) ?_
  refine TriL.g1 rfl (ltb rfl) rfl hg1 (op_ldl (ltb rfl) lk3_q rfl rfl rfl) ?_
  refine TriL.g1 rfl (ltb rfl) rfl hg1 (op_bin (ltb rfl) rfl rfl rfl) ?_
  refine TriL.g1 rfl (ltb rfl) rfl hg1 (op_mv (ltb rfl) rfl) ?_
  refine TriL.split (d := 16) rfl (fun hg2 => ?_) (fun hg2 => ?_)
  ·refine TriL.g1 rfl (ltb rfl) rfl hg2 (op_fal (ltb rfl) fo112_0_q rfl) ?_
   refine TriL.g1 rfl (ltb rfl) rfl hg2 (op_ldl (ltb rfl) lk3_q rfl rfl rfl) ?_
   refine TriL.g1 rfl (ltb rfl) rfl hg2 (op_bin (ltb rfl) rfl rfl rfl) ?_
   refine TriL.g1 rfl (ltb rfl) rfl hg1 (op_pickt (ltb rfl) rfl hg2 rfl) ?_
   refine TriL.c1 rfl (op_pickf (ltb rfl) rfl hg1 rfl) ?_
   refine TriL.nil ?_
   refine Tri.cond rfl (fun hc3 => ?_) (fun hc3 => ?_)
   ·refine Tri.seq (Tri.region ?_)
    refine TriL.c1 rfl (op_as (ltb rfl) rfl) ?_
    refine TriL.nil (Tri.ret ?_)
    exact ⟨.inr rfl, (ResOK.r1 rfl (.tmp rfl .nil)).cast (congrArg AV.bool (by grind [gTake])), (congrArg (fun h => some (CV.hp h)) (congrArg (Hat H id L) (if_neg (by grind [gTake])).symm))⟩
   ·refine Tri.skip (Tri.seq (Tri.region ?_))
    refine TriL.c1 rfl (op_mv (ltb rfl) rfl) ?_
    refine TriL.c1 rfl (op_nckc (ltb rfl) rfl) ?_
    refine TriL.c1 rfl (op_fac (ltb rfl) fo75_1_q rfl) ?_
    refine TriL.c1 rfl (op_ldc (ltb rfl) lk3_q rfl rfl Hp.set_obj rfl) ?_
    refine TriL.c1 rfl (op_bin (ltb rfl) rfl rfl rfl) ?_
    refine TriL.c1 rfl (op_nckc (ltb rfl) rfl) ?_
    refine TriL.c1 rfl (op_fac (ltb rfl) fo75_1_q rfl) ?_
    refine TriL.c1 rfl (op_stc lk3_q rfl rfl Hp.set_obj rfl rfl rfl) ?_
    refine TriL.nil (Tri.seq (Tri.region ?_))
    refine TriL.c1 rfl (op_as (ltb rfl) rfl) ?_
    refine TriL.nil (Tri.ret ?_)
    exact ⟨.inr rfl, (ResOK.r1 rfl (.tmp rfl .nil)).cast (congrArg AV.bool (by grind [gTake])), (congrArg (fun h => some (CV.hp h)) ((Hat_inc H id hL hi).trans (congrArg (Hat H id L) (if_pos (by grind [gTake])).symm)))⟩
  ·iterate 3 (refine TriL.skipu rfl rfl (ltb rfl) (ltb rfl) rfl hg2 ?_)
   refine TriL.g1 rfl (ltb rfl) rfl hg1 (op_pickf (ltb rfl) rfl hg2 rfl) ?_
   refine TriL.c1 rfl (op_pickf (ltb rfl) rfl hg1 rfl) ?_
   refine TriL.nil ?_
   refine Tri.condF rfl rfl ?_
   refine Tri.skip (Tri.seq (Tri.region ?_))
   refine TriL.c1 rfl (op_mv (ltb rfl) rfl) ?_
   refine TriL.c1 rfl (op_nckc (ltb rfl) rfl) ?_
   refine TriL.c1 rfl (op_fac (ltb rfl) fo75_1_q rfl) ?_
   refine TriL.c1 rfl (op_ldc (ltb rfl) lk3_q rfl rfl Hp.set_obj rfl) ?_
   refine TriL.c1 rfl (op_bin (ltb rfl) rfl rfl rfl) ?_
   refine TriL.c1 rfl (op_nckc (ltb rfl) rfl) ?_
   refine TriL.c1 rfl (op_fac (ltb rfl) fo75_1_q rfl) ?_
   refine TriL.c1 rfl (op_stc lk3_q rfl rfl Hp.set_obj rfl rfl rfl) ?_
   refine TriL.nil (Tri.seq (Tri.region ?_))
   refine TriL.c1 rfl (op_as (ltb rfl) rfl) ?_
   refine TriL.nil (Tri.ret ?_)
   exact ⟨.inr rfl, (ResOK.r1 rfl (.tmp rfl .nil)).cast (congrArg AV.bool (by grind [gTake])), (congrArg (fun h => some (CV.hp h)) ((Hat_inc H id hL hi).trans (congrArg (Hat H id L) (if_pos (by grind [gTake])).symm)))⟩
def PR.In {α : Type} (n : Nat) : PR α → Prop
 | .ok _ j => j < n
 | .bad j => j < n
theorem PR.ok_lt {α : Type} {n j : Nat} {a : α} {r : PR α} (h : r.In n) (e : r = .ok a j) : j < n := by subst e; exact h
theorem PR.In.bind {α β : Type} {n : Nat} {r : PR α} {f : α → Nat → PR β} (h : r.In n) (hf : ∀ a j, j < n → (f a j).In n) : (r.bind f).In n := by
 cases r with
 | ok a j => exact hf a j h
 | bad j => exact h
theorem gTake_lt {L : List Tk} (hL : Toks L) {w : Str} {i : Nat} (hi : i < L.length) (h : gTake L w i = true) : i + 1 < L.length := by
 refine hL.fin i hi fun e => ?_
 simp [gTake, e] at h
theorem gNeed_in {L : List Tk} (hL : Toks L) {w : Str} {i : Nat} (hi : i < L.length) : (gNeed L w i).In L.length := by
 unfold gNeed
 split
 ·rename_i h; exact gTake_lt hL hi h
 ·exact hi
theorem gNeeds_in {L : List Tk} (hL : Toks L) {ws : List Str} : ∀ {i : Nat}, i < L.length → (gNeeds L ws i).In L.length := by
 induction ws with
 | nil => intro i hi; exact hi
 | cons w ws ih => intro i hi; exact (gNeed_in hL hi).bind fun _ j hj => ih hj
theorem gOf_in {L : List Tk} (hL : Toks L) {k : Nat} (hk : k ≠ 0) {p : Tk → Bool} {i : Nat} (hi : i < L.length) : (gOf L k p i).In L.length := by
 unfold gOf
 split
 ·rename_i h; exact hL.fin i hi (by omega)
 ·exact hi
theorem gName_in {L : List Tk} (hL : Toks L) {i : Nat} (hi : i < L.length) : (gName L i).In L.length := (gOf_in hL (by decide) hi).bind fun _ _ h => h
theorem gNum_in {L : List Tk} (hL : Toks L) {i : Nat} (hi : i < L.length) : (gNum L i).In L.length := (gOf_in hL (by decide) hi).bind fun _ _ h => h
theorem gGiven_in {L : List Tk} (hL : Toks L) {i : Nat} (hi : i < L.length) : (gGiven L i).In L.length := (gNeeds_in hL hi).bind fun _ j hj => gNum_in hL hj
theorem gTy_in {L : List Tk} (hL : Toks L) {such : Int → Bool} {i : Nat} (hi : i < L.length) : (gTy L such i).In L.length := (gOf_in hL (by decide) hi).bind fun _ _ h => h
theorem gKind_in {L : List Tk} (hL : Toks L) {i : Nat} (hi : i < L.length) : (gKind L i).In L.length := (gOf_in hL (by decide) hi).bind fun _ _ h => h
theorem gVal_in {L : List Tk} (hL : Toks L) {t : Int} {i : Nat} (hi : i < L.length) : (gVal L t i).In L.length := by
 unfold gVal
 split
 ·split
  ·rename_i h; exact gTake_lt hL hi h
  ·exact (gNeeds_in hL hi).bind fun _ _ h => h
 ·split
  ·exact (gOf_in hL (by decide) hi).bind fun _ _ h => h
  ·exact (gOf_in hL (by decide) hi).bind fun _ _ h => h
theorem gMore_in {L : List Tk} (hL : Toks L) : ∀ {n : Nat} {acc : List Str} {i : Nat}, i < L.length → (gMore L n acc i).In L.length
 | 0, acc, i, hi => hi
 | n + 1, acc, i, hi => by
  unfold gMore
  split
  ·rename_i h; exact (gName_in hL (gTake_lt hL hi h)).bind fun _ _ h => gMore_in hL h
  ·exact hi
theorem gNames_in {L : List Tk} (hL : Toks L) {i : Nat} (hi : i < L.length) : (gNames L i).In L.length := (gName_in hL hi).bind fun _ _ h => gMore_in hL h
theorem takeT {L : List Tk} (hL : Toks L) (H : Hp) (id : Nat) {i : Nat} (hi : i < L.length) {w : Str} (h : gTake L w i = true) : Run Tryz.prog 136 [.op id 0, .str w] (Hat H id L i) (.bool true) (Hat H id L (i + 1)) := by
 have := take_run hL H id hi w
 rw [h] at this; exact this
theorem takeF {L : List Tk} (hL : Toks L) (H : Hp) (id : Nat) {i : Nat} (hi : i < L.length) {w : Str} (h : gTake L w i = false) : Run Tryz.prog 136 [.op id 0, .str w] (Hat H id L i) (.bool false) (Hat H id L i) := by
 have := take_run hL H id hi w
 rw [h] at this; exact this
theorem gNeeds_step {L : List Tk} {ws : List Str} {k j : Nat} (h : k < ws.length) : gNeeds L (ws.drop k) j = (gNeed L ws[k] j).bind fun _ j => gNeeds L (ws.drop (k + 1)) j := by
 rw [List.drop_eq_getElem_cons h]; rfl
theorem gNeeds_end {L : List Tk} {ws : List Str} {k j : Nat} (h : ws.length ≤ k) : gNeeds L (ws.drop k) j = .ok () j := by
 rw [List.drop_of_length_le h]; rfl
theorem need_run {L : List Tk} (hL : Toks L) (H : Hp) (id : Nat) {i : Nat} (hi : i < L.length) (ws : List Str) (hw : ws.length ≤ 1000000) : RunR Tryz.prog 99 [.op id 0, .sl (ws.map .str)] (Hat H id L) (fun _ : Unit => .tup []) (pv L) i (gNeeds L ws i) := by
 refine RunR.of_tri Tryz.func99 rfl rfl (ltb rfl) ?_
 refine Tri.seq (Tri.region ?_)
 refine TriL.c1 rfl (op_mv (ltb rfl) rfl) ?_
 refine TriL.c1 rfl (op_lenl (ltb rfl) un40_q rfl) ?_
 refine TriL.c1 rfl (op_mv (ltb rfl) rfl) ?_
 refine TriL.nil (Tri.blk ?_)
 refine Tri.ofKept (Kept.keep [.s 8, .h, .s 0, .s 6, .s 7] rfl (by decide) (Kept.now ?_))
 -- LOOP 1
 refine Tri.loopk (fun ((k, j) : Nat × Nat) => [(.s 8, .sv (.v (.int .i64 (k : Int)))), (.h, .hp (Hat H id L j))]) _ (fun ((k, j) : Nat × Nat) => gNeeds L (ws.drop k) j = gNeeds L ws i ∧ j < L.length) (fun ((k, j) : Nat × Nat) => ws.length - k) (0, i) rfl ⟨rfl, hi⟩ ?_
 rintro ⟨k, j⟩ ⟨hI, hj⟩
 refine Tri.seq (Tri.region ?_)
 refine TriL.c1 rfl (op_bin (ltb rfl) rfl rfl rfl) ?_
 refine TriL.nil (Tri.seq ?_)
 refine Tri.cond rfl (fun hc1 => ?_) (fun hc1 => ?_)
 ·have hk := ltm hc1
  refine Tri.skip (Tri.seq (Tri.blk (Tri.seq (Tri.region ?_))))
  refine TriL.c1 rfl (op_iak (ltb rfl) ie40_q rfl rfl (Int.natCast_nonneg _) (ixm hk) rfl) ?_
  refine TriL.c1 rfl (op_ldk (ltb rfl) lk9_q rfl rfl) ?_
  refine TriL.c1 rfl (op_as (ltb rfl) rfl) ?_
  refine TriL.nil (Tri.seq (Tri.region ?_))
  iterate 2 (refine TriL.c1 rfl (op_mv (ltb rfl) rfl) ?_)
  cases hp1 : gTake L ws[k] j with
  | true => 
   refine TriL.c2 rfl (op_callh (ltb rfl) fn136_q rfl rfl (takeT hL _ id hj hp1)) ?_
   refine TriL.c1 rfl (op_un (ltb rfl) rfl rfl) ?_
   refine TriL.nil ?_
   refine Tri.condF rfl (congrArg not rfl) ?_
   refine Tri.skip (Tri.region ?_)
   refine TriL.c1 rfl (op_bin (ltb rfl) rfl rfl rfl) ?_
   refine TriL.c1 rfl (op_mv (ltb rfl) rfl) ?_
   refine TriL.kept (Kept.seti 8 rfl (inc (by omega)) (Kept.keep [.s 8, .h, .s 0, .s 6, .s 7] rfl (by decide) (Kept.now ?_)))
   exact ⟨(k + 1, j + 1), by dsimp only; omega, ⟨by rw [← hI, gNeeds_step hk]; simp [gNeed, hp1], gTake_lt hL hj hp1⟩, rfl⟩
  | false => 
   refine TriL.c2 rfl (op_callh (ltb rfl) fn136_q rfl rfl (takeF hL _ id hj hp1)) ?_
   refine TriL.c1 rfl (op_un (ltb rfl) rfl rfl) ?_
   refine TriL.nil ?_
   refine Tri.condT rfl (congrArg not rfl) ?_
   refine Tri.regionP ?_
   refine TriLP.c1 rfl (op_mv (ltb rfl) rfl) ?_
   refine TriLP.callp fn137_q rfl rfl (fail_run hL _ id hj) ?_
   exact EndR.pan (by rw [← hI, gNeeds_step hk]; simp [gNeed, hp1]) rfl rfl
 ·have hk := gem hc1
  refine Tri.exit ?_
  exact EndR.fin (by rw [← hI, gNeeds_end hk]) ⟨.inl rfl, (ResOK.r0 rfl ).cast rfl, rfl⟩
theorem of_ok {L : List Tk} (hL : Toks L) (H : Hp) (id : Nat) {i : Nat} (hi : i < L.length) {k : Nat} {f : FuncId} {caps : List AV} {H1 : Hp} (hfn : isFn Tryz.prog f = true) (hk : (tkAt L i).k = k) (hc : Run Tryz.prog f ([(tkAt L i).av] ++ caps) (Hat H id L i) (.bool true) (Hat H1 id L i)) : Run Tryz.prog 132 [.op id 0, .int .i64 (k : Int), .fn f caps] (Hat H id L i) (tkAt L i).av (Hat H1 id L (i + 1)) := by
 refine Run.of_tri Tryz.func132 rfl rfl (ltb rfl) ?_
 refine Tri.seq (Tri.region ?_)
 refine TriL.c2 rfl (op_all (ltb rfl) zA112_q rfl) ?_
 refine TriL.nil (Tri.seq (Tri.region ?_))
 refine TriL.c1 rfl (op_mv (ltb rfl) rfl) ?_
 refine TriL.c2 rfl (op_callh (ltb rfl) fn59_q rfl rfl (now_run hL H id hi)) ?_
 refine TriL.c2 rfl (op_all (ltb rfl) zA112_q rfl) ?_
 refine TriL.c1 rfl (op_stl lk112_q rfl rfl rfl rfl rfl (leb rfl)) ?_
 refine TriL.nil (Tri.seq (Tri.seq (Tri.region ?_)))
 refine TriL.c1 rfl (op_fal (ltb rfl) fo112_0_q rfl) ?_
 refine TriL.c1 rfl (op_ldl (ltb rfl) lk3_q rfl rfl rfl) ?_
 refine TriL.c1 rfl (op_mv (ltb rfl) rfl) ?_
 refine TriL.c1 rfl (op_bin (ltb rfl) rfl rfl rfl) ?_
 refine TriL.c1 rfl (op_mv (ltb rfl) rfl) ?_
 refine TriL.g1 rfl (ltb rfl) rfl (by simp [hk]) (op_mv (ltb rfl) rfl) ?_
 refine TriL.g1 rfl (ltb rfl) rfl (by simp [hk]) (op_ldl (ltb rfl) lk112_q rfl rfl rfl) ?_
 refine TriL.g2 rfl (ltb rfl) rfl (by simp [hk]) (op_callch (ltb rfl) hfn rfl rfl rfl hc) ?_
 refine TriL.g1 rfl (ltb rfl) rfl (by simp [hk]) (op_un (ltb rfl) rfl rfl) ?_
 refine TriL.c1 rfl (op_pickf (ltb rfl) rfl (by simp [hk]) rfl) ?_
 refine TriL.nil ?_
 refine Tri.condF rfl (congrArg not rfl) ?_
 refine Tri.skip (Tri.seq (Tri.region ?_))
 refine TriL.c1 rfl (op_mv (ltb rfl) rfl) ?_
 refine TriL.c1 rfl (op_nckc (ltb rfl) rfl) ?_
 refine TriL.c1 rfl (op_fac (ltb rfl) fo75_1_q rfl) ?_
 refine TriL.c1 rfl (op_ldc (ltb rfl) lk3_q rfl rfl Hp.set_obj rfl) ?_
 refine TriL.c1 rfl (op_bin (ltb rfl) rfl rfl rfl) ?_
 refine TriL.c1 rfl (op_nckc (ltb rfl) rfl) ?_
 refine TriL.c1 rfl (op_fac (ltb rfl) fo75_1_q rfl) ?_
 refine TriL.c1 rfl (op_stc lk3_q rfl rfl Hp.set_obj rfl rfl rfl) ?_
 refine TriL.nil (Tri.seq (Tri.region ?_))
 refine TriL.c1 rfl (op_ldl (ltb rfl) lk112_q rfl rfl rfl) ?_
 refine TriL.c1 rfl (op_stl lk112_q rfl rfl rfl rfl rfl (leb rfl)) ?_
 refine TriL.nil (Tri.ret ?_)
 exact ⟨.inr rfl, (ResOK.r1 rfl (.cell lk112_q rfl rfl rfl rfl .nil)).cast rfl, (congrArg (fun h => some (CV.hp h)) (Hat_inc H1 id hL hi))⟩
theorem of_no {L : List Tk} (hL : Toks L) (H : Hp) (id : Nat) {i : Nat} (hi : i < L.length) {k : Nat} {f : FuncId} {caps : List AV} {H1 : Hp} (hfn : isFn Tryz.prog f = true) (hk : (tkAt L i).k = k) (hc : Run Tryz.prog f ([(tkAt L i).av] ++ caps) (Hat H id L i) (.bool false) (Hat H1 id L i)) : RunP Tryz.prog 132 [.op id 0, .int .i64 (k : Int), .fn f caps] (Hat H id L i) (pv L i) (Hat H1 id L i) := by
 refine RunP.of_tri Tryz.func132 rfl rfl (ltb rfl) ?_
 refine Tri.seq (Tri.region ?_)
 refine TriL.c2 rfl (op_all (ltb rfl) zA112_q rfl) ?_
 refine TriL.nil (Tri.seq (Tri.region ?_))
 refine TriL.c1 rfl (op_mv (ltb rfl) rfl) ?_
 refine TriL.c2 rfl (op_callh (ltb rfl) fn59_q rfl rfl (now_run hL H id hi)) ?_
 refine TriL.c2 rfl (op_all (ltb rfl) zA112_q rfl) ?_
 refine TriL.c1 rfl (op_stl lk112_q rfl rfl rfl rfl rfl (leb rfl)) ?_
 refine TriL.nil (Tri.seq (Tri.seq (Tri.region ?_)))
 refine TriL.c1 rfl (op_fal (ltb rfl) fo112_0_q rfl) ?_
 refine TriL.c1 rfl (op_ldl (ltb rfl) lk3_q rfl rfl rfl) ?_
 refine TriL.c1 rfl (op_mv (ltb rfl) rfl) ?_
 refine TriL.c1 rfl (op_bin (ltb rfl) rfl rfl rfl) ?_
 refine TriL.c1 rfl (op_mv (ltb rfl) rfl) ?_
 refine TriL.g1 rfl (ltb rfl) rfl (by simp [hk]) (op_mv (ltb rfl) rfl) ?_
 refine TriL.g1 rfl (ltb rfl) rfl (by simp [hk]) (op_ldl (ltb rfl) lk112_q rfl rfl rfl) ?_
 refine TriL.g2 rfl (ltb rfl) rfl (by simp [hk]) (op_callch (ltb rfl) hfn rfl rfl rfl hc) ?_
 refine TriL.g1 rfl (ltb rfl) rfl (by simp [hk]) (op_un (ltb rfl) rfl rfl) ?_
 refine TriL.c1 rfl (op_pickf (ltb rfl) rfl (by simp [hk]) rfl) ?_
 refine TriL.nil ?_
 refine Tri.condT rfl (congrArg not rfl) ?_
 refine Tri.regionP ?_
 refine TriLP.c1 rfl (op_mv (ltb rfl) rfl) ?_
 refine TriLP.callp fn137_q rfl rfl (fail_run hL H1 id hi) ?_
 exact ⟨rfl, rfl⟩
theorem of_ne {L : List Tk} (hL : Toks L) (H : Hp) (id : Nat) {i : Nat} (hi : i < L.length) {k : Nat} {f : FuncId} {caps : List AV} (hfn : isFn Tryz.prog f = true) (hk : (tkAt L i).k ≠ k) : RunP Tryz.prog 132 [.op id 0, .int .i64 (k : Int), .fn f caps] (Hat H id L i) (pv L i) (Hat H id L i) := by
 refine RunP.of_tri Tryz.func132 rfl rfl (ltb rfl) ?_
 refine Tri.seq (Tri.region ?_)
 refine TriL.c2 rfl (op_all (ltb rfl) zA112_q rfl) ?_
 refine TriL.nil (Tri.seq (Tri.region ?_))
 refine TriL.c1 rfl (op_mv (ltb rfl) rfl) ?_
 refine TriL.c2 rfl (op_callh (ltb rfl) fn59_q rfl rfl (now_run hL H id hi)) ?_
 refine TriL.c2 rfl (op_all (ltb rfl) zA112_q rfl) ?_
 refine TriL.c1 rfl (op_stl lk112_q rfl rfl rfl rfl rfl (leb rfl)) ?_
 refine TriL.nil (Tri.seq (Tri.seq (Tri.region ?_)))
 refine TriL.c1 rfl (op_fal (ltb rfl) fo112_0_q rfl) ?_
 refine TriL.c1 rfl (op_ldl (ltb rfl) lk3_q rfl rfl rfl) ?_
 refine TriL.c1 rfl (op_mv (ltb rfl) rfl) ?_
 refine TriL.c1 rfl (op_bin (ltb rfl) rfl rfl rfl) ?_
 refine TriL.c1 rfl (op_mv (ltb rfl) rfl) ?_
 iterate 4 (refine TriL.skipu rfl rfl (ltb rfl) (ltb rfl) rfl (by simp; omega) ?_)
 refine TriL.c1 rfl (op_pickt (ltb rfl) rfl (by simp; omega) rfl) ?_
 refine TriL.nil ?_
 refine Tri.condT rfl rfl ?_
 refine Tri.regionP ?_
 refine TriLP.c1 rfl (op_mv (ltb rfl) rfl) ?_
 refine TriLP.callp fn137_q rfl rfl (fail_run hL _ id hi) ?_
 exact ⟨rfl, rfl⟩
theorem of_run {L : List Tk} (hL : Toks L) (H : Hp) (id : Nat) {i : Nat} (hi : i < L.length) {k : Nat} {f : FuncId} {caps : List AV} (hfn : isFn Tryz.prog f = true) (p : Tk → Bool) (hc : Pure Tryz.prog f ([(tkAt L i).av] ++ caps) (.bool (p (tkAt L i)))) : RunR Tryz.prog 132 [.op id 0, .int .i64 (k : Int), .fn f caps] (Hat H id L) Tk.av (pv L) i (gOf L k p i) := by
 unfold gOf
 by_cases hk : (tkAt L i).k = k
 ·cases hp : p (tkAt L i) with
  | true => rw [if_pos ⟨hk, rfl⟩]; rw [hp] at hc; exact of_ok hL H id hi hfn hk (hc _)
  | false => rw [if_neg (by simp)]; rw [hp] at hc; exact of_no hL H id hi hfn hk (hc _)
 ·rw [if_neg (by simp [hk])]; exact of_ne hL H id hi hfn hk
theorem each_pure (t : Tk) : Pure Tryz.prog 135 ([t.av] ++ []) (.bool true) := by
 refine Pure.of_tri Tryz.func135 rfl rfl (ltb rfl) fun H => ?_
 refine Tri.seq (Tri.region ?_)
 refine TriL.c2 rfl (op_box (ltb rfl) rfl rfl rfl) ?_
 refine TriL.c1 rfl (op_as (ltb rfl) rfl) ?_
 refine TriL.nil (Tri.seq (Tri.region ?_))
 refine TriL.c1 rfl (op_as (ltb rfl) rfl) ?_
 refine TriL.nil (Tri.ret ?_)
 exact ⟨.inr rfl, (ResOK.r1 rfl (.tmp rfl .nil)).cast rfl, rfl⟩
theorem number1_pure (t : Tk) : Pure Tryz.prog 162 ([t.av] ++ []) (.bool (numP t)) := by
 refine Pure.of_tri Tryz.func162 rfl rfl (ltb rfl) fun H => ?_
 refine Tri.seq (Tri.region ?_)
 refine TriL.c2 rfl (op_box (ltb rfl) rfl rfl rfl) ?_
 refine TriL.c1 rfl (op_as (ltb rfl) rfl) ?_
 refine TriL.nil (Tri.seq (Tri.region ?_))
 refine TriL.c1 rfl (op_fal (ltb rfl) fo112_3_q rfl) ?_
 refine TriL.c1 rfl (op_ldl (ltb rfl) lk4_q rfl rfl rfl) ?_
 refine TriL.c1 rfl (op_un (ltb rfl) rfl rfl) ?_
 refine TriL.c1 rfl (op_mv (ltb rfl) rfl) ?_
 refine TriL.split (d := 6) rfl (fun hg1 => ?_) (fun hg1 => ?_)
 ·refine TriL.g1 rfl (ltb rfl) rfl hg1 (op_fal (ltb rfl) fo112_2_q rfl) ?_
  refine TriL.g1 rfl (ltb rfl) rfl hg1 (op_ldl (ltb rfl) lk41_q rfl rfl rfl) ?_
  refine TriL.g1 rfl (ltb rfl) rfl hg1 (op_bin (ltb rfl) rfl rfl rfl) ?_
  refine TriL.c1 rfl (op_pickt (ltb rfl) rfl hg1 rfl) ?_
  refine TriL.c1 rfl (op_as (ltb rfl) rfl) ?_
  refine TriL.nil (Tri.ret ?_)
  exact ⟨.inr rfl, (ResOK.r1 rfl (.tmp rfl .nil)).cast (congrArg AV.bool (by grind [numP])), rfl⟩
 ·iterate 3 (refine TriL.skipu rfl rfl (ltb rfl) (ltb rfl) rfl hg1 ?_)
  refine TriL.c1 rfl (op_pickf (ltb rfl) rfl hg1 rfl) ?_
  refine TriL.c1 rfl (op_as (ltb rfl) rfl) ?_
  refine TriL.nil (Tri.ret ?_)
  exact ⟨.inr rfl, (ResOK.r1 rfl (.tmp rfl .nil)).cast (congrArg AV.bool (by grind [numP])), rfl⟩
theorem beq_flip {s w : Str} (h : (s == w) = false) : (w == s) = false := by
 rw [beq_eq_false_iff_ne] at *; exact fun e => h e.symm
theorem stepKind_miss {s : Str} (h1 : (s == [114, 101, 110, 97, 109, 101]) = false) (h2 : (s == [114, 101, 110, 117, 109, 98, 101, 114]) = false) (h3 : (s == [114, 101, 116, 121, 112, 101]) = false) (h4 : (s == [115, 112, 108, 105, 116]) = false) (h5 : (s == [106, 111, 105, 110]) = false) (h6 : (s == [119, 114, 97, 112]) = false) (h7 : (s == [117, 110, 119, 114, 97, 112]) = false) (h8 : (s == [111, 110, 101, 111, 102]) = false) (h9 : (s == [97, 100, 100]) = false) (h10 : (s == [100, 114, 111, 112]) = false) : (0 : Int) = stepKind s := by
 simp only [stepKind, stepWords, ixFrom, beq_flip h1, beq_flip h2, beq_flip h3, beq_flip h4, beq_flip h5, beq_flip h6, beq_flip h7, beq_flip h8, beq_flip h9, beq_flip h10]; decide
theorem kindOf_pure (s : Str) : Pure Tryz.prog 134 [.str s] (.int .i64 (stepKind s)) := by
 refine Pure.of_tri Tryz.func134 rfl rfl (ltb rfl) fun H => ?_
 refine Tri.seq (Tri.region ?_)
 refine TriL.c1 rfl (op_as (ltb rfl) rfl) ?_
 refine TriL.nil (Tri.seq (Tri.seq (Tri.region ?_)))
 refine TriL.c1 rfl (op_mv (ltb rfl) rfl) ?_
 refine TriL.nil (Tri.blk (Tri.seq (Tri.region ?_)))
 refine TriL.c1 rfl (op_bin (ltb rfl) rfl rfl rfl) ?_
 refine TriL.c1 rfl (op_as (ltb rfl) rfl) ?_
 refine TriL.nil ?_
 refine Tri.cond rfl (fun hc1 => ?_) (fun hc1 => ?_)
 ·refine Tri.seq (Tri.region ?_)
  refine TriL.c1 rfl (op_as (ltb rfl) rfl) ?_
  refine TriL.nil (Tri.ret ?_)
  exact ⟨.inr rfl, (ResOK.r1 rfl (.tmp rfl .nil)).cast (congrArg (AV.int .i64) (by rw [eq_of_beq hc1]; rfl)), rfl⟩
 ·refine Tri.seq (Tri.region ?_)
  refine TriL.c1 rfl (op_bin (ltb rfl) rfl rfl rfl) ?_
  refine TriL.c1 rfl (op_as (ltb rfl) rfl) ?_
  refine TriL.nil ?_
  refine Tri.cond rfl (fun hc2 => ?_) (fun hc2 => ?_)
  ·refine Tri.seq (Tri.region ?_)
   refine TriL.c1 rfl (op_as (ltb rfl) rfl) ?_
   refine TriL.nil (Tri.ret ?_)
   exact ⟨.inr rfl, (ResOK.r1 rfl (.tmp rfl .nil)).cast (congrArg (AV.int .i64) (by rw [eq_of_beq hc2]; rfl)), rfl⟩
  ·refine Tri.seq (Tri.region ?_)
   refine TriL.c1 rfl (op_bin (ltb rfl) rfl rfl rfl) ?_
   refine TriL.c1 rfl (op_as (ltb rfl) rfl) ?_
   refine TriL.nil ?_
   refine Tri.cond rfl (fun hc3 => ?_) (fun hc3 => ?_)
   ·refine Tri.seq (Tri.region ?_)
    refine TriL.c1 rfl (op_as (ltb rfl) rfl) ?_
    refine TriL.nil (Tri.ret ?_)
    exact ⟨.inr rfl, (ResOK.r1 rfl (.tmp rfl .nil)).cast (congrArg (AV.int .i64) (by rw [eq_of_beq hc3]; rfl)), rfl⟩
   ·refine Tri.seq (Tri.region ?_)
    refine TriL.c1 rfl (op_bin (ltb rfl) rfl rfl rfl) ?_
    refine TriL.c1 rfl (op_as (ltb rfl) rfl) ?_
    refine TriL.nil ?_
    refine Tri.cond rfl (fun hc4 => ?_) (fun hc4 => ?_)
    ·refine Tri.seq (Tri.region ?_)
     refine TriL.c1 rfl (op_as (ltb rfl) rfl) ?_
     refine TriL.nil (Tri.ret ?_)
     exact ⟨.inr rfl, (ResOK.r1 rfl (.tmp rfl .nil)).cast (congrArg (AV.int .i64) (by rw [eq_of_beq hc4]; rfl)), rfl⟩
    ·refine Tri.seq (Tri.region ?_)
     refine TriL.c1 rfl (op_bin (ltb rfl) rfl rfl rfl) ?_
     refine TriL.c1 rfl (op_as (ltb rfl) rfl) ?_
     refine TriL.nil ?_
     refine Tri.cond rfl (fun hc5 => ?_) (fun hc5 => ?_)
     ·refine Tri.seq (Tri.region ?_)
      refine TriL.c1 rfl (op_as (ltb rfl) rfl) ?_
      refine TriL.nil (Tri.ret ?_)
      exact ⟨.inr rfl, (ResOK.r1 rfl (.tmp rfl .nil)).cast (congrArg (AV.int .i64) (by rw [eq_of_beq hc5]; rfl)), rfl⟩
     ·refine Tri.seq (Tri.region ?_)
      refine TriL.c1 rfl (op_bin (ltb rfl) rfl rfl rfl) ?_
      refine TriL.c1 rfl (op_as (ltb rfl) rfl) ?_
      refine TriL.nil ?_
      refine Tri.cond rfl (fun hc6 => ?_) (fun hc6 => ?_)
      ·refine Tri.seq (Tri.region ?_)
       refine TriL.c1 rfl (op_as (ltb rfl) rfl) ?_
       refine TriL.nil (Tri.ret ?_)
       exact ⟨.inr rfl, (ResOK.r1 rfl (.tmp rfl .nil)).cast (congrArg (AV.int .i64) (by rw [eq_of_beq hc6]; rfl)), rfl⟩
      ·refine Tri.seq (Tri.region ?_)
       refine TriL.c1 rfl (op_bin (ltb rfl) rfl rfl rfl) ?_
       refine TriL.c1 rfl (op_as (ltb rfl) rfl) ?_
       refine TriL.nil ?_
       refine Tri.cond rfl (fun hc7 => ?_) (fun hc7 => ?_)
       ·refine Tri.seq (Tri.region ?_)
        refine TriL.c1 rfl (op_as (ltb rfl) rfl) ?_
        refine TriL.nil (Tri.ret ?_)
        exact ⟨.inr rfl, (ResOK.r1 rfl (.tmp rfl .nil)).cast (congrArg (AV.int .i64) (by rw [eq_of_beq hc7]; rfl)), rfl⟩
       ·refine Tri.seq (Tri.region ?_)
        refine TriL.c1 rfl (op_bin (ltb rfl) rfl rfl rfl) ?_
        refine TriL.c1 rfl (op_as (ltb rfl) rfl) ?_
        refine TriL.nil ?_
        refine Tri.cond rfl (fun hc8 => ?_) (fun hc8 => ?_)
        ·refine Tri.seq (Tri.region ?_)
         refine TriL.c1 rfl (op_as (ltb rfl) rfl) ?_
         refine TriL.nil (Tri.ret ?_)
         exact ⟨.inr rfl, (ResOK.r1 rfl (.tmp rfl .nil)).cast (congrArg (AV.int .i64) (by rw [eq_of_beq hc8]; rfl)), rfl⟩
        ·refine Tri.seq (Tri.region ?_)
         refine TriL.c1 rfl (op_bin (ltb rfl) rfl rfl rfl) ?_
         refine TriL.c1 rfl (op_as (ltb rfl) rfl) ?_
         refine TriL.nil ?_
         refine Tri.cond rfl (fun hc9 => ?_) (fun hc9 => ?_)
         ·refine Tri.seq (Tri.region ?_)
          refine TriL.c1 rfl (op_as (ltb rfl) rfl) ?_
          refine TriL.nil (Tri.ret ?_)
          exact ⟨.inr rfl, (ResOK.r1 rfl (.tmp rfl .nil)).cast (congrArg (AV.int .i64) (by rw [eq_of_beq hc9]; rfl)), rfl⟩
         ·refine Tri.seq (Tri.region ?_)
          refine TriL.c1 rfl (op_bin (ltb rfl) rfl rfl rfl) ?_
          refine TriL.c1 rfl (op_as (ltb rfl) rfl) ?_
          refine TriL.nil ?_
          refine Tri.cond rfl (fun hc10 => ?_) (fun hc10 => ?_)
          ·refine Tri.seq (Tri.region ?_)
           refine TriL.c1 rfl (op_as (ltb rfl) rfl) ?_
           refine TriL.nil (Tri.ret ?_)
           exact ⟨.inr rfl, (ResOK.r1 rfl (.tmp rfl .nil)).cast (congrArg (AV.int .i64) (by rw [eq_of_beq hc10]; rfl)), rfl⟩
          ·refine Tri.skip (Tri.seq (Tri.region ?_))
           refine TriL.c1 rfl (op_as (ltb rfl) rfl) ?_
           refine TriL.nil (Tri.ret ?_)
           exact ⟨.inr rfl, (ResOK.r1 rfl (.tmp rfl .nil)).cast (congrArg (AV.int .i64) (stepKind_miss hc1 hc2 hc3 hc4 hc5 hc6 hc7 hc8 hc9 hc10)), rfl⟩
theorem kind1_pure (t : Tk) : Pure Tryz.prog 133 ([t.av] ++ []) (.bool (kindP t)) := by
 refine Pure.of_tri Tryz.func133 rfl rfl (ltb rfl) fun H => ?_
 refine Tri.seq (Tri.region ?_)
 refine TriL.c2 rfl (op_box (ltb rfl) rfl rfl rfl) ?_
 refine TriL.c1 rfl (op_as (ltb rfl) rfl) ?_
 refine TriL.nil (Tri.seq (Tri.region ?_))
 refine TriL.c1 rfl (op_fal (ltb rfl) fo112_1_q rfl) ?_
 refine TriL.c1 rfl (op_ldl (ltb rfl) lk9_q rfl rfl rfl) ?_
 refine TriL.c1 rfl (op_call (ltb rfl) fn134_q rfl (kindOf_pure _)) ?_
 refine TriL.c1 rfl (op_bin (ltb rfl) rfl rfl rfl) ?_
 refine TriL.c1 rfl (op_as (ltb rfl) rfl) ?_
 refine TriL.nil (Tri.ret ?_)
 exact ⟨.inr rfl, (ResOK.r1 rfl (.tmp rfl .nil)).cast (congrArg AV.bool (by rw [kindP, Bool.eq_iff_iff]; simp)), rfl⟩
theorem ty1_pure (t : Tk) (f : FuncId) (such : Int → Bool) (hfn : isFn Tryz.prog f = true) (hs : ∀ n, Pure Tryz.prog f [.int .i64 n] (.bool (such n))) : Pure Tryz.prog 163 ([t.av] ++ [.kp [.fn f []]]) (.bool (tyP such t)) := by
 refine Pure.of_tri Tryz.func163 rfl rfl (ltb rfl) fun H => ?_
 refine Tri.seq (Tri.region ?_)
 refine TriL.c2 rfl (op_box (ltb rfl) rfl rfl rfl) ?_
 refine TriL.c1 rfl (op_as (ltb rfl) rfl) ?_
 refine TriL.nil (Tri.seq ?_)
 refine Tri.drawn mixed rfl ?_
 refine TriD.c1 rfl (op_fal (ltb rfl) fo112_1_q rfl) ?_
 refine TriD.c1 rfl (op_ldl (ltb rfl) lk9_q rfl rfl rfl) ?_
 refine TriD.c1 rfl (op_call (ltb rfl) fn164_q rfl (p_of _)) ?_
 refine TriD.c1 rfl (op_bin (ltb rfl) rfl rfl rfl) ?_
 refine TriD.c1 rfl (op_mv (ltb rfl) rfl) ?_
 refine TriD.split (d := 8) rfl (fun hg1 => ?_) (fun hg1 => ?_)
 ·refine TriD.g1 rfl (ltb rfl) rfl hg1 (op_ldk (ltb rfl) lk88_q rfl rfl) ?_
  refine TriD.g1 rfl (ltb rfl) rfl hg1 (op_fal (ltb rfl) fo112_1_q rfl) ?_
  refine TriD.g1 rfl (ltb rfl) rfl hg1 (op_ldl (ltb rfl) lk9_q rfl rfl rfl) ?_
  refine TriD.g1 rfl (ltb rfl) rfl hg1 (op_call (ltb rfl) fn164_q rfl (p_of _)) ?_
  refine TriD.g1 rfl (ltb rfl) rfl hg1 (op_callc (ltb rfl) hfn rfl rfl (hs _)) ?_
  refine TriD.c1 rfl (op_pickt (ltb rfl) rfl hg1 rfl) ?_
  refine TriD.c1 rfl (op_as (ltb rfl) rfl) ?_
  refine TriD.nil (by kernel_rfl) (Kept.now ?_)
  refine Tri.ret ?_
  exact ⟨.inr rfl, (ResOK.r1 rfl (.tmp rfl .nil)).cast (congrArg AV.bool (by simp_all [tyP])), rfl⟩
 ·iterate 5 (refine TriD.skipu rfl rfl (ltb rfl) (ltb rfl) rfl hg1 ?_)
  refine TriD.c1 rfl (op_pickf (ltb rfl) rfl hg1 rfl) ?_
  refine TriD.c1 rfl (op_as (ltb rfl) rfl) ?_
  refine TriD.nil (by kernel_rfl) (Kept.now ?_)
  refine Tri.ret ?_
  exact ⟨.inr rfl, (ResOK.r1 rfl (.tmp rfl .nil)).cast (congrArg AV.bool (by simp_all [tyP])), rfl⟩
theorem name_run {L : List Tk} (hL : Toks L) (H : Hp) (id : Nat) {i : Nat} (hi : i < L.length) : RunR Tryz.prog 98 [.op id 0] (Hat H id L) (fun s : Str => .str s) (pv L) i (gName L i) := by
 refine RunR.of_tri Tryz.func98 rfl rfl (ltb rfl) ?_
 refine Tri.seq (Tri.region ?_)
 refine TriL.c1 rfl (op_as (ltb rfl) rfl) ?_
 refine TriL.nil (Tri.seq ?_)
 refine Tri.regionP ?_
 refine TriLP.c1 rfl (op_mv (ltb rfl) rfl) ?_
 cases hp1 : gOf L 1 (fun _ => true) i with
 | bad j => 
  refine TriLP.callp fn132_q rfl rfl (RunR.bad (of_run hL _ id hi (by kernel_rfl) (fun _ => true) (each_pure _)) hp1) ?_
  exact EndR.pan (by simp [gName, *]) rfl rfl
 | ok x1 j1 => 
  have hj1 := PR.ok_lt (gOf_in hL (by decide) hi) hp1
  refine TriLP.c2 rfl (op_callh (ltb rfl) fn132_q rfl rfl (RunR.ok (of_run hL _ id hi (by kernel_rfl) (fun _ => true) (each_pure _)) hp1)) ?_
  refine TriLP.c1 rfl (op_fld (ltb rfl) fof112_1_q rfl rfl (by intro _; exact leb rfl)) ?_
  refine TriLP.c1 rfl (op_as (ltb rfl) rfl) ?_
  refine TriLP.nil ?_
  refine Tri.ret ?_
  exact EndR.fin (by simp [gName, *]; try exact ⟨rfl, rfl⟩) ⟨.inr rfl, (ResOK.r1 rfl (.tmp rfl .nil)).cast rfl, rfl⟩
theorem gOf_ok {L : List Tk} {k : Nat} {p : Tk → Bool} {i j : Nat} {x : Tk} (h : gOf L k p i = .ok x j) : (tkAt L i).k = k ∧ p x = true ∧ x = tkAt L i ∧ j = i + 1 := by
 unfold gOf at h
 split at h
 ·rename_i h2; cases h; exact ⟨h2.1, h2.2, rfl, rfl⟩
 ·cases h
theorem gOf_num {L : List Tk} {k : Nat} {i j : Nat} {x : Tk} (h : gOf L k numP i = .ok x j) : x.n ≤ 1073741824 := by
 have := (gOf_ok h).2.1
 simp [numP] at this; omega
theorem number_run {L : List Tk} (hL : Toks L) (H : Hp) (id : Nat) {i : Nat} (hi : i < L.length) : RunR Tryz.prog 138 [.op id 0] (Hat H id L) (fun n : Int => .int .i64 n) (pv L) i (gNum L i) := by
 refine RunR.of_tri Tryz.func138 rfl rfl (ltb rfl) ?_
 refine Tri.seq (Tri.region ?_)
 refine TriL.c1 rfl (op_as (ltb rfl) rfl) ?_
 refine TriL.nil (Tri.seq ?_)
 refine Tri.regionP ?_
 refine TriLP.c1 rfl (op_mv (ltb rfl) rfl) ?_
 cases hp1 : gOf L 2 numP i with
 | bad j => 
  refine TriLP.callp fn132_q rfl rfl (RunR.bad (of_run hL _ id hi (by kernel_rfl) numP (number1_pure _)) hp1) ?_
  exact EndR.pan (by simp [gNum, *]) rfl rfl
 | ok x1 j1 => 
  have hj1 := PR.ok_lt (gOf_in hL (by decide) hi) hp1
  refine TriLP.c2 rfl (op_callh (ltb rfl) fn132_q rfl rfl (RunR.ok (of_run hL _ id hi (by kernel_rfl) numP (number1_pure _)) hp1)) ?_
  refine TriLP.c2 rfl (op_all (ltb rfl) zA112_q rfl) ?_
  refine TriLP.c1 rfl (op_stl lk112_q rfl rfl rfl rfl rfl (leb rfl)) ?_
  refine TriLP.nil ?_
  refine Tri.seq (Tri.region ?_)
  refine TriL.c1 rfl (op_fal (ltb rfl) fo112_2_q rfl) ?_
  refine TriL.c1 rfl (op_ldl (ltb rfl) lk41_q rfl rfl rfl) ?_
  refine TriL.c1 rfl (op_cvi (ltb rfl) un41_q un3_q rfl) ?_
  refine TriL.c1 rfl (op_as (ltb rfl) rfl) ?_
  refine TriL.nil (Tri.ret ?_)
  exact EndR.fin (by rw [wr64 (by omega) (by have := gOf_num hp1; omega)]; simp [gNum, *]) ⟨.inr rfl, (ResOK.r1 rfl (.tmp rfl .nil)).cast rfl, rfl⟩
theorem given_run {L : List Tk} (hL : Toks L) (H : Hp) (id : Nat) {i : Nat} (hi : i < L.length) : RunR Tryz.prog 142 [.op id 0] (Hat H id L) (fun n : Int => .int .i64 n) (pv L) i (gGiven L i) := by
 refine RunR.of_tri Tryz.func142 rfl rfl (ltb rfl) ?_
 refine Tri.seq (Tri.region ?_)
 refine TriL.c1 rfl (op_as (ltb rfl) rfl) ?_
 refine TriL.nil (Tri.seq ?_)
 refine Tri.regionP ?_
 refine TriLP.c1 rfl (op_mv (ltb rfl) rfl) ?_
 refine TriLP.c1 rfl (op_lit («as» := [_]) (ltb rfl) se40_q zAe40_q rfl rfl rfl (leb rfl)) ?_
 cases hp1 : gNeeds L [[61]] i with
 | bad j => 
  refine TriLP.callp fn99_q rfl rfl (RunR.bad (need_run hL _ id hi [[61]] (by decide)) hp1) ?_
  exact EndR.pan (by simp [gGiven, *]) rfl rfl
 | ok x1 j1 => 
  have hj1 := PR.ok_lt (gNeeds_in hL hi) hp1
  refine TriLP.c2 rfl (op_callh (ltb rfl) fn99_q rfl rfl (RunR.ok (need_run hL _ id hi [[61]] (by decide)) hp1)) ?_
  refine TriLP.nil ?_
  refine Tri.seq ?_
  refine Tri.regionP ?_
  refine TriLP.c1 rfl (op_mv (ltb rfl) rfl) ?_
  cases hp2 : gNum L j1 with
  | bad j => 
   refine TriLP.callp fn138_q rfl rfl (RunR.bad (number_run hL _ id hj1) hp2) ?_
   exact EndR.pan (by simp [gGiven, *]) rfl rfl
  | ok x2 j2 => 
   have hj2 := PR.ok_lt (gNum_in hL hj1) hp2
   refine TriLP.c2 rfl (op_callh (ltb rfl) fn138_q rfl rfl (RunR.ok (number_run hL _ id hj1) hp2)) ?_
   refine TriLP.c1 rfl (op_as (ltb rfl) rfl) ?_
   refine TriLP.nil ?_
   refine Tri.ret ?_
   exact EndR.fin (by simp [gGiven, *]; try exact ⟨rfl, rfl⟩) ⟨.inr rfl, (ResOK.r1 rfl (.tmp rfl .nil)).cast rfl, rfl⟩
theorem kind_run {L : List Tk} (hL : Toks L) (H : Hp) (id : Nat) {i : Nat} (hi : i < L.length) : RunR Tryz.prog 97 [.op id 0] (Hat H id L) (fun n : Int => .int .i64 n) (pv L) i (gKind L i) := by
 refine RunR.of_tri Tryz.func97 rfl rfl (ltb rfl) ?_
 refine Tri.seq (Tri.region ?_)
 refine TriL.c1 rfl (op_as (ltb rfl) rfl) ?_
 refine TriL.nil (Tri.seq ?_)
 refine Tri.regionP ?_
 refine TriLP.c1 rfl (op_mv (ltb rfl) rfl) ?_
 cases hp1 : gOf L 1 kindP i with
 | bad j => 
  refine TriLP.callp fn132_q rfl rfl (RunR.bad (of_run hL _ id hi (by kernel_rfl) kindP (kind1_pure _)) hp1) ?_
  exact EndR.pan (by simp [gKind, *]) rfl rfl
 | ok x1 j1 => 
  have hj1 := PR.ok_lt (gOf_in hL (by decide) hi) hp1
  refine TriLP.c2 rfl (op_callh (ltb rfl) fn132_q rfl rfl (RunR.ok (of_run hL _ id hi (by kernel_rfl) kindP (kind1_pure _)) hp1)) ?_
  refine TriLP.c2 rfl (op_all (ltb rfl) zA112_q rfl) ?_
  refine TriLP.c1 rfl (op_stl lk112_q rfl rfl rfl rfl rfl (leb rfl)) ?_
  refine TriLP.nil ?_
  refine Tri.seq (Tri.region ?_)
  refine TriL.c1 rfl (op_fal (ltb rfl) fo112_1_q rfl) ?_
  refine TriL.c1 rfl (op_ldl (ltb rfl) lk9_q rfl rfl rfl) ?_
  refine TriL.c1 rfl (op_call (ltb rfl) fn134_q rfl (kindOf_pure _)) ?_
  refine TriL.c1 rfl (op_as (ltb rfl) rfl) ?_
  refine TriL.nil (Tri.ret ?_)
  exact EndR.fin (by simp [gKind, *]; try exact ⟨rfl, rfl⟩) ⟨.inr rfl, (ResOK.r1 rfl (.tmp rfl .nil)).cast rfl, rfl⟩
theorem ty_run {L : List Tk} (hL : Toks L) (H : Hp) (id : Nat) {i : Nat} (hi : i < L.length) {f : FuncId} {such : Int → Bool} (hfn : isFn Tryz.prog f = true) (hs : ∀ n, Pure Tryz.prog f [.int .i64 n] (.bool (such n))) : RunR Tryz.prog 139 [.op id 0, .fn f []] (Hat H id L) (fun n : Int => .int .i64 n) (pv L) i (gTy L such i) := by
 refine RunR.of_tri Tryz.func139 rfl rfl (ltb rfl) ?_
 refine Tri.seq (Tri.region ?_)
 refine TriL.c2 rfl (op_box (ltb rfl) rfl rfl rfl) ?_
 refine TriL.c1 rfl (op_as (ltb rfl) rfl) ?_
 refine TriL.nil (Tri.seq ?_)
 refine Tri.ofKept (Kept.fzb 3 rfl rfl (Kept.now ?_))
 refine Tri.regionP ?_
 refine TriLP.c1 rfl (op_mv (ltb rfl) rfl) ?_
 refine TriLP.c1 rfl (op_mkf (ltb rfl) rfl) ?_
 cases hp1 : gOf L 1 (tyP such) i with
 | bad j => 
  refine TriLP.callp fn132_q rfl rfl (RunR.bad (of_run hL _ id hi (by kernel_rfl) (tyP such) (ty1_pure _ _ _ hfn hs)) hp1) ?_
  exact EndR.pan (by simp [gTy, *]) rfl rfl
 | ok x1 j1 => 
  have hj1 := PR.ok_lt (gOf_in hL (by decide) hi) hp1
  refine TriLP.c2 rfl (op_callh (ltb rfl) fn132_q rfl rfl (RunR.ok (of_run hL _ id hi (by kernel_rfl) (tyP such) (ty1_pure _ _ _ hfn hs)) hp1)) ?_
  refine TriLP.c2 rfl (op_all (ltb rfl) zA112_q rfl) ?_
  refine TriLP.c1 rfl (op_stl lk112_q rfl rfl rfl rfl rfl (leb rfl)) ?_
  refine TriLP.nil ?_
  refine Tri.seq (Tri.region ?_)
  refine TriL.c1 rfl (op_fal (ltb rfl) fo112_1_q rfl) ?_
  refine TriL.c1 rfl (op_ldl (ltb rfl) lk9_q rfl rfl rfl) ?_
  refine TriL.c1 rfl (op_call (ltb rfl) fn164_q rfl (p_of _)) ?_
  refine TriL.c1 rfl (op_as (ltb rfl) rfl) ?_
  refine TriL.nil (Tri.ret ?_)
  exact EndR.fin (by simp [gTy, *]; try exact ⟨rfl, rfl⟩) ⟨.inr rfl, (ResOK.r1 rfl (.tmp rfl .nil)).cast rfl, rfl⟩
theorem gMore_no {L : List Tk} {n : Nat} {acc : List Str} {j : Nat} (h : gTake L [44] j = false) : gMore L n acc j = .ok acc j := by
 cases n with
 | zero => rfl
 | succ n => unfold gMore; rw [h]; rfl
theorem gMore_yes {L : List Tk} {n : Nat} {acc : List Str} {j : Nat} (hn : 0 < n) (h : gTake L [44] j = true) : gMore L n acc j = (gName L (j + 1)).bind fun s k => gMore L (n - 1) (acc ++ [s]) k := by
 cases n with
 | zero => omega
 | succ n => rw [gMore, if_pos h]; rfl
theorem gName_next {L : List Tk} {i j : Nat} {s : Str} (h : gName L i = .ok s j) : j = i + 1 := by
 unfold gName at h
 cases e : gOf L 1 (fun _ => true) i with
 | ok x k => rw [e] at h; cases h; exact (gOf_ok e).2.2.2
 | bad k => rw [e] at h; cases h
theorem names_run {L : List Tk} (hL : Toks L) (H : Hp) (id : Nat) {i : Nat} (hi : i < L.length) : RunR Tryz.prog 141 [.op id 0] (Hat H id L) (fun l : List Str => .sl (l.map .str)) (pv L) i (gNames L i) := by
 refine RunR.of_tri Tryz.func141 rfl rfl (ltb rfl) ?_
 refine Tri.seq (Tri.region ?_)
 refine TriL.c1 rfl (op_as (ltb rfl) rfl) ?_
 refine TriL.nil (Tri.seq ?_)
 refine Tri.regionP ?_
 refine TriLP.c1 rfl (op_mv (ltb rfl) rfl) ?_
 cases hp1 : gName L i with
 | bad j => 
  refine TriLP.callp fn98_q rfl rfl (RunR.bad (name_run hL _ id hi) hp1) ?_
  exact EndR.pan (by first | (simp [gNames, hp1]; done) | (rw [← hI, gMore_yes (by omega) hp2]; simp [*])) rfl rfl
 | ok x1 j1 => 
  have hj1 := PR.ok_lt (gName_in hL hi) hp1
  refine TriLP.c2 rfl (op_callh (ltb rfl) fn98_q rfl rfl (RunR.ok (name_run hL _ id hi) hp1)) ?_
  refine TriLP.c2 rfl (op_litt («as» := [_]) (ltb rfl) se40_q zAe40_q rfl rfl rfl (leb rfl) rfl) ?_
  refine TriLP.c1 rfl (op_as (ltb rfl) rfl) ?_
  refine TriLP.nil ?_
  refine Tri.seq (Tri.blk ?_)
  refine Tri.ofKept (Kept.keep [.h, .s 3, .t 6, .s 0] rfl (by decide) (Kept.now ?_))
  -- LOOP 1
  refine Tri.loopk (fun ((j, a) : Nat × List AV) => [(.h, .hp (Hat H id L j)), (.s 3, .sv (.ow 6 a)), (.t 6, .tk false 9 1 a)]) _ (fun ((j, a) : Nat × List AV) => ∃ (n : Nat) (acc : List Str), a = acc.map .str ∧ gMore L n acc j = gNames L i ∧ j < L.length ∧ L.length - j ≤ n ∧ acc.length ≤ j) (fun ((j, a) : Nat × List AV) => L.length - j) (j1, [AV.str x1]) rfl ⟨L.length - j1, [x1], rfl, by simp [gNames, hp1], hj1, by omega, by have := gName_next hp1; simp; omega⟩ ?_
  rintro ⟨j, a⟩ ⟨n, acc, ha, hI, hj, hn, hac⟩
  refine Tri.seq (Tri.seq (Tri.region ?_))
  refine TriL.c1 rfl (op_mv (ltb rfl) rfl) ?_
  cases hp2 : gTake L [44] j with
  | true => 
   refine TriL.c2 rfl (op_callh (ltb rfl) fn136_q rfl rfl (takeT hL _ id hj hp2)) ?_
   refine TriL.nil ?_
   refine Tri.condT rfl rfl ?_
   refine Tri.skip (Tri.blk ?_)
   refine Tri.regionP ?_
   iterate 2 (refine TriLP.c1 rfl (op_mv (ltb rfl) rfl) ?_)
   cases hp3 : gName L (j + 1) with
   | bad j => 
    refine TriLP.callp fn98_q rfl rfl (RunR.bad (name_run hL _ id (gTake_lt hL hj hp2)) hp3) ?_
    exact EndR.pan (by first | (simp [gNames, hp1]; done) | (rw [← hI, gMore_yes (by omega) hp2]; simp [*])) rfl rfl
   | ok x3 j3 => 
    have hj3 := PR.ok_lt (gName_in hL (gTake_lt hL hj hp2)) hp3
    refine TriLP.c2 rfl (op_callh (ltb rfl) fn98_q rfl rfl (RunR.ok (name_run hL _ id (gTake_lt hL hj hp2)) hp3)) ?_
    refine TriLP.c1 rfl (op_lit («as» := [_]) (ltb rfl) se40_q zAe40_q rfl rfl rfl (leb rfl)) ?_
    refine TriLP.c3 rfl (op_app (ltb rfl) se40_q rfl rfl rfl rfl rfl (by have h1 := congrArg List.length ha; simp only [List.length_map, List.length_cons, List.length_nil] at *; have := hL.len; omega) (by have h1 := congrArg List.length ha; simp only [List.length_map, List.length_cons, List.length_nil] at *; have := hL.len; omega)) ?_
    refine TriLP.c1 rfl (op_as (ltb rfl) rfl) ?_
    refine TriLP.kept (Kept.keep [.h, .s 3, .t 13, .s 0] rfl (by decide) (Kept.ren 13 6 (by decide) rfl (Kept.now ?_)))
    exact ⟨(_, _), by dsimp only; have := gName_next hp3; omega, ⟨n - 1, acc ++ [x3], by simp [ha], by rw [← hI, gMore_yes (by omega) hp2, hp3]; rfl, hj3, by have := gName_next hp3; omega, by have := gName_next hp3; simp; omega⟩, rfl⟩
  | false => 
   refine TriL.c2 rfl (op_callh (ltb rfl) fn136_q rfl rfl (takeF hL _ id hj hp2)) ?_
   refine TriL.nil ?_
   refine Tri.condF rfl rfl ?_
   refine Tri.exit (Tri.seq (Tri.region ?_))
   refine TriL.c1 rfl (op_mv (ltb rfl) rfl) ?_
   refine TriL.c1 rfl (op_as (ltb rfl) rfl) ?_
   refine TriL.nil (Tri.ret ?_)
   exact EndR.fin (hI.symm.trans (gMore_no hp2)) ⟨.inr rfl, (ResOK.r1 rfl (.tmp rfl .nil)).cast (congrArg AV.sl ha), rfl⟩
end Go.Proofs.YtabihkfhoohfnaaGreatDoor.X
