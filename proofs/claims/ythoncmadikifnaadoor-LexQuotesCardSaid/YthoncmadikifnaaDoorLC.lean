/- lex: all tokens, in the program and in the document. -/
import Derived.Test.YthoncmadikifnaaDoorLQ
set_option linter.unusedVariables false
set_option linter.unusedSimpArgs false
set_option linter.unusedSectionVars false
set_option maxRecDepth 100000
namespace Go.Proofs.YthoncmadikifnaaDoor.X
open Go Go.RowKit Go.Proofs
theorem isRem_ne {c : UInt8} {r : List UInt8} (h : c.toNat ≠ 47) : isRem (c :: r) = false := by
  have : ¬ (47 : UInt8) = c := fun e => h (by rw [← e]; rfl)
  unfold isRem Lib.hasPrefix
  cases r <;> simp [List.isPrefixOf, this]
theorem isRem_one {c : UInt8} : isRem [c] = false := by
  unfold isRem Lib.hasPrefix
  simp [List.isPrefixOf]
theorem isRem_ne2 {c d : UInt8} {r : List UInt8} (h : d.toNat ≠ 47) : isRem (c :: d :: r) = false := by
  have : ¬ (47 : UInt8) = d := fun e => h (by rw [← e]; rfl)
  unfold isRem Lib.hasPrefix
  simp [List.isPrefixOf, this]
theorem isRem_two {c d : UInt8} {r : List UInt8} (h : c.toNat = 47) (h2 : d.toNat = 47) : isRem (c :: d :: r) = true := by
  obtain rfl : c = 47 := UInt8.toNat_inj.1 h
  obtain rfl : d = 47 := UInt8.toNat_inj.1 h2
  unfold isRem Lib.hasPrefix
  simp [List.isPrefixOf]
def StPs (H : Hp) (s : List UInt8) (j : Int) : St := [(.h, .hp H), (.s 0, .sv (.v (.str s))), (.s 1, .sv (.v (.int .i64 j)))]
theorem bl_no {c : UInt8} (h1 : ((c.toNat : Int) == 32) = false) (h2 : ((c.toNat : Int) == 10) = false) (h3 : ((c.toNat : Int) == 9) = false) : isBl c = false :=
  decide_eq_false (by have := beq_eq_false_iff_ne.1 h1; have := beq_eq_false_iff_ne.1 h2; have := beq_eq_false_iff_ne.1 h3; omega)
theorem bl_1 {c : UInt8} (h : ((c.toNat : Int) == 32) = true) : isBl c = true := decide_eq_true (by have := eq_of_beq h; omega)
theorem bl_2 {c : UInt8} (h : ((c.toNat : Int) == 10) = true) : isBl c = true := decide_eq_true (by have := eq_of_beq h; omega)
theorem bl_3 {c : UInt8} (h : ((c.toNat : Int) == 9) = true) : isBl c = true := decide_eq_true (by have := eq_of_beq h; omega)
theorem pass_pure (s : List UInt8) (a0 : Nat) (hs : s.length ≤ 1073741824) (h0 : a0 ≤ s.length) : Pure Tryd.prog 19 [.str s, .int .i64 a0] (.int .i64 (a0 + skp (s.drop a0) : Nat)) := by
  refine Pure.of_tri Tryd.func19 rfl rfl (ltb rfl) fun H => ?_
  refine Tri.seq ?_
  refine Tri.region ?_
  refine TriL.c1 rfl (op_as (ltb rfl) rfl) ?_
  refine TriL.kept (Kept.keep [.h, .s 0, .s 1] rfl (by decide) (Kept.now ?_))
  refine Tri.seq ?_
  refine Tri.blk ?_
  -- LOOP 1: KEEP
  refine Tri.loop (fun q w => ∃ (a : Nat) (j : Int), w = StPs H s j ∧ j = a ∧ a ≤ s.length ∧ a + skp (s.drop a) = a0 + skp (s.drop a0) ∧ q = s.length - a) ?_ (n := s.length - a0) ⟨a0, a0, rfl, rfl, h0, rfl, rfl⟩
  rintro q w ⟨a, j, rfl, hj, ha, hI, rfl⟩
  refine Tri.seq ?_
  refine Tri.seq ?_
  refine Tri.region ?_
  refine TriL.c1 rfl (op_mv (ltb rfl) rfl) ?_
  refine TriL.c1 rfl (op_mv (ltb rfl) rfl) ?_
  refine TriL.c1 rfl (op_lens (ltb rfl) un9 rfl) ?_
  refine TriL.c1 rfl (op_bin (ltb rfl) rfl rfl rfl) ?_
  refine TriL.nil ?_
  refine Tri.cond rfl (fun hc1 => ?_) (fun hc1 => ?_)
  · have hlt : a < s.length := by have := of_decide_eq_true hc1; omega
    obtain ⟨c, hc⟩ : ∃ c, s[a]? = some c := ⟨s[a], List.getElem?_eq_getElem hlt⟩
    have hda := drop_at hc
    refine Tri.skip ?_
    refine Tri.blk ?_
    refine Tri.seq ?_
    refine Tri.seq ?_
    refine Tri.region ?_
    refine TriL.c1 rfl (op_mv (ltb rfl) rfl) ?_
    refine TriL.c1 rfl (op_mv (ltb rfl) rfl) ?_
    refine TriL.c1 rfl (op_ixs (ltb rfl) un9 rfl rfl (by omega) (ixc hj hc)) ?_
    refine TriL.c1 rfl (op_bin (ltb rfl) rfl rfl rfl) ?_
    refine TriL.c1 rfl (op_mv (ltb rfl) rfl) ?_
    refine TriL.split (d := 13) rfl (fun hg2 => ?_) (fun hg2 => ?_)
    · refine TriL.skipu rfl rfl (ltb rfl) (ltb rfl) rfl hg2 ?_
      refine TriL.skipu rfl rfl (ltb rfl) (ltb rfl) rfl hg2 ?_
      refine TriL.skipu rfl rfl (ltb rfl) (ltb rfl) rfl hg2 ?_
      refine TriL.skipu rfl rfl (ltb rfl) (ltb rfl) rfl hg2 ?_
      refine TriL.c1 rfl (op_pickt (ltb rfl) rfl hg2 rfl) ?_
      refine TriL.c1 rfl (op_mv (ltb rfl) rfl) ?_
      refine TriL.skipu rfl rfl (ltb rfl) (ltb rfl) rfl rfl ?_
      refine TriL.skipu rfl rfl (ltb rfl) (ltb rfl) rfl rfl ?_
      refine TriL.skipu rfl rfl (ltb rfl) (ltb rfl) rfl rfl ?_
      refine TriL.skipu rfl rfl (ltb rfl) (ltb rfl) rfl rfl ?_
      refine TriL.c1 rfl (op_pickt (ltb rfl) rfl rfl rfl) ?_
      refine TriL.nil ?_
      refine Tri.condT rfl rfl ?_
      refine Tri.seq ?_
      refine Tri.region ?_
      refine TriL.c1 rfl (op_mv (ltb rfl) rfl) ?_
      refine TriL.c1 rfl (op_bin (ltb rfl) rfl rfl rfl) ?_
      refine TriL.c1 rfl (op_as (ltb rfl) rfl) ?_
      refine TriL.kept (Kept.keep [.h, .s 0, .s 1] rfl (by decide) (Kept.now ?_))
      refine Tri.exit ?_
      exact ⟨s.length - (a + 1), by omega, a + 1, IntKind.i64.wrap (j + 1), rfl, by rw [hj, wr64] <;> omega, by omega, by rw [← hI, hda, skp_bl (bl_1 hg2)]; omega, rfl⟩
    · refine TriL.g1 rfl (ltb rfl) rfl hg2 (op_mv (ltb rfl) rfl) ?_
      refine TriL.g1 rfl (ltb rfl) rfl hg2 (op_mv (ltb rfl) rfl) ?_
      refine TriL.g1 rfl (ltb rfl) rfl hg2 (op_ixs (ltb rfl) un9 rfl rfl (by omega) (ixc hj hc)) ?_
      refine TriL.g1 rfl (ltb rfl) rfl hg2 (op_bin (ltb rfl) rfl rfl rfl) ?_
      refine TriL.c1 rfl (op_pickf (ltb rfl) rfl hg2 rfl) ?_
      refine TriL.c1 rfl (op_mv (ltb rfl) rfl) ?_
      refine TriL.split (d := 19) rfl (fun hg3 => ?_) (fun hg3 => ?_)
      · refine TriL.skipu rfl rfl (ltb rfl) (ltb rfl) rfl hg3 ?_
        refine TriL.skipu rfl rfl (ltb rfl) (ltb rfl) rfl hg3 ?_
        refine TriL.skipu rfl rfl (ltb rfl) (ltb rfl) rfl hg3 ?_
        refine TriL.skipu rfl rfl (ltb rfl) (ltb rfl) rfl hg3 ?_
        refine TriL.c1 rfl (op_pickt (ltb rfl) rfl hg3 rfl) ?_
        refine TriL.nil ?_
        refine Tri.condT rfl rfl ?_
        refine Tri.seq ?_
        refine Tri.region ?_
        refine TriL.c1 rfl (op_mv (ltb rfl) rfl) ?_
        refine TriL.c1 rfl (op_bin (ltb rfl) rfl rfl rfl) ?_
        refine TriL.c1 rfl (op_as (ltb rfl) rfl) ?_
        refine TriL.kept (Kept.keep [.h, .s 0, .s 1] rfl (by decide) (Kept.now ?_))
        refine Tri.exit ?_
        exact ⟨s.length - (a + 1), by omega, a + 1, IntKind.i64.wrap (j + 1), rfl, by rw [hj, wr64] <;> omega, by omega, by rw [← hI, hda, skp_bl (bl_2 hg3)]; omega, rfl⟩
      · refine TriL.g1 rfl (ltb rfl) rfl hg3 (op_mv (ltb rfl) rfl) ?_
        refine TriL.g1 rfl (ltb rfl) rfl hg3 (op_mv (ltb rfl) rfl) ?_
        refine TriL.g1 rfl (ltb rfl) rfl hg3 (op_ixs (ltb rfl) un9 rfl rfl (by omega) (ixc hj hc)) ?_
        refine TriL.g1 rfl (ltb rfl) rfl hg3 (op_bin (ltb rfl) rfl rfl rfl) ?_
        refine TriL.c1 rfl (op_pickf (ltb rfl) rfl hg3 rfl) ?_
        refine TriL.nil ?_
        refine Tri.cond rfl (fun hc4 => ?_) (fun hc4 => ?_)
        · refine Tri.seq ?_
          refine Tri.region ?_
          refine TriL.c1 rfl (op_mv (ltb rfl) rfl) ?_
          refine TriL.c1 rfl (op_bin (ltb rfl) rfl rfl rfl) ?_
          refine TriL.c1 rfl (op_as (ltb rfl) rfl) ?_
          refine TriL.kept (Kept.keep [.h, .s 0, .s 1] rfl (by decide) (Kept.now ?_))
          refine Tri.exit ?_
          exact ⟨s.length - (a + 1), by omega, a + 1, IntKind.i64.wrap (j + 1), rfl, by rw [hj, wr64] <;> omega, by omega, by rw [← hI, hda, skp_bl (bl_3 hc4)]; omega, rfl⟩
        · have hb := bl_no hg2 hg3 hc4
          have hw1 : IntKind.i64.wrap (j + 1) = ((a + 1 : Nat) : Int) := by rw [hj, wr64] <;> omega
          refine Tri.skip ?_
          refine Tri.seq ?_
          refine Tri.seq ?_
          refine Tri.region ?_
          refine TriL.c1 rfl (op_mv (ltb rfl) rfl) ?_
          refine TriL.c1 rfl (op_mv (ltb rfl) rfl) ?_
          refine TriL.c1 rfl (op_ixs (ltb rfl) un9 rfl rfl (by omega) (ixc hj hc)) ?_
          refine TriL.c1 rfl (op_bin (ltb rfl) rfl rfl rfl) ?_
          refine TriL.c1 rfl (op_mv (ltb rfl) rfl) ?_
          refine TriL.split (d := 31) rfl (fun hg5 => ?_) (fun hg5 => ?_)
          · refine TriL.skipu rfl rfl (ltb rfl) (ltb rfl) rfl hg5 ?_
            refine TriL.skipu rfl rfl (ltb rfl) (ltb rfl) rfl hg5 ?_
            refine TriL.skipu rfl rfl (ltb rfl) (ltb rfl) rfl hg5 ?_
            refine TriL.skipu rfl rfl (ltb rfl) (ltb rfl) rfl hg5 ?_
            refine TriL.skipu rfl rfl (ltb rfl) (ltb rfl) rfl hg5 ?_
            refine TriL.c1 rfl (op_pickt (ltb rfl) rfl hg5 rfl) ?_
            refine TriL.c1 rfl (op_mv (ltb rfl) rfl) ?_
            refine TriL.skipu rfl rfl (ltb rfl) (ltb rfl) rfl rfl ?_
            refine TriL.skipu rfl rfl (ltb rfl) (ltb rfl) rfl rfl ?_
            refine TriL.skipu rfl rfl (ltb rfl) (ltb rfl) rfl rfl ?_
            refine TriL.skipu rfl rfl (ltb rfl) (ltb rfl) rfl rfl ?_
            refine TriL.skipu rfl rfl (ltb rfl) (ltb rfl) rfl rfl ?_
            refine TriL.c1 rfl (op_pickt (ltb rfl) rfl rfl rfl) ?_
            refine TriL.nil ?_
            refine Tri.condT rfl rfl ?_
            refine Tri.seq ?_
            refine Tri.region ?_
            refine TriL.c1 rfl (op_mv (ltb rfl) rfl) ?_
            refine TriL.c1 rfl (op_as (ltb rfl) rfl) ?_
            refine TriL.nil ?_
            refine Tri.ret ?_
            exact ⟨.inr rfl, (ResOK.r1 rfl (.tmp rfl .nil)).cast (by
              have hr : isRem (s.drop a) = false := by rw [hda]; exact isRem_ne (by have h : (!((c.toNat : Int) == 47)) = true := hg5; simp at h; omega)
              have hz : skp (s.drop a) = 0 := by rw [hda] at hr ⊢; exact skp_no hb hr
              rw [hj, ← hI, hz]; rfl), rfl⟩
          · refine TriL.g1 rfl (ltb rfl) rfl hg5 (op_mv (ltb rfl) rfl) ?_
            refine TriL.g1 rfl (ltb rfl) rfl hg5 (op_bin (ltb rfl) rfl rfl rfl) ?_
            refine TriL.g1 rfl (ltb rfl) rfl hg5 (op_mv (ltb rfl) rfl) ?_
            refine TriL.g1 rfl (ltb rfl) rfl hg5 (op_lens (ltb rfl) un9 rfl) ?_
            refine TriL.g1 rfl (ltb rfl) rfl hg5 (op_bin (ltb rfl) rfl rfl rfl) ?_
            refine TriL.c1 rfl (op_pickf (ltb rfl) rfl hg5 rfl) ?_
            refine TriL.c1 rfl (op_mv (ltb rfl) rfl) ?_
            refine TriL.split (d := 38) rfl (fun hg6 => ?_) (fun hg6 => ?_)
            · refine TriL.skipu rfl rfl (ltb rfl) (ltb rfl) rfl hg6 ?_
              refine TriL.skipu rfl rfl (ltb rfl) (ltb rfl) rfl hg6 ?_
              refine TriL.skipu rfl rfl (ltb rfl) (ltb rfl) rfl hg6 ?_
              refine TriL.skipu rfl rfl (ltb rfl) (ltb rfl) rfl hg6 ?_
              refine TriL.skipu rfl rfl (ltb rfl) (ltb rfl) rfl hg6 ?_
              refine TriL.c1 rfl (op_pickt (ltb rfl) rfl hg6 rfl) ?_
              refine TriL.nil ?_
              refine Tri.condT rfl rfl ?_
              refine Tri.seq ?_
              refine Tri.region ?_
              refine TriL.c1 rfl (op_mv (ltb rfl) rfl) ?_
              refine TriL.c1 rfl (op_as (ltb rfl) rfl) ?_
              refine TriL.nil ?_
              refine Tri.ret ?_
              exact ⟨.inr rfl, (ResOK.r1 rfl (.tmp rfl .nil)).cast (by
                have hr : isRem (s.drop a) = false := by rw [hda]; rw [show s.drop (a + 1) = [] from List.drop_of_length_le (by have := of_decide_eq_true hg6; rw [hw1] at this; omega)]; exact isRem_one
                have hz : skp (s.drop a) = 0 := by rw [hda] at hr ⊢; exact skp_no hb hr
                rw [hj, ← hI, hz]; rfl), rfl⟩
            · have hlt2 : a + 1 < s.length := by have := of_decide_eq_false hg6; rw [hw1] at this; omega
              obtain ⟨d, hd⟩ : ∃ d, s[a + 1]? = some d := ⟨s[a + 1], List.getElem?_eq_getElem hlt2⟩
              have hdb := drop_at hd
              refine TriL.g1 rfl (ltb rfl) rfl hg6 (op_mv (ltb rfl) rfl) ?_
              refine TriL.g1 rfl (ltb rfl) rfl hg6 (op_mv (ltb rfl) rfl) ?_
              refine TriL.g1 rfl (ltb rfl) rfl hg6 (op_bin (ltb rfl) rfl rfl rfl) ?_
              refine TriL.g1 rfl (ltb rfl) rfl hg6 (op_ixs (ltb rfl) un9 rfl rfl (by rw [hw1]; omega) (ixc hw1 hd)) ?_
              refine TriL.g1 rfl (ltb rfl) rfl hg6 (op_bin (ltb rfl) rfl rfl rfl) ?_
              refine TriL.c1 rfl (op_pickf (ltb rfl) rfl hg6 rfl) ?_
              refine TriL.nil ?_
              refine Tri.cond rfl (fun hc7 => ?_) (fun hc7 => ?_)
              · refine Tri.seq ?_
                refine Tri.region ?_
                refine TriL.c1 rfl (op_mv (ltb rfl) rfl) ?_
                refine TriL.c1 rfl (op_as (ltb rfl) rfl) ?_
                refine TriL.nil ?_
                refine Tri.ret ?_
                exact ⟨.inr rfl, (ResOK.r1 rfl (.tmp rfl .nil)).cast (by
                  have hr : isRem (s.drop a) = false := by rw [hda]; rw [hdb]; exact isRem_ne2 (by have h : (!((d.toNat : Int) == 47)) = true := hc7; simp at h; omega)
                  have hz : skp (s.drop a) = 0 := by rw [hda] at hr ⊢; exact skp_no hb hr
                  rw [hj, ← hI, hz]; rfl), rfl⟩
              · have hr : isRem (s.drop a) = true := by
                    rw [hda, hdb]
                    have h1 : (!((c.toNat : Int) == 47)) = false := hg5
                    have h2 : (!((d.toNat : Int) == 47)) = false := hc7
                    simp at h1 h2
                    exact isRem_two (by omega) (by omega)
                have hsp := spn_rem hr
                have hskp : skp (s.drop a) = skp (s.drop (a + spn noNl (s.drop a))) + spn noNl (s.drop a) := by
                  have h5 : skp (s.drop a) = skp ((s.drop a).drop (spn noNl (s.drop a))) + spn noNl (s.drop a) := by
                    rw [hda] at hr ⊢; exact skp_rem hb hr
                  rw [h5, List.drop_drop]
                refine Tri.ofKept (Kept.keep [.h, .s 0, .s 1] rfl (by decide) (Kept.now ?_))
                refine Tri.skip ?_
                refine Tri.blk ?_
                -- LOOP 2: KEEP
                refine Tri.loop (fun q w => ∃ (b : Nat) (j2 : Int), w = StPs H s j2 ∧ j2 = b ∧ a ≤ b ∧ b ≤ s.length ∧ b - a ≤ spn noNl (s.drop a) ∧ q = s.length - b) ?_ (n := s.length - a) ⟨a, j, rfl, hj, Nat.le_refl _, ha, by omega, rfl⟩
                rintro q w ⟨b, j2, rfl, hj2, hb2, hb3, hb4, rfl⟩
                have hsl := spn_le noNl (s.drop a)
                rw [List.length_drop] at hsl
                refine Tri.seq ?_
                refine Tri.seq ?_
                refine Tri.region ?_
                refine TriL.c1 rfl (op_mv (ltb rfl) rfl) ?_
                refine TriL.c1 rfl (op_mv (ltb rfl) rfl) ?_
                refine TriL.c1 rfl (op_lens (ltb rfl) un9 rfl) ?_
                refine TriL.c1 rfl (op_bin (ltb rfl) rfl rfl rfl) ?_
                refine TriL.c1 rfl (op_mv (ltb rfl) rfl) ?_
                refine TriL.split (d := 50) rfl (fun hg8 => ?_) (fun hg8 => ?_)
                · have hlt3 : b < s.length := by have := of_decide_eq_true hg8; omega
                  obtain ⟨e, he⟩ : ∃ e, s[b]? = some e := ⟨s[b], List.getElem?_eq_getElem hlt3⟩
                  have hsd := spn_drop noNl (s.drop a) (b - a) e hb4 (by rw [List.getElem?_drop, show a + (b - a) = b by omega]; exact he)
                  refine TriL.g1 rfl (ltb rfl) rfl hg8 (op_mv (ltb rfl) rfl) ?_
                  refine TriL.g1 rfl (ltb rfl) rfl hg8 (op_mv (ltb rfl) rfl) ?_
                  refine TriL.g1 rfl (ltb rfl) rfl hg8 (op_ixs (ltb rfl) un9 rfl rfl (by omega) (ixc hj2 he)) ?_
                  refine TriL.g1 rfl (ltb rfl) rfl hg8 (op_bin (ltb rfl) rfl rfl rfl) ?_
                  refine TriL.c1 rfl (op_pickt (ltb rfl) rfl hg8 rfl) ?_
                  refine TriL.nil ?_
                  refine Tri.cond rfl (fun hc9 => ?_) (fun hc9 => ?_)
                  · refine Tri.skip ?_
                    refine Tri.blk ?_
                    refine Tri.region ?_
                    refine TriL.c1 rfl (op_mv (ltb rfl) rfl) ?_
                    refine TriL.c1 rfl (op_bin (ltb rfl) rfl rfl rfl) ?_
                    refine TriL.c1 rfl (op_as (ltb rfl) rfl) ?_
                    refine TriL.kept (Kept.keep [.h, .s 0, .s 1] rfl (by decide) (Kept.now ?_))
                    have hnn : noNl e = true := by
                      have h : (!((e.toNat : Int) == 10)) = true := hc9
                      simp at h
                      exact decide_eq_true (by omega)
                    exact ⟨s.length - (b + 1), by omega, b + 1, IntKind.i64.wrap (j2 + 1), rfl, by rw [hj2, wr64] <;> omega, by omega, by omega, by have := hsd.1 hnn; omega, rfl⟩
                  · refine Tri.ofKept (Kept.keep [.h, .s 0, .s 1] rfl (by decide) (Kept.now ?_))
                    refine Tri.exit ?_
                    have e5 : spn noNl (s.drop a) = b - a := hsd.2 (by
                      have h : (!((e.toNat : Int) == 10)) = false := hc9
                      simp at h
                      exact decide_eq_false (by omega))
                    exact ⟨s.length - b, by omega, b, j2, rfl, hj2, hb3, by rw [← hI, hskp, e5, show a + (b - a) = b by omega]; omega, rfl⟩
                · refine TriL.skipu rfl rfl (ltb rfl) (ltb rfl) rfl hg8 ?_
                  refine TriL.skipu rfl rfl (ltb rfl) (ltb rfl) rfl hg8 ?_
                  refine TriL.skipu rfl rfl (ltb rfl) (ltb rfl) rfl hg8 ?_
                  refine TriL.skipu rfl rfl (ltb rfl) (ltb rfl) rfl hg8 ?_
                  refine TriL.c1 rfl (op_pickf (ltb rfl) rfl hg8 rfl) ?_
                  refine TriL.nil ?_
                  refine Tri.condF rfl rfl ?_
                  refine Tri.ofKept (Kept.keep [.h, .s 0, .s 1] rfl (by decide) (Kept.now ?_))
                  refine Tri.exit ?_
                  have e5 : spn noNl (s.drop a) = b - a := by have := of_decide_eq_false hg8; omega
                  exact ⟨s.length - b, by omega, b, j2, rfl, hj2, hb3, by rw [← hI, hskp, e5, show a + (b - a) = b by omega]; omega, rfl⟩
  · refine Tri.exit ?_
    refine Tri.seq ?_
    refine Tri.region ?_
    refine TriL.c1 rfl (op_mv (ltb rfl) rfl) ?_
    refine TriL.c1 rfl (op_as (ltb rfl) rfl) ?_
    refine TriL.nil ?_
    refine Tri.ret ?_
    exact ⟨.inr rfl, (ResOK.r1 rfl (.tmp rfl .nil)).cast (by rw [hj, ← hI, List.drop_of_length_le (by have := of_decide_eq_false hc1; omega), skp_nil]; rfl), rfl⟩
end Go.Proofs.YthoncmadikifnaaDoor.X
