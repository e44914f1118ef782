/- The document's number. -/
import Derived.Test.YtabihkfhoohfnaaGreatDoorZBF
import Derived.Test.YtabihkfhoohfnaaGreatDoorZBC
import Derived.Test.YtabihkfhoohfnaaGreatDoorZBD
import Derived.Test.YtabihkfhoohfnaaGreatDoorZBE
set_option linter.unusedVariables false
set_option linter.unusedSimpArgs false
set_option linter.unusedSectionVars false
set_option maxRecDepth 100000
namespace Go.Proofs.YtabihkfhoohfnaaGreatDoor.X
open Go Go.RowKit Go.Proofs
theorem fn78_q : isFn Tryz.prog 78 = true := by kernel_rfl
def numR (s : List UInt8) : AV := match numTok s with
 | some (u, neg, k) => .tup [.int .u64 u, .bool neg, .int .i64 k]
 | none => .tup [.int .u64 (0 : Nat), .bool false, .int .i64 (0 : Nat)]
theorem numT_ok {s : List UInt8} {u : Nat} (h : Lib.parseUintB 64 (numS s) = .ok u) (h1 : ¬ (isNeg s = true ∧ 9223372036854775808 < u)) (h2 : digs u (isNeg s) = s.take (numB s)) : numTok s = some (u, isNeg s, numB s) := by
 unfold numS at h
 unfold numTok
 rw [h]
 simp only []
 rw [if_neg (by rintro (h3 | h3); exact h1 h3; exact h3 h2)]
theorem numT_no {s : List UInt8} {u : Nat} (h : Lib.parseUintB 64 (numS s) = .ok u) (h1 : (isNeg s = true ∧ 9223372036854775808 < u) ∨ digs u (isNeg s) ≠ s.take (numB s)) : numTok s = none := by
 unfold numS at h
 unfold numTok
 rw [h]
 simp only []
 rw [if_pos h1]
theorem numT_bad {s : List UInt8} (h : ∀ u, Lib.parseUintB 64 (numS s) ≠ .ok u) : numTok s = none := by
 unfold numS at h
 unfold numTok
 split
 ·rename_i u e2; exact absurd e2 (h u)
 ·rfl
theorem isNeg_cons (c : UInt8) (r : List UInt8) : isNeg (c :: r) = ((c.toNat : Int) == 45) := by
 have e : isNeg (c :: r) = (45 == c) := by simp [isNeg, Lib.hasPrefix, List.isPrefixOf]
 rw [e]
 by_cases h : c = 45
 ·subst h; rfl
 ·have h2 : ¬ (c.toNat : Int) = 45 := fun e => h (UInt8.toNat_inj.1 (by have : (45 : UInt8).toNat = 45 := rfl; omega))
  rw [beq_eq_false_iff_ne.2 (Ne.symm h), beq_eq_false_iff_ne.2 h2]
def offS (s : List UInt8) : Nat := s.length - (unsg s).length
theorem offS_eq (s : List UInt8) : (isNeg s = true → offS s = 1) ∧ (isNeg s = false → offS s = 0) := by
 unfold offS unsg Lib.trimPrefix
 refine ⟨fun h => ?_, fun h => ?_⟩
 ·have h' : Lib.hasPrefix s [45] = true := h
  rw [if_pos h']
  have : 1 ≤ s.length := by
   cases s with
   | nil => simp [Lib.hasPrefix] at h'
   | cons c r => simp
  simp; omega
 ·have h' : Lib.hasPrefix s [45] = false := h
  rw [if_neg (by simp [h'])]; omega
theorem unsg_get (s : List UInt8) (k : Nat) : s[offS s + k]? = (unsg s)[k]? := by
 cases h : isNeg s
 ·rw [(offS_eq s).2 h]
  have h' : Lib.hasPrefix s [45] = false := h
  unfold unsg Lib.trimPrefix
  rw [if_neg (by simp [h']), Nat.zero_add]
 ·rw [(offS_eq s).1 h]
  have h' : Lib.hasPrefix s [45] = true := h
  unfold unsg Lib.trimPrefix
  rw [if_pos h', List.getElem?_drop]; rfl
abbrev Mx : Nat := 18446744073709551615
def PI (s : List UInt8) (k n : Nat) : Prop := Lib.parseUintM Mx 0 (numS s) = Lib.parseUintM Mx n ((numS s).drop k) ∧ n < 18446744073709551616
theorem numS_drop {s : List UInt8} {k : Nat} {c : UInt8} (hk : k + 1 ≤ spn isDig (unsg s)) (hc : (unsg s)[k]? = some c) : (numS s).drop k = c :: (numS s).drop (k + 1) := by
 have h1 : (numS s)[k]? = some c := by unfold numS; rw [List.getElem?_take_of_lt (by omega)]; exact hc
 obtain ⟨hlt, h2⟩ := List.getElem?_eq_some_iff.1 h1
 rw [List.drop_eq_getElem_cons hlt, h2]
theorem PI.over {s : List UInt8} {k n : Nat} {c : UInt8} (h : PI s k n) (hk : k + 1 ≤ spn isDig (unsg s)) (hc : (unsg s)[k]? = some c) (hd : isDig c = true) (ho : (18446744073709551615 - (c.toNat - 48)) / 10 < n) : ∀ u, Lib.parseUintB 64 (numS s) ≠ .ok u := by
 have hd' := of_decide_eq_true hd
 have e : Lib.parseUintM Mx 0 (numS s) = .range := by
  rw [h.1, numS_drop hk hc, Lib.parseUintM, if_pos hd']
  split
  ·rfl
  ·rw [if_pos (by unfold Mx; omega)]
 intro u hu
 unfold Lib.parseUintB at hu
 split at hu
 ·cases hu
 ·have : Lib.parseUintM Mx 0 (numS s) = .ok u := hu
  rw [e] at this; cases this
theorem PI.step {s : List UInt8} {k n : Nat} {c : UInt8} (h : PI s k n) (hk : k + 1 ≤ spn isDig (unsg s)) (hc : (unsg s)[k]? = some c) (hd : isDig c = true) (ho : ¬ (18446744073709551615 - (c.toNat - 48)) / 10 < n) : PI s (k + 1) (n * 10 + (c.toNat - 48)) := by
 have hd' := of_decide_eq_true hd
 refine ⟨?_, by omega⟩
 rw [h.1, numS_drop hk hc, Lib.parseUintM, if_pos hd', if_neg (by omega), if_neg (by unfold Mx; omega)]
theorem PI.fin {s : List UInt8} {n : Nat} (h : PI s (spn isDig (unsg s)) n) : (spn isDig (unsg s) = 0 → ∀ u, Lib.parseUintB 64 (numS s) ≠ .ok u) ∧ (spn isDig (unsg s) ≠ 0 → Lib.parseUintB 64 (numS s) = .ok n) := by
 have hl : (numS s).length = spn isDig (unsg s) := by have := spn_le isDig (unsg s); simp [numS]; omega
 refine ⟨fun e u hu => ?_, fun e => ?_⟩
 ·rw [List.eq_nil_of_length_eq_zero (hl.trans e)] at hu; cases hu
 ·have hne : numS s ≠ [] := fun e2 => e (by rw [← hl, e2]; rfl)
  unfold Lib.parseUintB
  rw [if_neg hne]
  show Lib.parseUintM Mx 0 (numS s) = .ok n
  rw [h.1, List.drop_of_length_le (by omega)]; rfl
theorem rn_d {c : UInt8} (hd : isDig c = true) : IntKind.u64.wrap (IntKind.u8.wrap ((c.toNat : Int) - 48)) = ((c.toNat - 48 : Nat) : Int) := by
 have hd' := of_decide_eq_true hd
 rw [wru8 (by omega) (by omega), wru64 (by omega) (by omega)]; omega
theorem rn_q {c : UInt8} (hd : isDig c = true) : (IntKind.u64.wrap ((IntKind.u64.wrap (18446744073709551615 - IntKind.u64.wrap (IntKind.u8.wrap ((c.toNat : Int) - 48)))).tdiv 10)) = (((18446744073709551615 - (c.toNat - 48)) / 10 : Nat) : Int) := by
 have hd' := of_decide_eq_true hd
 rw [rn_d hd, wru64 (n := 18446744073709551615 - ((c.toNat - 48 : Nat) : Int)) (by omega) (by omega), Int.tdiv_eq_ediv_of_nonneg (by omega), wru64 (by omega) (by omega)]; omega
theorem rn_n {c : UInt8} {n : Nat} (hd : isDig c = true) (ho : ¬ (18446744073709551615 - (c.toNat - 48)) / 10 < n) : IntKind.u64.wrap (IntKind.u64.wrap (10 * (n : Int)) + IntKind.u64.wrap (IntKind.u8.wrap ((c.toNat : Int) - 48))) = ((n * 10 + (c.toNat - 48) : Nat) : Int) := by
 have hd' := of_decide_eq_true hd
 rw [rn_d hd, wru64 (n := 10 * (n : Int)) (by omega) (by omega), wru64 (by omega) (by omega)]; omega
def StN3 (H : Hp) (s : List UInt8) (j : Int) : St := [(.h, .hp H), (.s 0, .sv (.v (.str s))), (.s 5, .sv (.v (.int .i64 j))), (.s 6, .sv (.v (.bool (isNeg s))))]
def StN (H : Hp) (s : List UInt8) (j m : Int) (n : Nat) : St := [(.h, .hp H), (.s 0, .sv (.v (.str s))), (.s 5, .sv (.v (.int .i64 j))), (.s 6, .sv (.v (.bool (isNeg s)))), (.s 7, .sv (.v (.int .i64 m))), (.s 8, .sv (.v (.int .u64 (n : Int))))]
theorem rnumber_pure (s : List UInt8) (hs : s.length ≤ 1073741824) : Pure Tryz.prog 83 [.str s] (numR s) := by
 refine Pure.of_tri Tryz.func83 rfl rfl (ltb rfl) fun H => ?_
 refine Tri.seq (Tri.region ?_)
 iterate 3 (refine TriL.c1 rfl (op_as (ltb rfl) rfl) ?_)
 refine TriL.nil (Tri.seq (Tri.region ?_))
 refine TriL.c1 rfl (op_as (ltb rfl) rfl) ?_
 refine TriL.nil ?_
 refine Tri.join (fun w => w = StN3 H s 0) ?_ ?_
 ·-- region 2 ref.go:69
  refine Tri.region ?_
  refine TriL.c1 rfl (op_mv (ltb rfl) rfl) ?_
  refine TriL.c1 rfl (op_lens (ltb rfl) un9_q rfl) ?_
  refine TriL.c1 rfl (op_bin (ltb rfl) rfl rfl rfl) ?_
  refine TriL.c1 rfl (op_mv (ltb rfl) rfl) ?_
  refine TriL.split (d := 13) rfl (fun hg1 => ?_) (fun hg1 => ?_)
  ·obtain ⟨c, r, rfl⟩ : ∃ c r, s = c :: r := by
     cases s with
     | nil => simp at hg1
     | cons c r => exact ⟨c, r, rfl⟩
   refine TriL.g1 rfl (ltb rfl) rfl hg1 (op_mv (ltb rfl) rfl) ?_
   refine TriL.g1 rfl (ltb rfl) rfl hg1 (op_ixs (ltb rfl) un9_q rfl rfl (by decide) rfl) ?_
   refine TriL.g1 rfl (ltb rfl) rfl hg1 (op_bin (ltb rfl) rfl rfl rfl) ?_
   refine TriL.c1 rfl (op_pickt (ltb rfl) rfl hg1 rfl) ?_
   refine TriL.c1 rfl (op_as (ltb rfl) rfl) ?_
   refine TriL.kept (Kept.keep [.h, .s 0, .s 5, .s 6] rfl (by decide) (Kept.now ?_))
   unfold StN3; rw [isNeg_cons]
  ·iterate 3 (refine TriL.skipu rfl rfl (ltb rfl) (ltb rfl) rfl hg1 ?_)
   refine TriL.c1 rfl (op_pickf (ltb rfl) rfl hg1 rfl) ?_
   refine TriL.c1 rfl (op_as (ltb rfl) rfl) ?_
   refine TriL.kept (Kept.keep [.h, .s 0, .s 5, .s 6] rfl (by decide) (Kept.now ?_))
   have h0 : s = [] := List.eq_nil_of_length_eq_zero (by have := of_decide_eq_false hg1; omega)
   subst h0; rfl
 ·rintro w rfl
  refine Tri.join (fun w => ∃ j : Int, w = StN3 H s j ∧ j = offS s) ?_ ?_
  ·refine Tri.seq (Tri.region ?_)
   refine TriL.c1 rfl (op_mv (ltb rfl) rfl) ?_
   refine TriL.nil ?_
   refine Tri.cond rfl (fun hc2 => ?_) (fun hc2 => ?_)
   ·-- region 4 ref.go:71
    refine Tri.region ?_
    refine TriL.c1 rfl (op_as (ltb rfl) rfl) ?_
    refine TriL.kept (Kept.keep [.h, .s 0, .s 5, .s 6] rfl (by decide) (Kept.now ?_))
    exact ⟨1, rfl, by rw [(offS_eq s).1 hc2]; rfl⟩
   ·refine Tri.ofKept (Kept.keep [.h, .s 0, .s 5, .s 6] rfl (by decide) (Kept.now ?_))
    refine Tri.skip ?_
    exact ⟨0, rfl, by rw [(offS_eq s).2 hc2]; rfl⟩
  ·rintro w ⟨j, rfl, hj⟩
   refine Tri.seq (Tri.region ?_)
   refine TriL.c1 rfl (op_mv (ltb rfl) rfl) ?_
   iterate 2 (refine TriL.c1 rfl (op_as (ltb rfl) rfl) ?_)
   refine TriL.kept (Kept.keep [.h, .s 0, .s 5, .s 6, .s 7, .s 8] rfl (by decide) (Kept.now ?_))
   refine Tri.join (fun w => ∃ (j m : Int) (n : Nat), w = StN H s j m n ∧ j = offS s + spn isDig (unsg s) ∧ m = offS s ∧ PI s (spn isDig (unsg s)) n) ?_ ?_
   ·refine Tri.blk ?_
    -- LOOP 1: KEEP
    refine Tri.loop (fun q w => ∃ (k : Nat) (j m : Int) (n : Nat), w = StN H s j m n ∧ j = offS s + k ∧ m = offS s ∧ k ≤ spn isDig (unsg s) ∧ PI s k n ∧ q = s.length - k) ?_ (n := s.length) ⟨0, j, j, 0, rfl, by rw [hj]; simp, hj, Nat.zero_le _, ⟨rfl, by decide⟩, rfl⟩
    rintro q w ⟨k, j, m, n, rfl, hj, hm, hk, hpi, rfl⟩
    have h1 := unsg_le s
    have h2 := spn_le isDig (unsg s)
    have h3 : offS s + (unsg s).length = s.length := by unfold offS; omega
    have hB : numB s = offS s + spn isDig (unsg s) := by unfold numB offS; rfl
    refine Tri.seq (Tri.seq (Tri.region ?_))
    iterate 2 (refine TriL.c1 rfl (op_mv (ltb rfl) rfl) ?_)
    refine TriL.c1 rfl (op_lens (ltb rfl) un9_q rfl) ?_
    refine TriL.c1 rfl (op_bin (ltb rfl) rfl rfl rfl) ?_
    refine TriL.c1 rfl (op_mv (ltb rfl) rfl) ?_
    refine TriL.split (d := 24) rfl (fun hg3 => ?_) (fun hg3 => ?_)
    ·have hlt : k < (unsg s).length := by have := of_decide_eq_true hg3; omega
     obtain ⟨c, hc⟩ : ∃ c, (unsg s)[k]? = some c := ⟨(unsg s)[k], List.getElem?_eq_getElem hlt⟩
     have hcs : s[offS s + k]? = some c := (unsg_get s k).trans hc
     have hd := spn_drop isDig (unsg s) k c hk hc
     iterate 2 (refine TriL.g1 rfl (ltb rfl) rfl hg3 (op_mv (ltb rfl) rfl) ?_)
     refine TriL.g1 rfl (ltb rfl) rfl hg3 (op_ixs (ltb rfl) un9_q rfl rfl (by omega) (ixc (i := offS s + k) (by omega) hcs)) ?_
     refine TriL.g1 rfl (ltb rfl) rfl hg3 (op_call (ltb rfl) fn119_q rfl (rdigit_pure c)) ?_
     refine TriL.c1 rfl (op_pickt (ltb rfl) rfl hg3 rfl) ?_
     refine TriL.nil ?_
     refine Tri.cond rfl (fun hc4 => ?_) (fun hc4 => ?_)
     ·refine Tri.skip (Tri.blk (Tri.seq (Tri.region ?_)))
      iterate 2 (refine TriL.c1 rfl (op_mv (ltb rfl) rfl) ?_)
      refine TriL.c1 rfl (op_ixs (ltb rfl) un9_q rfl rfl (by omega) (ixc (i := offS s + k) (by omega) hcs)) ?_
      refine TriL.c1 rfl (op_bin (ltb rfl) rfl rfl rfl) ?_
      refine TriL.c1 rfl (op_cvi (ltb rfl) un5_q un41_q rfl) ?_
      refine TriL.c1 rfl (op_as (ltb rfl) rfl) ?_
      refine TriL.nil (Tri.seq (Tri.seq (Tri.region ?_)))
      iterate 2 (refine TriL.c1 rfl (op_mv (ltb rfl) rfl) ?_)
      iterate 3 (refine TriL.c1 rfl (op_bin (ltb rfl) rfl rfl rfl) ?_)
      refine TriL.nil ?_
      refine Tri.cond rfl (fun hc5 => ?_) (fun hc5 => ?_)
      ·have ho : (18446744073709551615 - (c.toNat - 48)) / 10 < n := by have := of_decide_eq_true hc5; rw [rn_q hc4] at this; omega
       refine Tri.seq (Tri.region ?_)
       iterate 3 (refine TriL.c1 rfl (op_as (ltb rfl) rfl) ?_)
       refine TriL.nil (Tri.ret ?_)
       exact ⟨.inr rfl, (ResOK.r3 rfl (.tmp rfl (.tmp rfl (.tmp rfl .nil)))).cast (by unfold numR; rw [numT_bad (hpi.over (hd.1 hc4) hc hc4 ho)]; rfl), rfl⟩
      ·have ho : ¬ (18446744073709551615 - (c.toNat - 48)) / 10 < n := by have := of_decide_eq_false hc5; rw [rn_q hc4] at this; omega
       refine Tri.skip (Tri.seq (Tri.region ?_))
       refine TriL.c1 rfl (op_mv (ltb rfl) rfl) ?_
       refine TriL.c1 rfl (op_bin (ltb rfl) rfl rfl rfl) ?_
       refine TriL.c1 rfl (op_mv (ltb rfl) rfl) ?_
       refine TriL.c1 rfl (op_bin (ltb rfl) rfl rfl rfl) ?_
       refine TriL.c1 rfl (op_as (ltb rfl) rfl) ?_
       refine TriL.nil (Tri.region ?_)
       refine TriL.c1 rfl (op_mv (ltb rfl) rfl) ?_
       refine TriL.c1 rfl (op_bin (ltb rfl) rfl rfl rfl) ?_
       refine TriL.c1 rfl (op_as (ltb rfl) rfl) ?_
       refine TriL.kept (Kept.keep [.h, .s 0, .s 5, .s 6, .s 7, .s 8] rfl (by decide) (Kept.now ?_))
       exact ⟨s.length - (k + 1), by omega, k + 1, IntKind.i64.wrap (j + 1), m, n * 10 + (c.toNat - 48), by rw [rn_n hc4 ho]; rfl, by rw [hj, wr64] <;> omega, hm, hd.1 hc4, hpi.step (hd.1 hc4) hc hc4 ho, rfl⟩
     ·refine Tri.ofKept (Kept.keep [.h, .s 0, .s 5, .s 6, .s 7, .s 8] rfl (by decide) (Kept.now ?_))
      refine Tri.exit ?_
      have e := hd.2 hc4
      exact ⟨j, m, n, rfl, by rw [hj, e], hm, by rw [e]; exact hpi⟩
    ·iterate 4 (refine TriL.skipu rfl rfl (ltb rfl) (ltb rfl) rfl hg3 ?_)
     refine TriL.c1 rfl (op_pickf (ltb rfl) rfl hg3 rfl) ?_
     refine TriL.nil ?_
     refine Tri.condF rfl rfl ?_
     refine Tri.ofKept (Kept.keep [.h, .s 0, .s 5, .s 6, .s 7, .s 8] rfl (by decide) (Kept.now ?_))
     refine Tri.exit ?_
     have e : spn isDig (unsg s) = k := by have := of_decide_eq_false hg3; omega
     exact ⟨j, m, n, rfl, by rw [hj, e], hm, by rw [e]; exact hpi⟩
   ·rintro w ⟨j, m, n, rfl, hj, hm, hpi⟩
    have h1 := unsg_le s
    have h2 := spn_le isDig (unsg s)
    have h3 : offS s + (unsg s).length = s.length := by unfold offS; omega
    have hB : numB s = offS s + spn isDig (unsg s) := by unfold numB offS; rfl
    have hf := hpi.fin
    have e2 : (s.drop (0 : Int).toNat).take (j.toNat - (0 : Int).toNat) = s.take (numB s) := by rw [hj, hB]; simp; congr 1
    refine Tri.seq (Tri.seq ?_)
    refine Tri.drawn mixed rfl ?_
    iterate 2 (refine TriD.c1 rfl (op_mv (ltb rfl) rfl) ?_)
    refine TriD.c1 rfl (op_bin (ltb rfl) rfl rfl rfl) ?_
    refine TriD.c1 rfl (op_mv (ltb rfl) rfl) ?_
    refine TriD.split (d := 49) rfl (fun hg6 => ?_) (fun hg6 => ?_)
    ·iterate 7 (refine TriD.skipu rfl rfl (ltb rfl) (ltb rfl) rfl hg6 ?_)
     refine TriD.c1 rfl (op_pickt (ltb rfl) rfl hg6 rfl) ?_
     refine TriD.c1 rfl (op_mv (ltb rfl) rfl) ?_
     iterate 2 (refine TriD.skipu rfl rfl (ltb rfl) (ltb rfl) rfl rfl ?_)
     iterate 2 (refine TriD.skipg rfl rfl (ltb rfl) (ltb rfl) rfl ?_)
     refine TriD.skipu rfl rfl (ltb rfl) (ltb rfl) rfl rfl ?_
     refine TriD.c1 rfl (op_pickt (ltb rfl) rfl rfl rfl) ?_
     refine TriD.nil (by kernel_rfl) (Kept.now ?_)
     refine Tri.condT rfl rfl ?_
     refine Tri.seq (Tri.region ?_)
     iterate 3 (refine TriL.c1 rfl (op_as (ltb rfl) rfl) ?_)
     refine TriL.nil (Tri.ret ?_)
     exact ⟨.inr rfl, (ResOK.r3 rfl (.tmp rfl (.tmp rfl (.tmp rfl .nil)))).cast (by unfold numR; rw [numT_bad (hf.1 (by have := eq_of_beq hg6; omega))]; rfl), rfl⟩
    ·have hk := hf.2 (by have := beq_eq_false_iff_ne.1 hg6; omega)
     iterate 2 (refine TriD.g1 rfl (ltb rfl) rfl hg6 (op_mv (ltb rfl) rfl) ?_)
     refine TriD.g1 rfl (ltb rfl) rfl hg6 (op_call (ltb rfl) fn78_q rfl (rdigits_pure n (isNeg s) hpi.2)) ?_
     iterate 2 (refine TriD.g1 rfl (ltb rfl) rfl hg6 (op_mv (ltb rfl) rfl) ?_)
     refine TriD.g1 rfl (ltb rfl) rfl hg6 (op_cuts (ltb rfl) un9_q rfl rfl rfl (by omega) (by omega) (by omega)) ?_
     refine TriD.g1 rfl (ltb rfl) rfl hg6 (op_bin (ltb rfl) rfl rfl rfl) ?_
     refine TriD.c1 rfl (op_pickf (ltb rfl) rfl hg6 rfl) ?_
     refine TriD.c1 rfl (op_mv (ltb rfl) rfl) ?_
     refine TriD.split (d := 58) rfl (fun hg7 => ?_) (fun hg7 => ?_)
     ·iterate 2 (refine TriD.skipu rfl rfl (ltb rfl) (ltb rfl) rfl hg7 ?_)
      iterate 2 (refine TriD.skipg rfl rfl (ltb rfl) (ltb rfl) rfl ?_)
      refine TriD.skipu rfl rfl (ltb rfl) (ltb rfl) rfl hg7 ?_
      refine TriD.c1 rfl (op_pickt (ltb rfl) rfl hg7 rfl) ?_
      refine TriD.nil (by kernel_rfl) (Kept.now ?_)
      refine Tri.condT rfl rfl ?_
      refine Tri.seq (Tri.region ?_)
      iterate 3 (refine TriL.c1 rfl (op_as (ltb rfl) rfl) ?_)
      refine TriL.nil (Tri.ret ?_)
      exact ⟨.inr rfl, (ResOK.r3 rfl (.tmp rfl (.tmp rfl (.tmp rfl .nil)))).cast (by
       have hne : digs n (isNeg s) ≠ s.take (numB s) := by
        rw [← e2]
        have h := hg7
        simp only [Bool.not_eq_true', beq_eq_false_iff_ne, ne_eq] at h
        exact h
       unfold numR; rw [numT_no hk (.inr hne)]; rfl), rfl⟩
     ·iterate 2 (refine TriD.g1 rfl (ltb rfl) rfl hg7 (op_mv (ltb rfl) rfl) ?_)
      refine TriD.split (d := 60) rfl (fun hg8 => ?_) (fun hg8 => ?_)
      ·refine TriD.g1 rfl (ltb rfl) rfl hg8 (op_mv (ltb rfl) rfl) ?_
       refine TriD.g1 rfl (ltb rfl) rfl hg8 (op_bin (ltb rfl) rfl rfl rfl) ?_
       refine TriD.g1 rfl (ltb rfl) rfl hg7 (op_pickt (ltb rfl) rfl hg8 rfl) ?_
       refine TriD.c1 rfl (op_pickf (ltb rfl) rfl hg7 rfl) ?_
       refine TriD.nil (by kernel_rfl) (Kept.now ?_)
       refine Tri.cond rfl (fun hc9 => ?_) (fun hc9 => ?_)
       ·refine Tri.seq (Tri.region ?_)
        iterate 3 (refine TriL.c1 rfl (op_as (ltb rfl) rfl) ?_)
        refine TriL.nil (Tri.ret ?_)
        exact ⟨.inr rfl, (ResOK.r3 rfl (.tmp rfl (.tmp rfl (.tmp rfl .nil)))).cast (by unfold numR; rw [numT_no hk (.inl ⟨hg8, by have := of_decide_eq_true hc9; omega⟩)]; rfl), rfl⟩
       ·refine Tri.skip (Tri.seq (Tri.region ?_))
        iterate 3 (refine TriL.c1 rfl (op_mv (ltb rfl) rfl) ?_)
        iterate 3 (refine TriL.c1 rfl (op_as (ltb rfl) rfl) ?_)
        refine TriL.nil (Tri.ret ?_)
        exact ⟨.inr rfl, (ResOK.r3 rfl (.tmp rfl (.tmp rfl (.tmp rfl .nil)))).cast (by
         have heq : digs n (isNeg s) = s.take (numB s) := by
          rw [← e2]
          have h := hg7
          simp only [Bool.not_eq_false', beq_iff_eq] at h
          exact h
         unfold numR; rw [numT_ok hk (fun h => (by have := of_decide_eq_false hc9; omega)) heq, hj, hB]; rfl), rfl⟩
      ·iterate 2 (refine TriD.skipu rfl rfl (ltb rfl) (ltb rfl) rfl hg8 ?_)
       refine TriD.g1 rfl (ltb rfl) rfl hg7 (op_pickf (ltb rfl) rfl hg8 rfl) ?_
       refine TriD.c1 rfl (op_pickf (ltb rfl) rfl hg7 rfl) ?_
       refine TriD.nil (by kernel_rfl) (Kept.now ?_)
       refine Tri.condF rfl rfl ?_
       refine Tri.skip (Tri.seq (Tri.region ?_))
       iterate 3 (refine TriL.c1 rfl (op_mv (ltb rfl) rfl) ?_)
       iterate 3 (refine TriL.c1 rfl (op_as (ltb rfl) rfl) ?_)
       refine TriL.nil (Tri.ret ?_)
       exact ⟨.inr rfl, (ResOK.r3 rfl (.tmp rfl (.tmp rfl (.tmp rfl .nil)))).cast (by
        have heq : digs n (isNeg s) = s.take (numB s) := by
         rw [← e2]
         have h := hg7
         simp only [Bool.not_eq_false', beq_iff_eq] at h
         exact h
        unfold numR; rw [numT_ok hk (fun h => (by have h5 : isNeg s = false := hg8; rw [h5] at h; cases h.1)) heq, hj, hB]; rfl), rfl⟩
/- lex: a text, in the program and in the document. -/
theorem fn128_q : isFn Tryz.prog 128 = true := by kernel_rfl
theorem fn129_q : isFn Tryz.prog 129 = true := by kernel_rfl
theorem fn130_q : isFn Tryz.prog 130 = true := by kernel_rfl
theorem fn54_q : isFn Tryz.prog 54 = true := by kernel_rfl
theorem cutL {s : List UInt8} {j : Int} {a : Nat} (hj : j = a) : (s.drop j.toNat).take ((s.length : Int).toNat - j.toNat) = s.drop a := by
 subst hj; rw [List.take_of_length_le (by simp)]; simp
theorem idx' {s : List UInt8} {j : Int} {a : Nat} (hj : j = a) : Pure Tryz.prog 128 [.str ((s.drop j.toNat).take ((s.length : Int).toNat - j.toNat)), .str [39]] (.int .i64 (Lib.indexByte (s.drop a) 39)) := by
 rw [cutL hj]; exact index_pure _ 39
theorem has' {s : List UInt8} {j : Int} {a : Nat} (p : List UInt8) (hj : j = a) : Pure Tryz.prog 54 [.str ((s.drop j.toNat).take ((s.length : Int).toNat - j.toNat)), .str p] (.bool (Lib.hasPrefix (s.drop a) p)) := by
 rw [cutL hj]; exact has_pure _ p
theorem txtGo_ne {c : UInt8} {r out : List UInt8} {p : Nat} (h : c ≠ 39) : txtGo (c :: r) out p = txtGo r (out ++ [c]) (p + 1) := by
 cases r <;> simp [txtGo, h]
theorem txt_none : ∀ (l out : List UInt8) (p : Nat), 39 ∉ l → txtGo l out p = none
 | [], _, _, _ => by rw [txtGo]
 | c :: r, out, p, h => by
  have h1 : c ≠ 39 := fun e => h (by rw [e]; exact List.mem_cons_self ..)
  rw [txtGo_ne h1]
  exact txt_none r _ _ fun e => h (List.mem_cons_of_mem _ e)
theorem txt_run : ∀ (n : Nat) (l out : List UInt8) (p : Nat), l[n]? = some 39 → 39 ∉ l.take n → txtGo l out p = txtGo (l.drop n) (out ++ l.take n) (p + n)
 | 0, l, out, p, _, _ => by simp
 | n + 1, [], out, p, h, _ => by simp at h
 | n + 1, c :: r, out, p, h, h2 => by
  have h1 : c ≠ 39 := fun e => h2 (by rw [e]; simp)
  rw [txtGo_ne h1, txt_run n r (out ++ [c]) (p + 1) (by simpa using h) (fun e => h2 (by simp [e]))]
  simp only [List.drop_succ_cons, List.take_succ_cons, List.append_assoc, List.cons_append, List.nil_append]
  congr 1; omega
theorem hasP39 {l : List UInt8} : (Lib.hasPrefix l [39] = true → ∃ r, l = 39 :: r) ∧ (Lib.hasPrefix l [39] = false → ∀ r, l ≠ 39 :: r) := by
 cases l with
 | nil => exact ⟨fun h => by simp [Lib.hasPrefix] at h, fun _ r e => by cases e⟩
 | cons c r =>
  have e : Lib.hasPrefix (c :: r) [39] = (39 == c) := by simp [Lib.hasPrefix, List.isPrefixOf]
  rw [e]
  exact ⟨fun h => ⟨r, by rw [eq_of_beq h]⟩, fun h r' e => by cases e; simp at h⟩
theorem txt_end {l out : List UInt8} {p : Nat} (h : ∀ r, l ≠ 39 :: r) : txtGo (39 :: l) out p = some (out, p + 1) := by
 cases l with
 | nil => simp [txtGo]
 | cons d r =>
  have hd : d ≠ 39 := fun e => h r (by rw [e])
  simp [txtGo, hd]
theorem txt_two {l out : List UInt8} {p : Nat} : txtGo (39 :: 39 :: l) out p = txtGo l (out ++ [39]) (p + 2) := by
 simp [txtGo]
theorem txtTk_none {s : List UInt8} (h : txtT s = none) : txtTk s = zeroT := by unfold txtTk; rw [h]
theorem txtTk_some {s o : List UInt8} {k : Nat} (h : txtT s = some (o, k)) : txtTk s = (⟨3, o, 0, false, 0⟩, k) := by unfold txtTk; rw [h]
theorem txtT_no {s : List UInt8} (h : Lib.hasPrefix s [39] = false) : txtT s = none := by
 cases s with
 | nil => rfl
 | cons c r => rw [txtT, if_neg (fun e => hasP39.2 h r (by rw [e]))]
theorem txtT_yes {s : List UInt8} (h : Lib.hasPrefix s [39] = true) : 1 ≤ s.length ∧ txtT s = txtGo (s.drop 1) [] 1 := by
 obtain ⟨r, rfl⟩ := hasP39.1 h
 exact ⟨by simp, by rw [txtT, if_pos rfl]; rfl⟩
def StTx (H : Hp) (s out : List UInt8) (c0 : Sv) (j : Int) : St := [(.h, .hp H), (.s 0, .sv (.v (.str s))), (.s 2, .sv (.lp 2 0)), (.b 2, .bx [.v (.int .i64 0), .v (.str []), .v (.int .u64 0), .v (.bool false), .v (.int .i64 0)]),
 (.s 4, .sv (.lp 4 0)), (.b 4, .bt 173 [c0, .om 904 out.length]), (.t 904, .tk true 5 1 (bsl out)), (.s 5, .sv (.v (.int .i64 j)))]
theorem text_pure (s : List UInt8) (hs : s.length ≤ 1073741824) : Pure Tryz.prog 95 [.str s] (tkn (txtTk s)) := by
 refine Pure.of_tri Tryz.func95 rfl rfl (ltb rfl) fun H => ?_
 refine Tri.seq (Tri.region ?_)
 refine TriL.c2 rfl (op_all (ltb rfl) zA112_q rfl) ?_
 refine TriL.c1 rfl (op_as (ltb rfl) rfl) ?_
 refine TriL.nil (Tri.seq (Tri.seq (Tri.region ?_)))
 refine TriL.c1 rfl (op_mv (ltb rfl) rfl) ?_
 refine TriL.c1 rfl (op_call (ltb rfl) fn54_q rfl (has_pure s [39])) ?_
 refine TriL.c1 rfl (op_un (ltb rfl) rfl rfl) ?_
 refine TriL.nil ?_
 refine Tri.cond rfl (fun hc1 => ?_) (fun hc1 => ?_)
 ·refine Tri.seq (Tri.region ?_)
  refine TriL.c1 rfl (op_bld (ltb rfl) spl112_q zA112_q rfl rfl) ?_
  refine TriL.c1 rfl (op_stl lk112_q rfl rfl rfl rfl rfl (leb rfl)) ?_
  refine TriL.c1 rfl (op_as (ltb rfl) rfl) ?_
  refine TriL.nil (Tri.ret ?_)
  exact ⟨.inr rfl, (ResOK.r2 rfl (.cell lk112_q rfl rfl rfl rfl (.tmp rfl .nil))).cast (by
    have h : Lib.hasPrefix s [39] = false := by simpa using hc1
    rw [txtTk_none (txtT_no h)]; rfl), rfl⟩
 ·have hp : Lib.hasPrefix s [39] = true := by simpa using hc1
  obtain ⟨hl1, hT⟩ := txtT_yes hp
  refine Tri.skip (Tri.seq (Tri.region ?_))
  refine TriL.c3 rfl (op_alb (f := 904) (ltb rfl) rfl rfl) ?_
  refine TriL.nil (Tri.seq (Tri.region ?_))
  refine TriL.c1 rfl (op_as (ltb rfl) rfl) ?_
  refine TriL.kept (Kept.keep [.h, .s 0, .s 2, .b 2, .s 4, .b 4, .t 904, .s 5] rfl (by decide) (Kept.now ?_))
  refine Tri.blk ?_
  -- LOOP 1: KEEP
  refine Tri.loop (fun q w => ∃ (a : Nat) (out : List UInt8) (c0 : Sv) (j : Int), w = StTx H s out c0 j ∧ (c0 = .v .nilp ∨ c0 = .lp 4 0) ∧ j = a ∧ a ≤ s.length ∧ out.length ≤ a ∧ txtT s = txtGo (s.drop a) out a ∧ q = s.length - a) ?_ (n := s.length - 1) ⟨1, [], .v .nilp, 1, rfl, .inl rfl, rfl, hl1, by simp, hT, rfl⟩
  rintro q w ⟨a, out, c0, j, rfl, hc0, hj, ha, ho, hI, rfl⟩
  have hib := ib_spec 39 (s.drop a)
  refine Tri.blk (Tri.seq (Tri.region ?_))
  iterate 2 (refine TriL.c1 rfl (op_mv (ltb rfl) rfl) ?_)
  refine TriL.c1 rfl (op_cuts (ltb rfl) un9_q rfl rfl rfl (by omega) (by omega) (by omega)) ?_
  refine TriL.c1 rfl (op_call (ltb rfl) fn128_q rfl (idx' hj)) ?_
  refine TriL.c1 rfl (op_as (ltb rfl) rfl) ?_
  refine TriL.nil (Tri.seq (Tri.seq (Tri.region ?_)))
  refine TriL.c1 rfl (op_mv (ltb rfl) rfl) ?_
  refine TriL.c1 rfl (op_bin (ltb rfl) rfl rfl rfl) ?_
  refine TriL.nil ?_
  refine Tri.cond rfl (fun hc2 => ?_) (fun hc2 => ?_)
  ·have hno : 39 ∉ s.drop a := by
     rcases hib with ⟨_, h⟩ | ⟨n, h, _⟩
     ·exact h
     ·have := of_decide_eq_true hc2; omega
   refine Tri.seq (Tri.region ?_)
   refine TriL.c1 rfl (op_bld (ltb rfl) spl112_q zA112_q rfl rfl) ?_
   refine TriL.c1 rfl (op_stl lk112_q rfl rfl rfl rfl rfl (leb rfl)) ?_
   refine TriL.c1 rfl (op_as (ltb rfl) rfl) ?_
   refine TriL.nil (Tri.ret ?_)
   exact ⟨.inr rfl, (ResOK.r2 rfl (.cell lk112_q rfl rfl rfl rfl (.tmp rfl .nil))).cast (by rw [txtTk_none (hI.trans (txt_none _ _ _ hno))]; rfl), rfl⟩
  ·obtain ⟨n, e1, e2, e3⟩ : ∃ n : Nat, Lib.indexByte (s.drop a) 39 = n ∧ (s.drop a)[n]? = some 39 ∧ 39 ∉ (s.drop a).take n := by
     rcases hib with ⟨h, _⟩ | h
     ·have := of_decide_eq_false hc2; omega
     ·exact h
   have hlt : a + n < s.length := by
    have := (List.getElem?_eq_some_iff.1 e2).1
    rw [List.length_drop] at this; omega
   have hw : IntKind.i64.wrap (j + Lib.indexByte (s.drop a) 39) = ((a + n : Nat) : Int) := by rw [e1, hj, wr64] <;> omega
   have hw2 : IntKind.i64.wrap (j + IntKind.i64.wrap (Lib.indexByte (s.drop a) 39 + 1)) = ((a + n + 1 : Nat) : Int) := by rw [e1, hj, wr64 (n := (n : Int) + 1) (by omega) (by omega), wr64] <;> omega
   have hseg : (s.drop j.toNat).take ((IntKind.i64.wrap (j + Lib.indexByte (s.drop a) 39)).toNat - j.toNat) = (s.drop a).take n := by rw [hw, hj]; congr 1; omega
   have hR : txtT s = txtGo (39 :: s.drop (a + n + 1)) (out ++ (s.drop a).take n) (a + n) := by
    rw [hI, txt_run n _ _ _ e2 e3, List.drop_drop]
    have e4 : s[a + n]? = some 39 := by rw [List.getElem?_drop] at e2; exact e2
    obtain ⟨h5, h6⟩ := List.getElem?_eq_some_iff.1 e4
    rw [List.drop_eq_getElem_cons h5, h6]
   have hsl : ((s.drop a).take n).length = n := by rw [List.length_take, List.length_drop]; omega
   refine Tri.skip (Tri.seq (Tri.region ?_))
   iterate 4 (refine TriL.c1 rfl (op_mv (ltb rfl) rfl) ?_)
   refine TriL.c1 rfl (op_bin (ltb rfl) rfl rfl rfl) ?_
   refine TriL.c1 rfl (op_cuts (ltb rfl) un9_q rfl rfl rfl (by omega) (by rw [hw]; omega) (by rw [hw]; omega)) ?_
   refine TriL.c4 rfl (op_bws (ltb rfl) rfl rfl hc0 rfl rfl rfl fn129_q (by rw [hseg, hsl]; omega)) ?_
   refine TriL.nil (Tri.seq (Tri.region ?_))
   iterate 2 (refine TriL.c1 rfl (op_mv (ltb rfl) rfl) ?_)
   iterate 2 (refine TriL.c1 rfl (op_bin (ltb rfl) rfl rfl rfl) ?_)
   refine TriL.c1 rfl (op_as (ltb rfl) rfl) ?_
   refine TriL.nil (Tri.seq (Tri.seq (Tri.region ?_)))
   iterate 2 (refine TriL.c1 rfl (op_mv (ltb rfl) rfl) ?_)
   refine TriL.c1 rfl (op_cuts (ltb rfl) un9_q rfl rfl rfl (by rw [hw2]; omega) (by rw [hw2]; omega) (by omega)) ?_
   refine TriL.c1 rfl (op_call (ltb rfl) fn54_q rfl (has' [39] hw2)) ?_
   refine TriL.c1 rfl (op_un (ltb rfl) rfl rfl) ?_
   refine TriL.nil ?_
   refine Tri.cond rfl (fun hc3 => ?_) (fun hc3 => ?_)
   ·refine Tri.seq (Tri.region ?_)
    refine TriL.c3 rfl (op_bstr (ltb rfl) rfl rfl (.inr rfl) rfl rfl fn130_q) ?_
    refine TriL.c1 rfl (op_bld (ltb rfl) spl112_q zA112_q rfl rfl) ?_
    refine TriL.c1 rfl (op_mv (ltb rfl) rfl) ?_
    refine TriL.c1 rfl (op_stl lk112_q rfl rfl rfl rfl rfl (leb rfl)) ?_
    refine TriL.c1 rfl (op_as (ltb rfl) rfl) ?_
    refine TriL.nil (Tri.ret ?_)
    exact ⟨.inr rfl, (ResOK.r2 rfl (.cell lk112_q rfl rfl rfl rfl (.tmp rfl .nil))).cast (by
      have h : Lib.hasPrefix (s.drop (a + n + 1)) [39] = false := by simpa using hc3
      rw [txtTk_some (hR.trans (txt_end (hasP39.2 h))), hseg, hw2]; rfl), rfl⟩
   ·refine Tri.skip (Tri.seq (Tri.region ?_))
    refine TriL.c4 rfl (op_bws (ltb rfl) rfl rfl (.inr rfl) rfl rfl rfl fn129_q (by rw [List.length_append, hseg, hsl]; simp; omega)) ?_
    refine TriL.nil (Tri.region ?_)
    refine TriL.c1 rfl (op_mv (ltb rfl) rfl) ?_
    refine TriL.c1 rfl (op_bin (ltb rfl) rfl rfl rfl) ?_
    refine TriL.c1 rfl (op_as (ltb rfl) rfl) ?_
    refine TriL.kept (Kept.keep [.h, .s 0, .s 2, .b 2, .s 4, .b 4, .t 37, .s 5] rfl (by decide) (Kept.ren 37 904 (by decide) rfl (Kept.now ?_)))
    have h : Lib.hasPrefix (s.drop (a + n + 1)) [39] = true := by simpa using hc3
    obtain ⟨r', hr'⟩ := hasP39.1 h
    have hl2 : a + n + 1 < s.length := by
     have e := congrArg List.length hr'
     rw [List.length_drop, List.length_cons] at e; omega
    have hdr : s.drop (a + n + 2) = r' := by
     have e := congrArg (List.drop 1) hr'
     rw [List.drop_drop] at e; exact e
    refine ⟨s.length - (a + n + 2), by omega, a + n + 2, (out ++ (s.drop j.toNat).take ((IntKind.i64.wrap (j + Lib.indexByte (s.drop a) 39)).toNat - j.toNat)) ++ [39], .lp 4 0, IntKind.i64.wrap (IntKind.i64.wrap (j + IntKind.i64.wrap (Lib.indexByte (s.drop a) 39 + 1)) + 1), rfl, .inr rfl, by rw [hw2, wr64] <;> omega, by omega, ?_, ?_, rfl⟩
    ·rw [hseg, List.length_append, List.length_append, hsl]; simp; omega
    ·rw [hseg, hR, hr', txt_two, hdr]
def txtR (s : List UInt8) : AV := match txtT s with
 | some (o, k) => .tup [.str o, .int .i64 k]
 | none => .tup [.str [], .int .i64 (0 : Nat)]
theorem txtR_none {s : List UInt8} (h : txtT s = none) : txtR s = .tup [.str [], .int .i64 (0 : Nat)] := by unfold txtR; rw [h]
theorem txtR_some {s o : List UInt8} {k : Nat} (h : txtT s = some (o, k)) : txtR s = .tup [.str o, .int .i64 k] := by unfold txtR; rw [h]
theorem txtT_not {c : UInt8} {r : List UInt8} (h : c ≠ 39) : txtT (c :: r) = none := by rw [txtT, if_neg h]
theorem q39 {c : UInt8} (h : (!((c.toNat : Int) == 39)) = false) : c = 39 := UInt8.toNat_inj.1 (by
 have h2 : ((c.toNat : Int) == 39) = true := by simpa using h
 have h3 := eq_of_beq h2
 have e : (39 : UInt8).toNat = 39 := rfl
 omega)
theorem drop_at {s : List UInt8} {i : Nat} {c : UInt8} (h : s[i]? = some c) : s.drop i = c :: s.drop (i + 1) := by
 obtain ⟨h5, h6⟩ := List.getElem?_eq_some_iff.1 h
 rw [List.drop_eq_getElem_cons h5, h6]
def StRt (H : Hp) (s out : List UInt8) (j : Int) : St := [(.h, .hp H), (.s 0, .sv (.v (.str s))), (.s 4, .sv (.ow 6 (bsl out))), (.t 6, .tk false 5 1 (bsl out)), (.s 5, .sv (.v (.int .i64 j)))]
theorem rtext_pure (s : List UInt8) (hs : s.length ≤ 1073741824) : Pure Tryz.prog 84 [.str s] (txtR s) := by
 refine Pure.of_tri Tryz.func84 rfl rfl (ltb rfl) fun H => ?_
 refine Tri.seq (Tri.region ?_)
 iterate 2 (refine TriL.c1 rfl (op_as (ltb rfl) rfl) ?_)
 refine TriL.nil (Tri.seq (Tri.region ?_))
 refine TriL.c2 rfl (op_litt («as» := []) (ltb rfl) se161_q zAe161_q rfl rfl rfl (leb rfl) rfl) ?_
 refine TriL.c1 rfl (op_as (ltb rfl) rfl) ?_
 refine TriL.nil (Tri.seq (Tri.region ?_))
 refine TriL.c1 rfl (op_as (ltb rfl) rfl) ?_
 refine TriL.kept (Kept.keep [.h, .s 0, .s 4, .t 6, .s 5] rfl (by decide) (Kept.now ?_))
 refine Tri.seq (Tri.blk ?_)
 -- LOOP 1: KEEP
 refine Tri.loop (fun q w => ∃ (a : Nat) (out : List UInt8) (j : Int), w = StRt H s out j ∧ j = a ∧ 1 ≤ a ∧ a ≤ s.length + 1 ∧ out.length ≤ a ∧ (s[0]? = some 39 → txtT s = txtGo (s.drop a) out a) ∧ q = s.length + 1 - a) ?_ (n := s.length) ⟨1, [], 1, rfl, rfl, by omega, by omega, by simp, fun h => by rw [(txtT_yes (s := s) (by cases s with | nil => simp at h | cons c r => simp at h; subst h; simp [Lib.hasPrefix, List.isPrefixOf])).2], rfl⟩
 rintro q w ⟨a, out, j, rfl, hj, ha1, ha, ho, hI, rfl⟩
 refine Tri.seq (Tri.seq (Tri.region ?_))
 refine TriL.c1 rfl (op_mv (ltb rfl) rfl) ?_
 refine TriL.c1 rfl (op_lens (ltb rfl) un9_q rfl) ?_
 refine TriL.c1 rfl (op_bin (ltb rfl) rfl rfl rfl) ?_
 refine TriL.c1 rfl (op_mv (ltb rfl) rfl) ?_
 refine TriL.split (d := 10) rfl (fun hg1 => ?_) (fun hg1 => ?_)
 ·obtain ⟨c0, hc0⟩ : ∃ c, s[0]? = some c := ⟨s[0]'(by have := of_decide_eq_true hg1; omega), List.getElem?_eq_getElem _⟩
  refine TriL.g1 rfl (ltb rfl) rfl hg1 (op_mv (ltb rfl) rfl) ?_
  refine TriL.g1 rfl (ltb rfl) rfl hg1 (op_ixs (ltb rfl) un9_q rfl rfl (by decide) hc0) ?_
  refine TriL.g1 rfl (ltb rfl) rfl hg1 (op_bin (ltb rfl) rfl rfl rfl) ?_
  refine TriL.c1 rfl (op_pickt (ltb rfl) rfl hg1 rfl) ?_
  refine TriL.c1 rfl (op_mv (ltb rfl) rfl) ?_
  refine TriL.split (d := 15) rfl (fun hg2 => ?_) (fun hg2 => ?_)
  ·have hq : c0 = 39 := UInt8.toNat_inj.1 (by have := eq_of_beq hg2; have e : (39 : UInt8).toNat = 39 := rfl; omega)
   subst hq
   have hI := hI hc0
   iterate 2 (refine TriL.g1 rfl (ltb rfl) rfl hg2 (op_mv (ltb rfl) rfl) ?_)
   refine TriL.g1 rfl (ltb rfl) rfl hg2 (op_lens (ltb rfl) un9_q rfl) ?_
   refine TriL.g1 rfl (ltb rfl) rfl hg2 (op_bin (ltb rfl) rfl rfl rfl) ?_
   refine TriL.c1 rfl (op_pickt (ltb rfl) rfl hg2 rfl) ?_
   refine TriL.nil ?_
   refine Tri.cond rfl (fun hc3 => ?_) (fun hc3 => ?_)
   ·have hlt : a < s.length := by have := of_decide_eq_true hc3; omega
    obtain ⟨c, hc⟩ : ∃ c, s[a]? = some c := ⟨s[a], List.getElem?_eq_getElem hlt⟩
    have hda := drop_at hc
    refine Tri.skip (Tri.blk (Tri.seq (Tri.seq (Tri.region ?_))))
    iterate 2 (refine TriL.c1 rfl (op_mv (ltb rfl) rfl) ?_)
    refine TriL.c1 rfl (op_ixs (ltb rfl) un9_q rfl rfl (by omega) (ixc hj hc)) ?_
    refine TriL.c1 rfl (op_bin (ltb rfl) rfl rfl rfl) ?_
    refine TriL.nil ?_
    refine Tri.cond rfl (fun hc4 => ?_) (fun hc4 => ?_)
    ·have hne : c ≠ 39 := fun e => by subst e; revert hc4; decide
     have hnx : txtT s = txtGo (s.drop (a + 1)) (out ++ [c]) (a + 1) := by rw [hI, hda, txtGo_ne hne]
     refine Tri.seq (Tri.region ?_)
     iterate 3 (refine TriL.c1 rfl (op_mv (ltb rfl) rfl) ?_)
     refine TriL.c1 rfl (op_ixs (ltb rfl) un9_q rfl rfl (by omega) (ixc hj hc)) ?_
     refine TriL.c1 rfl (op_lit («as» := [_]) (ltb rfl) se161_q zAe161_q rfl rfl rfl (leb rfl)) ?_
     refine TriL.c3 rfl (op_app (ltb rfl) se161_q rfl rfl rfl rfl rfl (by simp [bsl_len]; omega) (by simp [bsl_len]; omega)) ?_
     refine TriL.c1 rfl (op_as (ltb rfl) rfl) ?_
     refine TriL.nil (Tri.seq (Tri.region ?_))
     refine TriL.c1 rfl (op_mv (ltb rfl) rfl) ?_
     refine TriL.c1 rfl (op_bin (ltb rfl) rfl rfl rfl) ?_
     refine TriL.c1 rfl (op_as (ltb rfl) rfl) ?_
     refine TriL.kept (Kept.keep [.h, .s 0, .s 4, .t 30, .s 5] rfl (by decide) (Kept.ren 30 6 (by decide) rfl (Kept.now ?_)))
     refine Tri.exit ?_
     exact ⟨s.length + 1 - (a + 1), by omega, a + 1, out ++ [c], IntKind.i64.wrap (j + 1), by unfold StRt; rw [show bsl (out ++ [c]) = bsl out ++ [.int .u8 ((c : UInt8).toNat : Int)] from bsl_app out [c]]; rfl, by rw [hj, wr64] <;> omega, by omega, by omega, by simp; omega, fun _ => hnx, rfl⟩
    ·have hq : c = 39 := q39 hc4
     subst hq
     have hw1 : IntKind.i64.wrap (j + 1) = ((a + 1 : Nat) : Int) := by rw [hj, wr64] <;> omega
     refine Tri.skip (Tri.seq (Tri.seq (Tri.region ?_)))
     refine TriL.c1 rfl (op_mv (ltb rfl) rfl) ?_
     refine TriL.c1 rfl (op_bin (ltb rfl) rfl rfl rfl) ?_
     refine TriL.c1 rfl (op_mv (ltb rfl) rfl) ?_
     refine TriL.c1 rfl (op_lens (ltb rfl) un9_q rfl) ?_
     refine TriL.c1 rfl (op_bin (ltb rfl) rfl rfl rfl) ?_
     refine TriL.c1 rfl (op_mv (ltb rfl) rfl) ?_
     refine TriL.split (d := 38) rfl (fun hg5 => ?_) (fun hg5 => ?_)
     ·iterate 5 (refine TriL.skipu rfl rfl (ltb rfl) (ltb rfl) rfl hg5 ?_)
      refine TriL.c1 rfl (op_pickt (ltb rfl) rfl hg5 rfl) ?_
      refine TriL.nil ?_
      refine Tri.condT rfl rfl ?_
      refine Tri.seq (Tri.region ?_)
      refine TriL.c1 rfl (op_mv (ltb rfl) rfl) ?_
      refine TriL.c1 rfl (op_b2s (ltb rfl) un161_q unel161_q un9_q rfl (bytesOf_bsl _)) ?_
      refine TriL.c1 rfl (op_mv (ltb rfl) rfl) ?_
      refine TriL.c1 rfl (op_bin (ltb rfl) rfl rfl rfl) ?_
      iterate 2 (refine TriL.c1 rfl (op_as (ltb rfl) rfl) ?_)
      refine TriL.nil (Tri.ret ?_)
      exact ⟨.inr rfl, (ResOK.r2 rfl (.tmp rfl (.tmp rfl .nil))).cast (by
              have he : s.drop (a + 1) = [] := List.drop_of_length_le (by have := of_decide_eq_true hg5; rw [hw1] at this; omega)
              rw [txtR_some (hI.trans (by rw [hda, he]; exact txt_end (fun r e => by cases e))), hw1]), rfl⟩
     ·have hlt2 : a + 1 < s.length := by have := of_decide_eq_false hg5; rw [hw1] at this; omega
      obtain ⟨d, hd⟩ : ∃ d, s[a + 1]? = some d := ⟨s[a + 1], List.getElem?_eq_getElem hlt2⟩
      have hdb := drop_at hd
      iterate 2 (refine TriL.g1 rfl (ltb rfl) rfl hg5 (op_mv (ltb rfl) rfl) ?_)
      refine TriL.g1 rfl (ltb rfl) rfl hg5 (op_bin (ltb rfl) rfl rfl rfl) ?_
      refine TriL.g1 rfl (ltb rfl) rfl hg5 (op_ixs (ltb rfl) un9_q rfl rfl (by rw [hw1]; omega) (ixc hw1 hd)) ?_
      refine TriL.g1 rfl (ltb rfl) rfl hg5 (op_bin (ltb rfl) rfl rfl rfl) ?_
      refine TriL.c1 rfl (op_pickf (ltb rfl) rfl hg5 rfl) ?_
      refine TriL.nil ?_
      refine Tri.cond rfl (fun hc6 => ?_) (fun hc6 => ?_)
      ·refine Tri.seq (Tri.region ?_)
       refine TriL.c1 rfl (op_mv (ltb rfl) rfl) ?_
       refine TriL.c1 rfl (op_b2s (ltb rfl) un161_q unel161_q un9_q rfl (bytesOf_bsl _)) ?_
       refine TriL.c1 rfl (op_mv (ltb rfl) rfl) ?_
       refine TriL.c1 rfl (op_bin (ltb rfl) rfl rfl rfl) ?_
       iterate 2 (refine TriL.c1 rfl (op_as (ltb rfl) rfl) ?_)
       refine TriL.nil (Tri.ret ?_)
       exact ⟨.inr rfl, (ResOK.r2 rfl (.tmp rfl (.tmp rfl .nil))).cast (by
                have hne : d ≠ 39 := fun e => by subst e; revert hc6; decide
                rw [txtR_some (hI.trans (by rw [hda, hdb]; exact txt_end (fun r e => hne (by cases e; rfl)))), hw1]), rfl⟩
      ·have hq : d = 39 := q39 hc6
       subst hq
       have hnx : txtT s = txtGo (s.drop (a + 2)) (out ++ [39]) (a + 2) := by rw [hI, hda, hdb, txt_two]
       refine Tri.skip (Tri.seq (Tri.region ?_))
       refine TriL.c1 rfl (op_mv (ltb rfl) rfl) ?_
       refine TriL.c1 rfl (op_lit («as» := [_]) (ltb rfl) se161_q zAe161_q rfl rfl rfl (leb rfl)) ?_
       refine TriL.c3 rfl (op_app (ltb rfl) se161_q rfl rfl rfl rfl rfl (by simp [bsl_len]; omega) (by simp [bsl_len]; omega)) ?_
       refine TriL.c1 rfl (op_as (ltb rfl) rfl) ?_
       refine TriL.nil (Tri.region ?_)
       refine TriL.c1 rfl (op_mv (ltb rfl) rfl) ?_
       refine TriL.c1 rfl (op_bin (ltb rfl) rfl rfl rfl) ?_
       refine TriL.c1 rfl (op_as (ltb rfl) rfl) ?_
       refine TriL.kept (Kept.keep [.h, .s 0, .s 4, .t 51, .s 5] rfl (by decide) (Kept.ren 51 6 (by decide) rfl (Kept.now ?_)))
       exact ⟨s.length + 1 - (a + 2), by omega, a + 2, out ++ [39], IntKind.i64.wrap (j + 2), by unfold StRt; rw [show bsl (out ++ [39]) = bsl out ++ [.int .u8 ((39 : UInt8).toNat : Int)] from bsl_app out [39]]; rfl, by rw [hj, wr64] <;> omega, by omega, by omega, by simp; omega, fun _ => hnx, rfl⟩
   ·refine Tri.exit (Tri.seq (Tri.region ?_))
    iterate 2 (refine TriL.c1 rfl (op_as (ltb rfl) rfl) ?_)
    refine TriL.nil (Tri.ret ?_)
    exact ⟨.inr rfl, (ResOK.r2 rfl (.tmp rfl (.tmp rfl .nil))).cast (by rw [txtR_none (hI.trans (by rw [List.drop_of_length_le (by have := of_decide_eq_false hc3; omega)]; rw [txtGo]))]; rfl), rfl⟩
  ·iterate 4 (refine TriL.skipu rfl rfl (ltb rfl) (ltb rfl) rfl hg2 ?_)
   refine TriL.c1 rfl (op_pickf (ltb rfl) rfl hg2 rfl) ?_
   refine TriL.nil ?_
   refine Tri.condF rfl rfl ?_
   refine Tri.exit (Tri.seq (Tri.region ?_))
   iterate 2 (refine TriL.c1 rfl (op_as (ltb rfl) rfl) ?_)
   refine TriL.nil (Tri.ret ?_)
   exact ⟨.inr rfl, (ResOK.r2 rfl (.tmp rfl (.tmp rfl .nil))).cast (by
        have hne : c0 ≠ 39 := fun e => by subst e; revert hg2; decide
        cases s with
        | nil => simp at hc0
        | cons x r => simp at hc0; subst hc0; rw [txtR_none (txtT_not hne)]; rfl), rfl⟩
 ·iterate 3 (refine TriL.skipu rfl rfl (ltb rfl) (ltb rfl) rfl hg1 ?_)
  refine TriL.c1 rfl (op_pickf (ltb rfl) rfl hg1 rfl) ?_
  refine TriL.c1 rfl (op_mv (ltb rfl) rfl) ?_
  iterate 4 (refine TriL.skipu rfl rfl (ltb rfl) (ltb rfl) rfl rfl ?_)
  refine TriL.c1 rfl (op_pickf (ltb rfl) rfl rfl rfl) ?_
  refine TriL.nil ?_
  refine Tri.condF rfl rfl ?_
  refine Tri.exit (Tri.seq (Tri.region ?_))
  iterate 2 (refine TriL.c1 rfl (op_as (ltb rfl) rfl) ?_)
  refine TriL.nil (Tri.ret ?_)
  exact ⟨.inr rfl, (ResOK.r2 rfl (.tmp rfl (.tmp rfl .nil))).cast (by
      have h0 : s = [] := List.eq_nil_of_length_eq_zero (by have := of_decide_eq_false hg1; omega)
      subst h0; rfl), rfl⟩
/- lex: the token that a text begins with, in the program and in the document. -/
theorem fn82_q : isFn Tryz.prog 82 = true := by kernel_rfl
theorem fn83_q : isFn Tryz.prog 83 = true := by kernel_rfl
theorem fn84_q : isFn Tryz.prog 84 = true := by kernel_rfl
theorem fn85_q : isFn Tryz.prog 85 = true := by kernel_rfl
theorem fn93_q : isFn Tryz.prog 93 = true := by kernel_rfl
theorem fn94_q : isFn Tryz.prog 94 = true := by kernel_rfl
theorem fn95_q : isFn Tryz.prog 95 = true := by kernel_rfl
theorem fn96_q : isFn Tryz.prog 96 = true := by kernel_rfl
theorem lk68_q : lk Tryz.prog 68 = some (true, 5) := by kernel_rfl
theorem spl68_q : spl Tryz.prog 68 = some [(0, 1), (1, 1), (2, 1), (3, 1), (4, 1)] := by kernel_rfl
theorem zA68_q : zeroA Tryz.prog 68 = some [AV.int IntKind.i64 (0), AV.str [], AV.int IntKind.u64 (0), AV.bool false, AV.int IntKind.i64 (0)] := by kernel_rfl
theorem nxt1 {s : List UInt8} (h : decide (0 < ((wordT s).2 : Int)) = true) : nxtT s = wordT s := if_pos (by have := of_decide_eq_true h; omega)
theorem nxt2 {s : List UInt8} (h : decide (0 < ((wordT s).2 : Int)) = false) (h2 : decide (0 < ((numTk s).2 : Int)) = true) : nxtT s = numTk s := by
 unfold nxtT; rw [if_neg (by have := of_decide_eq_false h; omega), if_pos (by have := of_decide_eq_true h2; omega)]
theorem nxt3 {s : List UInt8} (h : decide (0 < ((wordT s).2 : Int)) = false) (h2 : decide (0 < ((numTk s).2 : Int)) = false) (h3 : decide (0 < ((txtTk s).2 : Int)) = true) : nxtT s = txtTk s := by
 unfold nxtT; rw [if_neg (by have := of_decide_eq_false h; omega), if_neg (by have := of_decide_eq_false h2; omega), if_pos (by have := of_decide_eq_true h3; omega)]
theorem nxt4 {s : List UInt8} (h : decide (0 < ((wordT s).2 : Int)) = false) (h2 : decide (0 < ((numTk s).2 : Int)) = false) (h3 : decide (0 < ((txtTk s).2 : Int)) = false) : nxtT s = markT s := by
 unfold nxtT; rw [if_neg (by have := of_decide_eq_false h; omega), if_neg (by have := of_decide_eq_false h2; omega), if_neg (by have := of_decide_eq_false h3; omega)]
theorem wordT_eq {s : List UInt8} (h : 0 < (wordT s).2) : wordT s = (⟨1, s.take (wordN s), 0, false, 0⟩, wordN s) := by
 cases s with
 | nil => cases h
 | cons c r =>
  by_cases hc : isLet c = true
  ·simp [wordT, wordN, hc]
  ·have : isLet c = false := by simpa using hc
   simp [wordT, this] at h
theorem numTk_eq {s : List UInt8} (h : 0 < (numTk s).2) : numTk s = (⟨2, [], (numTk s).1.n, (numTk s).1.neg, 0⟩, (numTk s).2) := by
 unfold numTk at *
 cases e : numTok s with
 | none => rw [e] at h; cases h
 | some x => rfl
theorem numR_eq (s : List UInt8) : numR s = .tup [.int .u64 (numTk s).1.n, .bool (numTk s).1.neg, .int .i64 (numTk s).2] := by
 unfold numR numTk
 cases numTok s with
 | none => rfl
 | some x => rfl
theorem txtTk_eq {s : List UInt8} (h : 0 < (txtTk s).2) : txtTk s = (⟨3, (txtTk s).1.s, 0, false, 0⟩, (txtTk s).2) := by
 unfold txtTk at *
 cases e : txtT s with
 | none => rw [e] at h; cases h
 | some x => rfl
theorem txtR_eq (s : List UInt8) : txtR s = .tup [.str (txtTk s).1.s, .int .i64 (txtTk s).2] := by
 unfold txtR txtTk
 cases txtT s with
 | none => rfl
 | some x => rfl
theorem rnumber_pure' (s : List UInt8) (hs : s.length ≤ 1073741824) : Pure Tryz.prog 83 [.str s] (.tup [.int .u64 (numTk s).1.n, .bool (numTk s).1.neg, .int .i64 (numTk s).2]) := numR_eq s ▸ rnumber_pure s hs
theorem rtext_pure' (s : List UInt8) (hs : s.length ≤ 1073741824) : Pure Tryz.prog 84 [.str s] (.tup [.str (txtTk s).1.s, .int .i64 (txtTk s).2]) := txtR_eq s ▸ rtext_pure s hs
theorem pos_of {n : Nat} (h : decide (0 < (n : Int)) = true) : 0 < n := by have := of_decide_eq_true h; omega
theorem next_pure (s : List UInt8) (hs : s.length ≤ 1073741824) : Pure Tryz.prog 57 [.str s] (tkn (nxtT s)) := by
 refine Pure.of_tri Tryz.func57 rfl rfl (ltb rfl) fun H => ?_
 refine Tri.seq (Tri.region ?_)
 refine TriL.c2 rfl (op_all (ltb rfl) zA112_q rfl) ?_
 refine TriL.c1 rfl (op_as (ltb rfl) rfl) ?_
 refine TriL.nil (Tri.seq (Tri.seq (Tri.region ?_)))
 refine TriL.c1 rfl (op_mv (ltb rfl) rfl) ?_
 refine TriL.c1 rfl (op_call (ltb rfl) fn93_q rfl (word_pure s hs)) ?_
 refine TriL.c1 rfl (op_mv (ltb rfl) rfl) ?_
 iterate 2 (refine TriL.c1 rfl (op_ext (ltb rfl) rfl rfl) ?_)
 refine TriL.c2 rfl (op_all (ltb rfl) zA112_q rfl) ?_
 refine TriL.c1 rfl (op_stl lk112_q rfl rfl rfl rfl rfl (leb rfl)) ?_
 refine TriL.c1 rfl (op_as (ltb rfl) rfl) ?_
 refine TriL.nil (Tri.seq (Tri.region ?_))
 refine TriL.c1 rfl (op_mv (ltb rfl) rfl) ?_
 refine TriL.c1 rfl (op_bin (ltb rfl) rfl rfl rfl) ?_
 refine TriL.nil ?_
 refine Tri.cond rfl (fun hc1 => ?_) (fun hc1 => ?_)
 ·refine Tri.seq (Tri.region ?_)
  refine TriL.c1 rfl (op_ldl (ltb rfl) lk112_q rfl rfl rfl) ?_
  refine TriL.c1 rfl (op_mv (ltb rfl) rfl) ?_
  refine TriL.c1 rfl (op_stl lk112_q rfl rfl rfl rfl rfl (leb rfl)) ?_
  refine TriL.c1 rfl (op_as (ltb rfl) rfl) ?_
  refine TriL.nil (Tri.ret ?_)
  exact ⟨.inr rfl, (ResOK.r2 rfl (.cell lk112_q rfl rfl rfl rfl (.tmp rfl .nil))).cast (by rw [nxt1 hc1]; rfl), rfl⟩
 ·refine Tri.skip (Tri.seq (Tri.seq (Tri.region ?_)))
  refine TriL.c1 rfl (op_mv (ltb rfl) rfl) ?_
  refine TriL.c1 rfl (op_call (ltb rfl) fn94_q rfl (number_pure s hs)) ?_
  refine TriL.c1 rfl (op_mv (ltb rfl) rfl) ?_
  iterate 2 (refine TriL.c1 rfl (op_ext (ltb rfl) rfl rfl) ?_)
  refine TriL.c2 rfl (op_all (ltb rfl) zA112_q rfl) ?_
  refine TriL.c1 rfl (op_stl lk112_q rfl rfl rfl rfl rfl (leb rfl)) ?_
  refine TriL.c1 rfl (op_as (ltb rfl) rfl) ?_
  refine TriL.nil (Tri.seq (Tri.region ?_))
  refine TriL.c1 rfl (op_mv (ltb rfl) rfl) ?_
  refine TriL.c1 rfl (op_bin (ltb rfl) rfl rfl rfl) ?_
  refine TriL.nil ?_
  refine Tri.cond rfl (fun hc2 => ?_) (fun hc2 => ?_)
  ·refine Tri.seq (Tri.region ?_)
   refine TriL.c1 rfl (op_ldl (ltb rfl) lk112_q rfl rfl rfl) ?_
   refine TriL.c1 rfl (op_mv (ltb rfl) rfl) ?_
   refine TriL.c1 rfl (op_stl lk112_q rfl rfl rfl rfl rfl (leb rfl)) ?_
   refine TriL.c1 rfl (op_as (ltb rfl) rfl) ?_
   refine TriL.nil (Tri.ret ?_)
   exact ⟨.inr rfl, (ResOK.r2 rfl (.cell lk112_q rfl rfl rfl rfl (.tmp rfl .nil))).cast (by rw [nxt2 hc1 hc2]; rfl), rfl⟩
  ·refine Tri.skip (Tri.seq (Tri.seq (Tri.region ?_)))
   refine TriL.c1 rfl (op_mv (ltb rfl) rfl) ?_
   refine TriL.c1 rfl (op_call (ltb rfl) fn95_q rfl (text_pure s hs)) ?_
   refine TriL.c1 rfl (op_mv (ltb rfl) rfl) ?_
   iterate 2 (refine TriL.c1 rfl (op_ext (ltb rfl) rfl rfl) ?_)
   refine TriL.c2 rfl (op_all (ltb rfl) zA112_q rfl) ?_
   refine TriL.c1 rfl (op_stl lk112_q rfl rfl rfl rfl rfl (leb rfl)) ?_
   refine TriL.c1 rfl (op_as (ltb rfl) rfl) ?_
   refine TriL.nil (Tri.seq (Tri.region ?_))
   refine TriL.c1 rfl (op_mv (ltb rfl) rfl) ?_
   refine TriL.c1 rfl (op_bin (ltb rfl) rfl rfl rfl) ?_
   refine TriL.nil ?_
   refine Tri.cond rfl (fun hc3 => ?_) (fun hc3 => ?_)
   ·refine Tri.seq (Tri.region ?_)
    refine TriL.c1 rfl (op_ldl (ltb rfl) lk112_q rfl rfl rfl) ?_
    refine TriL.c1 rfl (op_mv (ltb rfl) rfl) ?_
    refine TriL.c1 rfl (op_stl lk112_q rfl rfl rfl rfl rfl (leb rfl)) ?_
    refine TriL.c1 rfl (op_as (ltb rfl) rfl) ?_
    refine TriL.nil (Tri.ret ?_)
    exact ⟨.inr rfl, (ResOK.r2 rfl (.cell lk112_q rfl rfl rfl rfl (.tmp rfl .nil))).cast (by rw [nxt3 hc1 hc2 hc3]; rfl), rfl⟩
   ·refine Tri.skip (Tri.seq (Tri.region ?_))
    refine TriL.c1 rfl (op_mv (ltb rfl) rfl) ?_
    refine TriL.c1 rfl (op_call (ltb rfl) fn96_q rfl (mark_pure s hs)) ?_
    iterate 2 (refine TriL.c1 rfl (op_ext (ltb rfl) rfl rfl) ?_)
    refine TriL.c1 rfl (op_stl lk112_q rfl rfl rfl rfl rfl (leb rfl)) ?_
    refine TriL.c1 rfl (op_as (ltb rfl) rfl) ?_
    refine TriL.nil (Tri.ret ?_)
    exact ⟨.inr rfl, (ResOK.r2 rfl (.cell lk112_q rfl rfl rfl rfl (.tmp rfl .nil))).cast (by rw [nxt4 hc1 hc2 hc3]; rfl), rfl⟩
theorem one_pure (s : List UInt8) (hs : s.length ≤ 1073741824) : Pure Tryz.prog 48 [.str s] (tkn (nxtT s)) := by
 refine Pure.of_tri Tryz.func48 rfl rfl (ltb rfl) fun H => ?_
 refine Tri.seq (Tri.region ?_)
 refine TriL.c2 rfl (op_all (ltb rfl) zA68_q rfl) ?_
 refine TriL.c1 rfl (op_as (ltb rfl) rfl) ?_
 refine TriL.nil (Tri.seq (Tri.seq (Tri.region ?_)))
 refine TriL.c1 rfl (op_mv (ltb rfl) rfl) ?_
 refine TriL.c1 rfl (op_call (ltb rfl) fn82_q rfl (rword_pure s hs)) ?_
 refine TriL.c1 rfl (op_as (ltb rfl) rfl) ?_
 refine TriL.nil (Tri.seq (Tri.region ?_))
 refine TriL.c1 rfl (op_mv (ltb rfl) rfl) ?_
 refine TriL.c1 rfl (op_bin (ltb rfl) rfl rfl rfl) ?_
 refine TriL.nil ?_
 refine Tri.cond rfl (fun hc1 => ?_) (fun hc1 => ?_)
 ·refine Tri.seq (Tri.region ?_)
  iterate 2 (refine TriL.c1 rfl (op_mv (ltb rfl) rfl) ?_)
  refine TriL.c1 rfl (op_cuts (ltb rfl) un9_q rfl rfl rfl (by omega) (by omega) (by have := wordN_le s; omega)) ?_
  refine TriL.c1 rfl (op_bld (ltb rfl) spl68_q zA68_q rfl rfl) ?_
  refine TriL.c1 rfl (op_mv (ltb rfl) rfl) ?_
  refine TriL.c1 rfl (op_stl lk68_q rfl rfl rfl rfl rfl (leb rfl)) ?_
  refine TriL.c1 rfl (op_as (ltb rfl) rfl) ?_
  refine TriL.nil (Tri.ret ?_)
  exact ⟨.inr rfl, (ResOK.r2 rfl (.cell lk68_q rfl rfl rfl rfl (.tmp rfl .nil))).cast (by rw [nxt1 hc1, wordT_eq (pos_of hc1)]; simp [tkn, Tk.av]), rfl⟩
 ·refine Tri.skip (Tri.seq (Tri.seq (Tri.region ?_)))
  refine TriL.c1 rfl (op_mv (ltb rfl) rfl) ?_
  refine TriL.c1 rfl (op_call (ltb rfl) fn83_q rfl (rnumber_pure' s hs)) ?_
  refine TriL.c1 rfl (op_mv (ltb rfl) rfl) ?_
  iterate 3 (refine TriL.c1 rfl (op_ext (ltb rfl) rfl rfl) ?_)
  iterate 3 (refine TriL.c1 rfl (op_as (ltb rfl) rfl) ?_)
  refine TriL.nil (Tri.seq (Tri.region ?_))
  refine TriL.c1 rfl (op_mv (ltb rfl) rfl) ?_
  refine TriL.c1 rfl (op_bin (ltb rfl) rfl rfl rfl) ?_
  refine TriL.nil ?_
  refine Tri.cond rfl (fun hc2 => ?_) (fun hc2 => ?_)
  ·refine Tri.seq (Tri.region ?_)
   iterate 2 (refine TriL.c1 rfl (op_mv (ltb rfl) rfl) ?_)
   refine TriL.c1 rfl (op_bld (ltb rfl) spl68_q zA68_q rfl rfl) ?_
   refine TriL.c1 rfl (op_mv (ltb rfl) rfl) ?_
   refine TriL.c1 rfl (op_stl lk68_q rfl rfl rfl rfl rfl (leb rfl)) ?_
   refine TriL.c1 rfl (op_as (ltb rfl) rfl) ?_
   refine TriL.nil (Tri.ret ?_)
   exact ⟨.inr rfl, (ResOK.r2 rfl (.cell lk68_q rfl rfl rfl rfl (.tmp rfl .nil))).cast (by rw [nxt2 hc1 hc2, numTk_eq (pos_of hc2)]; rfl), rfl⟩
  ·refine Tri.skip (Tri.seq (Tri.seq (Tri.region ?_)))
   refine TriL.c1 rfl (op_mv (ltb rfl) rfl) ?_
   refine TriL.c1 rfl (op_call (ltb rfl) fn84_q rfl (rtext_pure' s hs)) ?_
   refine TriL.c1 rfl (op_mv (ltb rfl) rfl) ?_
   iterate 2 (refine TriL.c1 rfl (op_ext (ltb rfl) rfl rfl) ?_)
   iterate 2 (refine TriL.c1 rfl (op_as (ltb rfl) rfl) ?_)
   refine TriL.nil (Tri.seq (Tri.region ?_))
   refine TriL.c1 rfl (op_mv (ltb rfl) rfl) ?_
   refine TriL.c1 rfl (op_bin (ltb rfl) rfl rfl rfl) ?_
   refine TriL.nil ?_
   refine Tri.cond rfl (fun hc3 => ?_) (fun hc3 => ?_)
   ·refine Tri.seq (Tri.region ?_)
    refine TriL.c1 rfl (op_mv (ltb rfl) rfl) ?_
    refine TriL.c1 rfl (op_bld (ltb rfl) spl68_q zA68_q rfl rfl) ?_
    refine TriL.c1 rfl (op_mv (ltb rfl) rfl) ?_
    refine TriL.c1 rfl (op_stl lk68_q rfl rfl rfl rfl rfl (leb rfl)) ?_
    refine TriL.c1 rfl (op_as (ltb rfl) rfl) ?_
    refine TriL.nil (Tri.ret ?_)
    exact ⟨.inr rfl, (ResOK.r2 rfl (.cell lk68_q rfl rfl rfl rfl (.tmp rfl .nil))).cast (by rw [nxt3 hc1 hc2 hc3, txtTk_eq (pos_of hc3)]; rfl), rfl⟩
   ·refine Tri.skip (Tri.seq (Tri.seq (Tri.region ?_)))
    refine TriL.c1 rfl (op_mv (ltb rfl) rfl) ?_
    refine TriL.c1 rfl (op_lens (ltb rfl) un9_q rfl) ?_
    refine TriL.c1 rfl (op_bin (ltb rfl) rfl rfl rfl) ?_
    refine TriL.c1 rfl (op_mv (ltb rfl) rfl) ?_
    refine TriL.split (d := 44) rfl (fun hg4 => ?_) (fun hg4 => ?_)
    ·obtain ⟨c, r, rfl⟩ : ∃ c r, s = c :: r := by
       cases s with
       | nil => simp at hg4
       | cons c r => exact ⟨c, r, rfl⟩
     refine TriL.g1 rfl (ltb rfl) rfl hg4 (op_mv (ltb rfl) rfl) ?_
     refine TriL.g1 rfl (ltb rfl) rfl hg4 (op_ixs (ltb rfl) un9_q rfl rfl (by decide) rfl) ?_
     refine TriL.g1 rfl (ltb rfl) rfl hg4 (op_call (ltb rfl) fn85_q rfl (rmark_pure c)) ?_
     refine TriL.c1 rfl (op_pickt (ltb rfl) rfl hg4 rfl) ?_
     refine TriL.nil ?_
     refine Tri.cond rfl (fun hc5 => ?_) (fun hc5 => ?_)
     ·refine Tri.seq (Tri.region ?_)
      refine TriL.c1 rfl (op_mv (ltb rfl) rfl) ?_
      refine TriL.c1 rfl (op_cuts (ltb rfl) un9_q rfl rfl rfl (by omega) (by omega) (by simp <;> omega)) ?_
      refine TriL.c1 rfl (op_bld (ltb rfl) spl68_q zA68_q rfl rfl) ?_
      refine TriL.c1 rfl (op_stl lk68_q rfl rfl rfl rfl rfl (leb rfl)) ?_
      refine TriL.c1 rfl (op_as (ltb rfl) rfl) ?_
      refine TriL.nil (Tri.ret ?_)
      exact ⟨.inr rfl, (ResOK.r2 rfl (.cell lk68_q rfl rfl rfl rfl (.tmp rfl .nil))).cast (by rw [nxt4 hc1 hc2 hc3]; have h : isMark c = true := hc5; simp only [markT, h, if_true]; rfl), rfl⟩
     ·refine Tri.skip (Tri.seq (Tri.region ?_))
      refine TriL.c1 rfl (op_bld (ltb rfl) spl68_q zA68_q rfl rfl) ?_
      refine TriL.c1 rfl (op_stl lk68_q rfl rfl rfl rfl rfl (leb rfl)) ?_
      refine TriL.c1 rfl (op_as (ltb rfl) rfl) ?_
      refine TriL.nil (Tri.ret ?_)
      exact ⟨.inr rfl, (ResOK.r2 rfl (.cell lk68_q rfl rfl rfl rfl (.tmp rfl .nil))).cast (by rw [nxt4 hc1 hc2 hc3]; have h : isMark c = false := hc5; simp only [markT, h]; rfl), rfl⟩
    ·iterate 3 (refine TriL.skipu rfl rfl (ltb rfl) (ltb rfl) rfl hg4 ?_)
     refine TriL.c1 rfl (op_pickf (ltb rfl) rfl hg4 rfl) ?_
     refine TriL.nil ?_
     refine Tri.condF rfl rfl ?_
     refine Tri.skip (Tri.seq (Tri.region ?_))
     refine TriL.c1 rfl (op_bld (ltb rfl) spl68_q zA68_q rfl rfl) ?_
     refine TriL.c1 rfl (op_stl lk68_q rfl rfl rfl rfl rfl (leb rfl)) ?_
     refine TriL.c1 rfl (op_as (ltb rfl) rfl) ?_
     refine TriL.nil (Tri.ret ?_)
     exact ⟨.inr rfl, (ResOK.r2 rfl (.cell lk68_q rfl rfl rfl rfl (.tmp rfl .nil))).cast (by
          have h0 : s = [] := List.eq_nil_of_length_eq_zero (by have := of_decide_eq_false hg4; omega)
          rw [nxt4 hc1 hc2 hc3, h0]; rfl), rfl⟩
open Go
/- The tokens of a text, in plain Lean: steps; what is passed over. No condition. -/
theorem lexGo_nil (p : Nat) : lexGo [] p = ([], none) := by rw [lexGo]
theorem lexGo_bl {c : UInt8} {r : List UInt8} {p : Nat} (h : isBl c = true) : lexGo (c :: r) p = lexGo r (p + 1) := by rw [lexGo, if_pos h]
theorem spn_rem {r : List UInt8} (h : isRem r = true) : 2 ≤ spn noNl r := by
 unfold isRem Lib.hasPrefix at h
 match r, h with
 | [], h => simp at h
 | [c], h => simp [List.isPrefixOf] at h
 | c :: d :: r, h =>
  simp [List.isPrefixOf] at h
  obtain ⟨rfl, rfl⟩ := h
  have e1 : noNl 47 = true := by decide
  simp [spn, e1]
theorem lexGo_rem {c : UInt8} {r : List UInt8} {p : Nat} (h : isBl c = false) (h2 : isRem (c :: r) = true) : lexGo (c :: r) p = lexGo ((c :: r).drop (spn noNl (c :: r))) (p + spn noNl (c :: r)) := by
 have := spn_rem h2
 rw [lexGo, if_neg (by simp [h]), if_pos h2, show spn noNl (c :: r) - 1 + 1 = spn noNl (c :: r) by omega]
theorem lexGo_no {c : UInt8} {r : List UInt8} {p : Nat} (h : isBl c = false) (h2 : isRem (c :: r) = false) (h3 : (nxtT (c :: r)).2 = 0) : lexGo (c :: r) p = ([], some p) := by
 rw [lexGo, if_neg (by simp [h]), if_neg (by simp [h2]), if_pos h3]
def Tk.at (t : Tk) (p : Nat) : Tk := ⟨t.k, t.s, t.n, t.neg, p⟩
theorem lexGo_tok {c : UInt8} {r : List UInt8} {p : Nat} (h : isBl c = false) (h2 : isRem (c :: r) = false) (h3 : (nxtT (c :: r)).2 ≠ 0) :
  lexGo (c :: r) p = ((nxtT (c :: r)).1.at p :: (lexGo ((c :: r).drop (nxtT (c :: r)).2) (p + (nxtT (c :: r)).2)).1, (lexGo ((c :: r).drop (nxtT (c :: r)).2) (p + (nxtT (c :: r)).2)).2) := by
 rw [lexGo, if_neg (by simp [h]), if_neg (by simp [h2]), if_neg h3, show (nxtT (c :: r)).2 - 1 + 1 = (nxtT (c :: r)).2 by omega]
 rfl
theorem numB_le (s : List UInt8) : numB s ≤ s.length := by
 have h1 := unsg_le s
 have h2 := spn_le isDig (unsg s)
 unfold numB; omega
theorem txtGo_le : ∀ (n : Nat) (l out : List UInt8) (p : Nat) (o : List UInt8) (k : Nat), l.length ≤ n → txtGo l out p = some (o, k) → p < k ∧ k ≤ p + l.length
 | n, [], out, p, o, k, _, h => by simp [txtGo] at h
 | 0, c :: r, out, p, o, k, hn, h => by simp at hn
 | n + 1, c :: r, out, p, o, k, hn, h => by
  by_cases hc : c = 39
  ·subst hc
   match r, h, hn with
   | [], h, _ => simp [txtGo] at h; obtain ⟨_, rfl⟩ := h; simp
   | d :: r', h, hn =>
    by_cases hd : d = 39
    ·subst hd
     rw [txt_two] at h
     have := txtGo_le n r' _ _ o k (by simp at hn; omega) h
     simp; omega
    ·rw [txt_end (fun r e => hd (by cases e; rfl))] at h
     simp at h; obtain ⟨_, rfl⟩ := h; simp
  ·rw [txtGo_ne hc] at h
   have := txtGo_le n r _ _ o k (by simp at hn; omega) h
   simp; omega
theorem nxt_le (s : List UInt8) : (nxtT s).2 ≤ s.length := by
 unfold nxtT
 split
 ·exact wordN_le s
 ·split
  ·unfold numTk
   cases e : numTok s with
   | none => exact Nat.zero_le _
   | some x =>
    have : x.2.2 = numB s := by
     unfold numTok at e
     split at e
     ·split at e
      ·cases e
      ·cases e; rfl
     ·cases e
    show x.2.2 ≤ _
    rw [this]; exact numB_le s
  ·split
   ·unfold txtTk
    cases e : txtT s with
    | none => exact Nat.zero_le _
    | some x =>
     obtain ⟨o, k⟩ := x
     cases s with
     | nil => cases e
     | cons c r =>
      unfold txtT at e
      simp only at e
      split at e
      ·have := txtGo_le r.length r _ _ o k (Nat.le_refl _) e
       show k ≤ _
       simp; omega
      ·cases e
   ·cases s with
    | nil => exact Nat.le_refl _
    | cons c r =>
     unfold markT
     simp only
     split
     ·simp
     ·exact Nat.zero_le _
/-- how many bytes are passed over -/
def skp (r : List UInt8) : Nat :=
 match r with
 | [] => 0
 | c :: r' => if isBl c then skp r' + 1 else if isRem (c :: r') then skp ((c :: r').drop (spn noNl (c :: r') - 1 + 1)) + spn noNl (c :: r') else 0
termination_by r.length
decreasing_by all_goals simp <;> omega
theorem skp_nil : skp [] = 0 := by rw [skp]
theorem skp_bl {c : UInt8} {r : List UInt8} (h : isBl c = true) : skp (c :: r) = skp r + 1 := by rw [skp, if_pos h]
theorem skp_rem {c : UInt8} {r : List UInt8} (h : isBl c = false) (h2 : isRem (c :: r) = true) : skp (c :: r) = skp ((c :: r).drop (spn noNl (c :: r))) + spn noNl (c :: r) := by
 have := spn_rem h2
 rw [skp, if_neg (by simp [h]), if_pos h2, show spn noNl (c :: r) - 1 + 1 = spn noNl (c :: r) by omega]
theorem skp_no {c : UInt8} {r : List UInt8} (h : isBl c = false) (h2 : isRem (c :: r) = false) : skp (c :: r) = 0 := by
 rw [skp, if_neg (by simp [h]), if_neg (by simp [h2])]
theorem skp_all : ∀ (n : Nat) (r : List UInt8), r.length ≤ n → skp r ≤ r.length ∧ (∀ p, lexGo r p = lexGo (r.drop (skp r)) (p + skp r)) ∧ skp (r.drop (skp r)) = 0
 | n, [], _ => by simp [skp_nil]
 | 0, c :: r, hn => by simp at hn
 | n + 1, c :: r, hn => by
  by_cases h : isBl c = true
  ·obtain ⟨h1, h2, h3⟩ := skp_all n r (by simp at hn; omega)
   rw [skp_bl h]
   refine ⟨by simp; omega, fun p => ?_, by simpa using h3⟩
   rw [lexGo_bl h, h2, List.drop_succ_cons]; congr 1; omega
  ·have h' : isBl c = false := by simpa using h
   by_cases hr : isRem (c :: r) = true
   ·have h2 := spn_rem hr
    have h3 := spn_le noNl (c :: r)
    obtain ⟨q1, q2, q3⟩ := skp_all n ((c :: r).drop (spn noNl (c :: r))) (by rw [List.length_drop]; simp at hn ⊢; omega)
    rw [skp_rem h' hr]
    rw [List.drop_drop] at q3
    refine ⟨by rw [List.length_drop] at q1; omega, fun p => ?_, by rw [Nat.add_comm]; exact q3⟩
    rw [lexGo_rem h' hr, q2, List.drop_drop]
    congr 1
    ·congr 1; omega
    ·omega
   ·have hr' : isRem (c :: r) = false := by simpa using hr
    rw [skp_no h' hr']
    exact ⟨Nat.zero_le _, fun p => rfl, by rw [List.drop_zero]; exact skp_no h' hr'⟩
theorem skp_zero {c : UInt8} {r : List UInt8} (h : skp (c :: r) = 0) : isBl c = false ∧ isRem (c :: r) = false := by
 by_cases h1 : isBl c = true
 ·rw [skp_bl h1] at h; omega
 ·have h1' : isBl c = false := by simpa using h1
  by_cases h2 : isRem (c :: r) = true
  ·rw [skp_rem h1' h2] at h; have := spn_rem h2; omega
  ·exact ⟨h1', by simpa using h2⟩
/-- All's answer -/
def allV (s : List UInt8) (most : Int) : AV :=
 if most < (s.length : Int) then .tup [.sl [], .int .i64 0, .int .i64 3]
 else match lexGo s 0 with
  | (ts, none) => .tup [.sl ((ts ++ [(⟨0, [], 0, false, s.length⟩ : Tk)]).map Tk.av), .int .i64 s.length, .int .i64 0]
  | (_, some p) => .tup [.sl [], .int .i64 p, .int .i64 2]
theorem allV_long {s : List UInt8} {most : Int} (h : most < (s.length : Int)) : allV s most = .tup [.sl [], .int .i64 0, .int .i64 3] := if_pos h
theorem allV_ok {s : List UInt8} {most : Int} {ts : List Tk} (h : ¬ most < (s.length : Int)) (e : lexGo s 0 = (ts, none)) : allV s most = .tup [.sl ((ts ++ [(⟨0, [], 0, false, s.length⟩ : Tk)]).map Tk.av), .int .i64 s.length, .int .i64 0] := by
 unfold allV; rw [if_neg h, e]
theorem allV_bad {s : List UInt8} {most : Int} {ts : List Tk} {p : Nat} (h : ¬ most < (s.length : Int)) (e : lexGo s 0 = (ts, some p)) : allV s most = .tup [.sl [], .int .i64 p, .int .i64 2] := by
 unfold allV; rw [if_neg h, e]
/- lex: all tokens, in the program and in the document. -/
theorem isRem_ne {c : UInt8} {r : List UInt8} (h : c.toNat ≠ 47) : isRem (c :: r) = false := by
 have : ¬ (47 : UInt8) = c := fun e => h (by rw [← e]; rfl)
 unfold isRem Lib.hasPrefix
 cases r <;> simp [List.isPrefixOf, this]
theorem isRem_one {c : UInt8} : isRem [c] = false := by
 unfold isRem Lib.hasPrefix
 simp [List.isPrefixOf]
theorem isRem_ne2 {c d : UInt8} {r : List UInt8} (h : d.toNat ≠ 47) : isRem (c :: d :: r) = false := by
 have : ¬ (47 : UInt8) = d := fun e => h (by rw [← e]; rfl)
 unfold isRem Lib.hasPrefix
 simp [List.isPrefixOf, this]
theorem isRem_two {c d : UInt8} {r : List UInt8} (h : c.toNat = 47) (h2 : d.toNat = 47) : isRem (c :: d :: r) = true := by
 obtain rfl : c = 47 := UInt8.toNat_inj.1 h
 obtain rfl : d = 47 := UInt8.toNat_inj.1 h2
 unfold isRem Lib.hasPrefix
 simp [List.isPrefixOf]
def StPs (H : Hp) (s : List UInt8) (j : Int) : St := [(.h, .hp H), (.s 0, .sv (.v (.str s))), (.s 1, .sv (.v (.int .i64 j)))]
theorem bl_no {c : UInt8} (h1 : ((c.toNat : Int) == 32) = false) (h2 : ((c.toNat : Int) == 10) = false) (h3 : ((c.toNat : Int) == 9) = false) : isBl c = false :=
 decide_eq_false (by have := beq_eq_false_iff_ne.1 h1; have := beq_eq_false_iff_ne.1 h2; have := beq_eq_false_iff_ne.1 h3; omega)
theorem bl_1 {c : UInt8} (h : ((c.toNat : Int) == 32) = true) : isBl c = true := decide_eq_true (by have := eq_of_beq h; omega)
theorem bl_2 {c : UInt8} (h : ((c.toNat : Int) == 10) = true) : isBl c = true := decide_eq_true (by have := eq_of_beq h; omega)
theorem bl_3 {c : UInt8} (h : ((c.toNat : Int) == 9) = true) : isBl c = true := decide_eq_true (by have := eq_of_beq h; omega)
theorem pass_pure (s : List UInt8) (a0 : Nat) (hs : s.length ≤ 1073741824) (h0 : a0 ≤ s.length) : Pure Tryz.prog 47 [.str s, .int .i64 a0] (.int .i64 (a0 + skp (s.drop a0) : Nat)) := by
 refine Pure.of_tri Tryz.func47 rfl rfl (ltb rfl) fun H => ?_
 refine Tri.seq (Tri.region ?_)
 refine TriL.c1 rfl (op_as (ltb rfl) rfl) ?_
 refine TriL.kept (Kept.keep [.h, .s 0, .s 1] rfl (by decide) (Kept.now ?_))
 refine Tri.seq (Tri.blk ?_)
 -- LOOP 1: KEEP
 refine Tri.loop (fun q w => ∃ (a : Nat) (j : Int), w = StPs H s j ∧ j = a ∧ a ≤ s.length ∧ a + skp (s.drop a) = a0 + skp (s.drop a0) ∧ q = s.length - a) ?_ (n := s.length - a0) ⟨a0, a0, rfl, rfl, h0, rfl, rfl⟩
 rintro q w ⟨a, j, rfl, hj, ha, hI, rfl⟩
 refine Tri.seq (Tri.seq (Tri.region ?_))
 iterate 2 (refine TriL.c1 rfl (op_mv (ltb rfl) rfl) ?_)
 refine TriL.c1 rfl (op_lens (ltb rfl) un9_q rfl) ?_
 refine TriL.c1 rfl (op_bin (ltb rfl) rfl rfl rfl) ?_
 refine TriL.nil ?_
 refine Tri.cond rfl (fun hc1 => ?_) (fun hc1 => ?_)
 ·have hlt : a < s.length := by have := of_decide_eq_true hc1; omega
  obtain ⟨c, hc⟩ : ∃ c, s[a]? = some c := ⟨s[a], List.getElem?_eq_getElem hlt⟩
  have hda := drop_at hc
  refine Tri.skip (Tri.blk (Tri.seq (Tri.seq (Tri.region ?_))))
  iterate 2 (refine TriL.c1 rfl (op_mv (ltb rfl) rfl) ?_)
  refine TriL.c1 rfl (op_ixs (ltb rfl) un9_q rfl rfl (by omega) (ixc hj hc)) ?_
  refine TriL.c1 rfl (op_bin (ltb rfl) rfl rfl rfl) ?_
  refine TriL.c1 rfl (op_mv (ltb rfl) rfl) ?_
  refine TriL.split (d := 13) rfl (fun hg2 => ?_) (fun hg2 => ?_)
  ·iterate 4 (refine TriL.skipu rfl rfl (ltb rfl) (ltb rfl) rfl hg2 ?_)
   refine TriL.c1 rfl (op_pickt (ltb rfl) rfl hg2 rfl) ?_
   refine TriL.c1 rfl (op_mv (ltb rfl) rfl) ?_
   iterate 4 (refine TriL.skipu rfl rfl (ltb rfl) (ltb rfl) rfl rfl ?_)
   refine TriL.c1 rfl (op_pickt (ltb rfl) rfl rfl rfl) ?_
   refine TriL.nil ?_
   refine Tri.condT rfl rfl ?_
   refine Tri.seq (Tri.region ?_)
   refine TriL.c1 rfl (op_mv (ltb rfl) rfl) ?_
   refine TriL.c1 rfl (op_bin (ltb rfl) rfl rfl rfl) ?_
   refine TriL.c1 rfl (op_as (ltb rfl) rfl) ?_
   refine TriL.kept (Kept.keep [.h, .s 0, .s 1] rfl (by decide) (Kept.now ?_))
   refine Tri.exit ?_
   exact ⟨s.length - (a + 1), by omega, a + 1, IntKind.i64.wrap (j + 1), rfl, by rw [hj, wr64] <;> omega, by omega, by rw [← hI, hda, skp_bl (bl_1 hg2)]; omega, rfl⟩
  ·iterate 2 (refine TriL.g1 rfl (ltb rfl) rfl hg2 (op_mv (ltb rfl) rfl) ?_)
   refine TriL.g1 rfl (ltb rfl) rfl hg2 (op_ixs (ltb rfl) un9_q rfl rfl (by omega) (ixc hj hc)) ?_
   refine TriL.g1 rfl (ltb rfl) rfl hg2 (op_bin (ltb rfl) rfl rfl rfl) ?_
   refine TriL.c1 rfl (op_pickf (ltb rfl) rfl hg2 rfl) ?_
   refine TriL.c1 rfl (op_mv (ltb rfl) rfl) ?_
   refine TriL.split (d := 19) rfl (fun hg3 => ?_) (fun hg3 => ?_)
   ·iterate 4 (refine TriL.skipu rfl rfl (ltb rfl) (ltb rfl) rfl hg3 ?_)
    refine TriL.c1 rfl (op_pickt (ltb rfl) rfl hg3 rfl) ?_
    refine TriL.nil ?_
    refine Tri.condT rfl rfl ?_
    refine Tri.seq (Tri.region ?_)
    refine TriL.c1 rfl (op_mv (ltb rfl) rfl) ?_
    refine TriL.c1 rfl (op_bin (ltb rfl) rfl rfl rfl) ?_
    refine TriL.c1 rfl (op_as (ltb rfl) rfl) ?_
    refine TriL.kept (Kept.keep [.h, .s 0, .s 1] rfl (by decide) (Kept.now ?_))
    refine Tri.exit ?_
    exact ⟨s.length - (a + 1), by omega, a + 1, IntKind.i64.wrap (j + 1), rfl, by rw [hj, wr64] <;> omega, by omega, by rw [← hI, hda, skp_bl (bl_2 hg3)]; omega, rfl⟩
   ·iterate 2 (refine TriL.g1 rfl (ltb rfl) rfl hg3 (op_mv (ltb rfl) rfl) ?_)
    refine TriL.g1 rfl (ltb rfl) rfl hg3 (op_ixs (ltb rfl) un9_q rfl rfl (by omega) (ixc hj hc)) ?_
    refine TriL.g1 rfl (ltb rfl) rfl hg3 (op_bin (ltb rfl) rfl rfl rfl) ?_
    refine TriL.c1 rfl (op_pickf (ltb rfl) rfl hg3 rfl) ?_
    refine TriL.nil ?_
    refine Tri.cond rfl (fun hc4 => ?_) (fun hc4 => ?_)
    ·refine Tri.seq (Tri.region ?_)
     refine TriL.c1 rfl (op_mv (ltb rfl) rfl) ?_
     refine TriL.c1 rfl (op_bin (ltb rfl) rfl rfl rfl) ?_
     refine TriL.c1 rfl (op_as (ltb rfl) rfl) ?_
     refine TriL.kept (Kept.keep [.h, .s 0, .s 1] rfl (by decide) (Kept.now ?_))
     refine Tri.exit ?_
     exact ⟨s.length - (a + 1), by omega, a + 1, IntKind.i64.wrap (j + 1), rfl, by rw [hj, wr64] <;> omega, by omega, by rw [← hI, hda, skp_bl (bl_3 hc4)]; omega, rfl⟩
    ·have hb := bl_no hg2 hg3 hc4
     have hw1 : IntKind.i64.wrap (j + 1) = ((a + 1 : Nat) : Int) := by rw [hj, wr64] <;> omega
     refine Tri.skip (Tri.seq (Tri.seq (Tri.region ?_)))
     iterate 2 (refine TriL.c1 rfl (op_mv (ltb rfl) rfl) ?_)
     refine TriL.c1 rfl (op_ixs (ltb rfl) un9_q rfl rfl (by omega) (ixc hj hc)) ?_
     refine TriL.c1 rfl (op_bin (ltb rfl) rfl rfl rfl) ?_
     refine TriL.c1 rfl (op_mv (ltb rfl) rfl) ?_
     refine TriL.split (d := 31) rfl (fun hg5 => ?_) (fun hg5 => ?_)
     ·iterate 5 (refine TriL.skipu rfl rfl (ltb rfl) (ltb rfl) rfl hg5 ?_)
      refine TriL.c1 rfl (op_pickt (ltb rfl) rfl hg5 rfl) ?_
      refine TriL.c1 rfl (op_mv (ltb rfl) rfl) ?_
      iterate 5 (refine TriL.skipu rfl rfl (ltb rfl) (ltb rfl) rfl rfl ?_)
      refine TriL.c1 rfl (op_pickt (ltb rfl) rfl rfl rfl) ?_
      refine TriL.nil ?_
      refine Tri.condT rfl rfl ?_
      refine Tri.seq (Tri.region ?_)
      refine TriL.c1 rfl (op_mv (ltb rfl) rfl) ?_
      refine TriL.c1 rfl (op_as (ltb rfl) rfl) ?_
      refine TriL.nil (Tri.ret ?_)
      exact ⟨.inr rfl, (ResOK.r1 rfl (.tmp rfl .nil)).cast (by
       have hr : isRem (s.drop a) = false := by rw [hda]; exact isRem_ne (by have h : (!((c.toNat : Int) == 47)) = true := hg5; simp at h; omega)
       have hz : skp (s.drop a) = 0 := by rw [hda] at hr ⊢; exact skp_no hb hr
       rw [hj, ← hI, hz]; rfl), rfl⟩
     ·refine TriL.g1 rfl (ltb rfl) rfl hg5 (op_mv (ltb rfl) rfl) ?_
      refine TriL.g1 rfl (ltb rfl) rfl hg5 (op_bin (ltb rfl) rfl rfl rfl) ?_
      refine TriL.g1 rfl (ltb rfl) rfl hg5 (op_mv (ltb rfl) rfl) ?_
      refine TriL.g1 rfl (ltb rfl) rfl hg5 (op_lens (ltb rfl) un9_q rfl) ?_
      refine TriL.g1 rfl (ltb rfl) rfl hg5 (op_bin (ltb rfl) rfl rfl rfl) ?_
      refine TriL.c1 rfl (op_pickf (ltb rfl) rfl hg5 rfl) ?_
      refine TriL.c1 rfl (op_mv (ltb rfl) rfl) ?_
      refine TriL.split (d := 38) rfl (fun hg6 => ?_) (fun hg6 => ?_)
      ·iterate 5 (refine TriL.skipu rfl rfl (ltb rfl) (ltb rfl) rfl hg6 ?_)
       refine TriL.c1 rfl (op_pickt (ltb rfl) rfl hg6 rfl) ?_
       refine TriL.nil ?_
       refine Tri.condT rfl rfl ?_
       refine Tri.seq (Tri.region ?_)
       refine TriL.c1 rfl (op_mv (ltb rfl) rfl) ?_
       refine TriL.c1 rfl (op_as (ltb rfl) rfl) ?_
       refine TriL.nil (Tri.ret ?_)
       exact ⟨.inr rfl, (ResOK.r1 rfl (.tmp rfl .nil)).cast (by
        have hr : isRem (s.drop a) = false := by rw [hda]; rw [show s.drop (a + 1) = [] from List.drop_of_length_le (by have := of_decide_eq_true hg6; rw [hw1] at this; omega)]; exact isRem_one
        have hz : skp (s.drop a) = 0 := by rw [hda] at hr ⊢; exact skp_no hb hr
        rw [hj, ← hI, hz]; rfl), rfl⟩
      ·have hlt2 : a + 1 < s.length := by have := of_decide_eq_false hg6; rw [hw1] at this; omega
       obtain ⟨d, hd⟩ : ∃ d, s[a + 1]? = some d := ⟨s[a + 1], List.getElem?_eq_getElem hlt2⟩
       have hdb := drop_at hd
       iterate 2 (refine TriL.g1 rfl (ltb rfl) rfl hg6 (op_mv (ltb rfl) rfl) ?_)
       refine TriL.g1 rfl (ltb rfl) rfl hg6 (op_bin (ltb rfl) rfl rfl rfl) ?_
       refine TriL.g1 rfl (ltb rfl) rfl hg6 (op_ixs (ltb rfl) un9_q rfl rfl (by rw [hw1]; omega) (ixc hw1 hd)) ?_
       refine TriL.g1 rfl (ltb rfl) rfl hg6 (op_bin (ltb rfl) rfl rfl rfl) ?_
       refine TriL.c1 rfl (op_pickf (ltb rfl) rfl hg6 rfl) ?_
       refine TriL.nil ?_
       refine Tri.cond rfl (fun hc7 => ?_) (fun hc7 => ?_)
       ·refine Tri.seq (Tri.region ?_)
        refine TriL.c1 rfl (op_mv (ltb rfl) rfl) ?_
        refine TriL.c1 rfl (op_as (ltb rfl) rfl) ?_
        refine TriL.nil (Tri.ret ?_)
        exact ⟨.inr rfl, (ResOK.r1 rfl (.tmp rfl .nil)).cast (by
         have hr : isRem (s.drop a) = false := by rw [hda]; rw [hdb]; exact isRem_ne2 (by have h : (!((d.toNat : Int) == 47)) = true := hc7; simp at h; omega)
         have hz : skp (s.drop a) = 0 := by rw [hda] at hr ⊢; exact skp_no hb hr
         rw [hj, ← hI, hz]; rfl), rfl⟩
       ·have hr : isRem (s.drop a) = true := by
          rw [hda, hdb]
          have h1 : (!((c.toNat : Int) == 47)) = false := hg5
          have h2 : (!((d.toNat : Int) == 47)) = false := hc7
          simp at h1 h2
          exact isRem_two (by omega) (by omega)
        have hsp := spn_rem hr
        have hskp : skp (s.drop a) = skp (s.drop (a + spn noNl (s.drop a))) + spn noNl (s.drop a) := by
         have h5 : skp (s.drop a) = skp ((s.drop a).drop (spn noNl (s.drop a))) + spn noNl (s.drop a) := by
          rw [hda] at hr ⊢; exact skp_rem hb hr
         rw [h5, List.drop_drop]
        refine Tri.ofKept (Kept.keep [.h, .s 0, .s 1] rfl (by decide) (Kept.now ?_))
        refine Tri.skip (Tri.blk ?_)
        -- LOOP 2: KEEP
        refine Tri.loop (fun q w => ∃ (b : Nat) (j2 : Int), w = StPs H s j2 ∧ j2 = b ∧ a ≤ b ∧ b ≤ s.length ∧ b - a ≤ spn noNl (s.drop a) ∧ q = s.length - b) ?_ (n := s.length - a) ⟨a, j, rfl, hj, Nat.le_refl _, ha, by omega, rfl⟩
        rintro q w ⟨b, j2, rfl, hj2, hb2, hb3, hb4, rfl⟩
        have hsl := spn_le noNl (s.drop a)
        rw [List.length_drop] at hsl
        refine Tri.seq (Tri.seq (Tri.region ?_))
        iterate 2 (refine TriL.c1 rfl (op_mv (ltb rfl) rfl) ?_)
        refine TriL.c1 rfl (op_lens (ltb rfl) un9_q rfl) ?_
        refine TriL.c1 rfl (op_bin (ltb rfl) rfl rfl rfl) ?_
        refine TriL.c1 rfl (op_mv (ltb rfl) rfl) ?_
        refine TriL.split (d := 50) rfl (fun hg8 => ?_) (fun hg8 => ?_)
        ·have hlt3 : b < s.length := by have := of_decide_eq_true hg8; omega
         obtain ⟨e, he⟩ : ∃ e, s[b]? = some e := ⟨s[b], List.getElem?_eq_getElem hlt3⟩
         have hsd := spn_drop noNl (s.drop a) (b - a) e hb4 (by rw [List.getElem?_drop, show a + (b - a) = b by omega]; exact he)
         iterate 2 (refine TriL.g1 rfl (ltb rfl) rfl hg8 (op_mv (ltb rfl) rfl) ?_)
         refine TriL.g1 rfl (ltb rfl) rfl hg8 (op_ixs (ltb rfl) un9_q rfl rfl (by omega) (ixc hj2 he)) ?_
         refine TriL.g1 rfl (ltb rfl) rfl hg8 (op_bin (ltb rfl) rfl rfl rfl) ?_
         refine TriL.c1 rfl (op_pickt (ltb rfl) rfl hg8 rfl) ?_
         refine TriL.nil ?_
         refine Tri.cond rfl (fun hc9 => ?_) (fun hc9 => ?_)
         ·refine Tri.skip (Tri.blk (Tri.region ?_))
          refine TriL.c1 rfl (op_mv (ltb rfl) rfl) ?_
          refine TriL.c1 rfl (op_bin (ltb rfl) rfl rfl rfl) ?_
          refine TriL.c1 rfl (op_as (ltb rfl) rfl) ?_
          refine TriL.kept (Kept.keep [.h, .s 0, .s 1] rfl (by decide) (Kept.now ?_))
          have hnn : noNl e = true := by
           have h : (!((e.toNat : Int) == 10)) = true := hc9
           simp at h
           exact decide_eq_true (by omega)
          exact ⟨s.length - (b + 1), by omega, b + 1, IntKind.i64.wrap (j2 + 1), rfl, by rw [hj2, wr64] <;> omega, by omega, by omega, by have := hsd.1 hnn; omega, rfl⟩
         ·refine Tri.ofKept (Kept.keep [.h, .s 0, .s 1] rfl (by decide) (Kept.now ?_))
          refine Tri.exit ?_
          have e5 : spn noNl (s.drop a) = b - a := hsd.2 (by
           have h : (!((e.toNat : Int) == 10)) = false := hc9
           simp at h
           exact decide_eq_false (by omega))
          exact ⟨s.length - b, by omega, b, j2, rfl, hj2, hb3, by rw [← hI, hskp, e5, show a + (b - a) = b by omega]; omega, rfl⟩
        ·iterate 4 (refine TriL.skipu rfl rfl (ltb rfl) (ltb rfl) rfl hg8 ?_)
         refine TriL.c1 rfl (op_pickf (ltb rfl) rfl hg8 rfl) ?_
         refine TriL.nil ?_
         refine Tri.condF rfl rfl ?_
         refine Tri.ofKept (Kept.keep [.h, .s 0, .s 1] rfl (by decide) (Kept.now ?_))
         refine Tri.exit ?_
         have e5 : spn noNl (s.drop a) = b - a := by have := of_decide_eq_false hg8; omega
         exact ⟨s.length - b, by omega, b, j2, rfl, hj2, hb3, by rw [← hI, hskp, e5, show a + (b - a) = b by omega]; omega, rfl⟩
 ·refine Tri.exit (Tri.seq (Tri.region ?_))
  refine TriL.c1 rfl (op_mv (ltb rfl) rfl) ?_
  refine TriL.c1 rfl (op_as (ltb rfl) rfl) ?_
  refine TriL.nil (Tri.ret ?_)
  exact ⟨.inr rfl, (ResOK.r1 rfl (.tmp rfl .nil)).cast (by rw [hj, ← hI, List.drop_of_length_le (by have := of_decide_eq_false hc1; omega), skp_nil]; rfl), rfl⟩
/- Plain laws: how many tokens a text has, and what they are like. No condition. -/
/-- the tokens are not more than the bytes -/
theorem lexGo_len : ∀ (n : Nat) (r : List UInt8) (p : Nat), r.length ≤ n → (lexGo r p).1.length ≤ r.length
 | n, [], p, _ => by simp [lexGo_nil]
 | 0, c :: r, p, h => by simp at h
 | n + 1, c :: r, p, h => by
  by_cases hb : isBl c = true
  ·rw [lexGo_bl hb]
   have := lexGo_len n r (p + 1) (by simp at h; omega)
   simp; omega
  ·have hb' : isBl c = false := by simpa using hb
   by_cases hr : isRem (c :: r) = true
   ·have := spn_rem hr
    rw [lexGo_rem hb' hr]
    have := lexGo_len n ((c :: r).drop (spn noNl (c :: r))) (p + spn noNl (c :: r)) (by rw [List.length_drop]; simp at h ⊢; omega)
    rw [List.length_drop] at this; omega
   ·have hr' : isRem (c :: r) = false := by simpa using hr
    by_cases hk : (nxtT (c :: r)).2 = 0
    ·rw [lexGo_no hb' hr' hk]; simp
    ·rw [lexGo_tok hb' hr' hk]
     have := lexGo_len n ((c :: r).drop (nxtT (c :: r)).2) (p + (nxtT (c :: r)).2) (by rw [List.length_drop]; simp at h ⊢; omega)
     rw [List.length_drop] at this
     simp at this ⊢; omega
/-- what a token is like -/
structure TkOK (t : Tk) : Prop where
 n : t.n < 18446744073709551616
 k : t.k = 1 ∨ t.k = 2 ∨ t.k = 3 ∨ t.k = 4
 m : t.k = 4 → t.s.length = 1
theorem nxt_ok {s : List UInt8} (h : (nxtT s).2 ≠ 0) : TkOK (nxtT s).1 := by
 unfold nxtT at h ⊢
 split at h
 ·rename_i hw
  rw [if_pos hw]
  cases s with
  | nil => simp [wordT] at hw
  | cons c r =>
   unfold wordT at hw ⊢
   simp only at hw ⊢
   split at hw
   ·rename_i hc; rw [if_pos hc]; exact ⟨by simp, .inl rfl, fun e => by cases e⟩
   ·simp at hw
 ·rename_i hw
  rw [if_neg hw]
  split at h
  ·rename_i hn
   rw [if_pos hn]
   unfold numTk at hn ⊢
   cases e : numTok s with
   | none => rw [e] at hn; simp [zeroT] at hn
   | some x =>
    obtain ⟨u, neg, k⟩ := x
    simp only
    refine ⟨?_, .inr (.inl rfl), fun e => by cases e⟩
    unfold numTok at e
    split at e
    ·rename_i u' hp
     split at e
     ·cases e
     ·cases e; exact parse_lt hp
    ·cases e
  ·rename_i hn
   rw [if_neg hn]
   split at h
   ·rename_i ht
    rw [if_pos ht]
    unfold txtTk at ht ⊢
    cases e : txtT s with
    | none => rw [e] at ht; simp [zeroT] at ht
    | some x => exact ⟨by simp, .inr (.inr (.inl rfl)), fun e => by cases e⟩
   ·rename_i ht
    rw [if_neg ht]
    cases s with
    | nil => simp [markT, zeroT] at h
    | cons c r =>
     unfold markT at h ⊢
     simp only at h ⊢
     split at h
     ·rename_i hc; rw [if_pos hc]; exact ⟨by simp, .inr (.inr (.inr rfl)), fun _ => rfl⟩
     ·simp [zeroT] at h
theorem lexGo_ok : ∀ (n : Nat) (r : List UInt8) (p : Nat), r.length ≤ n → ∀ t ∈ (lexGo r p).1, TkOK t
 | n, [], p, _, t, h => by simp [lexGo_nil] at h
 | 0, c :: r, p, hn, _, _ => by simp at hn
 | n + 1, c :: r, p, hn, t, h => by
  by_cases hb : isBl c = true
  ·rw [lexGo_bl hb] at h
   exact lexGo_ok n r (p + 1) (by simp at hn; omega) t h
  ·have hb' : isBl c = false := by simpa using hb
   by_cases hr : isRem (c :: r) = true
   ·rw [lexGo_rem hb' hr] at h
    have h3 := spn_rem hr
    exact lexGo_ok n _ _ (by rw [List.length_drop]; simp at hn ⊢; omega) t h
   ·have hr' : isRem (c :: r) = false := by simpa using hr
    by_cases hk : (nxtT (c :: r)).2 = 0
    ·rw [lexGo_no hb' hr' hk] at h; simp at h
    ·rw [lexGo_tok hb' hr' hk] at h
     rcases List.mem_cons.1 h with rfl | h
     ·have := nxt_ok hk
      exact ⟨this.n, this.k, this.m⟩
     ·exact lexGo_ok n _ _ (by rw [List.length_drop]; simp at hn ⊢; omega) t h
/- lex: all tokens, in the program and in the document. -/
theorem fn47_q : isFn Tryz.prog 47 = true := by kernel_rfl
theorem fn48_q : isFn Tryz.prog 48 = true := by kernel_rfl
theorem fn57_q : isFn Tryz.prog 57 = true := by kernel_rfl
theorem fo112_4_q : fo Tryz.prog 112 4 = some 4 := by kernel_rfl
theorem fo68_4_q : fo Tryz.prog 68 4 = some 4 := by kernel_rfl
theorem se61_q : se Tryz.prog 61 = some (68, 5, 48) := by kernel_rfl
theorem se70_q : se Tryz.prog 70 = some (112, 5, 48) := by kernel_rfl
theorem zAe61_q : zeroA Tryz.prog 68 = some [AV.int IntKind.i64 (0), AV.str [], AV.int IntKind.u64 (0), AV.bool false, AV.int IntKind.i64 (0)] := by kernel_rfl
theorem zAe70_q : zeroA Tryz.prog 112 = some [AV.int IntKind.i64 (0), AV.str [], AV.int IntKind.u64 (0), AV.bool false, AV.int IntKind.i64 (0)] := by kernel_rfl
theorem next' {s : List UInt8} {j : Int} {a : Nat} (hj : j = a) (hs : s.length ≤ 1073741824) : Pure Tryz.prog 57 [.str ((s.drop j.toNat).take ((s.length : Int).toNat - j.toNat))] (tkn (nxtT (s.drop a))) := by
 rw [cutL hj]; exact next_pure _ (by rw [List.length_drop]; omega)
theorem one' {s : List UInt8} {j : Int} {a : Nat} (hj : j = a) (hs : s.length ≤ 1073741824) : Pure Tryz.prog 48 [.str ((s.drop j.toNat).take ((s.length : Int).toNat - j.toNat))] (tkn (nxtT (s.drop a))) := by
 rw [cutL hj]; exact one_pure _ (by rw [List.length_drop]; omega)
theorem spn' {s : List UInt8} {j : Int} {a : Nat} (hj : j = a) (hs : s.length ≤ 1073741824) : Pure Tryz.prog 55 [.str ((s.drop j.toNat).take ((s.length : Int).toNat - j.toNat)), .fn 56 []] (.int .i64 (spn noNl (s.drop a) : Nat)) := by
 rw [cutL hj]; exact span_pure _ _ noNl nonl_pure (by kernel_rfl) (by rw [List.length_drop]; omega)
theorem pass' {s : List UInt8} {j : Int} {a : Nat} (hj : j = a) (hs : s.length ≤ 1073741824) (ha : a ≤ s.length) : Pure Tryz.prog 47 [.str s, .int .i64 j] (.int .i64 (a + skp (s.drop a) : Nat)) := hj ▸ pass_pure s a hs ha
/-- so far: these tokens, and those of the rest -/
def LI (s : List UInt8) (ts : List Tk) (a : Nat) : Prop := lexGo s 0 = (ts ++ (lexGo (s.drop a) a).1, (lexGo (s.drop a) a).2)
theorem LI.skip {s : List UInt8} {ts : List Tk} {a b : Nat} (h : LI s ts a) (e : lexGo (s.drop a) a = lexGo (s.drop b) b) : LI s ts b := by
 unfold LI at *; rw [h, e]
theorem LI.tok {s : List UInt8} {ts : List Tk} {a : Nat} {t : Tk} {b : Nat} (h : LI s ts a) (e : lexGo (s.drop a) a = (t :: (lexGo (s.drop b) b).1, (lexGo (s.drop b) b).2)) : LI s (ts ++ [t]) b := by
 unfold LI at *; rw [h, e]; simp
theorem LI.stop {s : List UInt8} {ts : List Tk} {a : Nat} (h : LI s ts a) (e : s.drop a = []) : lexGo s 0 = (ts, none) := by
 unfold LI at h; rw [h, e, lexGo_nil]; simp
theorem LI.bad {s : List UInt8} {ts : List Tk} {a p : Nat} (h : LI s ts a) (e : lexGo (s.drop a) a = ([], some p)) : lexGo s 0 = (ts, some p) := by
 unfold LI at h; rw [h, e]; simp
theorem tok_step {s : List UInt8} {a : Nat} {c : UInt8} {r : List UInt8} (hd : s.drop a = c :: r) (hb : isBl c = false) (hr : isRem (s.drop a) = false) :
  ((nxtT (s.drop a)).2 = 0 → lexGo (s.drop a) a = ([], some a)) ∧ ((nxtT (s.drop a)).2 ≠ 0 → lexGo (s.drop a) a = ((nxtT (s.drop a)).1.at a :: (lexGo (s.drop (a + (nxtT (s.drop a)).2)) (a + (nxtT (s.drop a)).2)).1, (lexGo (s.drop (a + (nxtT (s.drop a)).2)) (a + (nxtT (s.drop a)).2)).2)) := by
 refine ⟨fun h => ?_, fun h => ?_⟩
 ·rw [hd] at hr h ⊢; exact lexGo_no hb hr h
 ·have e : lexGo (s.drop a) a = ((nxtT (s.drop a)).1.at a :: (lexGo ((s.drop a).drop (nxtT (s.drop a)).2) (a + (nxtT (s.drop a)).2)).1, (lexGo ((s.drop a).drop (nxtT (s.drop a)).2) (a + (nxtT (s.drop a)).2)).2) := by
   rw [hd] at hr h ⊢; exact lexGo_tok hb hr h
  rw [List.drop_drop] at e; exact e
def StAl (H : Hp) (s : List UInt8) (ts : List Tk) (j : Int) : St := [(.h, .hp H), (.s 0, .sv (.v (.str s))), (.s 7, .sv (.ow 7 (ts.map Tk.av))), (.t 7, .tk false 112 5 (ts.map Tk.av)), (.s 8, .sv (.v (.int .i64 j)))]
def StRa (H : Hp) (s : List UInt8) (ts : List Tk) (j : Int) : St := [(.h, .hp H), (.s 0, .sv (.v (.str s))), (.s 7, .sv (.ow 15 (ts.map Tk.av))), (.t 15, .tk false 68 5 (ts.map Tk.av)), (.s 8, .sv (.v (.int .i64 j)))]
theorem map_tok (ts : List Tk) (t : Tk) (a : Nat) (j : Int) (hj : j = a) : (ts ++ [t.at a]).map Tk.av = ts.map Tk.av ++ [.agg [.int .i64 t.k, .str t.s, .int .u64 t.n, .bool t.neg, .int .i64 j]] := by
 subst hj; rw [List.map_append]; rfl
theorem map_end (ts : List Tk) (n : Nat) : (ts ++ [(⟨0, [], 0, false, n⟩ : Tk)]).map Tk.av = ts.map Tk.av ++ [.agg [.int .i64 0, .str [], .int .u64 0, .bool false, .int .i64 n]] := by
 rw [List.map_append]; rfl
theorem all_pure (s : List UInt8) (most : Int) (hs : s.length ≤ 1073741824) : Pure Tryz.prog 25 [.str s, .int .i64 most] (allV s most) := by
 refine Pure.of_tri Tryz.func25 rfl rfl (ltb rfl) fun H => ?_
 refine Tri.seq (Tri.region ?_)
 iterate 3 (refine TriL.c1 rfl (op_as (ltb rfl) rfl) ?_)
 refine TriL.nil ?_
 refine Tri.scope ?_
 refine Tri.seq (Tri.seq (Tri.region ?_))
 refine TriL.c1 rfl (op_mv (ltb rfl) rfl) ?_
 refine TriL.c1 rfl (op_lens (ltb rfl) un9_q rfl) ?_
 refine TriL.c1 rfl (op_mv (ltb rfl) rfl) ?_
 refine TriL.c1 rfl (op_bin (ltb rfl) rfl rfl rfl) ?_
 refine TriL.nil ?_
 refine Tri.cond rfl (fun hc1 => ?_) (fun hc1 => ?_)
 ·refine Tri.seq (Tri.region ?_)
  iterate 3 (refine TriL.c1 rfl (op_as (ltb rfl) rfl) ?_)
  refine TriL.nil (Tri.ret ?_)
  exact ⟨.inr rfl, (ResOK.r3 rfl (.tmp rfl (.tmp rfl (.tmp rfl .nil)))).cast (by rw [allV_long (of_decide_eq_true hc1)]), rfl⟩
 ·refine Tri.skip (Tri.seq (Tri.region ?_))
  refine TriL.c2 rfl (op_nilt (k := 7) (el := 112) (esz := 5) (c := 0) (ltb rfl) rfl (by decide)) ?_
  refine TriL.nil (Tri.seq (Tri.region ?_))
  refine TriL.c1 rfl (op_as (ltb rfl) rfl) ?_
  refine TriL.kept (Kept.keep [.h, .s 0, .s 7, .t 7, .s 8] rfl (by decide) (Kept.now ?_))
  refine Tri.seq ?_
  refine Tri.label ?_
  refine Tri.seq (Tri.blk ?_)
  -- LOOP 1: KEEP
  refine Tri.loop (fun q w => ∃ (a : Nat) (ts : List Tk) (j : Int), w = StAl H s ts j ∧ j = a ∧ a ≤ s.length ∧ ts.length ≤ a ∧ LI s ts a ∧ q = s.length - a) ?_ (n := s.length) ⟨0, [], 0, rfl, rfl, Nat.zero_le _, Nat.le_refl _, by unfold LI; simp, rfl⟩
  rintro q w ⟨a, ts, j, rfl, hj, ha, ho, hI, rfl⟩
  refine Tri.seq (Tri.seq (Tri.region ?_))
  iterate 2 (refine TriL.c1 rfl (op_mv (ltb rfl) rfl) ?_)
  refine TriL.c1 rfl (op_lens (ltb rfl) un9_q rfl) ?_
  refine TriL.c1 rfl (op_bin (ltb rfl) rfl rfl rfl) ?_
  refine TriL.nil ?_
  refine Tri.cond rfl (fun hc2 => ?_) (fun hc2 => ?_)
  ·have hlt : a < s.length := by have := of_decide_eq_true hc2; omega
   obtain ⟨c, hc⟩ : ∃ c, s[a]? = some c := ⟨s[a], List.getElem?_eq_getElem hlt⟩
   have hda := drop_at hc
   refine Tri.skip (Tri.blk ?_)
   refine Tri.join (fun w => w = StAl H s ts j ∧ isBl c = false ∧ isRem (s.drop a) = false) ?_ ?_
   ·refine Tri.blk (Tri.seq (Tri.region ?_))
    iterate 2 (refine TriL.c1 rfl (op_mv (ltb rfl) rfl) ?_)
    refine TriL.c1 rfl (op_ixs (ltb rfl) un9_q rfl rfl (by omega) (ixc hj hc)) ?_
    refine TriL.c1 rfl (op_bin (ltb rfl) rfl rfl rfl) ?_
    refine TriL.c1 rfl (op_mv (ltb rfl) rfl) ?_
    refine TriL.split (d := 24) rfl (fun hg3 => ?_) (fun hg3 => ?_)
    ·iterate 4 (refine TriL.skipu rfl rfl (ltb rfl) (ltb rfl) rfl hg3 ?_)
     refine TriL.c1 rfl (op_pickt (ltb rfl) rfl hg3 rfl) ?_
     refine TriL.c1 rfl (op_mv (ltb rfl) rfl) ?_
     iterate 4 (refine TriL.skipu rfl rfl (ltb rfl) (ltb rfl) rfl rfl ?_)
     refine TriL.c1 rfl (op_pickt (ltb rfl) rfl rfl rfl) ?_
     refine TriL.c1 rfl (op_as (ltb rfl) rfl) ?_
     refine TriL.nil ?_
     refine Tri.condT rfl rfl ?_
     refine Tri.seq (Tri.region ?_)
     refine TriL.c1 rfl (op_mv (ltb rfl) rfl) ?_
     refine TriL.c1 rfl (op_bin (ltb rfl) rfl rfl rfl) ?_
     refine TriL.c1 rfl (op_as (ltb rfl) rfl) ?_
     refine TriL.kept (Kept.keep [.h, .s 0, .s 7, .t 7, .s 8] rfl (by decide) (Kept.now ?_))
     refine Tri.exit ?_
     exact ⟨s.length - (a + 1), by omega, a + 1, ts, IntKind.i64.wrap (j + 1), rfl, by rw [hj, wr64] <;> omega, by omega, by omega, hI.skip (by rw [hda, lexGo_bl (bl_1 hg3)]), rfl⟩
    ·iterate 2 (refine TriL.g1 rfl (ltb rfl) rfl hg3 (op_mv (ltb rfl) rfl) ?_)
     refine TriL.g1 rfl (ltb rfl) rfl hg3 (op_ixs (ltb rfl) un9_q rfl rfl (by omega) (ixc hj hc)) ?_
     refine TriL.g1 rfl (ltb rfl) rfl hg3 (op_bin (ltb rfl) rfl rfl rfl) ?_
     refine TriL.c1 rfl (op_pickf (ltb rfl) rfl hg3 rfl) ?_
     refine TriL.c1 rfl (op_mv (ltb rfl) rfl) ?_
     refine TriL.split (d := 30) rfl (fun hg4 => ?_) (fun hg4 => ?_)
     ·iterate 4 (refine TriL.skipu rfl rfl (ltb rfl) (ltb rfl) rfl hg4 ?_)
      refine TriL.c1 rfl (op_pickt (ltb rfl) rfl hg4 rfl) ?_
      refine TriL.c1 rfl (op_as (ltb rfl) rfl) ?_
      refine TriL.nil ?_
      refine Tri.condT rfl rfl ?_
      refine Tri.seq (Tri.region ?_)
      refine TriL.c1 rfl (op_mv (ltb rfl) rfl) ?_
      refine TriL.c1 rfl (op_bin (ltb rfl) rfl rfl rfl) ?_
      refine TriL.c1 rfl (op_as (ltb rfl) rfl) ?_
      refine TriL.kept (Kept.keep [.h, .s 0, .s 7, .t 7, .s 8] rfl (by decide) (Kept.now ?_))
      refine Tri.exit ?_
      exact ⟨s.length - (a + 1), by omega, a + 1, ts, IntKind.i64.wrap (j + 1), rfl, by rw [hj, wr64] <;> omega, by omega, by omega, hI.skip (by rw [hda, lexGo_bl (bl_2 hg4)]), rfl⟩
     ·iterate 2 (refine TriL.g1 rfl (ltb rfl) rfl hg4 (op_mv (ltb rfl) rfl) ?_)
      refine TriL.g1 rfl (ltb rfl) rfl hg4 (op_ixs (ltb rfl) un9_q rfl rfl (by omega) (ixc hj hc)) ?_
      refine TriL.g1 rfl (ltb rfl) rfl hg4 (op_bin (ltb rfl) rfl rfl rfl) ?_
      refine TriL.c1 rfl (op_pickf (ltb rfl) rfl hg4 rfl) ?_
      refine TriL.c1 rfl (op_as (ltb rfl) rfl) ?_
      refine TriL.nil ?_
      refine Tri.cond rfl (fun hc5 => ?_) (fun hc5 => ?_)
      ·refine Tri.seq (Tri.region ?_)
       refine TriL.c1 rfl (op_mv (ltb rfl) rfl) ?_
       refine TriL.c1 rfl (op_bin (ltb rfl) rfl rfl rfl) ?_
       refine TriL.c1 rfl (op_as (ltb rfl) rfl) ?_
       refine TriL.kept (Kept.keep [.h, .s 0, .s 7, .t 7, .s 8] rfl (by decide) (Kept.now ?_))
       refine Tri.exit ?_
       exact ⟨s.length - (a + 1), by omega, a + 1, ts, IntKind.i64.wrap (j + 1), rfl, by rw [hj, wr64] <;> omega, by omega, by omega, hI.skip (by rw [hda, lexGo_bl (bl_3 hc5)]), rfl⟩
      ·refine Tri.seq (Tri.region ?_)
       iterate 2 (refine TriL.c1 rfl (op_mv (ltb rfl) rfl) ?_)
       refine TriL.c1 rfl (op_cuts (ltb rfl) un9_q rfl rfl rfl (by omega) (by omega) (by omega)) ?_
       refine TriL.c1 rfl (op_call (ltb rfl) fn54_q rfl (has' [47, 47] hj)) ?_
       refine TriL.c1 rfl (op_as (ltb rfl) rfl) ?_
       refine TriL.nil ?_
       refine Tri.cond rfl (fun hc6 => ?_) (fun hc6 => ?_)
       ·refine Tri.seq (Tri.region ?_)
        iterate 3 (refine TriL.c1 rfl (op_mv (ltb rfl) rfl) ?_)
        refine TriL.c1 rfl (op_cuts (ltb rfl) un9_q rfl rfl rfl (by omega) (by omega) (by omega)) ?_
        refine TriL.c1 rfl (op_call (ltb rfl) fn55_q rfl (spn' hj hs)) ?_
        refine TriL.c1 rfl (op_bin (ltb rfl) rfl rfl rfl) ?_
        refine TriL.c1 rfl (op_as (ltb rfl) rfl) ?_
        refine TriL.kept (Kept.keep [.h, .s 0, .s 7, .t 7, .s 8] rfl (by decide) (Kept.now ?_))
        refine Tri.exit ?_
        have hr : isRem (s.drop a) = true := hc6
        have hb := bl_no hg3 hg4 hc5
        have hsp := spn_rem hr
        have hsl := spn_le noNl (s.drop a)
        rw [List.length_drop] at hsl
        have e : lexGo (s.drop a) a = lexGo (s.drop (a + spn noNl (s.drop a))) (a + spn noNl (s.drop a)) := by
         have h5 : lexGo (s.drop a) a = lexGo ((s.drop a).drop (spn noNl (s.drop a))) (a + spn noNl (s.drop a)) := by
          rw [hda] at hr ⊢; exact lexGo_rem hb hr
         rw [h5, List.drop_drop]
        exact ⟨s.length - (a + spn noNl (s.drop a)), by omega, a + spn noNl (s.drop a), ts, IntKind.i64.wrap (j + (spn noNl (s.drop a) : Int)), rfl, by rw [hj, wr64] <;> omega, by omega, by omega, hI.skip e, rfl⟩
       ·refine Tri.ofKept (Kept.keep [.h, .s 0, .s 7, .t 7, .s 8] rfl (by decide) (Kept.now ?_))
        refine Tri.skip ?_
        exact ⟨rfl, bl_no hg3 hg4 hc5, hc6⟩
   ·rintro w ⟨rfl, hb, hr⟩
    obtain ⟨hk0, hkn⟩ := tok_step hda hb hr
    refine Tri.seq (Tri.region ?_)
    iterate 2 (refine TriL.c1 rfl (op_mv (ltb rfl) rfl) ?_)
    refine TriL.c1 rfl (op_cuts (ltb rfl) un9_q rfl rfl rfl (by omega) (by omega) (by omega)) ?_
    refine TriL.c1 rfl (op_call (ltb rfl) fn57_q rfl (next' hj hs)) ?_
    refine TriL.c1 rfl (op_mv (ltb rfl) rfl) ?_
    iterate 2 (refine TriL.c1 rfl (op_ext (ltb rfl) rfl rfl) ?_)
    refine TriL.c2 rfl (op_all (ltb rfl) zA112_q rfl) ?_
    refine TriL.c1 rfl (op_stl lk112_q rfl rfl rfl rfl rfl (leb rfl)) ?_
    refine TriL.c1 rfl (op_as (ltb rfl) rfl) ?_
    refine TriL.nil (Tri.seq (Tri.seq (Tri.region ?_)))
    refine TriL.c1 rfl (op_mv (ltb rfl) rfl) ?_
    refine TriL.c1 rfl (op_bin (ltb rfl) rfl rfl rfl) ?_
    refine TriL.nil ?_
    refine Tri.cond rfl (fun hc7 => ?_) (fun hc7 => ?_)
    ·refine Tri.seq (Tri.region ?_)
     refine TriL.c1 rfl (op_mv (ltb rfl) rfl) ?_
     iterate 3 (refine TriL.c1 rfl (op_as (ltb rfl) rfl) ?_)
     refine TriL.nil (Tri.ret ?_)
     exact ⟨.inr rfl, (ResOK.r3 rfl (.tmp rfl (.tmp rfl (.tmp rfl .nil)))).cast (by rw [allV_bad (by have := of_decide_eq_false hc1; omega) (hI.bad (hk0 (by have := eq_of_beq hc7; omega))), hj]), rfl⟩
    ·have hk1 : (nxtT (s.drop a)).2 ≠ 0 := by have := beq_eq_false_iff_ne.1 hc7; omega
     have hk2 : a + (nxtT (s.drop a)).2 ≤ s.length := by have := nxt_le (s.drop a); rw [List.length_drop] at this; omega
     have hw : IntKind.i64.wrap (j + ((nxtT (s.drop a)).2 : Int)) = ((a + (nxtT (s.drop a)).2 : Nat) : Int) := by rw [hj, wr64] <;> omega
     refine Tri.skip (Tri.seq (Tri.region ?_))
     refine TriL.c1 rfl (op_mv (ltb rfl) rfl) ?_
     refine TriL.c1 rfl (op_fal (ltb rfl) fo112_4_q rfl) ?_
     refine TriL.c1 rfl (op_stl lk3_q rfl rfl rfl rfl rfl (leb rfl)) ?_
     refine TriL.nil (Tri.seq (Tri.region ?_))
     refine TriL.c1 rfl (op_mv (ltb rfl) rfl) ?_
     refine TriL.c1 rfl (op_ldl (ltb rfl) lk112_q rfl rfl rfl) ?_
     refine TriL.c1 rfl (op_lit («as» := [_]) (ltb rfl) se70_q zAe70_q rfl rfl rfl (leb rfl)) ?_
     refine TriL.c3 rfl (op_app (ltb rfl) se70_q rfl rfl rfl rfl rfl (by simp; omega) (by simp; omega)) ?_
     refine TriL.c1 rfl (op_as (ltb rfl) rfl) ?_
     refine TriL.nil (Tri.region ?_)
     iterate 2 (refine TriL.c1 rfl (op_mv (ltb rfl) rfl) ?_)
     refine TriL.c1 rfl (op_bin (ltb rfl) rfl rfl rfl) ?_
     refine TriL.c1 rfl (op_as (ltb rfl) rfl) ?_
     refine TriL.kept (Kept.keep [.h, .s 0, .s 7, .t 64, .s 8] rfl (by decide) (Kept.ren 64 7 (by decide) rfl (Kept.now ?_)))
     exact ⟨s.length - (a + (nxtT (s.drop a)).2), by omega, a + (nxtT (s.drop a)).2, ts ++ [(nxtT (s.drop a)).1.at a], IntKind.i64.wrap (j + ((nxtT (s.drop a)).2 : Int)), by unfold StAl; rw [map_tok ts _ a j hj]; rfl, hw, hk2, by simp; omega, hI.tok (hkn hk1), rfl⟩
  ·refine Tri.exit (Tri.seq (Tri.region ?_))
   iterate 2 (refine TriL.c1 rfl (op_mv (ltb rfl) rfl) ?_)
   refine TriL.c1 rfl (op_lens (ltb rfl) un9_q rfl) ?_
   refine TriL.c1 rfl (op_bld (ltb rfl) spl112_q zA112_q rfl rfl) ?_
   refine TriL.c1 rfl (op_lit («as» := [_]) (ltb rfl) se70_q zAe70_q rfl rfl rfl (leb rfl)) ?_
   refine TriL.c3 rfl (op_app (ltb rfl) se70_q rfl rfl rfl rfl rfl (by simp; omega) (by simp; omega)) ?_
   refine TriL.c1 rfl (op_mv (ltb rfl) rfl) ?_
   refine TriL.c1 rfl (op_lens (ltb rfl) un9_q rfl) ?_
   iterate 3 (refine TriL.c1 rfl (op_as (ltb rfl) rfl) ?_)
   refine TriL.nil (Tri.ret ?_)
   exact ⟨.inr rfl, (ResOK.r3 rfl (.tmp rfl (.tmp rfl (.tmp rfl .nil)))).cast (by rw [allV_ok (by have := of_decide_eq_false hc1; omega) (hI.stop (List.drop_of_length_le (by have := of_decide_eq_false hc2; omega))), map_end]; rfl), rfl⟩
theorem rall_pure (s : List UInt8) (most : Int) (hs : s.length ≤ 1073741824) : Pure Tryz.prog 23 [.str s, .int .i64 most] (allV s most) := by
 refine Pure.of_tri Tryz.func23 rfl rfl (ltb rfl) fun H => ?_
 refine Tri.seq (Tri.region ?_)
 iterate 3 (refine TriL.c1 rfl (op_as (ltb rfl) rfl) ?_)
 refine TriL.nil (Tri.seq (Tri.seq (Tri.region ?_)))
 refine TriL.c1 rfl (op_mv (ltb rfl) rfl) ?_
 refine TriL.c1 rfl (op_lens (ltb rfl) un9_q rfl) ?_
 refine TriL.c1 rfl (op_mv (ltb rfl) rfl) ?_
 refine TriL.c1 rfl (op_bin (ltb rfl) rfl rfl rfl) ?_
 refine TriL.nil ?_
 refine Tri.cond rfl (fun hc1 => ?_) (fun hc1 => ?_)
 ·refine Tri.seq (Tri.region ?_)
  iterate 3 (refine TriL.c1 rfl (op_as (ltb rfl) rfl) ?_)
  refine TriL.nil (Tri.ret ?_)
  exact ⟨.inr rfl, (ResOK.r3 rfl (.tmp rfl (.tmp rfl (.tmp rfl .nil)))).cast (by rw [allV_long (of_decide_eq_true hc1)]), rfl⟩
 ·refine Tri.skip (Tri.seq (Tri.region ?_))
  refine TriL.c2 rfl (op_litt («as» := []) (ltb rfl) se61_q zAe61_q rfl rfl rfl (leb rfl) rfl) ?_
  refine TriL.c1 rfl (op_as (ltb rfl) rfl) ?_
  refine TriL.nil (Tri.seq (Tri.region ?_))
  refine TriL.c1 rfl (op_mv (ltb rfl) rfl) ?_
  refine TriL.c1 rfl (op_call (ltb rfl) fn47_q rfl (pass' (a := 0) rfl hs (Nat.zero_le _))) ?_
  refine TriL.c1 rfl (op_as (ltb rfl) rfl) ?_
  refine TriL.kept (Kept.keep [.h, .s 0, .s 7, .t 15, .s 8] rfl (by decide) (Kept.now ?_))
  obtain ⟨z1, z2, z3⟩ := skp_all s.length s (Nat.le_refl _)
  refine Tri.seq (Tri.blk ?_)
  -- LOOP 1: KEEP
  refine Tri.loop (fun q w => ∃ (a : Nat) (ts : List Tk) (j : Int), w = StRa H s ts j ∧ j = a ∧ a ≤ s.length ∧ ts.length ≤ a ∧ LI s ts a ∧ skp (s.drop a) = 0 ∧ q = s.length - a) ?_ (n := s.length - (0 + skp (s.drop 0))) ⟨0 + skp (s.drop 0), [], _, rfl, rfl, by simpa using z1, Nat.zero_le _, by unfold LI; rw [List.drop_zero, Nat.zero_add, z2 0, Nat.zero_add]; simp, by rw [List.drop_zero, Nat.zero_add]; exact z3, rfl⟩
  rintro q w ⟨a, ts, j, rfl, hj, ha, ho, hI, hz, rfl⟩
  refine Tri.seq (Tri.seq (Tri.region ?_))
  iterate 2 (refine TriL.c1 rfl (op_mv (ltb rfl) rfl) ?_)
  refine TriL.c1 rfl (op_lens (ltb rfl) un9_q rfl) ?_
  refine TriL.c1 rfl (op_bin (ltb rfl) rfl rfl rfl) ?_
  refine TriL.nil ?_
  refine Tri.cond rfl (fun hc2 => ?_) (fun hc2 => ?_)
  ·have hlt : a < s.length := by have := of_decide_eq_true hc2; omega
   obtain ⟨c, hc⟩ : ∃ c, s[a]? = some c := ⟨s[a], List.getElem?_eq_getElem hlt⟩
   have hda := drop_at hc
   obtain ⟨hb, hr⟩ := skp_zero (c := c) (r := s.drop (a + 1)) (by rw [← hda]; exact hz)
   rw [← hda] at hr
   obtain ⟨hk0, hkn⟩ := tok_step hda hb hr
   refine Tri.skip (Tri.blk (Tri.seq (Tri.region ?_)))
   iterate 2 (refine TriL.c1 rfl (op_mv (ltb rfl) rfl) ?_)
   refine TriL.c1 rfl (op_cuts (ltb rfl) un9_q rfl rfl rfl (by omega) (by omega) (by omega)) ?_
   refine TriL.c1 rfl (op_call (ltb rfl) fn48_q rfl (one' hj hs)) ?_
   refine TriL.c1 rfl (op_mv (ltb rfl) rfl) ?_
   iterate 2 (refine TriL.c1 rfl (op_ext (ltb rfl) rfl rfl) ?_)
   refine TriL.c2 rfl (op_all (ltb rfl) zA68_q rfl) ?_
   refine TriL.c1 rfl (op_stl lk68_q rfl rfl rfl rfl rfl (leb rfl)) ?_
   refine TriL.c1 rfl (op_as (ltb rfl) rfl) ?_
   refine TriL.nil (Tri.seq (Tri.seq (Tri.region ?_)))
   refine TriL.c1 rfl (op_mv (ltb rfl) rfl) ?_
   refine TriL.c1 rfl (op_bin (ltb rfl) rfl rfl rfl) ?_
   refine TriL.nil ?_
   refine Tri.cond rfl (fun hc3 => ?_) (fun hc3 => ?_)
   ·refine Tri.seq (Tri.region ?_)
    refine TriL.c1 rfl (op_mv (ltb rfl) rfl) ?_
    iterate 3 (refine TriL.c1 rfl (op_as (ltb rfl) rfl) ?_)
    refine TriL.nil (Tri.ret ?_)
    exact ⟨.inr rfl, (ResOK.r3 rfl (.tmp rfl (.tmp rfl (.tmp rfl .nil)))).cast (by rw [allV_bad (by have := of_decide_eq_false hc1; omega) (hI.bad (hk0 (by have := eq_of_beq hc3; omega))), hj]), rfl⟩
   ·have hk1 : (nxtT (s.drop a)).2 ≠ 0 := by have := beq_eq_false_iff_ne.1 hc3; omega
    have hk2 : a + (nxtT (s.drop a)).2 ≤ s.length := by have := nxt_le (s.drop a); rw [List.length_drop] at this; omega
    have hw : IntKind.i64.wrap (j + ((nxtT (s.drop a)).2 : Int)) = ((a + (nxtT (s.drop a)).2 : Nat) : Int) := by rw [hj, wr64] <;> omega
    refine Tri.skip (Tri.seq (Tri.region ?_))
    refine TriL.c1 rfl (op_mv (ltb rfl) rfl) ?_
    refine TriL.c1 rfl (op_fal (ltb rfl) fo68_4_q rfl) ?_
    refine TriL.c1 rfl (op_stl lk3_q rfl rfl rfl rfl rfl (leb rfl)) ?_
    refine TriL.nil (Tri.seq (Tri.region ?_))
    refine TriL.c1 rfl (op_mv (ltb rfl) rfl) ?_
    refine TriL.c1 rfl (op_ldl (ltb rfl) lk68_q rfl rfl rfl) ?_
    refine TriL.c1 rfl (op_lit («as» := [_]) (ltb rfl) se61_q zAe61_q rfl rfl rfl (leb rfl)) ?_
    refine TriL.c3 rfl (op_app (ltb rfl) se61_q rfl rfl rfl rfl rfl (by simp; omega) (by simp; omega)) ?_
    refine TriL.c1 rfl (op_as (ltb rfl) rfl) ?_
    refine TriL.nil (Tri.region ?_)
    iterate 3 (refine TriL.c1 rfl (op_mv (ltb rfl) rfl) ?_)
    refine TriL.c1 rfl (op_bin (ltb rfl) rfl rfl rfl) ?_
    refine TriL.c1 rfl (op_call (ltb rfl) fn47_q rfl (pass' hw hs hk2)) ?_
    refine TriL.c1 rfl (op_as (ltb rfl) rfl) ?_
    refine TriL.kept (Kept.keep [.h, .s 0, .s 7, .t 37, .s 8] rfl (by decide) (Kept.ren 37 15 (by decide) rfl (Kept.now ?_)))
    obtain ⟨z1, z2, z3⟩ := skp_all _ (s.drop (a + (nxtT (s.drop a)).2)) (Nat.le_refl _)
    rw [List.drop_drop] at z2 z3
    rw [List.length_drop] at z1
    exact ⟨s.length - (a + (nxtT (s.drop a)).2 + skp (s.drop (a + (nxtT (s.drop a)).2))), by omega, a + (nxtT (s.drop a)).2 + skp (s.drop (a + (nxtT (s.drop a)).2)), ts ++ [(nxtT (s.drop a)).1.at a], _, by unfold StRa; rw [map_tok ts _ a j hj]; rfl, rfl, by omega, by simp; omega, (hI.tok (hkn hk1)).skip (z2 _), z3, rfl⟩
  ·refine Tri.exit (Tri.seq (Tri.region ?_))
   iterate 2 (refine TriL.c1 rfl (op_mv (ltb rfl) rfl) ?_)
   refine TriL.c1 rfl (op_lens (ltb rfl) un9_q rfl) ?_
   refine TriL.c1 rfl (op_bld (ltb rfl) spl68_q zA68_q rfl rfl) ?_
   refine TriL.c1 rfl (op_lit («as» := [_]) (ltb rfl) se61_q zAe61_q rfl rfl rfl (leb rfl)) ?_
   refine TriL.c3 rfl (op_app (ltb rfl) se61_q rfl rfl rfl rfl rfl (by simp; omega) (by simp; omega)) ?_
   refine TriL.c1 rfl (op_mv (ltb rfl) rfl) ?_
   refine TriL.c1 rfl (op_lens (ltb rfl) un9_q rfl) ?_
   iterate 3 (refine TriL.c1 rfl (op_as (ltb rfl) rfl) ?_)
   refine TriL.nil (Tri.ret ?_)
   exact ⟨.inr rfl, (ResOK.r3 rfl (.tmp rfl (.tmp rfl (.tmp rfl .nil)))).cast (by rw [allV_ok (by have := of_decide_eq_false hc1; omega) (hI.stop (List.drop_of_length_le (by have := of_decide_eq_false hc2; omega))), map_end]; rfl), rfl⟩
/- words of types; the values of digits; in the program and in the document. -/
theorem asz143_q : asz Tryz.prog 143 = some (16, 9, 1) := by kernel_rfl
theorem fn196_q : isFn Tryz.prog 196 = true := by kernel_rfl
theorem fn197_q : isFn Tryz.prog 197 = true := by kernel_rfl
theorem fn216_q : isFn Tryz.prog 216 = true := by kernel_rfl
theorem fn37_q : isFn Tryz.prog 37 = true := by kernel_rfl
theorem fn65_q : isFn Tryz.prog 65 = true := by kernel_rfl
theorem fn74_q : isFn Tryz.prog 74 = true := by kernel_rfl
theorem fn79_q : isFn Tryz.prog 79 = true := by kernel_rfl
theorem fo215_0_q : fo Tryz.prog 215 0 = some 0 := by kernel_rfl
theorem fo215_1_q : fo Tryz.prog 215 1 = some 1 := by kernel_rfl
theorem ie40_q : ie Tryz.prog 40 = some 1 := by kernel_rfl
theorem lk215_q : lk Tryz.prog 215 = some (true, 2) := by kernel_rfl
theorem se40_q : se Tryz.prog 40 = some (9, 1, 16) := by kernel_rfl
theorem spl215_q : spl Tryz.prog 215 = some [(0, 1), (1, 1)] := by kernel_rfl
theorem un40_q : Tryz.prog.underlying 40 = some (TypeDesc.slice 9) := Tryz.underlying40
theorem zA143_q : zeroA Tryz.prog 143 = some [AV.str [], AV.str [], AV.str [], AV.str [], AV.str [], AV.str [], AV.str [], AV.str [], AV.str [], AV.str [], AV.str [], AV.str [], AV.str [], AV.str [], AV.str [], AV.str []] := by kernel_rfl
theorem zA215_q : zeroA Tryz.prog 215 = some [AV.int IntKind.u64 (0), AV.bool false] := by kernel_rfl
theorem zAe40_q : zeroA Tryz.prog 9 = some [AV.str []] := by kernel_rfl
theorem word_cell {t : Int} (h0 : 0 ≤ t) (h1 : t < 16) : (tyWords.map AV.str)[t.toNat]? = some (.str (wordOf t)) := by
 have : t = 0 ∨ t = 1 ∨ t = 2 ∨ t = 3 ∨ t = 4 ∨ t = 5 ∨ t = 6 ∨ t = 7 ∨ t = 8 ∨ t = 9 ∨ t = 10 ∨ t = 11 ∨ t = 12 ∨ t = 13 ∨ t = 14 ∨ t = 15 := by omega
 rcases this with rfl | rfl | rfl | rfl | rfl | rfl | rfl | rfl | rfl | rfl | rfl | rfl | rfl | rfl | rfl | rfl <;> rfl
theorem lt16 {k : Nat} (h : decide ((k : Int) < 16) = true) : k < tyWords.length := by have := of_decide_eq_true h; show k < 16; omega
theorem ge16 {k : Nat} (h : decide ((k : Int) < 16) = false) : tyWords.length ≤ k := by have := of_decide_eq_false h; show 16 ≤ k; omega
theorem wordOf_ix {k : Nat} (h : k < tyWords.length) : wordOf ((k : Nat) : Int) = tyWords[k] := by
 have h' : k < 16 := h
 unfold wordOf
 rw [if_neg (by omega)]
 simp [h]
theorem word14 {k : Nat} (h : k < (tyWords.take 14).length) : tyWords.getD k [] = (tyWords.take 14)[k] := by
 have h2 : k < 14 := h
 have h3 : k < tyWords.length := Nat.lt_of_lt_of_le h2 (by decide)
 rw [List.getElem_take, List.getD_eq_getElem?_getD, List.getElem?_eq_getElem h3]; rfl
theorem ofT_hit {s : Str} {k : Nat} (h : s ≠ []) (e : ((k : Nat) : Int) = ixFrom (· == s) tyWords 0) : ofT s = k := by
 unfold ofT
 rw [if_neg h, ← e, if_neg (by omega)]
theorem ofT_miss {s : Str} (e : -1 = ixFrom (· == s) tyWords 0) : ofT s = 0 := by
 unfold ofT
 split
 ·rfl
 ·rw [← e, if_pos (by omega)]
theorem p_word (t : Int) : Pure Tryz.prog 65 [.int .i64 t] (.str (wordOf t)) := by
 refine Pure.of_tri Tryz.func65 rfl rfl (ltb rfl) fun H => ?_
 refine Tri.seq (Tri.region ?_)
 refine TriL.c1 rfl (op_as (ltb rfl) rfl) ?_
 refine TriL.nil (Tri.seq (Tri.seq (Tri.region ?_)))
 refine TriL.c1 rfl (op_mv (ltb rfl) rfl) ?_
 refine TriL.c1 rfl (op_bin (ltb rfl) rfl rfl rfl) ?_
 refine TriL.c1 rfl (op_mv (ltb rfl) rfl) ?_
 refine TriL.split (d := 5) rfl (fun hg1 => ?_) (fun hg1 => ?_)
 ·iterate 2 (refine TriL.skipu rfl rfl (ltb rfl) (ltb rfl) rfl hg1 ?_)
  refine TriL.c1 rfl (op_pickt (ltb rfl) rfl hg1 rfl) ?_
  refine TriL.nil ?_
  refine Tri.condT rfl rfl ?_
  refine Tri.seq (Tri.region ?_)
  refine TriL.c1 rfl (op_as (ltb rfl) rfl) ?_
  refine TriL.nil (Tri.ret ?_)
  exact ⟨.inr rfl, (ResOK.r1 rfl (.tmp rfl .nil)).cast (congrArg AV.str (by grind [wordOf])), rfl⟩
 ·refine TriL.g1 rfl (ltb rfl) rfl hg1 (op_mv (ltb rfl) rfl) ?_
  refine TriL.g1 rfl (ltb rfl) rfl hg1 (op_bin (ltb rfl) rfl rfl rfl) ?_
  refine TriL.c1 rfl (op_pickf (ltb rfl) rfl hg1 rfl) ?_
  refine TriL.nil ?_
  refine Tri.cond rfl (fun hc2 => ?_) (fun hc2 => ?_)
  ·refine Tri.seq (Tri.region ?_)
   refine TriL.c1 rfl (op_as (ltb rfl) rfl) ?_
   refine TriL.nil (Tri.ret ?_)
   exact ⟨.inr rfl, (ResOK.r1 rfl (.tmp rfl .nil)).cast (congrArg AV.str (by grind [wordOf])), rfl⟩
  ·refine Tri.skip (Tri.seq (Tri.region ?_))
   refine TriL.c1 rfl (op_blda (ltb rfl) asz143_q zA143_q rfl rfl) ?_
   refine TriL.c1 rfl (op_mv (ltb rfl) rfl) ?_
   refine TriL.c1 rfl (op_ixa (ltb rfl) asz143_q lk9_q rfl rfl (by grind) (by grind) (word_cell (by grind) (by grind))) ?_
   refine TriL.c1 rfl (op_as (ltb rfl) rfl) ?_
   refine TriL.nil (Tri.ret ?_)
   exact ⟨.inr rfl, (ResOK.r1 rfl (.tmp rfl .nil)).cast (congrArg AV.str (by grind [wordOf])), rfl⟩
theorem p_of (s : Str) : Pure Tryz.prog 164 [.str s] (.int .i64 (ofT s)) := by
 refine Pure.of_tri Tryz.func164 rfl rfl (ltb rfl) fun H => ?_
 refine Tri.seq (Tri.region ?_)
 refine TriL.c1 rfl (op_as (ltb rfl) rfl) ?_
 refine TriL.nil (Tri.seq (Tri.seq (Tri.region ?_)))
 refine TriL.c1 rfl (op_mv (ltb rfl) rfl) ?_
 refine TriL.c1 rfl (op_bin (ltb rfl) rfl rfl rfl) ?_
 refine TriL.nil ?_
 refine Tri.cond rfl (fun hc1 => ?_) (fun hc1 => ?_)
 ·refine Tri.seq (Tri.region ?_)
  refine TriL.c1 rfl (op_as (ltb rfl) rfl) ?_
  refine TriL.nil (Tri.ret ?_)
  exact ⟨.inr rfl, (ResOK.r1 rfl (.tmp rfl .nil)).cast (congrArg (AV.int .i64) (by have := eq_of_beq hc1; unfold ofT; rw [if_pos this])), rfl⟩
 ·refine Tri.skip (Tri.seq (Tri.seq (Tri.region ?_)))
  refine TriL.c1 rfl (op_mv (ltb rfl) rfl) ?_
  refine TriL.nil (Tri.blk ?_)
  refine Tri.ofKept (Kept.keep [.s 6, .h, .s 0] rfl (by decide) (Kept.now ?_))
  -- LOOP 1
  refine Tri.loopk (fun (k : Nat) => [(.s 6, .sv (.v (.int .i64 (k : Int))))]) _ (fun (k : Nat) => ixFrom (· == s) (tyWords.drop k) k = ixFrom (· == s) tyWords 0) (fun (k : Nat) => tyWords.length - k) 0 rfl (by simp) ?_
  rintro k hI
  refine Tri.seq (Tri.region ?_)
  refine TriL.c1 rfl (op_bin (ltb rfl) rfl rfl rfl) ?_
  refine TriL.nil (Tri.seq ?_)
  refine Tri.cond rfl (fun hc2 => ?_) (fun hc2 => ?_)
  ·have hk := lt16 hc2
   refine Tri.skip (Tri.seq (Tri.blk (Tri.seq (Tri.region ?_))))
   refine TriL.c1 rfl (op_mv (ltb rfl) rfl) ?_
   refine TriL.c1 rfl (op_as (ltb rfl) rfl) ?_
   refine TriL.nil (Tri.seq (Tri.region ?_))
   refine TriL.c1 rfl (op_mv (ltb rfl) rfl) ?_
   refine TriL.c1 rfl (op_call (ltb rfl) fn65_q rfl (p_word _)) ?_
   refine TriL.c1 rfl (op_mv (ltb rfl) rfl) ?_
   refine TriL.c1 rfl (op_bin (ltb rfl) rfl rfl rfl) ?_
   refine TriL.nil ?_
   refine Tri.cond rfl (fun hc3 => ?_) (fun hc3 => ?_)
   ·refine Tri.seq (Tri.region ?_)
    refine TriL.c1 rfl (op_mv (ltb rfl) rfl) ?_
    refine TriL.c1 rfl (op_as (ltb rfl) rfl) ?_
    refine TriL.nil (Tri.ret ?_)
    exact ⟨.inr rfl, (ResOK.r1 rfl (.tmp rfl .nil)).cast (congrArg (AV.int .i64) (ofT_hit (by simpa using hc1) (by rw [← hI, ixFrom_step hk, if_pos (by rw [← wordOf_ix hk]; exact hc3)])).symm), rfl⟩
   ·refine Tri.skip (Tri.region ?_)
    refine TriL.c1 rfl (op_bin (ltb rfl) rfl rfl rfl) ?_
    refine TriL.c1 rfl (op_mv (ltb rfl) rfl) ?_
    refine TriL.kept (Kept.seti 6 rfl (inc (by have : k < 16 := hk; omega)) (Kept.keep [.s 6, .h, .s 0] rfl (by decide) (Kept.now ?_)))
    exact ⟨k + 1, by omega, by rw [← hI, ixFrom_step hk, if_neg (by rw [← wordOf_ix hk]; simpa using hc3)], rfl⟩
  ·have hk := ge16 hc2
   refine Tri.exit (Tri.seq (Tri.region ?_))
   refine TriL.c1 rfl (op_as (ltb rfl) rfl) ?_
   refine TriL.nil (Tri.ret ?_)
   exact ⟨.inr rfl, (ResOK.r1 rfl (.tmp rfl .nil)).cast (congrArg (AV.int .i64) (ofT_miss (by rw [← hI, ixFrom_end hk])).symm), rfl⟩
theorem r_tywords : Pure Tryz.prog 79 [] (.sl ((tyWords.take 14).map .str)) := by
 refine Pure.of_tri Tryz.func79 rfl rfl (Nat.zero_le _) fun H => ?_
 refine Tri.seq (Tri.region ?_)
 refine TriL.c1 rfl (op_as (ltb rfl) rfl) ?_
 refine TriL.nil (Tri.seq (Tri.region ?_))
 refine TriL.c1 rfl (op_lit («as» := [_, _, _, _, _, _, _, _, _, _, _, _, _, _]) (ltb rfl) se40_q zAe40_q rfl rfl rfl (leb rfl)) ?_
 refine TriL.c1 rfl (op_as (ltb rfl) rfl) ?_
 refine TriL.nil (Tri.ret ?_)
 exact ⟨.inr rfl, (ResOK.r1 rfl (.tmp rfl .nil)).cast rfl, rfl⟩
theorem ofT_hit2 {s : Str} {k : Nat} (h1 : 1 ≤ k) (h : k < (tyWords.take 14).length) (e : ((tyWords.take 14)[k] == s) = true) : ofT s = k := by
 have h2 : k < 14 := h
 have e' := eq_of_beq e
 subst e'
 have : k = 1 ∨ k = 2 ∨ k = 3 ∨ k = 4 ∨ k = 5 ∨ k = 6 ∨ k = 7 ∨ k = 8 ∨ k = 9 ∨ k = 10 ∨ k = 11 ∨ k = 12 ∨ k = 13 := by omega
 rcases this with rfl | rfl | rfl | rfl | rfl | rfl | rfl | rfl | rfl | rfl | rfl | rfl | rfl <;> rfl
theorem ofT_miss2 {s : Str} (h : ∀ m, 1 ≤ m → m < 14 → tyWords.getD m [] ≠ s) : ofT s = 0 := by
 unfold ofT
 split
 ·rfl
 ·rename_i h0
  have e1 := h 1 (by decide) (by decide)
  have e2 := h 2 (by decide) (by decide)
  have e3 := h 3 (by decide) (by decide)
  have e4 := h 4 (by decide) (by decide)
  have e5 := h 5 (by decide) (by decide)
  have e6 := h 6 (by decide) (by decide)
  have e7 := h 7 (by decide) (by decide)
  have e8 := h 8 (by decide) (by decide)
  have e9 := h 9 (by decide) (by decide)
  have e10 := h 10 (by decide) (by decide)
  have e11 := h 11 (by decide) (by decide)
  have e12 := h 12 (by decide) (by decide)
  have e13 := h 13 (by decide) (by decide)
  simp only [tyWords, List.getD_cons_zero, List.getD_cons_succ] at e1 e2 e3 e4 e5 e6 e7 e8 e9 e10 e11 e12 e13
  have h0' : ([] : Str) ≠ s := fun e => h0 e.symm
  have : ixFrom (· == s) tyWords 0 = -1 := by
   simp only [tyWords, ixFrom, beq_iff_eq, h0', e1, e2, e3, e4, e5, e6, e7, e8, e9, e10, e11, e12, e13, if_false]
  rw [this]; rfl
theorem r_of (s : Str) : Pure Tryz.prog 120 [.str s] (.int .i64 (ofT s)) := by
 refine Pure.of_tri Tryz.func120 rfl rfl (ltb rfl) fun H => ?_
 refine Tri.seq (Tri.region ?_)
 refine TriL.c1 rfl (op_as (ltb rfl) rfl) ?_
 refine TriL.nil (Tri.seq (Tri.region ?_))
 refine TriL.c1 rfl (op_call (ltb rfl) fn79_q rfl r_tywords) ?_
 refine TriL.c1 rfl (op_as (ltb rfl) rfl) ?_
 refine TriL.nil (Tri.seq (Tri.seq (Tri.region ?_)))
 refine TriL.c1 rfl (op_as (ltb rfl) rfl) ?_
 refine TriL.nil (Tri.blk ?_)
 refine Tri.ofKept (Kept.keep [.s 4, .h, .s 0, .s 3] rfl (by decide) (Kept.now ?_))
 -- LOOP 1
 refine Tri.loopk (fun (k : Nat) => [(.s 4, .sv (.v (.int .i64 (k : Int))))]) _ (fun (k : Nat) => 1 ≤ k ∧ ∀ m, 1 ≤ m → m < k → tyWords.getD m [] ≠ s) (fun (k : Nat) => (tyWords.take 14).length - k) 1 rfl ⟨by decide, fun m h1 h2 => by omega⟩ ?_
 rintro k ⟨h0, hI⟩
 refine Tri.seq (Tri.seq (Tri.region ?_))
 iterate 2 (refine TriL.c1 rfl (op_mv (ltb rfl) rfl) ?_)
 refine TriL.c1 rfl (op_lenl (ltb rfl) un40_q rfl) ?_
 refine TriL.c1 rfl (op_bin (ltb rfl) rfl rfl rfl) ?_
 refine TriL.nil ?_
 refine Tri.cond rfl (fun hc1 => ?_) (fun hc1 => ?_)
 ·have hk := ltm hc1
  refine Tri.skip (Tri.seq (Tri.blk (Tri.seq (Tri.region ?_))))
  iterate 2 (refine TriL.c1 rfl (op_mv (ltb rfl) rfl) ?_)
  refine TriL.c1 rfl (op_iak (ltb rfl) ie40_q rfl rfl (Int.natCast_nonneg _) (ixm hk) rfl) ?_
  refine TriL.c1 rfl (op_ldk (ltb rfl) lk9_q rfl rfl) ?_
  refine TriL.c1 rfl (op_mv (ltb rfl) rfl) ?_
  refine TriL.c1 rfl (op_bin (ltb rfl) rfl rfl rfl) ?_
  refine TriL.nil ?_
  refine Tri.cond rfl (fun hc2 => ?_) (fun hc2 => ?_)
  ·refine Tri.seq (Tri.region ?_)
   refine TriL.c1 rfl (op_mv (ltb rfl) rfl) ?_
   refine TriL.c1 rfl (op_as (ltb rfl) rfl) ?_
   refine TriL.nil (Tri.ret ?_)
   exact ⟨.inr rfl, (ResOK.r1 rfl (.tmp rfl .nil)).cast (congrArg (AV.int .i64) (ofT_hit2 h0 hk hc2).symm), rfl⟩
  ·refine Tri.skip (Tri.region ?_)
   refine TriL.c1 rfl (op_mv (ltb rfl) rfl) ?_
   refine TriL.c1 rfl (op_bin (ltb rfl) rfl rfl rfl) ?_
   refine TriL.c1 rfl (op_as (ltb rfl) rfl) ?_
   refine TriL.kept (Kept.seti 4 rfl (inc (by have : k < 14 := hk; omega)) (Kept.keep [.s 4, .h, .s 0, .s 3] rfl (by decide) (Kept.now ?_)))
   exact ⟨k + 1, by omega, ⟨by omega, fun m h1 h2 => (by rcases Nat.lt_or_eq_of_le (Nat.le_of_lt_succ h2) with h | h; exact hI m h1 h; subst h; rw [word14 hk]; simpa using hc2)⟩, rfl⟩
 ·have hk := gem hc1
  refine Tri.exit (Tri.seq (Tri.region ?_))
  refine TriL.c1 rfl (op_as (ltb rfl) rfl) ?_
  refine TriL.nil (Tri.ret ?_)
  exact ⟨.inr rfl, (ResOK.r1 rfl (.tmp rfl .nil)).cast (congrArg (AV.int .i64) (ofT_miss2 fun m h1 h2 => hI m h1 (Nat.lt_of_lt_of_le h2 hk)).symm), rfl⟩
/-- a number: how far from 0, and on which side -/
structure CNum where
 far : Nat
 neg : Bool
 deriving DecidableEq
def CNum.cells (x : CNum) : List AV := [.int .u64 (x.far : Int), .bool x.neg]
def CNum.av (x : CNum) : AV := .agg x.cells
def splitT (t : Int) (n : Nat) : CNum := if signT t = true ∧ 9223372036854775808 ≤ n then ⟨18446744073709551616 - n, true⟩ else ⟨n, false⟩
def CNum.raw (x : CNum) : Nat := if x.neg = true ∧ 0 < x.far then 18446744073709551616 - x.far else x.far
def CNum.val (x : CNum) (t : Int) : Option Nat := if wholeT t = true ∧ mayT t x.raw = true ∧ splitT t x.raw = x then some x.raw else none
def optV (o : Option Nat) : AV := .tup [.int .u64 ((o.getD 0 : Nat) : Int), .bool o.isSome]
theorem neg64 {n : Nat} (h : n < 18446744073709551616) : IntKind.u64.wrap (0 - (n : Int)) = (((if 0 < n then 18446744073709551616 - n else n) : Nat) : Int) := by
 simp only [IntKind.wrap, IntKind.bits, IntKind.signed]
 by_cases h0 : 0 < n
 ·simp [h0]; omega
 ·have : n = 0 := by omega
  subst this; rfl
theorem neg64p {n : Nat} (h : n < 18446744073709551616) (h0 : 0 < n) : IntKind.u64.wrap (0 - (n : Int)) = ((18446744073709551616 - n : Nat) : Int) := by rw [neg64 h, if_pos h0]
theorem s64_neg {n : Nat} (h : n < 18446744073709551616) : decide (IntKind.i64.wrap (n : Int) < 0) = decide (9223372036854775808 ≤ n) := by
 have := s64_eq h
 unfold s64 at this
 rw [this]
 split <;> simp <;> omega
theorem rd_val {t : Int} {n : Nat} {neg : Bool} (h : n < 18446744073709551616) : CNum.val (if n = 0 then ⟨0, false⟩ else ⟨n, neg⟩) t = rdT t n neg := by
 unfold CNum.val rdT
 by_cases h0 : n = 0
 ·subst h0
  simp only [CNum.raw, splitT]
  cases wholeT t <;> simp
 ·rw [if_neg h0]
  simp only [CNum.raw, splitT]
  have hp : 0 < n := by omega
  cases hn : neg with
  | false =>
   cases hw : wholeT t <;> cases hs : signT t <;> simp
   by_cases h2 : 9223372036854775808 ≤ n
   ·simp [h2]
   ·have h5 : n < 9223372036854775808 := by omega
    simp [h2, h5]
  | true =>
   cases hw : wholeT t <;> cases hs : signT t <;> simp [hp]
   by_cases h2 : 9223372036854775808 < n
   ·have : ¬ 9223372036854775808 ≤ 18446744073709551616 - n := by omega
    simp [h2, this]
   ·have h3 : 9223372036854775808 ≤ 18446744073709551616 - n := by omega
    have h4 : 18446744073709551616 - (18446744073709551616 - n) = n := by omega
    simp [h2, h3, h4]
theorem eqGuardCNum : Tryz.prog.eqGuardType Tryz.prog.depth 215 = false := by kernel_rfl
theorem neqCNum_run (a b : CNum) (w : World) : (binOp .neq 215 (.agg #[.int .u64 (a.far : Int), .bool a.neg]) (.agg #[.int .u64 (b.far : Int), .bool b.neg])).run Tryz.prog w = .ok (.bool (!decide (a = b))) w := by
 obtain ⟨a0, a1⟩ := a
 obtain ⟨b0, b1⟩ := b
 go_simp
 by_cases h0 : a0 = b0
 ·by_cases h1 : a1 = b1
  ·simp [h0, h1, Int.natCast_inj]
  ·simp [h0, h1, Int.natCast_inj]
 ·simp [h0, Int.natCast_inj]
theorem CNum_val {G : Gh} {v : Value} {t : CNum} (h : V G v (.agg t.cells)) : v = (.agg #[.int .u64 (t.far : Int), .bool t.neg]) := by
 unfold CNum.cells at h
 cases h with
 | agg vs cs hl hf hv =>
  obtain ⟨l⟩ := vs
  match l, hl with
  | [x0, x1], _ =>
   have h0 : V G x0 (.int .u64 (t.far : Int)) := hv 0 _ rfl
   cases h0
   have h1 : V G x1 (.bool t.neg) := hv 1 _ rfl
   cases h1
   rfl
theorem op_nes215 {N : Nat} {s : St} {d : Nat} {ty : TypeId} {pos : String} {af : Array Edge} {g : Option (Nat × Bool)} {t2 : TypeId} {x y : Operand} {u v : AV} (a b : CNum) (hN : d < N) (hx : opv x s = some u) (hy : opv y s = some v) (hu : u = .agg a.cells) (hv : v = .agg b.cells) :
  OpOK Tryz.prog N ⟨some d, .binOp .neq 215 x y t2, ty, pos, af, g⟩ s (rd x ++ rd y) [(.s d, .sv (.v (.bool (!decide (a = b)))))] := by
 subst hu hv
 exact OpOK.val rfl hN fun E G L c w tt hr hR => by
  refine ⟨.bool (!decide (a = b)), ?_, .bool _⟩
  have h1 := CNum_val (opv_sound hr hR.left hx)
  have h2 := CNum_val (opv_sound hr hR.right hy)
  have hgd := run_eqGuard_agg (P := Tryz.prog) w .neq 215 x y #[.int .u64 (a.far : Int), .bool a.neg] #[.int .u64 (b.far : Int), .bool b.neg] eqGuardCNum
  simp only [execOp, Sem.run_bind, h1, h2, hgd, Result.andThen_ok, neqCNum_run, Sem.run_pure]
theorem p_czero : Pure Tryz.prog 196 [] (CNum.av ⟨0, false⟩) := by
 refine Pure.of_tri Tryz.func196 rfl rfl (Nat.zero_le _) fun H => ?_
 refine Tri.seq (Tri.region ?_)
 refine TriL.c2 rfl (op_all (ltb rfl) zA215_q rfl) ?_
 refine TriL.nil (Tri.seq (Tri.region ?_))
 refine TriL.c1 rfl (op_bld (ltb rfl) spl215_q zA215_q rfl rfl) ?_
 refine TriL.c1 rfl (op_stl lk215_q rfl rfl rfl rfl rfl (leb rfl)) ?_
 refine TriL.nil (Tri.ret ?_)
 exact ⟨.inr rfl, (ResOK.r1 rfl (.cell lk215_q rfl rfl rfl rfl .nil)).cast rfl, rfl⟩
theorem p_split (t : Int) (n : Nat) (hn : n < 18446744073709551616) : Pure Tryz.prog 216 [.int .i64 t, .int .u64 (n : Int)] (splitT t n).av := by
 refine Pure.of_tri Tryz.func216 rfl rfl (ltb rfl) fun H => ?_
 refine Tri.seq (Tri.region ?_)
 refine TriL.c2 rfl (op_all (ltb rfl) zA215_q rfl) ?_
 refine TriL.nil (Tri.seq (Tri.seq (Tri.region ?_)))
 refine TriL.c1 rfl (op_mv (ltb rfl) rfl) ?_
 refine TriL.c1 rfl (op_call (ltb rfl) fn148_q rfl (p_signT _)) ?_
 refine TriL.c1 rfl (op_mv (ltb rfl) rfl) ?_
 refine TriL.split (d := 7) rfl (fun hg1 => ?_) (fun hg1 => ?_)
 ·refine TriL.g1 rfl (ltb rfl) rfl hg1 (op_mv (ltb rfl) rfl) ?_
  refine TriL.g1 rfl (ltb rfl) rfl hg1 (op_cvi (ltb rfl) un41_q un2_q rfl) ?_
  refine TriL.g1 rfl (ltb rfl) rfl hg1 (op_bin (ltb rfl) rfl rfl rfl) ?_
  refine TriL.c1 rfl (op_pickt (ltb rfl) rfl hg1 rfl) ?_
  refine TriL.nil ?_
  refine Tri.cond rfl (fun hc2 => ?_) (fun hc2 => ?_)
  ·refine Tri.seq (Tri.region ?_)
   refine TriL.c1 rfl (op_mv (ltb rfl) rfl) ?_
   refine TriL.c1 rfl (op_un (ltb rfl) rfl rfl) ?_
   refine TriL.c1 rfl (op_bld (ltb rfl) spl215_q zA215_q rfl rfl) ?_
   refine TriL.c1 rfl (op_stl lk215_q rfl rfl rfl rfl rfl (leb rfl)) ?_
   refine TriL.nil (Tri.ret ?_)
   exact ⟨.inr rfl, (ResOK.r1 rfl (.cell lk215_q rfl rfl rfl rfl .nil)).cast (by rw [s64_neg hn] at hc2; have h3 := of_decide_eq_true hc2; simp only [splitT, if_pos (And.intro hg1 h3), CNum.av, CNum.cells]; rw [neg64p hn (by omega)]), rfl⟩
  ·refine Tri.skip (Tri.seq (Tri.region ?_))
   refine TriL.c1 rfl (op_mv (ltb rfl) rfl) ?_
   refine TriL.c1 rfl (op_bld (ltb rfl) spl215_q zA215_q rfl rfl) ?_
   refine TriL.c1 rfl (op_stl lk215_q rfl rfl rfl rfl rfl (leb rfl)) ?_
   refine TriL.nil (Tri.ret ?_)
   exact ⟨.inr rfl, (ResOK.r1 rfl (.cell lk215_q rfl rfl rfl rfl .nil)).cast (by rw [s64_neg hn] at hc2; have h3 := of_decide_eq_false hc2; simp only [splitT, if_neg (fun h : signT t = true ∧ 9223372036854775808 ≤ n => h3 h.2), CNum.av, CNum.cells]), rfl⟩
 ·iterate 3 (refine TriL.skipu rfl rfl (ltb rfl) (ltb rfl) rfl hg1 ?_)
  refine TriL.c1 rfl (op_pickf (ltb rfl) rfl hg1 rfl) ?_
  refine TriL.nil ?_
  refine Tri.condF rfl rfl ?_
  refine Tri.skip (Tri.seq (Tri.region ?_))
  refine TriL.c1 rfl (op_mv (ltb rfl) rfl) ?_
  refine TriL.c1 rfl (op_bld (ltb rfl) spl215_q zA215_q rfl rfl) ?_
  refine TriL.c1 rfl (op_stl lk215_q rfl rfl rfl rfl rfl (leb rfl)) ?_
  refine TriL.nil (Tri.ret ?_)
  exact ⟨.inr rfl, (ResOK.r1 rfl (.cell lk215_q rfl rfl rfl rfl .nil)).cast (by simp only [splitT, if_neg (fun h : signT t = true ∧ 9223372036854775808 ≤ n => by rw [hg1] at h; cases h.1), CNum.av, CNum.cells]), rfl⟩
theorem CNum.raw_lt {x : CNum} (h : x.far < 18446744073709551616) : x.raw < 18446744073709551616 := by unfold CNum.raw; split <;> omega
theorem CNum.raw_neg {x : CNum} (h : x.far < 18446744073709551616) (hn : x.neg = true) : IntKind.u64.wrap (0 - (x.far : Int)) = (x.raw : Int) := by
 rw [neg64 h]; unfold CNum.raw; simp only [hn, true_and]
theorem CNum.raw_pos {x : CNum} (hn : x.neg = false) : (x.far : Int) = (x.raw : Int) := by unfold CNum.raw; simp [hn]
theorem CNum.val_no {x : CNum} {t : Int} (h : ¬ (wholeT t = true ∧ mayT t x.raw = true ∧ splitT t x.raw = x)) : x.val t = none := if_neg h
theorem CNum.val_yes {x : CNum} {t : Int} (h1 : wholeT t = true) (h2 : mayT t x.raw = true) (h3 : splitT t x.raw = x) : x.val t = some x.raw := if_pos ⟨h1, h2, h3⟩
theorem p_cval (x : CNum) (t : Int) (hn : x.far < 18446744073709551616) : Pure Tryz.prog 197 [x.av, .int .i64 t] (optV (x.val t)) := by
 refine Pure.of_tri Tryz.func197 rfl rfl (ltb rfl) fun H => ?_
 refine Tri.seq (Tri.region ?_)
 refine TriL.c2 rfl (op_box (ltb rfl) rfl rfl rfl) ?_
 iterate 2 (refine TriL.c1 rfl (op_as (ltb rfl) rfl) ?_)
 refine TriL.nil (Tri.seq (Tri.region ?_))
 refine TriL.c1 rfl (op_fal (ltb rfl) fo215_0_q rfl) ?_
 refine TriL.c1 rfl (op_ldl (ltb rfl) lk41_q rfl rfl rfl) ?_
 refine TriL.c1 rfl (op_as (ltb rfl) rfl) ?_
 refine TriL.nil ?_
 refine Tri.joinu [.h, .s 1, .s 2, .b 2] (fun (m : Int) => [(.s 6, .sv (.v (.int .u64 m)))]) (fun (m : Int) => m = (x.raw : Int)) rfl ?_ ?_
 ·refine Tri.seq (Tri.region ?_)
  refine TriL.c1 rfl (op_fal (ltb rfl) fo215_1_q rfl) ?_
  refine TriL.c1 rfl (op_ldl (ltb rfl) lk4_q rfl rfl rfl) ?_
  refine TriL.nil ?_
  refine Tri.cond rfl (fun hc1 => ?_) (fun hc1 => ?_)
  ·-- region 3 conv.go:30
   refine Tri.region ?_
   refine TriL.c1 rfl (op_mv (ltb rfl) rfl) ?_
   refine TriL.c1 rfl (op_un (ltb rfl) rfl rfl) ?_
   refine TriL.c1 rfl (op_as (ltb rfl) rfl) ?_
   refine TriL.kept (Kept.keep [.s 6, .h, .s 1, .s 2, .b 2] rfl (by decide) (Kept.now ?_))
   exact ⟨_, x.raw_neg hn hc1, rfl⟩
  ·refine Tri.ofKept (Kept.keep [.s 6, .h, .s 1, .s 2, .b 2] rfl (by decide) (Kept.now ?_))
   refine Tri.skip ?_
   exact ⟨_, x.raw_pos hc1, rfl⟩
 ·rintro m rfl
  refine Tri.seq (Tri.seq ?_)
  refine Tri.drawn mixed rfl ?_
  refine TriD.c1 rfl (op_mv (ltb rfl) rfl) ?_
  refine TriD.c1 rfl (op_call (ltb rfl) fn64_q rfl (p_wholeT _)) ?_
  refine TriD.c1 rfl (op_un (ltb rfl) rfl rfl) ?_
  refine TriD.c1 rfl (op_mv (ltb rfl) rfl) ?_
  refine TriD.split (d := 16) rfl (fun hg2 => ?_) (fun hg2 => ?_)
  ·iterate 4 (refine TriD.skipu rfl rfl (ltb rfl) (ltb rfl) rfl hg2 ?_)
   refine TriD.c1 rfl (op_pickt (ltb rfl) rfl hg2 rfl) ?_
   refine TriD.c1 rfl (op_mv (ltb rfl) rfl) ?_
   iterate 5 (refine TriD.skipu rfl rfl (ltb rfl) (ltb rfl) rfl rfl ?_)
   refine TriD.c1 rfl (op_pickt (ltb rfl) rfl rfl rfl) ?_
   refine TriD.nil (by kernel_rfl) (Kept.now ?_)
   refine Tri.condT rfl rfl ?_
   refine Tri.seq (Tri.region ?_)
   iterate 2 (refine TriL.c1 rfl (op_as (ltb rfl) rfl) ?_)
   refine TriL.nil (Tri.ret ?_)
   exact ⟨.inr rfl, (ResOK.r2 rfl (.tmp rfl (.tmp rfl .nil))).cast (by rw [x.val_no (by grind)]; rfl), rfl⟩
  ·iterate 2 (refine TriD.g1 rfl (ltb rfl) rfl hg2 (op_mv (ltb rfl) rfl) ?_)
   refine TriD.g1 rfl (ltb rfl) rfl hg2 (op_call (ltb rfl) fn108_q rfl (p_may _ _)) ?_
   refine TriD.g1 rfl (ltb rfl) rfl hg2 (op_un (ltb rfl) rfl rfl) ?_
   refine TriD.c1 rfl (op_pickf (ltb rfl) rfl hg2 rfl) ?_
   refine TriD.c1 rfl (op_mv (ltb rfl) rfl) ?_
   refine TriD.split (d := 22) rfl (fun hg3 => ?_) (fun hg3 => ?_)
   ·iterate 5 (refine TriD.skipu rfl rfl (ltb rfl) (ltb rfl) rfl hg3 ?_)
    refine TriD.c1 rfl (op_pickt (ltb rfl) rfl hg3 rfl) ?_
    refine TriD.nil (by kernel_rfl) (Kept.now ?_)
    refine Tri.condT rfl rfl ?_
    refine Tri.seq (Tri.region ?_)
    iterate 2 (refine TriL.c1 rfl (op_as (ltb rfl) rfl) ?_)
    refine TriL.nil (Tri.ret ?_)
    exact ⟨.inr rfl, (ResOK.r2 rfl (.tmp rfl (.tmp rfl .nil))).cast (by rw [x.val_no (by grind)]; rfl), rfl⟩
   ·iterate 2 (refine TriD.g1 rfl (ltb rfl) rfl hg3 (op_mv (ltb rfl) rfl) ?_)
    refine TriD.g1 rfl (ltb rfl) rfl hg3 (op_call (ltb rfl) fn216_q rfl (p_split _ _ (x.raw_lt hn))) ?_
    refine TriD.g1 rfl (ltb rfl) rfl hg3 (op_ldl (ltb rfl) lk215_q rfl rfl rfl) ?_
    refine TriD.g1 rfl (ltb rfl) rfl hg3 (op_nes215 (splitT t x.raw) x (ltb rfl) rfl rfl rfl rfl) ?_
    refine TriD.c1 rfl (op_pickf (ltb rfl) rfl hg3 rfl) ?_
    refine TriD.nil (by kernel_rfl) (Kept.now ?_)
    refine Tri.cond rfl (fun hc4 => ?_) (fun hc4 => ?_)
    ·refine Tri.seq (Tri.region ?_)
     iterate 2 (refine TriL.c1 rfl (op_as (ltb rfl) rfl) ?_)
     refine TriL.nil (Tri.ret ?_)
     exact ⟨.inr rfl, (ResOK.r2 rfl (.tmp rfl (.tmp rfl .nil))).cast (by rw [x.val_no (by grind)]; rfl), rfl⟩
    ·refine Tri.skip (Tri.seq (Tri.region ?_))
     refine TriL.c1 rfl (op_mv (ltb rfl) rfl) ?_
     iterate 2 (refine TriL.c1 rfl (op_as (ltb rfl) rfl) ?_)
     refine TriL.nil (Tri.ret ?_)
     exact ⟨.inr rfl, (ResOK.r2 rfl (.tmp rfl (.tmp rfl .nil))).cast (by rw [x.val_yes (by grind) (by grind) (by grind)]; rfl), rfl⟩
theorem p_read (t : Int) (n : Nat) (neg : Bool) (hn : n < 18446744073709551616) : Pure Tryz.prog 166 [.int .i64 t, .int .u64 (n : Int), .bool neg] (optV (rdT t n neg)) := by
 refine Pure.of_tri Tryz.func166 rfl rfl (ltb rfl) fun H => ?_
 refine Tri.seq (Tri.region ?_)
 iterate 2 (refine TriL.c1 rfl (op_as (ltb rfl) rfl) ?_)
 refine TriL.nil (Tri.seq (Tri.region ?_))
 iterate 2 (refine TriL.c1 rfl (op_mv (ltb rfl) rfl) ?_)
 refine TriL.c1 rfl (op_bld (ltb rfl) spl215_q zA215_q rfl rfl) ?_
 refine TriL.c2 rfl (op_all (ltb rfl) zA215_q rfl) ?_
 refine TriL.c1 rfl (op_stl lk215_q rfl rfl rfl rfl rfl (leb rfl)) ?_
 refine TriL.nil ?_
 refine Tri.joinu [.h, .s 0] (fun (x : CNum) => [(.b 8, .bx [.v (.int .u64 (x.far : Int)), .v (.bool x.neg)]), (.s 8, .sv (.lp 8 0))]) (fun (x : CNum) => x = if n = 0 then ⟨0, false⟩ else ⟨n, neg⟩) rfl ?_ ?_
 ·refine Tri.seq (Tri.region ?_)
  refine TriL.c1 rfl (op_mv (ltb rfl) rfl) ?_
  refine TriL.c1 rfl (op_bin (ltb rfl) rfl rfl rfl) ?_
  refine TriL.nil ?_
  refine Tri.cond rfl (fun hc1 => ?_) (fun hc1 => ?_)
  ·-- region 3 conv.go:62
   refine Tri.region ?_
   refine TriL.c1 rfl (op_call (ltb rfl) fn196_q rfl p_czero) ?_
   refine TriL.c1 rfl (op_stl lk215_q rfl rfl rfl rfl rfl (leb rfl)) ?_
   refine TriL.kept (Kept.keep [.b 8, .s 8, .h, .s 0] rfl (by decide) (Kept.now ?_))
   exact ⟨⟨0, false⟩, (by rw [if_pos (by have := eq_of_beq hc1; omega)]), rfl⟩
  ·refine Tri.ofKept (Kept.keep [.b 8, .s 8, .h, .s 0] rfl (by decide) (Kept.now ?_))
   refine Tri.skip ?_
   exact ⟨⟨n, neg⟩, (by rw [if_neg (by simpa using hc1)]), rfl⟩
 ·rintro x hx
  refine Tri.seq (Tri.region ?_)
  refine TriL.c1 rfl (op_ldl (ltb rfl) lk215_q rfl rfl rfl) ?_
  refine TriL.c1 rfl (op_mv (ltb rfl) rfl) ?_
  refine TriL.c1 rfl (op_call (ltb rfl) fn197_q rfl (p_cval _ _ (by rw [hx]; split <;> first | exact hn | decide))) ?_
  iterate 2 (refine TriL.c1 rfl (op_ext (ltb rfl) rfl rfl) ?_)
  iterate 2 (refine TriL.c1 rfl (op_as (ltb rfl) rfl) ?_)
  refine TriL.nil (Tri.ret ?_)
  exact ⟨.inr rfl, (ResOK.r2 rfl (.tmp rfl (.tmp rfl .nil))).cast (by rw [hx, rd_val hn]; rfl), rfl⟩
theorem r_read (t : Int) (n : Nat) (neg : Bool) (hn : n < 18446744073709551616) : Pure Tryz.prog 121 [.int .i64 t, .int .u64 (n : Int), .bool neg] (optV (rdT t n neg)) := by
 refine Pure.of_tri Tryz.func121 rfl rfl (ltb rfl) fun H => ?_
 refine Tri.seq (Tri.region ?_)
 iterate 2 (refine TriL.c1 rfl (op_as (ltb rfl) rfl) ?_)
 refine TriL.nil (Tri.seq (Tri.seq (Tri.region ?_)))
 refine TriL.c1 rfl (op_mv (ltb rfl) rfl) ?_
 refine TriL.c1 rfl (op_call (ltb rfl) fn37_q rfl (r_wholeT _)) ?_
 refine TriL.c1 rfl (op_un (ltb rfl) rfl rfl) ?_
 refine TriL.nil ?_
 refine Tri.cond rfl (fun hc1 => ?_) (fun hc1 => ?_)
 ·refine Tri.seq (Tri.region ?_)
  iterate 2 (refine TriL.c1 rfl (op_as (ltb rfl) rfl) ?_)
  refine TriL.nil (Tri.ret ?_)
  exact ⟨.inr rfl, (ResOK.r2 rfl (.tmp rfl (.tmp rfl .nil))).cast (by rw [show rdT t n neg = none by grind [rdT]]; rfl), rfl⟩
 ·refine Tri.skip (Tri.seq (Tri.region ?_))
  refine TriL.c1 rfl (op_mv (ltb rfl) rfl) ?_
  refine TriL.c1 rfl (op_as (ltb rfl) rfl) ?_
  refine TriL.nil ?_
  refine Tri.joinu [.h, .s 0] (fun (m : Int) => [(.s 8, .sv (.v (.int .u64 m)))]) (fun (m : Int) => ∃ v : Nat, m = (v : Int) ∧ rdT t n neg = if mayT t v then some v else none) rfl ?_ ?_
  ·refine Tri.seq (Tri.region ?_)
   iterate 2 (refine TriL.c1 rfl (op_mv (ltb rfl) rfl) ?_)
   refine TriL.split (d := 14) rfl (fun hg2 => ?_) (fun hg2 => ?_)
   ·refine TriL.g1 rfl (ltb rfl) rfl hg2 (op_mv (ltb rfl) rfl) ?_
    refine TriL.g1 rfl (ltb rfl) rfl hg2 (op_bin (ltb rfl) rfl rfl rfl) ?_
    refine TriL.c1 rfl (op_pickt (ltb rfl) rfl hg2 rfl) ?_
    refine TriL.nil ?_
    refine Tri.cond rfl (fun hc3 => ?_) (fun hc3 => ?_)
    ·refine Tri.seq (Tri.seq (Tri.region ?_))
     refine TriL.c1 rfl (op_mv (ltb rfl) rfl) ?_
     refine TriL.c1 rfl (op_call (ltb rfl) fn111_q rfl (r_signT _)) ?_
     refine TriL.c1 rfl (op_un (ltb rfl) rfl rfl) ?_
     refine TriL.c1 rfl (op_mv (ltb rfl) rfl) ?_
     refine TriL.split (d := 21) rfl (fun hg4 => ?_) (fun hg4 => ?_)
     ·iterate 2 (refine TriL.skipu rfl rfl (ltb rfl) (ltb rfl) rfl hg4 ?_)
      refine TriL.c1 rfl (op_pickt (ltb rfl) rfl hg4 rfl) ?_
      refine TriL.nil ?_
      refine Tri.condT rfl rfl ?_
      refine Tri.seq (Tri.region ?_)
      iterate 2 (refine TriL.c1 rfl (op_as (ltb rfl) rfl) ?_)
      refine TriL.nil (Tri.ret ?_)
      exact ⟨.inr rfl, (ResOK.r2 rfl (.tmp rfl (.tmp rfl .nil))).cast (by rw [show rdT t n neg = none by grind [rdT]]; rfl), rfl⟩
     ·refine TriL.g1 rfl (ltb rfl) rfl hg4 (op_mv (ltb rfl) rfl) ?_
      refine TriL.g1 rfl (ltb rfl) rfl hg4 (op_bin (ltb rfl) rfl rfl rfl) ?_
      refine TriL.c1 rfl (op_pickf (ltb rfl) rfl hg4 rfl) ?_
      refine TriL.nil ?_
      refine Tri.cond rfl (fun hc5 => ?_) (fun hc5 => ?_)
      ·refine Tri.seq (Tri.region ?_)
       iterate 2 (refine TriL.c1 rfl (op_as (ltb rfl) rfl) ?_)
       refine TriL.nil (Tri.ret ?_)
       exact ⟨.inr rfl, (ResOK.r2 rfl (.tmp rfl (.tmp rfl .nil))).cast (by rw [show rdT t n neg = none by grind [rdT]]; rfl), rfl⟩
      ·refine Tri.skip (Tri.region ?_)
       refine TriL.c1 rfl (op_mv (ltb rfl) rfl) ?_
       refine TriL.c1 rfl (op_bin (ltb rfl) rfl rfl rfl) ?_
       refine TriL.c1 rfl (op_as (ltb rfl) rfl) ?_
       refine TriL.kept (Kept.keep [.s 8, .h, .s 0] rfl (by decide) (Kept.now ?_))
       exact ⟨_, ⟨18446744073709551616 - n, neg64p hn (by grind), by grind [rdT]⟩, rfl⟩
    ·refine Tri.seq (Tri.region ?_)
     refine TriL.c1 rfl (op_mv (ltb rfl) rfl) ?_
     refine TriL.c1 rfl (op_call (ltb rfl) fn111_q rfl (r_signT _)) ?_
     refine TriL.c1 rfl (op_mv (ltb rfl) rfl) ?_
     refine TriL.split (d := 29) rfl (fun hg6 => ?_) (fun hg6 => ?_)
     ·refine TriL.g1 rfl (ltb rfl) rfl hg6 (op_mv (ltb rfl) rfl) ?_
      refine TriL.g1 rfl (ltb rfl) rfl hg6 (op_bin (ltb rfl) rfl rfl rfl) ?_
      refine TriL.c1 rfl (op_pickt (ltb rfl) rfl hg6 rfl) ?_
      refine TriL.nil ?_
      refine Tri.cond rfl (fun hc7 => ?_) (fun hc7 => ?_)
      ·refine Tri.seq (Tri.region ?_)
       iterate 2 (refine TriL.c1 rfl (op_as (ltb rfl) rfl) ?_)
       refine TriL.nil (Tri.ret ?_)
       exact ⟨.inr rfl, (ResOK.r2 rfl (.tmp rfl (.tmp rfl .nil))).cast (by rw [show rdT t n neg = none by grind [rdT]]; rfl), rfl⟩
      ·refine Tri.ofKept (Kept.keep [.s 8, .h, .s 0] rfl (by decide) (Kept.now ?_))
       refine Tri.skip ?_
       exact ⟨_, ⟨n, rfl, by grind [rdT]⟩, rfl⟩
     ·iterate 2 (refine TriL.skipu rfl rfl (ltb rfl) (ltb rfl) rfl hg6 ?_)
      refine TriL.c1 rfl (op_pickf (ltb rfl) rfl hg6 rfl) ?_
      refine TriL.nil ?_
      refine Tri.condF rfl rfl ?_
      refine Tri.ofKept (Kept.keep [.s 8, .h, .s 0] rfl (by decide) (Kept.now ?_))
      refine Tri.skip ?_
      exact ⟨_, ⟨n, rfl, by grind [rdT]⟩, rfl⟩
   ·iterate 2 (refine TriL.skipu rfl rfl (ltb rfl) (ltb rfl) rfl hg2 ?_)
    refine TriL.c1 rfl (op_pickf (ltb rfl) rfl hg2 rfl) ?_
    refine TriL.nil ?_
    refine Tri.condF rfl rfl ?_
    refine Tri.seq (Tri.region ?_)
    refine TriL.c1 rfl (op_mv (ltb rfl) rfl) ?_
    refine TriL.c1 rfl (op_call (ltb rfl) fn111_q rfl (r_signT _)) ?_
    refine TriL.c1 rfl (op_mv (ltb rfl) rfl) ?_
    refine TriL.split (d := 29) rfl (fun hg8 => ?_) (fun hg8 => ?_)
    ·refine TriL.g1 rfl (ltb rfl) rfl hg8 (op_mv (ltb rfl) rfl) ?_
     refine TriL.g1 rfl (ltb rfl) rfl hg8 (op_bin (ltb rfl) rfl rfl rfl) ?_
     refine TriL.c1 rfl (op_pickt (ltb rfl) rfl hg8 rfl) ?_
     refine TriL.nil ?_
     refine Tri.cond rfl (fun hc9 => ?_) (fun hc9 => ?_)
     ·refine Tri.seq (Tri.region ?_)
      iterate 2 (refine TriL.c1 rfl (op_as (ltb rfl) rfl) ?_)
      refine TriL.nil (Tri.ret ?_)
      exact ⟨.inr rfl, (ResOK.r2 rfl (.tmp rfl (.tmp rfl .nil))).cast (by rw [show rdT t n neg = none by grind [rdT]]; rfl), rfl⟩
     ·refine Tri.ofKept (Kept.keep [.s 8, .h, .s 0] rfl (by decide) (Kept.now ?_))
      refine Tri.skip ?_
      exact ⟨_, ⟨n, rfl, by grind [rdT]⟩, rfl⟩
    ·iterate 2 (refine TriL.skipu rfl rfl (ltb rfl) (ltb rfl) rfl hg8 ?_)
     refine TriL.c1 rfl (op_pickf (ltb rfl) rfl hg8 rfl) ?_
     refine TriL.nil ?_
     refine Tri.condF rfl rfl ?_
     refine Tri.ofKept (Kept.keep [.s 8, .h, .s 0] rfl (by decide) (Kept.now ?_))
     refine Tri.skip ?_
     exact ⟨_, ⟨n, rfl, by grind [rdT]⟩, rfl⟩
  ·rintro m ⟨v, rfl, hv⟩
   refine Tri.seq (Tri.seq (Tri.region ?_))
   iterate 2 (refine TriL.c1 rfl (op_mv (ltb rfl) rfl) ?_)
   refine TriL.c1 rfl (op_call (ltb rfl) fn74_q rfl (r_may _ _)) ?_
   refine TriL.c1 rfl (op_un (ltb rfl) rfl rfl) ?_
   refine TriL.nil ?_
   refine Tri.cond rfl (fun hc10 => ?_) (fun hc10 => ?_)
   ·refine Tri.seq (Tri.region ?_)
    iterate 2 (refine TriL.c1 rfl (op_as (ltb rfl) rfl) ?_)
    refine TriL.nil (Tri.ret ?_)
    exact ⟨.inr rfl, (ResOK.r2 rfl (.tmp rfl (.tmp rfl .nil))).cast (by rw [hv, if_neg (by grind)]; rfl), rfl⟩
   ·refine Tri.skip (Tri.seq (Tri.region ?_))
    refine TriL.c1 rfl (op_mv (ltb rfl) rfl) ?_
    iterate 2 (refine TriL.c1 rfl (op_as (ltb rfl) rfl) ?_)
    refine TriL.nil (Tri.ret ?_)
    exact ⟨.inr rfl, (ResOK.r2 rfl (.tmp rfl (.tmp rfl .nil))).cast (by rw [hv, if_pos (by grind)]; rfl), rfl⟩
end Go.Proofs.YtabihkfhoohfnaaGreatDoor.X
