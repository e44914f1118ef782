/- The document's number. -/
import Derived.Test.YthoncmadikifnaaDoorL8
import Derived.Test.YthoncmadikifnaaDoorXM
set_option linter.unusedVariables false
set_option linter.unusedSimpArgs false
set_option linter.unusedSectionVars false
set_option maxRecDepth 100000
namespace Go.Proofs.YthoncmadikifnaaDoor.X
open Go Go.RowKit Go.Proofs
theorem fn14 : isFn Tryd.prog 14 = true := by kernel_rfl
def numR (s : List UInt8) : AV := match numT s with
  | some (u, neg, k) => .tup [.int .u64 u, .bool neg, .int .i64 k]
  | none => .tup [.int .u64 (0 : Nat), .bool false, .int .i64 (0 : Nat)]
theorem numT_ok {s : List UInt8} {u : Nat} (h : Lib.parseUintB 64 (numS s) = .ok u) (h1 : ¬ (isNeg s = true ∧ 9223372036854775808 < u)) (h2 : digs u (isNeg s) = s.take (numB s)) : numT s = some (u, isNeg s, numB s) := by
  unfold numS at h
  unfold numT
  rw [h]
  simp only []
  rw [if_neg (by rintro (h3 | h3); exact h1 h3; exact h3 h2)]
theorem numT_no {s : List UInt8} {u : Nat} (h : Lib.parseUintB 64 (numS s) = .ok u) (h1 : (isNeg s = true ∧ 9223372036854775808 < u) ∨ digs u (isNeg s) ≠ s.take (numB s)) : numT s = none := by
  unfold numS at h
  unfold numT
  rw [h]
  simp only []
  rw [if_pos h1]
theorem numT_bad {s : List UInt8} (h : ∀ u, Lib.parseUintB 64 (numS s) ≠ .ok u) : numT s = none := by
  unfold numS at h
  unfold numT
  split
  · rename_i u e2; exact absurd e2 (h u)
  · rfl
theorem isNeg_cons (c : UInt8) (r : List UInt8) : isNeg (c :: r) = ((c.toNat : Int) == 45) := by
  have e : isNeg (c :: r) = (45 == c) := by simp [isNeg, Lib.hasPrefix, List.isPrefixOf]
  rw [e]
  by_cases h : c = 45
  · subst h; rfl
  · have h2 : ¬ (c.toNat : Int) = 45 := fun e => h (UInt8.toNat_inj.1 (by have : (45 : UInt8).toNat = 45 := rfl; omega))
    rw [beq_eq_false_iff_ne.2 (Ne.symm h), beq_eq_false_iff_ne.2 h2]
def offS (s : List UInt8) : Nat := s.length - (unsg s).length
theorem offS_eq (s : List UInt8) : (isNeg s = true → offS s = 1) ∧ (isNeg s = false → offS s = 0) := by
  unfold offS unsg Lib.trimPrefix
  refine ⟨fun h => ?_, fun h => ?_⟩
  · have h' : Lib.hasPrefix s [45] = true := h
    rw [if_pos h']
    have : 1 ≤ s.length := by
      cases s with
      | nil => simp [Lib.hasPrefix] at h'
      | cons c r => simp
    simp; omega
  · have h' : Lib.hasPrefix s [45] = false := h
    rw [if_neg (by simp [h'])]; omega
theorem unsg_get (s : List UInt8) (k : Nat) : s[offS s + k]? = (unsg s)[k]? := by
  cases h : isNeg s
  · rw [(offS_eq s).2 h]
    have h' : Lib.hasPrefix s [45] = false := h
    unfold unsg Lib.trimPrefix
    rw [if_neg (by simp [h']), Nat.zero_add]
  · rw [(offS_eq s).1 h]
    have h' : Lib.hasPrefix s [45] = true := h
    unfold unsg Lib.trimPrefix
    rw [if_pos h', List.getElem?_drop]; rfl
abbrev Mx : Nat := 18446744073709551615
def PI (s : List UInt8) (k n : Nat) : Prop := Lib.parseUintM Mx 0 (numS s) = Lib.parseUintM Mx n ((numS s).drop k) ∧ n < 18446744073709551616
theorem numS_drop {s : List UInt8} {k : Nat} {c : UInt8} (hk : k + 1 ≤ spn isDig (unsg s)) (hc : (unsg s)[k]? = some c) : (numS s).drop k = c :: (numS s).drop (k + 1) := by
  have h1 : (numS s)[k]? = some c := by unfold numS; rw [List.getElem?_take_of_lt (by omega)]; exact hc
  obtain ⟨hlt, h2⟩ := List.getElem?_eq_some_iff.1 h1
  rw [List.drop_eq_getElem_cons hlt, h2]
theorem PI.over {s : List UInt8} {k n : Nat} {c : UInt8} (h : PI s k n) (hk : k + 1 ≤ spn isDig (unsg s)) (hc : (unsg s)[k]? = some c) (hd : isDig c = true) (ho : (18446744073709551615 - (c.toNat - 48)) / 10 < n) : ∀ u, Lib.parseUintB 64 (numS s) ≠ .ok u := by
  have hd' := of_decide_eq_true hd
  have e : Lib.parseUintM Mx 0 (numS s) = .range := by
    rw [h.1, numS_drop hk hc, Lib.parseUintM, if_pos hd']
    split
    · rfl
    · rw [if_pos (by unfold Mx; omega)]
  intro u hu
  unfold Lib.parseUintB at hu
  split at hu
  · cases hu
  · have : Lib.parseUintM Mx 0 (numS s) = .ok u := hu
    rw [e] at this; cases this
theorem PI.step {s : List UInt8} {k n : Nat} {c : UInt8} (h : PI s k n) (hk : k + 1 ≤ spn isDig (unsg s)) (hc : (unsg s)[k]? = some c) (hd : isDig c = true) (ho : ¬ (18446744073709551615 - (c.toNat - 48)) / 10 < n) : PI s (k + 1) (n * 10 + (c.toNat - 48)) := by
  have hd' := of_decide_eq_true hd
  refine ⟨?_, by omega⟩
  rw [h.1, numS_drop hk hc, Lib.parseUintM, if_pos hd', if_neg (by omega), if_neg (by unfold Mx; omega)]
theorem PI.fin {s : List UInt8} {n : Nat} (h : PI s (spn isDig (unsg s)) n) : (spn isDig (unsg s) = 0 → ∀ u, Lib.parseUintB 64 (numS s) ≠ .ok u) ∧ (spn isDig (unsg s) ≠ 0 → Lib.parseUintB 64 (numS s) = .ok n) := by
  have hl : (numS s).length = spn isDig (unsg s) := by have := spn_le isDig (unsg s); simp [numS]; omega
  refine ⟨fun e u hu => ?_, fun e => ?_⟩
  · rw [List.eq_nil_of_length_eq_zero (hl.trans e)] at hu; cases hu
  · have hne : numS s ≠ [] := fun e2 => e (by rw [← hl, e2]; rfl)
    unfold Lib.parseUintB
    rw [if_neg hne]
    show Lib.parseUintM Mx 0 (numS s) = .ok n
    rw [h.1, List.drop_of_length_le (by omega)]; rfl
theorem rn_d {c : UInt8} (hd : isDig c = true) : IntKind.u64.wrap (IntKind.u8.wrap ((c.toNat : Int) - 48)) = ((c.toNat - 48 : Nat) : Int) := by
  have hd' := of_decide_eq_true hd
  rw [wru8 (by omega) (by omega), wru64 (by omega) (by omega)]; omega
theorem rn_q {c : UInt8} (hd : isDig c = true) : (IntKind.u64.wrap ((IntKind.u64.wrap (18446744073709551615 - IntKind.u64.wrap (IntKind.u8.wrap ((c.toNat : Int) - 48)))).tdiv 10)) = (((18446744073709551615 - (c.toNat - 48)) / 10 : Nat) : Int) := by
  have hd' := of_decide_eq_true hd
  rw [rn_d hd, wru64 (n := 18446744073709551615 - ((c.toNat - 48 : Nat) : Int)) (by omega) (by omega), Int.tdiv_eq_ediv_of_nonneg (by omega), wru64 (by omega) (by omega)]; omega
theorem rn_n {c : UInt8} {n : Nat} (hd : isDig c = true) (ho : ¬ (18446744073709551615 - (c.toNat - 48)) / 10 < n) : IntKind.u64.wrap (IntKind.u64.wrap (10 * (n : Int)) + IntKind.u64.wrap (IntKind.u8.wrap ((c.toNat : Int) - 48))) = ((n * 10 + (c.toNat - 48) : Nat) : Int) := by
  have hd' := of_decide_eq_true hd
  rw [rn_d hd, wru64 (n := 10 * (n : Int)) (by omega) (by omega), wru64 (by omega) (by omega)]; omega
def StN3 (H : Hp) (s : List UInt8) (j : Int) : St := [(.h, .hp H), (.s 0, .sv (.v (.str s))), (.s 5, .sv (.v (.int .i64 j))), (.s 6, .sv (.v (.bool (isNeg s))))]
def StN (H : Hp) (s : List UInt8) (j m : Int) (n : Nat) : St := [(.h, .hp H), (.s 0, .sv (.v (.str s))), (.s 5, .sv (.v (.int .i64 j))), (.s 6, .sv (.v (.bool (isNeg s)))), (.s 7, .sv (.v (.int .i64 m))), (.s 8, .sv (.v (.int .u64 (n : Int))))]
theorem rnumber_pure (s : List UInt8) (hs : s.length ≤ 1073741824) : Pure Tryd.prog 29 [.str s] (numR s) := by
  refine Pure.of_tri Tryd.func29 rfl rfl (ltb rfl) fun H => ?_
  refine Tri.seq ?_
  refine Tri.region ?_
  refine TriL.c1 rfl (op_as (ltb rfl) rfl) ?_
  refine TriL.c1 rfl (op_as (ltb rfl) rfl) ?_
  refine TriL.c1 rfl (op_as (ltb rfl) rfl) ?_
  refine TriL.nil ?_
  refine Tri.seq ?_
  refine Tri.region ?_
  refine TriL.c1 rfl (op_as (ltb rfl) rfl) ?_
  refine TriL.nil ?_
  refine Tri.join (fun w => w = StN3 H s 0) ?_ ?_
  · -- region 2 ref.go:69
    refine Tri.region ?_
    refine TriL.c1 rfl (op_mv (ltb rfl) rfl) ?_
    refine TriL.c1 rfl (op_lens (ltb rfl) un9 rfl) ?_
    refine TriL.c1 rfl (op_bin (ltb rfl) rfl rfl rfl) ?_
    refine TriL.c1 rfl (op_mv (ltb rfl) rfl) ?_
    refine TriL.split (d := 13) rfl (fun hg1 => ?_) (fun hg1 => ?_)
    · obtain ⟨c, r, rfl⟩ : ∃ c r, s = c :: r := by
          cases s with
          | nil => simp at hg1
          | cons c r => exact ⟨c, r, rfl⟩
      refine TriL.g1 rfl (ltb rfl) rfl hg1 (op_mv (ltb rfl) rfl) ?_
      refine TriL.g1 rfl (ltb rfl) rfl hg1 (op_ixs (ltb rfl) un9 rfl rfl (by decide) rfl) ?_
      refine TriL.g1 rfl (ltb rfl) rfl hg1 (op_bin (ltb rfl) rfl rfl rfl) ?_
      refine TriL.c1 rfl (op_pickt (ltb rfl) rfl hg1 rfl) ?_
      refine TriL.c1 rfl (op_as (ltb rfl) rfl) ?_
      refine TriL.kept (Kept.keep [.h, .s 0, .s 5, .s 6] rfl (by decide) (Kept.now ?_))
      unfold StN3; rw [isNeg_cons]
    · refine TriL.skipu rfl rfl (ltb rfl) (ltb rfl) rfl hg1 ?_
      refine TriL.skipu rfl rfl (ltb rfl) (ltb rfl) rfl hg1 ?_
      refine TriL.skipu rfl rfl (ltb rfl) (ltb rfl) rfl hg1 ?_
      refine TriL.c1 rfl (op_pickf (ltb rfl) rfl hg1 rfl) ?_
      refine TriL.c1 rfl (op_as (ltb rfl) rfl) ?_
      refine TriL.kept (Kept.keep [.h, .s 0, .s 5, .s 6] rfl (by decide) (Kept.now ?_))
      have h0 : s = [] := List.eq_nil_of_length_eq_zero (by have := of_decide_eq_false hg1; omega)
      subst h0; rfl
  · rintro w rfl
    refine Tri.join (fun w => ∃ j : Int, w = StN3 H s j ∧ j = offS s) ?_ ?_
    · refine Tri.seq ?_
      refine Tri.region ?_
      refine TriL.c1 rfl (op_mv (ltb rfl) rfl) ?_
      refine TriL.nil ?_
      refine Tri.cond rfl (fun hc2 => ?_) (fun hc2 => ?_)
      · -- region 4 ref.go:71
        refine Tri.region ?_
        refine TriL.c1 rfl (op_as (ltb rfl) rfl) ?_
        refine TriL.kept (Kept.keep [.h, .s 0, .s 5, .s 6] rfl (by decide) (Kept.now ?_))
        exact ⟨1, rfl, by rw [(offS_eq s).1 hc2]; rfl⟩
      · refine Tri.ofKept (Kept.keep [.h, .s 0, .s 5, .s 6] rfl (by decide) (Kept.now ?_))
        refine Tri.skip ?_
        exact ⟨0, rfl, by rw [(offS_eq s).2 hc2]; rfl⟩
    · rintro w ⟨j, rfl, hj⟩
      refine Tri.seq ?_
      refine Tri.region ?_
      refine TriL.c1 rfl (op_mv (ltb rfl) rfl) ?_
      refine TriL.c1 rfl (op_as (ltb rfl) rfl) ?_
      refine TriL.c1 rfl (op_as (ltb rfl) rfl) ?_
      refine TriL.kept (Kept.keep [.h, .s 0, .s 5, .s 6, .s 7, .s 8] rfl (by decide) (Kept.now ?_))
      refine Tri.join (fun w => ∃ (j m : Int) (n : Nat), w = StN H s j m n ∧ j = offS s + spn isDig (unsg s) ∧ m = offS s ∧ PI s (spn isDig (unsg s)) n) ?_ ?_
      · refine Tri.blk ?_
        -- LOOP 1: KEEP
        refine Tri.loop (fun q w => ∃ (k : Nat) (j m : Int) (n : Nat), w = StN H s j m n ∧ j = offS s + k ∧ m = offS s ∧ k ≤ spn isDig (unsg s) ∧ PI s k n ∧ q = s.length - k) ?_ (n := s.length) ⟨0, j, j, 0, rfl, by rw [hj]; simp, hj, Nat.zero_le _, ⟨rfl, by decide⟩, rfl⟩
        rintro q w ⟨k, j, m, n, rfl, hj, hm, hk, hpi, rfl⟩
        have h1 := unsg_le s
        have h2 := spn_le isDig (unsg s)
        have h3 : offS s + (unsg s).length = s.length := by unfold offS; omega
        have hB : numB s = offS s + spn isDig (unsg s) := by unfold numB offS; rfl
        refine Tri.seq ?_
        refine Tri.seq ?_
        refine Tri.region ?_
        refine TriL.c1 rfl (op_mv (ltb rfl) rfl) ?_
        refine TriL.c1 rfl (op_mv (ltb rfl) rfl) ?_
        refine TriL.c1 rfl (op_lens (ltb rfl) un9 rfl) ?_
        refine TriL.c1 rfl (op_bin (ltb rfl) rfl rfl rfl) ?_
        refine TriL.c1 rfl (op_mv (ltb rfl) rfl) ?_
        refine TriL.split (d := 24) rfl (fun hg3 => ?_) (fun hg3 => ?_)
        · have hlt : k < (unsg s).length := by have := of_decide_eq_true hg3; omega
          obtain ⟨c, hc⟩ : ∃ c, (unsg s)[k]? = some c := ⟨(unsg s)[k], List.getElem?_eq_getElem hlt⟩
          have hcs : s[offS s + k]? = some c := (unsg_get s k).trans hc
          have hd := spn_drop isDig (unsg s) k c hk hc
          refine TriL.g1 rfl (ltb rfl) rfl hg3 (op_mv (ltb rfl) rfl) ?_
          refine TriL.g1 rfl (ltb rfl) rfl hg3 (op_mv (ltb rfl) rfl) ?_
          refine TriL.g1 rfl (ltb rfl) rfl hg3 (op_ixs (ltb rfl) un9 rfl rfl (by omega) (ixc (i := offS s + k) (by omega) hcs)) ?_
          refine TriL.g1 rfl (ltb rfl) rfl hg3 (op_call (ltb rfl) fn44 rfl (rdigit_pure c)) ?_
          refine TriL.c1 rfl (op_pickt (ltb rfl) rfl hg3 rfl) ?_
          refine TriL.nil ?_
          refine Tri.cond rfl (fun hc4 => ?_) (fun hc4 => ?_)
          · refine Tri.skip ?_
            refine Tri.blk ?_
            refine Tri.seq ?_
            refine Tri.region ?_
            refine TriL.c1 rfl (op_mv (ltb rfl) rfl) ?_
            refine TriL.c1 rfl (op_mv (ltb rfl) rfl) ?_
            refine TriL.c1 rfl (op_ixs (ltb rfl) un9 rfl rfl (by omega) (ixc (i := offS s + k) (by omega) hcs)) ?_
            refine TriL.c1 rfl (op_bin (ltb rfl) rfl rfl rfl) ?_
            refine TriL.c1 rfl (op_cvi (ltb rfl) un5 un33 rfl) ?_
            refine TriL.c1 rfl (op_as (ltb rfl) rfl) ?_
            refine TriL.nil ?_
            refine Tri.seq ?_
            refine Tri.seq ?_
            refine Tri.region ?_
            refine TriL.c1 rfl (op_mv (ltb rfl) rfl) ?_
            refine TriL.c1 rfl (op_mv (ltb rfl) rfl) ?_
            refine TriL.c1 rfl (op_bin (ltb rfl) rfl rfl rfl) ?_
            refine TriL.c1 rfl (op_bin (ltb rfl) rfl rfl rfl) ?_
            refine TriL.c1 rfl (op_bin (ltb rfl) rfl rfl rfl) ?_
            refine TriL.nil ?_
            refine Tri.cond rfl (fun hc5 => ?_) (fun hc5 => ?_)
            · have ho : (18446744073709551615 - (c.toNat - 48)) / 10 < n := by have := of_decide_eq_true hc5; rw [rn_q hc4] at this; omega
              refine Tri.seq ?_
              refine Tri.region ?_
              refine TriL.c1 rfl (op_as (ltb rfl) rfl) ?_
              refine TriL.c1 rfl (op_as (ltb rfl) rfl) ?_
              refine TriL.c1 rfl (op_as (ltb rfl) rfl) ?_
              refine TriL.nil ?_
              refine Tri.ret ?_
              exact ⟨.inr rfl, (ResOK.r3 rfl (.tmp rfl (.tmp rfl (.tmp rfl .nil)))).cast (by unfold numR; rw [numT_bad (hpi.over (hd.1 hc4) hc hc4 ho)]; rfl), rfl⟩
            · have ho : ¬ (18446744073709551615 - (c.toNat - 48)) / 10 < n := by have := of_decide_eq_false hc5; rw [rn_q hc4] at this; omega
              refine Tri.skip ?_
              refine Tri.seq ?_
              refine Tri.region ?_
              refine TriL.c1 rfl (op_mv (ltb rfl) rfl) ?_
              refine TriL.c1 rfl (op_bin (ltb rfl) rfl rfl rfl) ?_
              refine TriL.c1 rfl (op_mv (ltb rfl) rfl) ?_
              refine TriL.c1 rfl (op_bin (ltb rfl) rfl rfl rfl) ?_
              refine TriL.c1 rfl (op_as (ltb rfl) rfl) ?_
              refine TriL.nil ?_
              refine Tri.region ?_
              refine TriL.c1 rfl (op_mv (ltb rfl) rfl) ?_
              refine TriL.c1 rfl (op_bin (ltb rfl) rfl rfl rfl) ?_
              refine TriL.c1 rfl (op_as (ltb rfl) rfl) ?_
              refine TriL.kept (Kept.keep [.h, .s 0, .s 5, .s 6, .s 7, .s 8] rfl (by decide) (Kept.now ?_))
              exact ⟨s.length - (k + 1), by omega, k + 1, IntKind.i64.wrap (j + 1), m, n * 10 + (c.toNat - 48), by rw [rn_n hc4 ho]; rfl, by rw [hj, wr64] <;> omega, hm, hd.1 hc4, hpi.step (hd.1 hc4) hc hc4 ho, rfl⟩
          · refine Tri.ofKept (Kept.keep [.h, .s 0, .s 5, .s 6, .s 7, .s 8] rfl (by decide) (Kept.now ?_))
            refine Tri.exit ?_
            have e := hd.2 hc4
            exact ⟨j, m, n, rfl, by rw [hj, e], hm, by rw [e]; exact hpi⟩
        · refine TriL.skipu rfl rfl (ltb rfl) (ltb rfl) rfl hg3 ?_
          refine TriL.skipu rfl rfl (ltb rfl) (ltb rfl) rfl hg3 ?_
          refine TriL.skipu rfl rfl (ltb rfl) (ltb rfl) rfl hg3 ?_
          refine TriL.skipu rfl rfl (ltb rfl) (ltb rfl) rfl hg3 ?_
          refine TriL.c1 rfl (op_pickf (ltb rfl) rfl hg3 rfl) ?_
          refine TriL.nil ?_
          refine Tri.condF rfl rfl ?_
          refine Tri.ofKept (Kept.keep [.h, .s 0, .s 5, .s 6, .s 7, .s 8] rfl (by decide) (Kept.now ?_))
          refine Tri.exit ?_
          have e : spn isDig (unsg s) = k := by have := of_decide_eq_false hg3; omega
          exact ⟨j, m, n, rfl, by rw [hj, e], hm, by rw [e]; exact hpi⟩
      · rintro w ⟨j, m, n, rfl, hj, hm, hpi⟩
        have h1 := unsg_le s
        have h2 := spn_le isDig (unsg s)
        have h3 : offS s + (unsg s).length = s.length := by unfold offS; omega
        have hB : numB s = offS s + spn isDig (unsg s) := by unfold numB offS; rfl
        have hf := hpi.fin
        have e2 : (s.drop (0 : Int).toNat).take (j.toNat - (0 : Int).toNat) = s.take (numB s) := by rw [hj, hB]; simp; congr 1
        refine Tri.seq ?_
        refine Tri.seq ?_
        refine Tri.drawn mixed rfl ?_
        refine TriD.c1 rfl (op_mv (ltb rfl) rfl) ?_
        refine TriD.c1 rfl (op_mv (ltb rfl) rfl) ?_
        refine TriD.c1 rfl (op_bin (ltb rfl) rfl rfl rfl) ?_
        refine TriD.c1 rfl (op_mv (ltb rfl) rfl) ?_
        refine TriD.split (d := 49) rfl (fun hg6 => ?_) (fun hg6 => ?_)
        · refine TriD.skipu rfl rfl (ltb rfl) (ltb rfl) rfl hg6 ?_
          refine TriD.skipu rfl rfl (ltb rfl) (ltb rfl) rfl hg6 ?_
          refine TriD.skipu rfl rfl (ltb rfl) (ltb rfl) rfl hg6 ?_
          refine TriD.skipu rfl rfl (ltb rfl) (ltb rfl) rfl hg6 ?_
          refine TriD.skipu rfl rfl (ltb rfl) (ltb rfl) rfl hg6 ?_
          refine TriD.skipu rfl rfl (ltb rfl) (ltb rfl) rfl hg6 ?_
          refine TriD.skipu rfl rfl (ltb rfl) (ltb rfl) rfl hg6 ?_
          refine TriD.c1 rfl (op_pickt (ltb rfl) rfl hg6 rfl) ?_
          refine TriD.c1 rfl (op_mv (ltb rfl) rfl) ?_
          refine TriD.skipu rfl rfl (ltb rfl) (ltb rfl) rfl rfl ?_
          refine TriD.skipu rfl rfl (ltb rfl) (ltb rfl) rfl rfl ?_
          refine TriD.skipg rfl rfl (ltb rfl) (ltb rfl) rfl ?_
          refine TriD.skipg rfl rfl (ltb rfl) (ltb rfl) rfl ?_
          refine TriD.skipu rfl rfl (ltb rfl) (ltb rfl) rfl rfl ?_
          refine TriD.c1 rfl (op_pickt (ltb rfl) rfl rfl rfl) ?_
          refine TriD.nil (by kernel_rfl) (Kept.now ?_)
          refine Tri.condT rfl rfl ?_
          refine Tri.seq ?_
          refine Tri.region ?_
          refine TriL.c1 rfl (op_as (ltb rfl) rfl) ?_
          refine TriL.c1 rfl (op_as (ltb rfl) rfl) ?_
          refine TriL.c1 rfl (op_as (ltb rfl) rfl) ?_
          refine TriL.nil ?_
          refine Tri.ret ?_
          exact ⟨.inr rfl, (ResOK.r3 rfl (.tmp rfl (.tmp rfl (.tmp rfl .nil)))).cast (by unfold numR; rw [numT_bad (hf.1 (by have := eq_of_beq hg6; omega))]; rfl), rfl⟩
        · have hk := hf.2 (by have := beq_eq_false_iff_ne.1 hg6; omega)
          refine TriD.g1 rfl (ltb rfl) rfl hg6 (op_mv (ltb rfl) rfl) ?_
          refine TriD.g1 rfl (ltb rfl) rfl hg6 (op_mv (ltb rfl) rfl) ?_
          refine TriD.g1 rfl (ltb rfl) rfl hg6 (op_call (ltb rfl) fn14 rfl (rdigits_pure n (isNeg s) hpi.2)) ?_
          refine TriD.g1 rfl (ltb rfl) rfl hg6 (op_mv (ltb rfl) rfl) ?_
          refine TriD.g1 rfl (ltb rfl) rfl hg6 (op_mv (ltb rfl) rfl) ?_
          refine TriD.g1 rfl (ltb rfl) rfl hg6 (op_cuts (ltb rfl) un9 rfl rfl rfl (by omega) (by omega) (by omega)) ?_
          refine TriD.g1 rfl (ltb rfl) rfl hg6 (op_bin (ltb rfl) rfl rfl rfl) ?_
          refine TriD.c1 rfl (op_pickf (ltb rfl) rfl hg6 rfl) ?_
          refine TriD.c1 rfl (op_mv (ltb rfl) rfl) ?_
          refine TriD.split (d := 58) rfl (fun hg7 => ?_) (fun hg7 => ?_)
          · refine TriD.skipu rfl rfl (ltb rfl) (ltb rfl) rfl hg7 ?_
            refine TriD.skipu rfl rfl (ltb rfl) (ltb rfl) rfl hg7 ?_
            refine TriD.skipg rfl rfl (ltb rfl) (ltb rfl) rfl ?_
            refine TriD.skipg rfl rfl (ltb rfl) (ltb rfl) rfl ?_
            refine TriD.skipu rfl rfl (ltb rfl) (ltb rfl) rfl hg7 ?_
            refine TriD.c1 rfl (op_pickt (ltb rfl) rfl hg7 rfl) ?_
            refine TriD.nil (by kernel_rfl) (Kept.now ?_)
            refine Tri.condT rfl rfl ?_
            refine Tri.seq ?_
            refine Tri.region ?_
            refine TriL.c1 rfl (op_as (ltb rfl) rfl) ?_
            refine TriL.c1 rfl (op_as (ltb rfl) rfl) ?_
            refine TriL.c1 rfl (op_as (ltb rfl) rfl) ?_
            refine TriL.nil ?_
            refine Tri.ret ?_
            exact ⟨.inr rfl, (ResOK.r3 rfl (.tmp rfl (.tmp rfl (.tmp rfl .nil)))).cast (by
              have hne : digs n (isNeg s) ≠ s.take (numB s) := by
                rw [← e2]
                have h := hg7
                simp only [Bool.not_eq_true', beq_eq_false_iff_ne, ne_eq] at h
                exact h
              unfold numR; rw [numT_no hk (.inr hne)]; rfl), rfl⟩
          · refine TriD.g1 rfl (ltb rfl) rfl hg7 (op_mv (ltb rfl) rfl) ?_
            refine TriD.g1 rfl (ltb rfl) rfl hg7 (op_mv (ltb rfl) rfl) ?_
            refine TriD.split (d := 60) rfl (fun hg8 => ?_) (fun hg8 => ?_)
            · refine TriD.g1 rfl (ltb rfl) rfl hg8 (op_mv (ltb rfl) rfl) ?_
              refine TriD.g1 rfl (ltb rfl) rfl hg8 (op_bin (ltb rfl) rfl rfl rfl) ?_
              refine TriD.g1 rfl (ltb rfl) rfl hg7 (op_pickt (ltb rfl) rfl hg8 rfl) ?_
              refine TriD.c1 rfl (op_pickf (ltb rfl) rfl hg7 rfl) ?_
              refine TriD.nil (by kernel_rfl) (Kept.now ?_)
              refine Tri.cond rfl (fun hc9 => ?_) (fun hc9 => ?_)
              · refine Tri.seq ?_
                refine Tri.region ?_
                refine TriL.c1 rfl (op_as (ltb rfl) rfl) ?_
                refine TriL.c1 rfl (op_as (ltb rfl) rfl) ?_
                refine TriL.c1 rfl (op_as (ltb rfl) rfl) ?_
                refine TriL.nil ?_
                refine Tri.ret ?_
                exact ⟨.inr rfl, (ResOK.r3 rfl (.tmp rfl (.tmp rfl (.tmp rfl .nil)))).cast (by unfold numR; rw [numT_no hk (.inl ⟨hg8, by have := of_decide_eq_true hc9; omega⟩)]; rfl), rfl⟩
              · refine Tri.skip ?_
                refine Tri.seq ?_
                refine Tri.region ?_
                refine TriL.c1 rfl (op_mv (ltb rfl) rfl) ?_
                refine TriL.c1 rfl (op_mv (ltb rfl) rfl) ?_
                refine TriL.c1 rfl (op_mv (ltb rfl) rfl) ?_
                refine TriL.c1 rfl (op_as (ltb rfl) rfl) ?_
                refine TriL.c1 rfl (op_as (ltb rfl) rfl) ?_
                refine TriL.c1 rfl (op_as (ltb rfl) rfl) ?_
                refine TriL.nil ?_
                refine Tri.ret ?_
                exact ⟨.inr rfl, (ResOK.r3 rfl (.tmp rfl (.tmp rfl (.tmp rfl .nil)))).cast (by
                  have heq : digs n (isNeg s) = s.take (numB s) := by
                    rw [← e2]
                    have h := hg7
                    simp only [Bool.not_eq_false', beq_iff_eq] at h
                    exact h
                  unfold numR; rw [numT_ok hk (fun h => (by have := of_decide_eq_false hc9; omega)) heq, hj, hB]; rfl), rfl⟩
            · refine TriD.skipu rfl rfl (ltb rfl) (ltb rfl) rfl hg8 ?_
              refine TriD.skipu rfl rfl (ltb rfl) (ltb rfl) rfl hg8 ?_
              refine TriD.g1 rfl (ltb rfl) rfl hg7 (op_pickf (ltb rfl) rfl hg8 rfl) ?_
              refine TriD.c1 rfl (op_pickf (ltb rfl) rfl hg7 rfl) ?_
              refine TriD.nil (by kernel_rfl) (Kept.now ?_)
              refine Tri.condF rfl rfl ?_
              refine Tri.skip ?_
              refine Tri.seq ?_
              refine Tri.region ?_
              refine TriL.c1 rfl (op_mv (ltb rfl) rfl) ?_
              refine TriL.c1 rfl (op_mv (ltb rfl) rfl) ?_
              refine TriL.c1 rfl (op_mv (ltb rfl) rfl) ?_
              refine TriL.c1 rfl (op_as (ltb rfl) rfl) ?_
              refine TriL.c1 rfl (op_as (ltb rfl) rfl) ?_
              refine TriL.c1 rfl (op_as (ltb rfl) rfl) ?_
              refine TriL.nil ?_
              refine Tri.ret ?_
              exact ⟨.inr rfl, (ResOK.r3 rfl (.tmp rfl (.tmp rfl (.tmp rfl .nil)))).cast (by
                have heq : digs n (isNeg s) = s.take (numB s) := by
                  rw [← e2]
                  have h := hg7
                  simp only [Bool.not_eq_false', beq_iff_eq] at h
                  exact h
                unfold numR; rw [numT_ok hk (fun h => (by have h5 : isNeg s = false := hg8; rw [h5] at h; cases h.1)) heq, hj, hB]; rfl), rfl⟩
end Go.Proofs.YthoncmadikifnaaDoor.X
