/- lex: a number; the document's digits. -/
import Derived.Test.YthoncmadikifnaaDoorL7
set_option linter.unusedVariables false
set_option linter.unusedSimpArgs false
set_option linter.unusedSectionVars false
set_option maxRecDepth 100000
namespace Go.Proofs.YthoncmadikifnaaDoor.X
open Go Go.RowKit Go.Proofs
theorem fn13 : isFn Tryd.prog 13 = true := by kernel_rfl
theorem fn37 : isFn Tryd.prog 37 = true := by kernel_rfl
theorem fn38 : isFn Tryd.prog 38 = true := by kernel_rfl
theorem mi61 : Tryd.prog.underlying 61 = some (.interface (Tryd.prog.methodsAt 61)) := by kernel_rfl
theorem se51 : se Tryd.prog 51 = some (5, 1, 1) := by kernel_rfl
theorem un33 : Tryd.prog.underlying 33 = some (TypeDesc.int IntKind.u64) := Tryd.underlying33
theorem un5 : Tryd.prog.underlying 5 = some (TypeDesc.int IntKind.u8) := Tryd.underlying5
theorem un51 : Tryd.prog.underlying 51 = some (TypeDesc.slice 5) := Tryd.underlying51
theorem unel51 : Tryd.prog.underlying 5 = some (TypeDesc.int IntKind.u8) := Tryd.underlying5
theorem zAe51 : zeroA Tryd.prog 5 = some [AV.int IntKind.u8 (0)] := by kernel_rfl
theorem decDigits_small {u : Nat} (h : u < 10) : Lib.decDigits u = [UInt8.ofNat (48 + u)] := by rw [Lib.decDigits, dif_pos h]
theorem decDigits_step {u : Nat} (h : ¬ u < 10) : Lib.decDigits u = Lib.decDigits (u / 10) ++ [UInt8.ofNat (48 + u % 10)] := by rw [Lib.decDigits, dif_neg h]
/-- what is told so far of n: u is left -/
def DigI (n u : Nat) (t : List UInt8) : Prop := (u = 0 ∧ t = Lib.decDigits n) ∨ (0 < u ∧ Lib.decDigits u ++ t = Lib.decDigits n)
theorem DigI.step {n u : Nat} {t : List UInt8} (h : DigI n u t) (h0 : 0 < u) : DigI n (u / 10) ([UInt8.ofNat (48 + u % 10)] ++ t) := by
  rcases h with ⟨h, _⟩ | ⟨_, h⟩
  · omega
  · by_cases hu : u < 10
    · refine .inl ⟨by omega, ?_⟩
      rw [← h, decDigits_small hu, show u % 10 = u by omega]
    · refine .inr ⟨by omega, ?_⟩
      rw [← h, decDigits_step hu, List.append_assoc]
theorem DigI.len {n u : Nat} {t : List UInt8} (h : DigI n u t) (hn : n < 18446744073709551616) : t.length ≤ 20 := by
  have := digs_len hn
  rcases h with ⟨_, h⟩ | ⟨_, h⟩
  · rw [h]; exact this
  · rw [← h, List.length_append] at this; omega
def StDg (H : Hp) (neg : Bool) (t : List UInt8) (u : Nat) : St := [(.h, .hp H), (.s 1, .sv (.v (.bool neg))), (.s 5, .sv (.v (.str t))), (.s 6, .sv (.v (.int .u64 (u : Int))))]
theorem dgc (u : Nat) : IntKind.u8.wrap (IntKind.u64.wrap (48 + ((u : Int).tmod 10))) = (((UInt8.ofNat (48 + u % 10)).toNat : Nat) : Int) := by
  have e : (u : Int).tmod 10 = ((u % 10 : Nat) : Int) := by rw [Int.tmod_eq_emod_of_nonneg (by omega)]; omega
  rw [e, wru64 (by omega) (by omega), wru8 (by omega) (by omega), UInt8.toNat_ofNat_of_lt' (by simp [UInt8.size]; omega)]; omega
theorem dgq (u : Nat) (hu : u < 18446744073709551616) : IntKind.u64.wrap ((u : Int).tdiv 10) = ((u / 10 : Nat) : Int) := by
  rw [Int.tdiv_eq_ediv_of_nonneg (by omega), wru64 (by omega) (by omega)]; omega
theorem dgb (u : Nat) : bytesOf [AV.int .u8 (IntKind.u8.wrap (IntKind.u64.wrap (48 + ((u : Int).tmod 10))))] = some [UInt8.ofNat (48 + u % 10)] := by
  rw [dgc]; exact bytesOf_bsl [UInt8.ofNat (48 + u % 10)]
theorem rdigits_pure (n : Nat) (neg : Bool) (hu : n < 18446744073709551616) : Pure Tryd.prog 14 [.int .u64 n, .bool neg] (.str (digs n neg)) := by
  refine Pure.of_tri Tryd.func14 rfl rfl (ltb rfl) fun H => ?_
  refine Tri.seq ?_
  refine Tri.region ?_
  refine TriL.c1 rfl (op_as (ltb rfl) rfl) ?_
  refine TriL.nil ?_
  refine Tri.seq ?_
  refine Tri.region ?_
  refine TriL.c1 rfl (op_as (ltb rfl) rfl) ?_
  refine TriL.nil ?_
  refine Tri.seq ?_
  refine Tri.seq ?_
  refine Tri.region ?_
  refine TriL.c1 rfl (op_mv (ltb rfl) rfl) ?_
  refine TriL.c1 rfl (op_bin (ltb rfl) rfl rfl rfl) ?_
  refine TriL.nil ?_
  refine Tri.cond rfl (fun hc1 => ?_) (fun hc1 => ?_)
  · refine Tri.seq ?_
    refine Tri.region ?_
    refine TriL.c1 rfl (op_as (ltb rfl) rfl) ?_
    refine TriL.nil ?_
    refine Tri.ret ?_
    exact ⟨.inr rfl, (ResOK.r1 rfl (.tmp rfl .nil)).cast (by
        have h0 : n = 0 := by have := eq_of_beq hc1; omega
        subst h0
        simp [digs, decDigits_small]), rfl⟩
  · refine Tri.skip ?_
    refine Tri.seq ?_
    refine Tri.seq ?_
    refine Tri.region ?_
    refine TriL.c1 rfl (op_mv (ltb rfl) rfl) ?_
    refine TriL.c1 rfl (op_as (ltb rfl) rfl) ?_
    refine TriL.kept (Kept.keep [.h, .s 1, .s 5, .s 6] rfl (by decide) (Kept.now ?_))
    refine Tri.blk ?_
    -- LOOP 1: KEEP
    refine Tri.loop (fun q w => ∃ (u : Nat) (t : List UInt8), w = StDg H neg t u ∧ DigI n u t ∧ u ≤ n ∧ q = u) ?_ (n := n) ⟨n, [], rfl, .inr ⟨by have := beq_eq_false_iff_ne.1 hc1; omega, by simp⟩, Nat.le_refl _, rfl⟩
    rintro q w ⟨u, t, rfl, hi, hle, rfl⟩
    have hnz : n ≠ 0 := by have := beq_eq_false_iff_ne.1 hc1; omega
    refine Tri.seq ?_
    refine Tri.seq ?_
    refine Tri.region ?_
    refine TriL.c1 rfl (op_mv (ltb rfl) rfl) ?_
    refine TriL.c1 rfl (op_bin (ltb rfl) rfl rfl rfl) ?_
    refine TriL.nil ?_
    refine Tri.cond rfl (fun hc2 => ?_) (fun hc2 => ?_)
    · refine Tri.skip ?_
      refine Tri.seq ?_
      refine Tri.blk ?_
      refine Tri.region ?_
      refine TriL.c1 rfl (op_mv (ltb rfl) rfl) ?_
      refine TriL.c1 rfl (op_bin (ltb rfl) rfl rfl rfl) ?_
      refine TriL.c1 rfl (op_bin (ltb rfl) rfl rfl rfl) ?_
      refine TriL.c1 rfl (op_cvi (ltb rfl) un33 un5 rfl) ?_
      refine TriL.c1 rfl (op_lit («as» := [_]) (ltb rfl) se51 zAe51 rfl rfl rfl (leb rfl)) ?_
      refine TriL.c1 rfl (op_b2s (ltb rfl) un51 unel51 un9 rfl (dgb q)) ?_
      refine TriL.c1 rfl (op_mv (ltb rfl) rfl) ?_
      refine TriL.c1 rfl (op_cat (ltb rfl) rfl rfl (by have := hi.len hu; simp; omega)) ?_
      refine TriL.c1 rfl (op_as (ltb rfl) rfl) ?_
      refine TriL.nil ?_
      refine Tri.region ?_
      refine TriL.c1 rfl (op_mv (ltb rfl) rfl) ?_
      refine TriL.c1 rfl (op_bin (ltb rfl) rfl rfl rfl) ?_
      refine TriL.c1 rfl (op_as (ltb rfl) rfl) ?_
      refine TriL.kept (Kept.keep [.h, .s 1, .s 5, .s 6] rfl (by decide) (Kept.now ?_))
      have h0 : 0 < q := by have := of_decide_eq_true hc2; omega
      exact ⟨q / 10, by omega, q / 10, [UInt8.ofNat (48 + q % 10)] ++ t, by rw [dgq q (by omega)]; rfl, hi.step h0, by omega, rfl⟩
    · have hq : q = 0 := by have := of_decide_eq_false hc2; omega
      have ht : t = Lib.decDigits n := by rcases hi with ⟨_, h⟩ | ⟨h, _⟩; exact h; omega
      refine Tri.exit ?_
      refine Tri.seq ?_
      refine Tri.seq ?_
      refine Tri.region ?_
      refine TriL.c1 rfl (op_mv (ltb rfl) rfl) ?_
      refine TriL.nil ?_
      refine Tri.cond rfl (fun hc3 => ?_) (fun hc3 => ?_)
      · refine Tri.seq ?_
        refine Tri.region ?_
        refine TriL.c1 rfl (op_mv (ltb rfl) rfl) ?_
        refine TriL.c1 rfl (op_cat (ltb rfl) rfl rfl (by have := hi.len hu; simp; omega)) ?_
        refine TriL.c1 rfl (op_as (ltb rfl) rfl) ?_
        refine TriL.nil ?_
        refine Tri.ret ?_
        exact ⟨.inr rfl, (ResOK.r1 rfl (.tmp rfl .nil)).cast (by have h1 : neg = true := hc3; rw [ht]; simp [digs, h1, hnz]), rfl⟩
      · refine Tri.skip ?_
        refine Tri.seq ?_
        refine Tri.region ?_
        refine TriL.c1 rfl (op_mv (ltb rfl) rfl) ?_
        refine TriL.c1 rfl (op_as (ltb rfl) rfl) ?_
        refine TriL.nil ?_
        refine Tri.ret ?_
        exact ⟨.inr rfl, (ResOK.r1 rfl (.tmp rfl .nil)).cast (by have h1 : neg = false := hc3; rw [ht]; simp [digs, h1]), rfl⟩
theorem unsg_le (s : List UInt8) : (unsg s).length ≤ s.length := by
  unfold unsg Lib.trimPrefix
  split
  · simp
  · exact Nat.le_refl _
def numS (s : List UInt8) : List UInt8 := (unsg s).take (spn isDig (unsg s))
theorem numTk_ok {s : List UInt8} {u : Nat} (h : Lib.parseUintB 64 (numS s) = .ok u) (h1 : ¬ (isNeg s = true ∧ 9223372036854775808 < u)) (h2 : digs u (isNeg s) = s.take (numB s)) : numTk s = (⟨2, [], u, isNeg s, 0⟩, numB s) := by
  unfold numS at h
  unfold numTk numT
  rw [h]
  simp only []
  rw [if_neg (by rintro (h3 | h3); exact h1 h3; exact h3 h2)]
theorem numTk_no {s : List UInt8} {u : Nat} (h : Lib.parseUintB 64 (numS s) = .ok u) (h1 : (isNeg s = true ∧ 9223372036854775808 < u) ∨ digs u (isNeg s) ≠ s.take (numB s)) : numTk s = zeroT := by
  unfold numS at h
  unfold numTk numT
  rw [h]
  simp only []
  rw [if_pos h1]
theorem numTk_bad {s : List UInt8} (h : ∀ u, Lib.parseUintB 64 (numS s) ≠ .ok u) : numTk s = zeroT := by
  unfold numS at h
  unfold numTk numT
  split
  · rename_i x y e
    split at e
    · rename_i u e2; exact absurd e2 (h u)
    · cases e
  · rfl
theorem parseM_lt : ∀ (l : List UInt8) (a u : Nat), a < 18446744073709551616 → Lib.parseUintM 18446744073709551615 a l = .ok u → u < 18446744073709551616
  | [], a, u, ha, h => by simp [Lib.parseUintM] at h; omega
  | c :: r, a, u, ha, h => by
    simp only [Lib.parseUintM] at h
    split at h
    · split at h
      · cases h
      · split at h
        · cases h
        · exact parseM_lt r _ u (by omega) h
    · cases h
theorem parse_lt {l : List UInt8} {u : Nat} (h : Lib.parseUintB 64 l = .ok u) : u < 18446744073709551616 := by
  unfold Lib.parseUintB at h
  split at h
  · cases h
  · exact parseM_lt l 0 u (by decide) h
theorem cutneg_pure (s : List UInt8) : Pure Tryd.prog 37 [.str s, .str [45]] (.tup [.str (unsg s), .bool (isNeg s)]) := cut_pure s [45]
theorem number_bad (s : List UInt8) (u : Nat) (hs : s.length ≤ 1073741824) (hp : Pure Tryd.prog 38 [.str (((unsg s).drop (0 : Int).toNat).take (((spn isDig (unsg s) : Nat) : Int).toNat - (0 : Int).toNat)), .int .i64 10, .int .i64 64] (.tup [.int .u64 u, .ifc 94 .junk])) (hb : ∀ u, Lib.parseUintB 64 (numS s) ≠ .ok u) : Pure Tryd.prog 25 [.str s] (tkn (numTk s)) := by
  have h1 := unsg_le s
  have h2 := spn_le isDig (unsg s)
  refine Pure.of_tri Tryd.func25 rfl rfl (ltb rfl) fun H => ?_
  refine Tri.seq ?_
  refine Tri.region ?_
  refine TriL.c2 rfl (op_all (ltb rfl) zA35 rfl) ?_
  refine TriL.c1 rfl (op_as (ltb rfl) rfl) ?_
  refine TriL.nil ?_
  refine Tri.seq ?_
  refine Tri.region ?_
  refine TriL.c1 rfl (op_mv (ltb rfl) rfl) ?_
  refine TriL.c1 rfl (op_call (ltb rfl) fn37 rfl (cutneg_pure s)) ?_
  refine TriL.c1 rfl (op_mv (ltb rfl) rfl) ?_
  refine TriL.c1 rfl (op_ext (ltb rfl) rfl rfl) ?_
  refine TriL.c1 rfl (op_ext (ltb rfl) rfl rfl) ?_
  refine TriL.c1 rfl (op_as (ltb rfl) rfl) ?_
  refine TriL.c1 rfl (op_as (ltb rfl) rfl) ?_
  refine TriL.nil ?_
  refine Tri.seq ?_
  refine Tri.region ?_
  refine TriL.c1 rfl (op_mv (ltb rfl) rfl) ?_
  refine TriL.c1 rfl (op_call (ltb rfl) fn16 rfl (span_pure (unsg s) _ isDig digit_pure (by kernel_rfl) (by omega))) ?_
  refine TriL.c1 rfl (op_as (ltb rfl) rfl) ?_
  refine TriL.nil ?_
  refine Tri.seq ?_
  refine Tri.region ?_
  refine TriL.c1 rfl (op_mv (ltb rfl) rfl) ?_
  refine TriL.c1 rfl (op_mv (ltb rfl) rfl) ?_
  refine TriL.c1 rfl (op_cuts (ltb rfl) un9 rfl rfl rfl (by omega) (by omega) (by omega)) ?_
  refine TriL.c1 rfl (op_call (ltb rfl) fn38 rfl hp) ?_
  refine TriL.c1 rfl (op_mv (ltb rfl) rfl) ?_
  refine TriL.c1 rfl (op_ext (ltb rfl) rfl rfl) ?_
  refine TriL.c1 rfl (op_ext (ltb rfl) rfl rfl) ?_
  refine TriL.c1 rfl (op_as (ltb rfl) rfl) ?_
  refine TriL.c1 rfl (op_as (ltb rfl) rfl) ?_
  refine TriL.nil ?_
  refine Tri.seq ?_
  refine Tri.seq ?_
  refine Tri.drawn mixed rfl ?_
  refine TriD.c1 rfl (op_mv (ltb rfl) rfl) ?_
  refine TriD.c1 rfl (op_nei (ltb rfl) mi61 rfl rfl) ?_
  refine TriD.c1 rfl (op_mv (ltb rfl) rfl) ?_
  refine TriD.skipu rfl rfl (ltb rfl) (ltb rfl) rfl rfl ?_
  refine TriD.skipu rfl rfl (ltb rfl) (ltb rfl) rfl rfl ?_
  refine TriD.skipg rfl rfl (ltb rfl) (ltb rfl) rfl ?_
  refine TriD.skipg rfl rfl (ltb rfl) (ltb rfl) rfl ?_
  refine TriD.skipu rfl rfl (ltb rfl) (ltb rfl) rfl rfl ?_
  refine TriD.c1 rfl (op_pickt (ltb rfl) rfl rfl rfl) ?_
  refine TriD.c1 rfl (op_mv (ltb rfl) rfl) ?_
  refine TriD.skipu rfl rfl (ltb rfl) (ltb rfl) rfl rfl ?_
  refine TriD.skipu rfl rfl (ltb rfl) (ltb rfl) rfl rfl ?_
  refine TriD.skipu rfl rfl (ltb rfl) (ltb rfl) rfl rfl ?_
  refine TriD.skipu rfl rfl (ltb rfl) (ltb rfl) rfl rfl ?_
  refine TriD.skipu rfl rfl (ltb rfl) (ltb rfl) rfl rfl ?_
  refine TriD.skipu rfl rfl (ltb rfl) (ltb rfl) rfl rfl ?_
  refine TriD.skipu rfl rfl (ltb rfl) (ltb rfl) rfl rfl ?_
  refine TriD.skipu rfl rfl (ltb rfl) (ltb rfl) rfl rfl ?_
  refine TriD.skipu rfl rfl (ltb rfl) (ltb rfl) rfl rfl ?_
  refine TriD.skipu rfl rfl (ltb rfl) (ltb rfl) rfl rfl ?_
  refine TriD.skipu rfl rfl (ltb rfl) (ltb rfl) rfl rfl ?_
  refine TriD.skipu rfl rfl (ltb rfl) (ltb rfl) rfl rfl ?_
  refine TriD.skipu rfl rfl (ltb rfl) (ltb rfl) rfl rfl ?_
  refine TriD.c1 rfl (op_pickt (ltb rfl) rfl rfl rfl) ?_
  refine TriD.nil (by kernel_rfl) (Kept.now ?_)
  refine Tri.condT rfl rfl ?_
  refine Tri.seq ?_
  refine Tri.region ?_
  refine TriL.c1 rfl (op_bld (ltb rfl) spl35 zA35 rfl rfl) ?_
  refine TriL.c1 rfl (op_stl lk35 rfl rfl rfl rfl rfl (leb rfl)) ?_
  refine TriL.c1 rfl (op_as (ltb rfl) rfl) ?_
  refine TriL.nil ?_
  refine Tri.ret ?_
  exact ⟨.inr rfl, (ResOK.r2 rfl (.cell lk35 rfl rfl rfl rfl (.tmp rfl .nil))).cast (by rw [numTk_bad hb]; rfl), rfl⟩
theorem number_ok (s : List UInt8) (u : Nat) (hu : u < 18446744073709551616) (hs : s.length ≤ 1073741824) (hp : Pure Tryd.prog 38 [.str (((unsg s).drop (0 : Int).toNat).take (((spn isDig (unsg s) : Nat) : Int).toNat - (0 : Int).toNat)), .int .i64 10, .int .i64 64] (.tup [.int .u64 u, .nili])) (hk : Lib.parseUintB 64 (numS s) = .ok u) : Pure Tryd.prog 25 [.str s] (tkn (numTk s)) := by
  have h1 := unsg_le s
  have h2 := spn_le isDig (unsg s)
  have e1 : IntKind.i64.wrap (IntKind.i64.wrap ((s.length : Int) - ((unsg s).length : Int)) + ((spn isDig (unsg s) : Nat) : Int)) = ((numB s : Nat) : Int) := by
    rw [wr64 (n := (s.length : Int) - ((unsg s).length : Int)) (by omega) (by omega), wr64 (by omega) (by omega)]; unfold numB; omega
  have e3 : numB s ≤ s.length := by unfold numB; omega
  have e2 : (s.drop (0 : Int).toNat).take ((IntKind.i64.wrap (IntKind.i64.wrap ((s.length : Int) - ((unsg s).length : Int)) + ((spn isDig (unsg s) : Nat) : Int))).toNat - (0 : Int).toNat) = s.take (numB s) := by rw [e1]; simp
  refine Pure.of_tri Tryd.func25 rfl rfl (ltb rfl) fun H => ?_
  refine Tri.seq ?_
  refine Tri.region ?_
  refine TriL.c2 rfl (op_all (ltb rfl) zA35 rfl) ?_
  refine TriL.c1 rfl (op_as (ltb rfl) rfl) ?_
  refine TriL.nil ?_
  refine Tri.seq ?_
  refine Tri.region ?_
  refine TriL.c1 rfl (op_mv (ltb rfl) rfl) ?_
  refine TriL.c1 rfl (op_call (ltb rfl) fn37 rfl (cutneg_pure s)) ?_
  refine TriL.c1 rfl (op_mv (ltb rfl) rfl) ?_
  refine TriL.c1 rfl (op_ext (ltb rfl) rfl rfl) ?_
  refine TriL.c1 rfl (op_ext (ltb rfl) rfl rfl) ?_
  refine TriL.c1 rfl (op_as (ltb rfl) rfl) ?_
  refine TriL.c1 rfl (op_as (ltb rfl) rfl) ?_
  refine TriL.nil ?_
  refine Tri.seq ?_
  refine Tri.region ?_
  refine TriL.c1 rfl (op_mv (ltb rfl) rfl) ?_
  refine TriL.c1 rfl (op_call (ltb rfl) fn16 rfl (span_pure (unsg s) _ isDig digit_pure (by kernel_rfl) (by omega))) ?_
  refine TriL.c1 rfl (op_as (ltb rfl) rfl) ?_
  refine TriL.nil ?_
  refine Tri.seq ?_
  refine Tri.region ?_
  refine TriL.c1 rfl (op_mv (ltb rfl) rfl) ?_
  refine TriL.c1 rfl (op_mv (ltb rfl) rfl) ?_
  refine TriL.c1 rfl (op_cuts (ltb rfl) un9 rfl rfl rfl (by omega) (by omega) (by omega)) ?_
  refine TriL.c1 rfl (op_call (ltb rfl) fn38 rfl hp) ?_
  refine TriL.c1 rfl (op_mv (ltb rfl) rfl) ?_
  refine TriL.c1 rfl (op_ext (ltb rfl) rfl rfl) ?_
  refine TriL.c1 rfl (op_ext (ltb rfl) rfl rfl) ?_
  refine TriL.c1 rfl (op_as (ltb rfl) rfl) ?_
  refine TriL.c1 rfl (op_as (ltb rfl) rfl) ?_
  refine TriL.nil ?_
  refine Tri.seq ?_
  refine Tri.seq ?_
  refine Tri.drawn mixed rfl ?_
  refine TriD.c1 rfl (op_mv (ltb rfl) rfl) ?_
  refine TriD.c1 rfl (op_nei (ltb rfl) mi61 rfl rfl) ?_
  refine TriD.c1 rfl (op_mv (ltb rfl) rfl) ?_
  refine TriD.g1 rfl (ltb rfl) rfl rfl (op_mv (ltb rfl) rfl) ?_
  refine TriD.g1 rfl (ltb rfl) rfl rfl (op_mv (ltb rfl) rfl) ?_
  refine TriD.split (d := 27) rfl (fun hg1 => ?_) (fun hg1 => ?_)
  · refine TriD.g1 rfl (ltb rfl) rfl hg1 (op_mv (ltb rfl) rfl) ?_
    refine TriD.g1 rfl (ltb rfl) rfl hg1 (op_bin (ltb rfl) rfl rfl rfl) ?_
    refine TriD.g1 rfl (ltb rfl) rfl rfl (op_pickt (ltb rfl) rfl hg1 rfl) ?_
    refine TriD.c1 rfl (op_pickf (ltb rfl) rfl rfl rfl) ?_
    refine TriD.c1 rfl (op_mv (ltb rfl) rfl) ?_
    refine TriD.split (d := 32) rfl (fun hg2 => ?_) (fun hg2 => ?_)
    · refine TriD.skipu rfl rfl (ltb rfl) (ltb rfl) rfl hg2 ?_
      refine TriD.skipu rfl rfl (ltb rfl) (ltb rfl) rfl hg2 ?_
      refine TriD.skipu rfl rfl (ltb rfl) (ltb rfl) rfl hg2 ?_
      refine TriD.skipu rfl rfl (ltb rfl) (ltb rfl) rfl hg2 ?_
      refine TriD.skipu rfl rfl (ltb rfl) (ltb rfl) rfl hg2 ?_
      refine TriD.skipu rfl rfl (ltb rfl) (ltb rfl) rfl hg2 ?_
      refine TriD.skipu rfl rfl (ltb rfl) (ltb rfl) rfl hg2 ?_
      refine TriD.skipu rfl rfl (ltb rfl) (ltb rfl) rfl hg2 ?_
      refine TriD.skipu rfl rfl (ltb rfl) (ltb rfl) rfl hg2 ?_
      refine TriD.skipu rfl rfl (ltb rfl) (ltb rfl) rfl hg2 ?_
      refine TriD.skipu rfl rfl (ltb rfl) (ltb rfl) rfl hg2 ?_
      refine TriD.skipu rfl rfl (ltb rfl) (ltb rfl) rfl hg2 ?_
      refine TriD.skipu rfl rfl (ltb rfl) (ltb rfl) rfl hg2 ?_
      refine TriD.c1 rfl (op_pickt (ltb rfl) rfl hg2 rfl) ?_
      refine TriD.nil (by kernel_rfl) (Kept.now ?_)
      refine Tri.condT rfl rfl ?_
      refine Tri.seq ?_
      refine Tri.region ?_
      refine TriL.c1 rfl (op_bld (ltb rfl) spl35 zA35 rfl rfl) ?_
      refine TriL.c1 rfl (op_stl lk35 rfl rfl rfl rfl rfl (leb rfl)) ?_
      refine TriL.c1 rfl (op_as (ltb rfl) rfl) ?_
      refine TriL.nil ?_
      refine Tri.ret ?_
      exact ⟨.inr rfl, (ResOK.r2 rfl (.cell lk35 rfl rfl rfl rfl (.tmp rfl .nil))).cast (by rw [numTk_no hk (.inl ⟨hg1, by have := of_decide_eq_true hg2; omega⟩)]; rfl), rfl⟩
    · refine TriD.g1 rfl (ltb rfl) rfl hg2 (op_mv (ltb rfl) rfl) ?_
      refine TriD.g1 rfl (ltb rfl) rfl hg2 (op_mv (ltb rfl) rfl) ?_
      refine TriD.g1 rfl (ltb rfl) rfl hg2 (op_call (ltb rfl) fn13 rfl (digits_pure u (isNeg s) hu)) ?_
      refine TriD.g1 rfl (ltb rfl) rfl hg2 (op_mv (ltb rfl) rfl) ?_
      refine TriD.g1 rfl (ltb rfl) rfl hg2 (op_mv (ltb rfl) rfl) ?_
      refine TriD.g1 rfl (ltb rfl) rfl hg2 (op_lens (ltb rfl) un9 rfl) ?_
      refine TriD.g1 rfl (ltb rfl) rfl hg2 (op_mv (ltb rfl) rfl) ?_
      refine TriD.g1 rfl (ltb rfl) rfl hg2 (op_lens (ltb rfl) un9 rfl) ?_
      refine TriD.g1 rfl (ltb rfl) rfl hg2 (op_bin (ltb rfl) rfl rfl rfl) ?_
      refine TriD.g1 rfl (ltb rfl) rfl hg2 (op_mv (ltb rfl) rfl) ?_
      refine TriD.g1 rfl (ltb rfl) rfl hg2 (op_bin (ltb rfl) rfl rfl rfl) ?_
      refine TriD.g1 rfl (ltb rfl) rfl hg2 (op_cuts (ltb rfl) un9 rfl rfl rfl (by omega) (by have := e1; omega) (by have := e1; omega)) ?_
      refine TriD.g1 rfl (ltb rfl) rfl hg2 (op_bin (ltb rfl) rfl rfl rfl) ?_
      refine TriD.c1 rfl (op_pickf (ltb rfl) rfl hg2 rfl) ?_
      refine TriD.nil (by kernel_rfl) (Kept.now ?_)
      refine Tri.cond rfl (fun hc3 => ?_) (fun hc3 => ?_)
      · refine Tri.seq ?_
        refine Tri.region ?_
        refine TriL.c1 rfl (op_bld (ltb rfl) spl35 zA35 rfl rfl) ?_
        refine TriL.c1 rfl (op_stl lk35 rfl rfl rfl rfl rfl (leb rfl)) ?_
        refine TriL.c1 rfl (op_as (ltb rfl) rfl) ?_
        refine TriL.nil ?_
        refine Tri.ret ?_
        exact ⟨.inr rfl, (ResOK.r2 rfl (.cell lk35 rfl rfl rfl rfl (.tmp rfl .nil))).cast (by
            have hne : digs u (isNeg s) ≠ s.take (numB s) := by
              rw [← e2]
              intro e
              have h := hc3
              simp only [Bool.not_eq_true', beq_eq_false_iff_ne, ne_eq] at h
              exact h e
            rw [numTk_no hk (.inr hne)]; rfl), rfl⟩
      · refine Tri.skip ?_
        refine Tri.seq ?_
        refine Tri.region ?_
        refine TriL.c1 rfl (op_mv (ltb rfl) rfl) ?_
        refine TriL.c1 rfl (op_mv (ltb rfl) rfl) ?_
        refine TriL.c1 rfl (op_bld (ltb rfl) spl35 zA35 rfl rfl) ?_
        refine TriL.c1 rfl (op_mv (ltb rfl) rfl) ?_
        refine TriL.c1 rfl (op_lens (ltb rfl) un9 rfl) ?_
        refine TriL.c1 rfl (op_mv (ltb rfl) rfl) ?_
        refine TriL.c1 rfl (op_lens (ltb rfl) un9 rfl) ?_
        refine TriL.c1 rfl (op_bin (ltb rfl) rfl rfl rfl) ?_
        refine TriL.c1 rfl (op_mv (ltb rfl) rfl) ?_
        refine TriL.c1 rfl (op_bin (ltb rfl) rfl rfl rfl) ?_
        refine TriL.c1 rfl (op_stl lk35 rfl rfl rfl rfl rfl (leb rfl)) ?_
        refine TriL.c1 rfl (op_as (ltb rfl) rfl) ?_
        refine TriL.nil ?_
        refine Tri.ret ?_
        exact ⟨.inr rfl, (ResOK.r2 rfl (.cell lk35 rfl rfl rfl rfl (.tmp rfl .nil))).cast (by
            have heq : digs u (isNeg s) = s.take (numB s) := by
              rw [← e2]
              have h := hc3
              simp only [Bool.not_eq_false', beq_iff_eq] at h
              exact h
            rw [numTk_ok hk (fun h => (by have := of_decide_eq_false hg2; omega)) heq, e1]; rfl), rfl⟩
  · refine TriD.skipu rfl rfl (ltb rfl) (ltb rfl) rfl hg1 ?_
    refine TriD.skipu rfl rfl (ltb rfl) (ltb rfl) rfl hg1 ?_
    refine TriD.g1 rfl (ltb rfl) rfl rfl (op_pickf (ltb rfl) rfl hg1 rfl) ?_
    refine TriD.c1 rfl (op_pickf (ltb rfl) rfl rfl rfl) ?_
    refine TriD.c1 rfl (op_mv (ltb rfl) rfl) ?_
    refine TriD.g1 rfl (ltb rfl) rfl rfl (op_mv (ltb rfl) rfl) ?_
    refine TriD.g1 rfl (ltb rfl) rfl rfl (op_mv (ltb rfl) rfl) ?_
    refine TriD.g1 rfl (ltb rfl) rfl rfl (op_call (ltb rfl) fn13 rfl (digits_pure u (isNeg s) hu)) ?_
    refine TriD.g1 rfl (ltb rfl) rfl rfl (op_mv (ltb rfl) rfl) ?_
    refine TriD.g1 rfl (ltb rfl) rfl rfl (op_mv (ltb rfl) rfl) ?_
    refine TriD.g1 rfl (ltb rfl) rfl rfl (op_lens (ltb rfl) un9 rfl) ?_
    refine TriD.g1 rfl (ltb rfl) rfl rfl (op_mv (ltb rfl) rfl) ?_
    refine TriD.g1 rfl (ltb rfl) rfl rfl (op_lens (ltb rfl) un9 rfl) ?_
    refine TriD.g1 rfl (ltb rfl) rfl rfl (op_bin (ltb rfl) rfl rfl rfl) ?_
    refine TriD.g1 rfl (ltb rfl) rfl rfl (op_mv (ltb rfl) rfl) ?_
    refine TriD.g1 rfl (ltb rfl) rfl rfl (op_bin (ltb rfl) rfl rfl rfl) ?_
    refine TriD.g1 rfl (ltb rfl) rfl rfl (op_cuts (ltb rfl) un9 rfl rfl rfl (by omega) (by have := e1; omega) (by have := e1; omega)) ?_
    refine TriD.g1 rfl (ltb rfl) rfl rfl (op_bin (ltb rfl) rfl rfl rfl) ?_
    refine TriD.c1 rfl (op_pickf (ltb rfl) rfl rfl rfl) ?_
    refine TriD.nil (by kernel_rfl) (Kept.now ?_)
    refine Tri.cond rfl (fun hc4 => ?_) (fun hc4 => ?_)
    · refine Tri.seq ?_
      refine Tri.region ?_
      refine TriL.c1 rfl (op_bld (ltb rfl) spl35 zA35 rfl rfl) ?_
      refine TriL.c1 rfl (op_stl lk35 rfl rfl rfl rfl rfl (leb rfl)) ?_
      refine TriL.c1 rfl (op_as (ltb rfl) rfl) ?_
      refine TriL.nil ?_
      refine Tri.ret ?_
      exact ⟨.inr rfl, (ResOK.r2 rfl (.cell lk35 rfl rfl rfl rfl (.tmp rfl .nil))).cast (by
          have hne : digs u (isNeg s) ≠ s.take (numB s) := by
            rw [← e2]
            intro e
            have h := hc4
            simp only [Bool.not_eq_true', beq_eq_false_iff_ne, ne_eq] at h
            exact h e
          rw [numTk_no hk (.inr hne)]; rfl), rfl⟩
    · refine Tri.skip ?_
      refine Tri.seq ?_
      refine Tri.region ?_
      refine TriL.c1 rfl (op_mv (ltb rfl) rfl) ?_
      refine TriL.c1 rfl (op_mv (ltb rfl) rfl) ?_
      refine TriL.c1 rfl (op_bld (ltb rfl) spl35 zA35 rfl rfl) ?_
      refine TriL.c1 rfl (op_mv (ltb rfl) rfl) ?_
      refine TriL.c1 rfl (op_lens (ltb rfl) un9 rfl) ?_
      refine TriL.c1 rfl (op_mv (ltb rfl) rfl) ?_
      refine TriL.c1 rfl (op_lens (ltb rfl) un9 rfl) ?_
      refine TriL.c1 rfl (op_bin (ltb rfl) rfl rfl rfl) ?_
      refine TriL.c1 rfl (op_mv (ltb rfl) rfl) ?_
      refine TriL.c1 rfl (op_bin (ltb rfl) rfl rfl rfl) ?_
      refine TriL.c1 rfl (op_stl lk35 rfl rfl rfl rfl rfl (leb rfl)) ?_
      refine TriL.c1 rfl (op_as (ltb rfl) rfl) ?_
      refine TriL.nil ?_
      refine Tri.ret ?_
      exact ⟨.inr rfl, (ResOK.r2 rfl (.cell lk35 rfl rfl rfl rfl (.tmp rfl .nil))).cast (by
          have heq : digs u (isNeg s) = s.take (numB s) := by
            rw [← e2]
            have h := hc4
            simp only [Bool.not_eq_false', beq_iff_eq] at h
            exact h
          rw [numTk_ok hk (fun h => (by have h5 : isNeg s = false := hg1; rw [h5] at h; cases h.1)) heq, e1]; rfl), rfl⟩
theorem number_pure (s : List UInt8) (hs : s.length ≤ 1073741824) : Pure Tryd.prog 25 [.str s] (tkn (numTk s)) := by
  have h1 := unsg_le s
  have h2 := spn_le isDig (unsg s)
  have e : (((unsg s).drop (0 : Int).toNat).take (((spn isDig (unsg s) : Nat) : Int).toNat - (0 : Int).toNat)) = numS s := by simp [numS]
  have hl : (numS s).length ≤ 281474976710656 := by simp [numS]; omega
  by_cases hb : ∃ u, Lib.parseUintB 64 (numS s) = .ok u
  · obtain ⟨u, hk⟩ := hb
    exact number_ok s u (parse_lt hk) hs (by rw [e]; exact parse_ok _ hl u hk) hk
  · have hb' : ∀ u, Lib.parseUintB 64 (numS s) ≠ .ok u := fun u e => hb ⟨u, e⟩
    obtain ⟨u, hp⟩ := parse_bad _ hl hb'
    exact number_bad s u hs (by rw [e]; exact hp) hb'
end Go.Proofs.YthoncmadikifnaaDoor.X
