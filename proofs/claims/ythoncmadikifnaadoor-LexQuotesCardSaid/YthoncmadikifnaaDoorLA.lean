/- lex: a text, in the program and in the document. -/
import Derived.Test.YthoncmadikifnaaDoorL9
set_option linter.unusedVariables false
set_option linter.unusedSimpArgs false
set_option linter.unusedSectionVars false
set_option maxRecDepth 100000
namespace Go.Proofs.YthoncmadikifnaaDoor.X
open Go Go.RowKit Go.Proofs
theorem fn15 : isFn Tryd.prog 15 = true := by kernel_rfl
theorem fn39 : isFn Tryd.prog 39 = true := by kernel_rfl
theorem fn40 : isFn Tryd.prog 40 = true := by kernel_rfl
theorem fn41 : isFn Tryd.prog 41 = true := by kernel_rfl
theorem cutL {s : List UInt8} {j : Int} {a : Nat} (hj : j = a) : (s.drop j.toNat).take ((s.length : Int).toNat - j.toNat) = s.drop a := by
  subst hj; rw [List.take_of_length_le (by simp)]; simp
theorem idx' {s : List UInt8} {j : Int} {a : Nat} (hj : j = a) : Pure Tryd.prog 39 [.str ((s.drop j.toNat).take ((s.length : Int).toNat - j.toNat)), .str [39]] (.int .i64 (Lib.indexByte (s.drop a) 39)) := by
  rw [cutL hj]; exact index_pure _ 39
theorem has' {s : List UInt8} {j : Int} {a : Nat} (p : List UInt8) (hj : j = a) : Pure Tryd.prog 15 [.str ((s.drop j.toNat).take ((s.length : Int).toNat - j.toNat)), .str p] (.bool (Lib.hasPrefix (s.drop a) p)) := by
  rw [cutL hj]; exact has_pure _ p
theorem txtGo_ne {c : UInt8} {r out : List UInt8} {p : Nat} (h : c ≠ 39) : txtGo (c :: r) out p = txtGo r (out ++ [c]) (p + 1) := by
  cases r <;> simp [txtGo, h]
theorem txt_none : ∀ (l out : List UInt8) (p : Nat), 39 ∉ l → txtGo l out p = none
  | [], _, _, _ => by rw [txtGo]
  | c :: r, out, p, h => by
    have h1 : c ≠ 39 := fun e => h (by rw [e]; exact List.mem_cons_self ..)
    rw [txtGo_ne h1]
    exact txt_none r _ _ fun e => h (List.mem_cons_of_mem _ e)
theorem txt_run : ∀ (n : Nat) (l out : List UInt8) (p : Nat), l[n]? = some 39 → 39 ∉ l.take n → txtGo l out p = txtGo (l.drop n) (out ++ l.take n) (p + n)
  | 0, l, out, p, _, _ => by simp
  | n + 1, [], out, p, h, _ => by simp at h
  | n + 1, c :: r, out, p, h, h2 => by
    have h1 : c ≠ 39 := fun e => h2 (by rw [e]; simp)
    rw [txtGo_ne h1, txt_run n r (out ++ [c]) (p + 1) (by simpa using h) (fun e => h2 (by simp [e]))]
    simp only [List.drop_succ_cons, List.take_succ_cons, List.append_assoc, List.cons_append, List.nil_append]
    congr 1; omega
theorem hasP39 {l : List UInt8} : (Lib.hasPrefix l [39] = true → ∃ r, l = 39 :: r) ∧ (Lib.hasPrefix l [39] = false → ∀ r, l ≠ 39 :: r) := by
  cases l with
  | nil => exact ⟨fun h => by simp [Lib.hasPrefix] at h, fun _ r e => by cases e⟩
  | cons c r =>
    have e : Lib.hasPrefix (c :: r) [39] = (39 == c) := by simp [Lib.hasPrefix, List.isPrefixOf]
    rw [e]
    exact ⟨fun h => ⟨r, by rw [eq_of_beq h]⟩, fun h r' e => by cases e; simp at h⟩
theorem txt_end {l out : List UInt8} {p : Nat} (h : ∀ r, l ≠ 39 :: r) : txtGo (39 :: l) out p = some (out, p + 1) := by
  cases l with
  | nil => simp [txtGo]
  | cons d r =>
    have hd : d ≠ 39 := fun e => h r (by rw [e])
    simp [txtGo, hd]
theorem txt_two {l out : List UInt8} {p : Nat} : txtGo (39 :: 39 :: l) out p = txtGo l (out ++ [39]) (p + 2) := by
  simp [txtGo]
theorem txtTk_none {s : List UInt8} (h : txtT s = none) : txtTk s = zeroT := by unfold txtTk; rw [h]
theorem txtTk_some {s o : List UInt8} {k : Nat} (h : txtT s = some (o, k)) : txtTk s = (⟨3, o, 0, false, 0⟩, k) := by unfold txtTk; rw [h]
theorem txtT_no {s : List UInt8} (h : Lib.hasPrefix s [39] = false) : txtT s = none := by
  cases s with
  | nil => rfl
  | cons c r => rw [txtT, if_neg (fun e => hasP39.2 h r (by rw [e]))]
theorem txtT_yes {s : List UInt8} (h : Lib.hasPrefix s [39] = true) : 1 ≤ s.length ∧ txtT s = txtGo (s.drop 1) [] 1 := by
  obtain ⟨r, rfl⟩ := hasP39.1 h
  exact ⟨by simp, by rw [txtT, if_pos rfl]; rfl⟩
def StTx (H : Hp) (s out : List UInt8) (c0 : Sv) (j : Int) : St := [(.h, .hp H), (.s 0, .sv (.v (.str s))), (.s 2, .sv (.lp 2 0)), (.b 2, .bx [.v (.int .i64 0), .v (.str []), .v (.int .u64 0), .v (.bool false), .v (.int .i64 0)]),
  (.s 4, .sv (.lp 4 0)), (.b 4, .bt 66 [c0, .om 904 out.length]), (.t 904, .tk true 5 1 (bsl out)), (.s 5, .sv (.v (.int .i64 j)))]
theorem text_pure (s : List UInt8) (hs : s.length ≤ 1073741824) : Pure Tryd.prog 26 [.str s] (tkn (txtTk s)) := by
  refine Pure.of_tri Tryd.func26 rfl rfl (ltb rfl) fun H => ?_
  refine Tri.seq ?_
  refine Tri.region ?_
  refine TriL.c2 rfl (op_all (ltb rfl) zA35 rfl) ?_
  refine TriL.c1 rfl (op_as (ltb rfl) rfl) ?_
  refine TriL.nil ?_
  refine Tri.seq ?_
  refine Tri.seq ?_
  refine Tri.region ?_
  refine TriL.c1 rfl (op_mv (ltb rfl) rfl) ?_
  refine TriL.c1 rfl (op_call (ltb rfl) fn15 rfl (has_pure s [39])) ?_
  refine TriL.c1 rfl (op_un (ltb rfl) rfl rfl) ?_
  refine TriL.nil ?_
  refine Tri.cond rfl (fun hc1 => ?_) (fun hc1 => ?_)
  · refine Tri.seq ?_
    refine Tri.region ?_
    refine TriL.c1 rfl (op_bld (ltb rfl) spl35 zA35 rfl rfl) ?_
    refine TriL.c1 rfl (op_stl lk35 rfl rfl rfl rfl rfl (leb rfl)) ?_
    refine TriL.c1 rfl (op_as (ltb rfl) rfl) ?_
    refine TriL.nil ?_
    refine Tri.ret ?_
    exact ⟨.inr rfl, (ResOK.r2 rfl (.cell lk35 rfl rfl rfl rfl (.tmp rfl .nil))).cast (by
        have h : Lib.hasPrefix s [39] = false := by simpa using hc1
        rw [txtTk_none (txtT_no h)]; rfl), rfl⟩
  · have hp : Lib.hasPrefix s [39] = true := by simpa using hc1
    obtain ⟨hl1, hT⟩ := txtT_yes hp
    refine Tri.skip ?_
    refine Tri.seq ?_
    refine Tri.region ?_
    refine TriL.c3 rfl (op_alb (f := 904) (ltb rfl) rfl rfl) ?_
    refine TriL.nil ?_
    refine Tri.seq ?_
    refine Tri.region ?_
    refine TriL.c1 rfl (op_as (ltb rfl) rfl) ?_
    refine TriL.kept (Kept.keep [.h, .s 0, .s 2, .b 2, .s 4, .b 4, .t 904, .s 5] rfl (by decide) (Kept.now ?_))
    refine Tri.blk ?_
    -- LOOP 1: KEEP
    refine Tri.loop (fun q w => ∃ (a : Nat) (out : List UInt8) (c0 : Sv) (j : Int), w = StTx H s out c0 j ∧ (c0 = .v .nilp ∨ c0 = .lp 4 0) ∧ j = a ∧ a ≤ s.length ∧ out.length ≤ a ∧ txtT s = txtGo (s.drop a) out a ∧ q = s.length - a) ?_ (n := s.length - 1) ⟨1, [], .v .nilp, 1, rfl, .inl rfl, rfl, hl1, by simp, hT, rfl⟩
    rintro q w ⟨a, out, c0, j, rfl, hc0, hj, ha, ho, hI, rfl⟩
    have hib := ib_spec 39 (s.drop a)
    refine Tri.blk ?_
    refine Tri.seq ?_
    refine Tri.region ?_
    refine TriL.c1 rfl (op_mv (ltb rfl) rfl) ?_
    refine TriL.c1 rfl (op_mv (ltb rfl) rfl) ?_
    refine TriL.c1 rfl (op_cuts (ltb rfl) un9 rfl rfl rfl (by omega) (by omega) (by omega)) ?_
    refine TriL.c1 rfl (op_call (ltb rfl) fn39 rfl (idx' hj)) ?_
    refine TriL.c1 rfl (op_as (ltb rfl) rfl) ?_
    refine TriL.nil ?_
    refine Tri.seq ?_
    refine Tri.seq ?_
    refine Tri.region ?_
    refine TriL.c1 rfl (op_mv (ltb rfl) rfl) ?_
    refine TriL.c1 rfl (op_bin (ltb rfl) rfl rfl rfl) ?_
    refine TriL.nil ?_
    refine Tri.cond rfl (fun hc2 => ?_) (fun hc2 => ?_)
    · have hno : 39 ∉ s.drop a := by
          rcases hib with ⟨_, h⟩ | ⟨n, h, _⟩
          · exact h
          · have := of_decide_eq_true hc2; omega
      refine Tri.seq ?_
      refine Tri.region ?_
      refine TriL.c1 rfl (op_bld (ltb rfl) spl35 zA35 rfl rfl) ?_
      refine TriL.c1 rfl (op_stl lk35 rfl rfl rfl rfl rfl (leb rfl)) ?_
      refine TriL.c1 rfl (op_as (ltb rfl) rfl) ?_
      refine TriL.nil ?_
      refine Tri.ret ?_
      exact ⟨.inr rfl, (ResOK.r2 rfl (.cell lk35 rfl rfl rfl rfl (.tmp rfl .nil))).cast (by rw [txtTk_none (hI.trans (txt_none _ _ _ hno))]; rfl), rfl⟩
    · obtain ⟨n, e1, e2, e3⟩ : ∃ n : Nat, Lib.indexByte (s.drop a) 39 = n ∧ (s.drop a)[n]? = some 39 ∧ 39 ∉ (s.drop a).take n := by
          rcases hib with ⟨h, _⟩ | h
          · have := of_decide_eq_false hc2; omega
          · exact h
      have hlt : a + n < s.length := by
        have := (List.getElem?_eq_some_iff.1 e2).1
        rw [List.length_drop] at this; omega
      have hw : IntKind.i64.wrap (j + Lib.indexByte (s.drop a) 39) = ((a + n : Nat) : Int) := by rw [e1, hj, wr64] <;> omega
      have hw2 : IntKind.i64.wrap (j + IntKind.i64.wrap (Lib.indexByte (s.drop a) 39 + 1)) = ((a + n + 1 : Nat) : Int) := by rw [e1, hj, wr64 (n := (n : Int) + 1) (by omega) (by omega), wr64] <;> omega
      have hseg : (s.drop j.toNat).take ((IntKind.i64.wrap (j + Lib.indexByte (s.drop a) 39)).toNat - j.toNat) = (s.drop a).take n := by rw [hw, hj]; congr 1; omega
      have hR : txtT s = txtGo (39 :: s.drop (a + n + 1)) (out ++ (s.drop a).take n) (a + n) := by
        rw [hI, txt_run n _ _ _ e2 e3, List.drop_drop]
        have e4 : s[a + n]? = some 39 := by rw [List.getElem?_drop] at e2; exact e2
        obtain ⟨h5, h6⟩ := List.getElem?_eq_some_iff.1 e4
        rw [List.drop_eq_getElem_cons h5, h6]
      have hsl : ((s.drop a).take n).length = n := by rw [List.length_take, List.length_drop]; omega
      refine Tri.skip ?_
      refine Tri.seq ?_
      refine Tri.region ?_
      refine TriL.c1 rfl (op_mv (ltb rfl) rfl) ?_
      refine TriL.c1 rfl (op_mv (ltb rfl) rfl) ?_
      refine TriL.c1 rfl (op_mv (ltb rfl) rfl) ?_
      refine TriL.c1 rfl (op_mv (ltb rfl) rfl) ?_
      refine TriL.c1 rfl (op_bin (ltb rfl) rfl rfl rfl) ?_
      refine TriL.c1 rfl (op_cuts (ltb rfl) un9 rfl rfl rfl (by omega) (by rw [hw]; omega) (by rw [hw]; omega)) ?_
      refine TriL.c4 rfl (op_bws (ltb rfl) rfl rfl hc0 rfl rfl rfl fn40 (by rw [hseg, hsl]; omega)) ?_
      refine TriL.nil ?_
      refine Tri.seq ?_
      refine Tri.region ?_
      refine TriL.c1 rfl (op_mv (ltb rfl) rfl) ?_
      refine TriL.c1 rfl (op_mv (ltb rfl) rfl) ?_
      refine TriL.c1 rfl (op_bin (ltb rfl) rfl rfl rfl) ?_
      refine TriL.c1 rfl (op_bin (ltb rfl) rfl rfl rfl) ?_
      refine TriL.c1 rfl (op_as (ltb rfl) rfl) ?_
      refine TriL.nil ?_
      refine Tri.seq ?_
      refine Tri.seq ?_
      refine Tri.region ?_
      refine TriL.c1 rfl (op_mv (ltb rfl) rfl) ?_
      refine TriL.c1 rfl (op_mv (ltb rfl) rfl) ?_
      refine TriL.c1 rfl (op_cuts (ltb rfl) un9 rfl rfl rfl (by rw [hw2]; omega) (by rw [hw2]; omega) (by omega)) ?_
      refine TriL.c1 rfl (op_call (ltb rfl) fn15 rfl (has' [39] hw2)) ?_
      refine TriL.c1 rfl (op_un (ltb rfl) rfl rfl) ?_
      refine TriL.nil ?_
      refine Tri.cond rfl (fun hc3 => ?_) (fun hc3 => ?_)
      · refine Tri.seq ?_
        refine Tri.region ?_
        refine TriL.c3 rfl (op_bstr (ltb rfl) rfl rfl (.inr rfl) rfl rfl fn41) ?_
        refine TriL.c1 rfl (op_bld (ltb rfl) spl35 zA35 rfl rfl) ?_
        refine TriL.c1 rfl (op_mv (ltb rfl) rfl) ?_
        refine TriL.c1 rfl (op_stl lk35 rfl rfl rfl rfl rfl (leb rfl)) ?_
        refine TriL.c1 rfl (op_as (ltb rfl) rfl) ?_
        refine TriL.nil ?_
        refine Tri.ret ?_
        exact ⟨.inr rfl, (ResOK.r2 rfl (.cell lk35 rfl rfl rfl rfl (.tmp rfl .nil))).cast (by
            have h : Lib.hasPrefix (s.drop (a + n + 1)) [39] = false := by simpa using hc3
            rw [txtTk_some (hR.trans (txt_end (hasP39.2 h))), hseg, hw2]; rfl), rfl⟩
      · refine Tri.skip ?_
        refine Tri.seq ?_
        refine Tri.region ?_
        refine TriL.c4 rfl (op_bws (ltb rfl) rfl rfl (.inr rfl) rfl rfl rfl fn40 (by rw [List.length_append, hseg, hsl]; simp; omega)) ?_
        refine TriL.nil ?_
        refine Tri.region ?_
        refine TriL.c1 rfl (op_mv (ltb rfl) rfl) ?_
        refine TriL.c1 rfl (op_bin (ltb rfl) rfl rfl rfl) ?_
        refine TriL.c1 rfl (op_as (ltb rfl) rfl) ?_
        refine TriL.kept (Kept.keep [.h, .s 0, .s 2, .b 2, .s 4, .b 4, .t 37, .s 5] rfl (by decide) (Kept.ren 37 904 (by decide) rfl (Kept.now ?_)))
        have h : Lib.hasPrefix (s.drop (a + n + 1)) [39] = true := by simpa using hc3
        obtain ⟨r', hr'⟩ := hasP39.1 h
        have hl2 : a + n + 1 < s.length := by
          have e := congrArg List.length hr'
          rw [List.length_drop, List.length_cons] at e; omega
        have hdr : s.drop (a + n + 2) = r' := by
          have e := congrArg (List.drop 1) hr'
          rw [List.drop_drop] at e; exact e
        refine ⟨s.length - (a + n + 2), by omega, a + n + 2, (out ++ (s.drop j.toNat).take ((IntKind.i64.wrap (j + Lib.indexByte (s.drop a) 39)).toNat - j.toNat)) ++ [39], .lp 4 0, IntKind.i64.wrap (IntKind.i64.wrap (j + IntKind.i64.wrap (Lib.indexByte (s.drop a) 39 + 1)) + 1), rfl, .inr rfl, by rw [hw2, wr64] <;> omega, by omega, ?_, ?_, rfl⟩
        · rw [hseg, List.length_append, List.length_append, hsl]; simp; omega
        · rw [hseg, hR, hr', txt_two, hdr]
def txtR (s : List UInt8) : AV := match txtT s with
  | some (o, k) => .tup [.str o, .int .i64 k]
  | none => .tup [.str [], .int .i64 (0 : Nat)]
theorem txtR_none {s : List UInt8} (h : txtT s = none) : txtR s = .tup [.str [], .int .i64 (0 : Nat)] := by unfold txtR; rw [h]
theorem txtR_some {s o : List UInt8} {k : Nat} (h : txtT s = some (o, k)) : txtR s = .tup [.str o, .int .i64 k] := by unfold txtR; rw [h]
theorem txtT_not {c : UInt8} {r : List UInt8} (h : c ≠ 39) : txtT (c :: r) = none := by rw [txtT, if_neg h]
theorem q39 {c : UInt8} (h : (!((c.toNat : Int) == 39)) = false) : c = 39 := UInt8.toNat_inj.1 (by
  have h2 : ((c.toNat : Int) == 39) = true := by simpa using h
  have h3 := eq_of_beq h2
  have e : (39 : UInt8).toNat = 39 := rfl
  omega)
theorem drop_at {s : List UInt8} {i : Nat} {c : UInt8} (h : s[i]? = some c) : s.drop i = c :: s.drop (i + 1) := by
  obtain ⟨h5, h6⟩ := List.getElem?_eq_some_iff.1 h
  rw [List.drop_eq_getElem_cons h5, h6]
def StRt (H : Hp) (s out : List UInt8) (j : Int) : St := [(.h, .hp H), (.s 0, .sv (.v (.str s))), (.s 4, .sv (.ow 6 (bsl out))), (.t 6, .tk false 5 1 (bsl out)), (.s 5, .sv (.v (.int .i64 j)))]
theorem rtext_pure (s : List UInt8) (hs : s.length ≤ 1073741824) : Pure Tryd.prog 30 [.str s] (txtR s) := by
  refine Pure.of_tri Tryd.func30 rfl rfl (ltb rfl) fun H => ?_
  refine Tri.seq ?_
  refine Tri.region ?_
  refine TriL.c1 rfl (op_as (ltb rfl) rfl) ?_
  refine TriL.c1 rfl (op_as (ltb rfl) rfl) ?_
  refine TriL.nil ?_
  refine Tri.seq ?_
  refine Tri.region ?_
  refine TriL.c2 rfl (op_litt («as» := []) (ltb rfl) se51 zAe51 rfl rfl rfl (leb rfl) rfl) ?_
  refine TriL.c1 rfl (op_as (ltb rfl) rfl) ?_
  refine TriL.nil ?_
  refine Tri.seq ?_
  refine Tri.region ?_
  refine TriL.c1 rfl (op_as (ltb rfl) rfl) ?_
  refine TriL.kept (Kept.keep [.h, .s 0, .s 4, .t 6, .s 5] rfl (by decide) (Kept.now ?_))
  refine Tri.seq ?_
  refine Tri.blk ?_
  -- LOOP 1: KEEP
  refine Tri.loop (fun q w => ∃ (a : Nat) (out : List UInt8) (j : Int), w = StRt H s out j ∧ j = a ∧ 1 ≤ a ∧ a ≤ s.length + 1 ∧ out.length ≤ a ∧ (s[0]? = some 39 → txtT s = txtGo (s.drop a) out a) ∧ q = s.length + 1 - a) ?_ (n := s.length) ⟨1, [], 1, rfl, rfl, by omega, by omega, by simp, fun h => by rw [(txtT_yes (s := s) (by cases s with | nil => simp at h | cons c r => simp at h; subst h; simp [Lib.hasPrefix, List.isPrefixOf])).2], rfl⟩
  rintro q w ⟨a, out, j, rfl, hj, ha1, ha, ho, hI, rfl⟩
  refine Tri.seq ?_
  refine Tri.seq ?_
  refine Tri.region ?_
  refine TriL.c1 rfl (op_mv (ltb rfl) rfl) ?_
  refine TriL.c1 rfl (op_lens (ltb rfl) un9 rfl) ?_
  refine TriL.c1 rfl (op_bin (ltb rfl) rfl rfl rfl) ?_
  refine TriL.c1 rfl (op_mv (ltb rfl) rfl) ?_
  refine TriL.split (d := 10) rfl (fun hg1 => ?_) (fun hg1 => ?_)
  · obtain ⟨c0, hc0⟩ : ∃ c, s[0]? = some c := ⟨s[0]'(by have := of_decide_eq_true hg1; omega), List.getElem?_eq_getElem _⟩
    refine TriL.g1 rfl (ltb rfl) rfl hg1 (op_mv (ltb rfl) rfl) ?_
    refine TriL.g1 rfl (ltb rfl) rfl hg1 (op_ixs (ltb rfl) un9 rfl rfl (by decide) hc0) ?_
    refine TriL.g1 rfl (ltb rfl) rfl hg1 (op_bin (ltb rfl) rfl rfl rfl) ?_
    refine TriL.c1 rfl (op_pickt (ltb rfl) rfl hg1 rfl) ?_
    refine TriL.c1 rfl (op_mv (ltb rfl) rfl) ?_
    refine TriL.split (d := 15) rfl (fun hg2 => ?_) (fun hg2 => ?_)
    · have hq : c0 = 39 := UInt8.toNat_inj.1 (by have := eq_of_beq hg2; have e : (39 : UInt8).toNat = 39 := rfl; omega)
      subst hq
      have hI := hI hc0
      refine TriL.g1 rfl (ltb rfl) rfl hg2 (op_mv (ltb rfl) rfl) ?_
      refine TriL.g1 rfl (ltb rfl) rfl hg2 (op_mv (ltb rfl) rfl) ?_
      refine TriL.g1 rfl (ltb rfl) rfl hg2 (op_lens (ltb rfl) un9 rfl) ?_
      refine TriL.g1 rfl (ltb rfl) rfl hg2 (op_bin (ltb rfl) rfl rfl rfl) ?_
      refine TriL.c1 rfl (op_pickt (ltb rfl) rfl hg2 rfl) ?_
      refine TriL.nil ?_
      refine Tri.cond rfl (fun hc3 => ?_) (fun hc3 => ?_)
      · have hlt : a < s.length := by have := of_decide_eq_true hc3; omega
        obtain ⟨c, hc⟩ : ∃ c, s[a]? = some c := ⟨s[a], List.getElem?_eq_getElem hlt⟩
        have hda := drop_at hc
        refine Tri.skip ?_
        refine Tri.blk ?_
        refine Tri.seq ?_
        refine Tri.seq ?_
        refine Tri.region ?_
        refine TriL.c1 rfl (op_mv (ltb rfl) rfl) ?_
        refine TriL.c1 rfl (op_mv (ltb rfl) rfl) ?_
        refine TriL.c1 rfl (op_ixs (ltb rfl) un9 rfl rfl (by omega) (ixc hj hc)) ?_
        refine TriL.c1 rfl (op_bin (ltb rfl) rfl rfl rfl) ?_
        refine TriL.nil ?_
        refine Tri.cond rfl (fun hc4 => ?_) (fun hc4 => ?_)
        · have hne : c ≠ 39 := fun e => by subst e; revert hc4; decide
          have hnx : txtT s = txtGo (s.drop (a + 1)) (out ++ [c]) (a + 1) := by rw [hI, hda, txtGo_ne hne]
          refine Tri.seq ?_
          refine Tri.region ?_
          refine TriL.c1 rfl (op_mv (ltb rfl) rfl) ?_
          refine TriL.c1 rfl (op_mv (ltb rfl) rfl) ?_
          refine TriL.c1 rfl (op_mv (ltb rfl) rfl) ?_
          refine TriL.c1 rfl (op_ixs (ltb rfl) un9 rfl rfl (by omega) (ixc hj hc)) ?_
          refine TriL.c1 rfl (op_lit («as» := [_]) (ltb rfl) se51 zAe51 rfl rfl rfl (leb rfl)) ?_
          refine TriL.c3 rfl (op_app (ltb rfl) se51 rfl rfl rfl rfl rfl (by simp [bsl_len]; omega) (by simp [bsl_len]; omega)) ?_
          refine TriL.c1 rfl (op_as (ltb rfl) rfl) ?_
          refine TriL.nil ?_
          refine Tri.seq ?_
          refine Tri.region ?_
          refine TriL.c1 rfl (op_mv (ltb rfl) rfl) ?_
          refine TriL.c1 rfl (op_bin (ltb rfl) rfl rfl rfl) ?_
          refine TriL.c1 rfl (op_as (ltb rfl) rfl) ?_
          refine TriL.kept (Kept.keep [.h, .s 0, .s 4, .t 30, .s 5] rfl (by decide) (Kept.ren 30 6 (by decide) rfl (Kept.now ?_)))
          refine Tri.exit ?_
          exact ⟨s.length + 1 - (a + 1), by omega, a + 1, out ++ [c], IntKind.i64.wrap (j + 1), by unfold StRt; rw [show bsl (out ++ [c]) = bsl out ++ [.int .u8 ((c : UInt8).toNat : Int)] from bsl_app out [c]]; rfl, by rw [hj, wr64] <;> omega, by omega, by omega, by simp; omega, fun _ => hnx, rfl⟩
        · have hq : c = 39 := q39 hc4
          subst hq
          have hw1 : IntKind.i64.wrap (j + 1) = ((a + 1 : Nat) : Int) := by rw [hj, wr64] <;> omega
          refine Tri.skip ?_
          refine Tri.seq ?_
          refine Tri.seq ?_
          refine Tri.region ?_
          refine TriL.c1 rfl (op_mv (ltb rfl) rfl) ?_
          refine TriL.c1 rfl (op_bin (ltb rfl) rfl rfl rfl) ?_
          refine TriL.c1 rfl (op_mv (ltb rfl) rfl) ?_
          refine TriL.c1 rfl (op_lens (ltb rfl) un9 rfl) ?_
          refine TriL.c1 rfl (op_bin (ltb rfl) rfl rfl rfl) ?_
          refine TriL.c1 rfl (op_mv (ltb rfl) rfl) ?_
          refine TriL.split (d := 38) rfl (fun hg5 => ?_) (fun hg5 => ?_)
          · refine TriL.skipu rfl rfl (ltb rfl) (ltb rfl) rfl hg5 ?_
            refine TriL.skipu rfl rfl (ltb rfl) (ltb rfl) rfl hg5 ?_
            refine TriL.skipu rfl rfl (ltb rfl) (ltb rfl) rfl hg5 ?_
            refine TriL.skipu rfl rfl (ltb rfl) (ltb rfl) rfl hg5 ?_
            refine TriL.skipu rfl rfl (ltb rfl) (ltb rfl) rfl hg5 ?_
            refine TriL.c1 rfl (op_pickt (ltb rfl) rfl hg5 rfl) ?_
            refine TriL.nil ?_
            refine Tri.condT rfl rfl ?_
            refine Tri.seq ?_
            refine Tri.region ?_
            refine TriL.c1 rfl (op_mv (ltb rfl) rfl) ?_
            refine TriL.c1 rfl (op_b2s (ltb rfl) un51 unel51 un9 rfl (bytesOf_bsl _)) ?_
            refine TriL.c1 rfl (op_mv (ltb rfl) rfl) ?_
            refine TriL.c1 rfl (op_bin (ltb rfl) rfl rfl rfl) ?_
            refine TriL.c1 rfl (op_as (ltb rfl) rfl) ?_
            refine TriL.c1 rfl (op_as (ltb rfl) rfl) ?_
            refine TriL.nil ?_
            refine Tri.ret ?_
            exact ⟨.inr rfl, (ResOK.r2 rfl (.tmp rfl (.tmp rfl .nil))).cast (by
                            have he : s.drop (a + 1) = [] := List.drop_of_length_le (by have := of_decide_eq_true hg5; rw [hw1] at this; omega)
                            rw [txtR_some (hI.trans (by rw [hda, he]; exact txt_end (fun r e => by cases e))), hw1]), rfl⟩
          · have hlt2 : a + 1 < s.length := by have := of_decide_eq_false hg5; rw [hw1] at this; omega
            obtain ⟨d, hd⟩ : ∃ d, s[a + 1]? = some d := ⟨s[a + 1], List.getElem?_eq_getElem hlt2⟩
            have hdb := drop_at hd
            refine TriL.g1 rfl (ltb rfl) rfl hg5 (op_mv (ltb rfl) rfl) ?_
            refine TriL.g1 rfl (ltb rfl) rfl hg5 (op_mv (ltb rfl) rfl) ?_
            refine TriL.g1 rfl (ltb rfl) rfl hg5 (op_bin (ltb rfl) rfl rfl rfl) ?_
            refine TriL.g1 rfl (ltb rfl) rfl hg5 (op_ixs (ltb rfl) un9 rfl rfl (by rw [hw1]; omega) (ixc hw1 hd)) ?_
            refine TriL.g1 rfl (ltb rfl) rfl hg5 (op_bin (ltb rfl) rfl rfl rfl) ?_
            refine TriL.c1 rfl (op_pickf (ltb rfl) rfl hg5 rfl) ?_
            refine TriL.nil ?_
            refine Tri.cond rfl (fun hc6 => ?_) (fun hc6 => ?_)
            · refine Tri.seq ?_
              refine Tri.region ?_
              refine TriL.c1 rfl (op_mv (ltb rfl) rfl) ?_
              refine TriL.c1 rfl (op_b2s (ltb rfl) un51 unel51 un9 rfl (bytesOf_bsl _)) ?_
              refine TriL.c1 rfl (op_mv (ltb rfl) rfl) ?_
              refine TriL.c1 rfl (op_bin (ltb rfl) rfl rfl rfl) ?_
              refine TriL.c1 rfl (op_as (ltb rfl) rfl) ?_
              refine TriL.c1 rfl (op_as (ltb rfl) rfl) ?_
              refine TriL.nil ?_
              refine Tri.ret ?_
              exact ⟨.inr rfl, (ResOK.r2 rfl (.tmp rfl (.tmp rfl .nil))).cast (by
                                have hne : d ≠ 39 := fun e => by subst e; revert hc6; decide
                                rw [txtR_some (hI.trans (by rw [hda, hdb]; exact txt_end (fun r e => hne (by cases e; rfl)))), hw1]), rfl⟩
            · have hq : d = 39 := q39 hc6
              subst hq
              have hnx : txtT s = txtGo (s.drop (a + 2)) (out ++ [39]) (a + 2) := by rw [hI, hda, hdb, txt_two]
              refine Tri.skip ?_
              refine Tri.seq ?_
              refine Tri.region ?_
              refine TriL.c1 rfl (op_mv (ltb rfl) rfl) ?_
              refine TriL.c1 rfl (op_lit («as» := [_]) (ltb rfl) se51 zAe51 rfl rfl rfl (leb rfl)) ?_
              refine TriL.c3 rfl (op_app (ltb rfl) se51 rfl rfl rfl rfl rfl (by simp [bsl_len]; omega) (by simp [bsl_len]; omega)) ?_
              refine TriL.c1 rfl (op_as (ltb rfl) rfl) ?_
              refine TriL.nil ?_
              refine Tri.region ?_
              refine TriL.c1 rfl (op_mv (ltb rfl) rfl) ?_
              refine TriL.c1 rfl (op_bin (ltb rfl) rfl rfl rfl) ?_
              refine TriL.c1 rfl (op_as (ltb rfl) rfl) ?_
              refine TriL.kept (Kept.keep [.h, .s 0, .s 4, .t 51, .s 5] rfl (by decide) (Kept.ren 51 6 (by decide) rfl (Kept.now ?_)))
              exact ⟨s.length + 1 - (a + 2), by omega, a + 2, out ++ [39], IntKind.i64.wrap (j + 2), by unfold StRt; rw [show bsl (out ++ [39]) = bsl out ++ [.int .u8 ((39 : UInt8).toNat : Int)] from bsl_app out [39]]; rfl, by rw [hj, wr64] <;> omega, by omega, by omega, by simp; omega, fun _ => hnx, rfl⟩
      · refine Tri.exit ?_
        refine Tri.seq ?_
        refine Tri.region ?_
        refine TriL.c1 rfl (op_as (ltb rfl) rfl) ?_
        refine TriL.c1 rfl (op_as (ltb rfl) rfl) ?_
        refine TriL.nil ?_
        refine Tri.ret ?_
        exact ⟨.inr rfl, (ResOK.r2 rfl (.tmp rfl (.tmp rfl .nil))).cast (by rw [txtR_none (hI.trans (by rw [List.drop_of_length_le (by have := of_decide_eq_false hc3; omega)]; rw [txtGo]))]; rfl), rfl⟩
    · refine TriL.skipu rfl rfl (ltb rfl) (ltb rfl) rfl hg2 ?_
      refine TriL.skipu rfl rfl (ltb rfl) (ltb rfl) rfl hg2 ?_
      refine TriL.skipu rfl rfl (ltb rfl) (ltb rfl) rfl hg2 ?_
      refine TriL.skipu rfl rfl (ltb rfl) (ltb rfl) rfl hg2 ?_
      refine TriL.c1 rfl (op_pickf (ltb rfl) rfl hg2 rfl) ?_
      refine TriL.nil ?_
      refine Tri.condF rfl rfl ?_
      refine Tri.exit ?_
      refine Tri.seq ?_
      refine Tri.region ?_
      refine TriL.c1 rfl (op_as (ltb rfl) rfl) ?_
      refine TriL.c1 rfl (op_as (ltb rfl) rfl) ?_
      refine TriL.nil ?_
      refine Tri.ret ?_
      exact ⟨.inr rfl, (ResOK.r2 rfl (.tmp rfl (.tmp rfl .nil))).cast (by
                have hne : c0 ≠ 39 := fun e => by subst e; revert hg2; decide
                cases s with
                | nil => simp at hc0
                | cons x r => simp at hc0; subst hc0; rw [txtR_none (txtT_not hne)]; rfl), rfl⟩
  · refine TriL.skipu rfl rfl (ltb rfl) (ltb rfl) rfl hg1 ?_
    refine TriL.skipu rfl rfl (ltb rfl) (ltb rfl) rfl hg1 ?_
    refine TriL.skipu rfl rfl (ltb rfl) (ltb rfl) rfl hg1 ?_
    refine TriL.c1 rfl (op_pickf (ltb rfl) rfl hg1 rfl) ?_
    refine TriL.c1 rfl (op_mv (ltb rfl) rfl) ?_
    refine TriL.skipu rfl rfl (ltb rfl) (ltb rfl) rfl rfl ?_
    refine TriL.skipu rfl rfl (ltb rfl) (ltb rfl) rfl rfl ?_
    refine TriL.skipu rfl rfl (ltb rfl) (ltb rfl) rfl rfl ?_
    refine TriL.skipu rfl rfl (ltb rfl) (ltb rfl) rfl rfl ?_
    refine TriL.c1 rfl (op_pickf (ltb rfl) rfl rfl rfl) ?_
    refine TriL.nil ?_
    refine Tri.condF rfl rfl ?_
    refine Tri.exit ?_
    refine Tri.seq ?_
    refine Tri.region ?_
    refine TriL.c1 rfl (op_as (ltb rfl) rfl) ?_
    refine TriL.c1 rfl (op_as (ltb rfl) rfl) ?_
    refine TriL.nil ?_
    refine Tri.ret ?_
    exact ⟨.inr rfl, (ResOK.r2 rfl (.tmp rfl (.tmp rfl .nil))).cast (by
            have h0 : s = [] := List.eq_nil_of_length_eq_zero (by have := of_decide_eq_false hg1; omega)
            subst h0; rfl), rfl⟩
end Go.Proofs.YthoncmadikifnaaDoor.X
