/- lex: how many bytes are such; a word; a mark; a number's digits. -/
import Derived.Test.YthoncmadikifnaaDoorL5
import Derived.Test.YthoncmadikifnaaDoorXM
set_option linter.unusedVariables false
set_option linter.unusedSimpArgs false
set_option linter.unusedSectionVars false
set_option maxRecDepth 100000
namespace Go.Proofs.YthoncmadikifnaaDoor.X
open Go Go.RowKit Go.Proofs
theorem fn43 : isFn Tryd.prog 43 = true := by kernel_rfl
theorem fn44 : isFn Tryd.prog 44 = true := by kernel_rfl
theorem un9 : Tryd.prog.underlying 9 = some TypeDesc.string := Tryd.underlying9
theorem tup2 {a b c d : AV} (h : a = c) (k : b = d) : AV.tup [a, b] = AV.tup [c, d] := by rw [h, k]
theorem tup3 {a b c d e f : AV} (h : a = c) (k : b = d) (l : e = f) : AV.tup [a, b, e] = AV.tup [c, d, f] := by rw [h, k, l]
def Tk.av (t : Tk) : AV := .agg [.int .i64 t.k, .str t.s, .int .u64 t.n, .bool t.neg, .int .i64 t.pos]
def tkn (x : Tk × Nat) : AV := .tup [x.1.av, .int .i64 x.2]
def StSp (H : Hp) (s : List UInt8) (f : FuncId) (j : Int) : St := [(.h, .hp H), (.s 0, .sv (.v (.str s))), (.s 1, .sv (.v (.fn f []))), (.s 5, .sv (.v (.int .i64 j)))]
theorem ixc {s : List UInt8} {i : Nat} {j : Int} {c : UInt8} (hj : j = i) (h : s[i]? = some c) : s[j.toNat]? = some c := by subst hj; simpa using h
theorem span_pure (s : List UInt8) (f : FuncId) (p : UInt8 → Bool) (hf : ∀ c : UInt8, Pure Tryd.prog f [.int .u8 (c.toNat : Int)] (.bool (p c))) (hfn : isFn Tryd.prog f = true) (hs : s.length ≤ 1073741824) :
    Pure Tryd.prog 16 [.str s, .fn f []] (.int .i64 (spn p s : Nat)) := by
  refine Pure.of_tri Tryd.func16 rfl rfl (ltb rfl) fun H => ?_
  refine Tri.seq ?_
  refine Tri.region ?_
  refine TriL.c1 rfl (op_as (ltb rfl) rfl) ?_
  refine TriL.nil ?_
  refine Tri.seq ?_
  refine Tri.region ?_
  refine TriL.c1 rfl (op_as (ltb rfl) rfl) ?_
  refine TriL.kept (Kept.keep [.h, .s 0, .s 1, .s 5] rfl (by decide) (Kept.now ?_))
  refine Tri.seq ?_
  refine Tri.blk ?_
  -- LOOP 1: KEEP
  refine Tri.loop (fun q w => ∃ (i : Nat) (j : Int), w = StSp H s f j ∧ j = i ∧ i ≤ spn p s ∧ q = s.length - i) ?_ (n := s.length) ⟨0, 0, rfl, rfl, Nat.zero_le _, rfl⟩
  rintro q w ⟨i, j, rfl, hj, hi, rfl⟩
  have hsl := spn_le p s
  refine Tri.seq ?_
  refine Tri.seq ?_
  refine Tri.region ?_
  refine TriL.c1 rfl (op_mv (ltb rfl) rfl) ?_
  refine TriL.c1 rfl (op_mv (ltb rfl) rfl) ?_
  refine TriL.c1 rfl (op_lens (ltb rfl) un9 rfl) ?_
  refine TriL.c1 rfl (op_bin (ltb rfl) rfl rfl rfl) ?_
  refine TriL.c1 rfl (op_mv (ltb rfl) rfl) ?_
  refine TriL.split (d := 10) rfl (fun hg1 => ?_) (fun hg1 => ?_)
  · have hlt : i < s.length := by have := of_decide_eq_true hg1; omega
    obtain ⟨c, hc⟩ : ∃ c, s[i]? = some c := ⟨s[i], List.getElem?_eq_getElem hlt⟩
    have hd := spn_drop p s i c hi hc
    refine TriL.g1 rfl (ltb rfl) rfl hg1 (op_mv (ltb rfl) rfl) ?_
    refine TriL.g1 rfl (ltb rfl) rfl hg1 (op_mv (ltb rfl) rfl) ?_
    refine TriL.g1 rfl (ltb rfl) rfl hg1 (op_mv (ltb rfl) rfl) ?_
    refine TriL.g1 rfl (ltb rfl) rfl hg1 (op_ixs (ltb rfl) un9 rfl rfl (by omega) (ixc hj hc)) ?_
    refine TriL.g1 rfl (ltb rfl) rfl hg1 (op_callc (ltb rfl) hfn rfl rfl (hf c)) ?_
    refine TriL.c1 rfl (op_pickt (ltb rfl) rfl hg1 rfl) ?_
    refine TriL.nil ?_
    refine Tri.cond rfl (fun hc2 => ?_) (fun hc2 => ?_)
    · refine Tri.skip ?_
      refine Tri.blk ?_
      refine Tri.region ?_
      refine TriL.c1 rfl (op_mv (ltb rfl) rfl) ?_
      refine TriL.c1 rfl (op_bin (ltb rfl) rfl rfl rfl) ?_
      refine TriL.c1 rfl (op_as (ltb rfl) rfl) ?_
      refine TriL.kept (Kept.keep [.h, .s 0, .s 1, .s 5] rfl (by decide) (Kept.now ?_))
      refine ⟨s.length - (i + 1), by omega, i + 1, IntKind.i64.wrap (j + 1), rfl, by rw [hj, wr64] <;> omega, hd.1 hc2, rfl⟩
    · refine Tri.exit ?_
      refine Tri.seq ?_
      refine Tri.region ?_
      refine TriL.c1 rfl (op_mv (ltb rfl) rfl) ?_
      refine TriL.c1 rfl (op_as (ltb rfl) rfl) ?_
      refine TriL.nil ?_
      refine Tri.ret ?_
      exact ⟨.inr rfl, (ResOK.r1 rfl (.tmp rfl .nil)).cast (by rw [hd.2 hc2, hj]), rfl⟩
  · refine TriL.skipu rfl rfl (ltb rfl) (ltb rfl) rfl hg1 ?_
    refine TriL.skipu rfl rfl (ltb rfl) (ltb rfl) rfl hg1 ?_
    refine TriL.skipu rfl rfl (ltb rfl) (ltb rfl) rfl hg1 ?_
    refine TriL.skipu rfl rfl (ltb rfl) (ltb rfl) rfl hg1 ?_
    refine TriL.skipu rfl rfl (ltb rfl) (ltb rfl) rfl hg1 ?_
    refine TriL.c1 rfl (op_pickf (ltb rfl) rfl hg1 rfl) ?_
    refine TriL.nil ?_
    refine Tri.condF rfl rfl ?_
    refine Tri.exit ?_
    refine Tri.seq ?_
    refine Tri.region ?_
    refine TriL.c1 rfl (op_mv (ltb rfl) rfl) ?_
    refine TriL.c1 rfl (op_as (ltb rfl) rfl) ?_
    refine TriL.nil ?_
    refine Tri.ret ?_
    exact ⟨.inr rfl, (ResOK.r1 rfl (.tmp rfl .nil)).cast (by rw [hj]; have := of_decide_eq_false hg1; rw [show spn p s = i by omega]), rfl⟩
/-- how long the name is that a text begins with -/
def wordN (s : List UInt8) : Nat := (wordT s).2
def StRw (H : Hp) (s : List UInt8) (j : Int) : St := [(.h, .hp H), (.s 0, .sv (.v (.str s))), (.s 3, .sv (.v (.int .i64 j)))]
theorem wordN_step {s : List UInt8} {i : Nat} {c : UInt8} (hi : i ≤ wordN s) (hc : s[i]? = some c) : (isLet c = true → i + 1 ≤ wordN s) ∧ (isLet c = false → 0 < i → isDig c = true → i + 1 ≤ wordN s) ∧ (isLet c = false → 0 < i → c.toNat = 95 → i + 1 ≤ wordN s) ∧
    (isLet c = false → i = 0 → wordN s = i) ∧ (isLet c = false → isDig c = false → c.toNat ≠ 95 → wordN s = i) := by
  cases s with
  | nil => simp at hc
  | cons d r =>
    simp only [wordN, wordT] at hi ⊢
    cases i with
    | zero =>
      simp at hc; subst hc
      by_cases h : isLet d = true
      · have hw : isWd d = true := by simp [isWd, h]
        simp [h, spn, hw]
      · simp at h; simp [h]
    | succ i =>
      by_cases hd : isLet d = true
      · rw [if_pos hd] at hi ⊢
        obtain ⟨h1, h2⟩ := spn_drop isWd (d :: r) (i + 1) c hi hc
        refine ⟨fun e => h1 (by simp [isWd, e]), fun _ _ e => h1 (by simp [isWd, e]), fun _ _ e => h1 (by simp [isWd, e]), fun _ e => by omega, fun e1 e2 e3 => h2 (by simp [isWd, e1, e2, e3])⟩
      · rw [if_neg hd] at hi; simp at hi
theorem wordN_le (s : List UInt8) : wordN s ≤ s.length := by
  cases s with
  | nil => simp [wordN, wordT]
  | cons d r =>
    simp only [wordN, wordT]
    split
    · exact spn_le _ _
    · simp
theorem rword_pure (s : List UInt8) (hs : s.length ≤ 1073741824) : Pure Tryd.prog 28 [.str s] (.int .i64 (wordN s : Nat)) := by
  refine Pure.of_tri Tryd.func28 rfl rfl (ltb rfl) fun H => ?_
  refine Tri.seq ?_
  refine Tri.region ?_
  refine TriL.c1 rfl (op_as (ltb rfl) rfl) ?_
  refine TriL.nil ?_
  refine Tri.seq ?_
  refine Tri.region ?_
  refine TriL.c1 rfl (op_as (ltb rfl) rfl) ?_
  refine TriL.kept (Kept.keep [.h, .s 0, .s 3] rfl (by decide) (Kept.now ?_))
  refine Tri.seq ?_
  refine Tri.blk ?_
  -- LOOP 1: KEEP
  refine Tri.loop (fun q w => ∃ (i : Nat) (j : Int), w = StRw H s j ∧ j = i ∧ i ≤ wordN s ∧ q = s.length - i) ?_ (n := s.length) ⟨0, 0, rfl, rfl, Nat.zero_le _, rfl⟩
  rintro q w ⟨i, j, rfl, hj, hi, rfl⟩
  have hsl := wordN_le s
  refine Tri.seq ?_
  refine Tri.seq ?_
  refine Tri.region ?_
  refine TriL.c1 rfl (op_mv (ltb rfl) rfl) ?_
  refine TriL.c1 rfl (op_mv (ltb rfl) rfl) ?_
  refine TriL.c1 rfl (op_lens (ltb rfl) un9 rfl) ?_
  refine TriL.c1 rfl (op_bin (ltb rfl) rfl rfl rfl) ?_
  refine TriL.c1 rfl (op_mv (ltb rfl) rfl) ?_
  refine TriL.split (d := 8) rfl (fun hg1 => ?_) (fun hg1 => ?_)
  · have hlt : i < s.length := by have := of_decide_eq_true hg1; omega
    obtain ⟨c, hc⟩ : ∃ c, s[i]? = some c := ⟨s[i], List.getElem?_eq_getElem hlt⟩
    obtain ⟨w1, w2, w3, w4, w5⟩ := wordN_step hi hc
    refine TriL.g1 rfl (ltb rfl) rfl hg1 (op_mv (ltb rfl) rfl) ?_
    refine TriL.g1 rfl (ltb rfl) rfl hg1 (op_mv (ltb rfl) rfl) ?_
    refine TriL.g1 rfl (ltb rfl) rfl hg1 (op_ixs (ltb rfl) un9 rfl rfl (by omega) (ixc hj hc)) ?_
    refine TriL.g1 rfl (ltb rfl) rfl hg1 (op_call (ltb rfl) fn43 rfl (rletter_pure c)) ?_
    refine TriL.g1 rfl (ltb rfl) rfl hg1 (op_mv (ltb rfl) rfl) ?_
    refine TriL.split (d := 13) rfl (fun hg2 => ?_) (fun hg2 => ?_)
    · refine TriL.skipu rfl rfl (ltb rfl) (ltb rfl) rfl hg2 ?_
      refine TriL.skipu rfl rfl (ltb rfl) (ltb rfl) rfl hg2 ?_
      refine TriL.skipu rfl rfl (ltb rfl) (ltb rfl) rfl hg2 ?_
      refine TriL.skipg rfl rfl (ltb rfl) (ltb rfl) rfl ?_
      refine TriL.skipg rfl rfl (ltb rfl) (ltb rfl) rfl ?_
      refine TriL.skipg rfl rfl (ltb rfl) (ltb rfl) rfl ?_
      refine TriL.skipg rfl rfl (ltb rfl) (ltb rfl) rfl ?_
      refine TriL.skipg rfl rfl (ltb rfl) (ltb rfl) rfl ?_
      refine TriL.skipg rfl rfl (ltb rfl) (ltb rfl) rfl ?_
      refine TriL.skipg rfl rfl (ltb rfl) (ltb rfl) rfl ?_
      refine TriL.skipg rfl rfl (ltb rfl) (ltb rfl) rfl ?_
      refine TriL.skipg rfl rfl (ltb rfl) (ltb rfl) rfl ?_
      refine TriL.skipg rfl rfl (ltb rfl) (ltb rfl) rfl ?_
      refine TriL.skipu rfl rfl (ltb rfl) (ltb rfl) rfl hg2 ?_
      refine TriL.g1 rfl (ltb rfl) rfl hg1 (op_pickt (ltb rfl) rfl hg2 rfl) ?_
      refine TriL.c1 rfl (op_pickt (ltb rfl) rfl hg1 rfl) ?_
      refine TriL.nil ?_
      refine Tri.condT rfl rfl ?_
      refine Tri.skip ?_
      refine Tri.blk ?_
      refine Tri.region ?_
      refine TriL.c1 rfl (op_mv (ltb rfl) rfl) ?_
      refine TriL.c1 rfl (op_bin (ltb rfl) rfl rfl rfl) ?_
      refine TriL.c1 rfl (op_as (ltb rfl) rfl) ?_
      refine TriL.kept (Kept.keep [.h, .s 0, .s 3] rfl (by decide) (Kept.now ?_))
      refine ⟨s.length - (i + 1), by omega, i + 1, IntKind.i64.wrap (j + 1), rfl, by rw [hj, wr64] <;> omega, w1 hg2, rfl⟩
    · refine TriL.g1 rfl (ltb rfl) rfl hg2 (op_mv (ltb rfl) rfl) ?_
      refine TriL.g1 rfl (ltb rfl) rfl hg2 (op_bin (ltb rfl) rfl rfl rfl) ?_
      refine TriL.g1 rfl (ltb rfl) rfl hg2 (op_mv (ltb rfl) rfl) ?_
      refine TriL.split (d := 16) rfl (fun hg3 => ?_) (fun hg3 => ?_)
      · refine TriL.g1 rfl (ltb rfl) rfl hg3 (op_mv (ltb rfl) rfl) ?_
        refine TriL.g1 rfl (ltb rfl) rfl hg3 (op_mv (ltb rfl) rfl) ?_
        refine TriL.g1 rfl (ltb rfl) rfl hg3 (op_ixs (ltb rfl) un9 rfl rfl (by omega) (ixc hj hc)) ?_
        refine TriL.g1 rfl (ltb rfl) rfl hg3 (op_call (ltb rfl) fn44 rfl (rdigit_pure c)) ?_
        refine TriL.g1 rfl (ltb rfl) rfl hg3 (op_mv (ltb rfl) rfl) ?_
        refine TriL.split (d := 21) rfl (fun hg4 => ?_) (fun hg4 => ?_)
        · refine TriL.skipu rfl rfl (ltb rfl) (ltb rfl) rfl hg4 ?_
          refine TriL.skipu rfl rfl (ltb rfl) (ltb rfl) rfl hg4 ?_
          refine TriL.skipu rfl rfl (ltb rfl) (ltb rfl) rfl hg4 ?_
          refine TriL.skipu rfl rfl (ltb rfl) (ltb rfl) rfl hg4 ?_
          refine TriL.g1 rfl (ltb rfl) rfl hg3 (op_pickt (ltb rfl) rfl hg4 rfl) ?_
          refine TriL.g1 rfl (ltb rfl) rfl hg2 (op_pickt (ltb rfl) rfl hg3 rfl) ?_
          refine TriL.g1 rfl (ltb rfl) rfl hg1 (op_pickf (ltb rfl) rfl hg2 rfl) ?_
          refine TriL.c1 rfl (op_pickt (ltb rfl) rfl hg1 rfl) ?_
          refine TriL.nil ?_
          refine Tri.condT rfl rfl ?_
          refine Tri.skip ?_
          refine Tri.blk ?_
          refine Tri.region ?_
          refine TriL.c1 rfl (op_mv (ltb rfl) rfl) ?_
          refine TriL.c1 rfl (op_bin (ltb rfl) rfl rfl rfl) ?_
          refine TriL.c1 rfl (op_as (ltb rfl) rfl) ?_
          refine TriL.kept (Kept.keep [.h, .s 0, .s 3] rfl (by decide) (Kept.now ?_))
          refine ⟨s.length - (i + 1), by omega, i + 1, IntKind.i64.wrap (j + 1), rfl, by rw [hj, wr64] <;> omega, w2 hg2 (by have := of_decide_eq_true hg3; omega) hg4, rfl⟩
        · refine TriL.g1 rfl (ltb rfl) rfl hg4 (op_mv (ltb rfl) rfl) ?_
          refine TriL.g1 rfl (ltb rfl) rfl hg4 (op_mv (ltb rfl) rfl) ?_
          refine TriL.g1 rfl (ltb rfl) rfl hg4 (op_ixs (ltb rfl) un9 rfl rfl (by omega) (ixc hj hc)) ?_
          refine TriL.g1 rfl (ltb rfl) rfl hg4 (op_bin (ltb rfl) rfl rfl rfl) ?_
          refine TriL.g1 rfl (ltb rfl) rfl hg3 (op_pickf (ltb rfl) rfl hg4 rfl) ?_
          refine TriL.g1 rfl (ltb rfl) rfl hg2 (op_pickt (ltb rfl) rfl hg3 rfl) ?_
          refine TriL.g1 rfl (ltb rfl) rfl hg1 (op_pickf (ltb rfl) rfl hg2 rfl) ?_
          refine TriL.c1 rfl (op_pickt (ltb rfl) rfl hg1 rfl) ?_
          refine TriL.nil ?_
          refine Tri.cond rfl (fun hc5 => ?_) (fun hc5 => ?_)
          · refine Tri.skip ?_
            refine Tri.blk ?_
            refine Tri.region ?_
            refine TriL.c1 rfl (op_mv (ltb rfl) rfl) ?_
            refine TriL.c1 rfl (op_bin (ltb rfl) rfl rfl rfl) ?_
            refine TriL.c1 rfl (op_as (ltb rfl) rfl) ?_
            refine TriL.kept (Kept.keep [.h, .s 0, .s 3] rfl (by decide) (Kept.now ?_))
            refine ⟨s.length - (i + 1), by omega, i + 1, IntKind.i64.wrap (j + 1), rfl, by rw [hj, wr64] <;> omega, w3 hg2 (by have := of_decide_eq_true hg3; omega) (by have := eq_of_beq hc5; omega), rfl⟩
          · refine Tri.exit ?_
            refine Tri.seq ?_
            refine Tri.region ?_
            refine TriL.c1 rfl (op_mv (ltb rfl) rfl) ?_
            refine TriL.c1 rfl (op_as (ltb rfl) rfl) ?_
            refine TriL.nil ?_
            refine Tri.ret ?_
            exact ⟨.inr rfl, (ResOK.r1 rfl (.tmp rfl .nil)).cast (by rw [hj]; rw [show wordN s = i by exact w5 hg2 hg4 (by have := beq_eq_false_iff_ne.1 hc5; omega)]), rfl⟩
      · refine TriL.skipu rfl rfl (ltb rfl) (ltb rfl) rfl hg3 ?_
        refine TriL.skipu rfl rfl (ltb rfl) (ltb rfl) rfl hg3 ?_
        refine TriL.skipu rfl rfl (ltb rfl) (ltb rfl) rfl hg3 ?_
        refine TriL.skipu rfl rfl (ltb rfl) (ltb rfl) rfl hg3 ?_
        refine TriL.skipu rfl rfl (ltb rfl) (ltb rfl) rfl hg3 ?_
        refine TriL.skipg rfl rfl (ltb rfl) (ltb rfl) rfl ?_
        refine TriL.skipg rfl rfl (ltb rfl) (ltb rfl) rfl ?_
        refine TriL.skipg rfl rfl (ltb rfl) (ltb rfl) rfl ?_
        refine TriL.skipg rfl rfl (ltb rfl) (ltb rfl) rfl ?_
        refine TriL.skipu rfl rfl (ltb rfl) (ltb rfl) rfl hg3 ?_
        refine TriL.g1 rfl (ltb rfl) rfl hg2 (op_pickf (ltb rfl) rfl hg3 rfl) ?_
        refine TriL.g1 rfl (ltb rfl) rfl hg1 (op_pickf (ltb rfl) rfl hg2 rfl) ?_
        refine TriL.c1 rfl (op_pickt (ltb rfl) rfl hg1 rfl) ?_
        refine TriL.nil ?_
        refine Tri.condF rfl rfl ?_
        refine Tri.exit ?_
        refine Tri.seq ?_
        refine Tri.region ?_
        refine TriL.c1 rfl (op_mv (ltb rfl) rfl) ?_
        refine TriL.c1 rfl (op_as (ltb rfl) rfl) ?_
        refine TriL.nil ?_
        refine Tri.ret ?_
        exact ⟨.inr rfl, (ResOK.r1 rfl (.tmp rfl .nil)).cast (by rw [hj]; rw [show wordN s = i by exact w4 hg2 (by have := of_decide_eq_false hg3; omega)]), rfl⟩
  · refine TriL.skipu rfl rfl (ltb rfl) (ltb rfl) rfl hg1 ?_
    refine TriL.skipu rfl rfl (ltb rfl) (ltb rfl) rfl hg1 ?_
    refine TriL.skipu rfl rfl (ltb rfl) (ltb rfl) rfl hg1 ?_
    refine TriL.skipu rfl rfl (ltb rfl) (ltb rfl) rfl hg1 ?_
    refine TriL.skipu rfl rfl (ltb rfl) (ltb rfl) rfl hg1 ?_
    refine TriL.skipg rfl rfl (ltb rfl) (ltb rfl) rfl ?_
    refine TriL.skipg rfl rfl (ltb rfl) (ltb rfl) rfl ?_
    refine TriL.skipg rfl rfl (ltb rfl) (ltb rfl) rfl ?_
    refine TriL.skipg rfl rfl (ltb rfl) (ltb rfl) rfl ?_
    refine TriL.skipg rfl rfl (ltb rfl) (ltb rfl) rfl ?_
    refine TriL.skipg rfl rfl (ltb rfl) (ltb rfl) rfl ?_
    refine TriL.skipg rfl rfl (ltb rfl) (ltb rfl) rfl ?_
    refine TriL.skipg rfl rfl (ltb rfl) (ltb rfl) rfl ?_
    refine TriL.skipg rfl rfl (ltb rfl) (ltb rfl) rfl ?_
    refine TriL.skipg rfl rfl (ltb rfl) (ltb rfl) rfl ?_
    refine TriL.skipg rfl rfl (ltb rfl) (ltb rfl) rfl ?_
    refine TriL.skipg rfl rfl (ltb rfl) (ltb rfl) rfl ?_
    refine TriL.skipg rfl rfl (ltb rfl) (ltb rfl) rfl ?_
    refine TriL.skipg rfl rfl (ltb rfl) (ltb rfl) rfl ?_
    refine TriL.skipu rfl rfl (ltb rfl) (ltb rfl) rfl hg1 ?_
    refine TriL.c1 rfl (op_pickf (ltb rfl) rfl hg1 rfl) ?_
    refine TriL.nil ?_
    refine Tri.condF rfl rfl ?_
    refine Tri.exit ?_
    refine Tri.seq ?_
    refine Tri.region ?_
    refine TriL.c1 rfl (op_mv (ltb rfl) rfl) ?_
    refine TriL.c1 rfl (op_as (ltb rfl) rfl) ?_
    refine TriL.nil ?_
    refine Tri.ret ?_
    exact ⟨.inr rfl, (ResOK.r1 rfl (.tmp rfl .nil)).cast (by rw [hj]; rw [show wordN s = i by have := of_decide_eq_false hg1; omega]), rfl⟩
end Go.Proofs.YthoncmadikifnaaDoor.X
