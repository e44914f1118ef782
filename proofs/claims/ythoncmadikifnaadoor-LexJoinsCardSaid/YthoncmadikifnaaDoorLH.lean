/- The law LexJoins's walk. -/
import Derived.Test.YthoncmadikifnaaDoorLJ
import Derived.Test.YthoncmadikifnaaDoorLF
set_option linter.unusedVariables false
set_option linter.unusedSimpArgs false
set_option linter.unusedSectionVars false
set_option maxRecDepth 100000
namespace Go.Proofs.YthoncmadikifnaaDoor.X
open Go Go.RowKit Go.Proofs
theorem eqGuard35 : Tryd.prog.eqGuardType Tryd.prog.depth 35 = false := by kernel_rfl
theorem neq35 (k n p : Int) (s : ByteArray) (b : Bool) (w : World) : (binOp .neq 35 (.agg #[.int .i64 k, .string s, .int .u64 n, .bool b, .int .i64 p]) (.agg #[.int .i64 k, .string s, .int .u64 n, .bool b, .int .i64 p])).run Tryd.prog w = .ok (.bool false) w := by
  go_simp
theorem tk_val {G : Gh} {v : Value} {t : Tk} (h : V G v t.av) : v = .agg #[.int .i64 t.k, .string ⟨t.s.toArray⟩, .int .u64 t.n, .bool t.neg, .int .i64 t.pos] := by
  unfold Tk.av at h
  cases h with
  | agg vs cs hl hf hv =>
    obtain ⟨l⟩ := vs
    match l, hl with
    | [x0, x1, x2, x3, x4], _ =>
      have h0 := hv 0 _ rfl; have h1 := hv 1 _ rfl; have h2 := hv 2 _ rfl; have h3 := hv 3 _ rfl; have h4 := hv 4 _ rfl
      have e0 : x0 = .int .i64 t.k := h0.int_eq
      have e1 : x1 = .string ⟨t.s.toArray⟩ := h1.str_eq
      have e2 : x2 = .int .u64 t.n := h2.int_eq
      have e3 : x3 = .bool t.neg := by
        have h3' : V G x3 (.bool t.neg) := h3
        cases h3'; rfl
      have e4 : x4 = .int .i64 t.pos := h4.int_eq
      rw [e0, e1, e2, e3, e4]
section
variable {N : Nat} {s : St} {d : Nat} {ty : TypeId} {pos : String} {af : Array Edge} {g : Option (Nat × Bool)}
set_option maxRecDepth 1000000 in
/-- two tokens that are the same -/
theorem op_nes35 {t2 : TypeId} {x y : Operand} {u v : AV} (t : Tk) (hN : d < N) (hx : opv x s = some u) (hy : opv y s = some v) (hu : u = t.av) (hv : v = t.av) :
    OpOK Tryd.prog N ⟨some d, .binOp .neq 35 x y t2, ty, pos, af, g⟩ s (rd x ++ rd y) [(.s d, .sv (.v (.bool false)))] := by
  subst hu hv
  exact OpOK.val rfl hN fun E G L a w tt hr hR => by
    refine ⟨.bool false, ?_, .bool _⟩
    have h1 := tk_val (opv_sound hr hR.left hx)
    have h2 := tk_val (opv_sound hr hR.right hy)
    have hgd := run_eqGuard_agg (P := Tryd.prog) w .neq 35 x y #[.int .i64 t.k, .string ⟨t.s.toArray⟩, .int .u64 t.n, .bool t.neg, .int .i64 t.pos] #[.int .i64 t.k, .string ⟨t.s.toArray⟩, .int .u64 t.n, .bool t.neg, .int .i64 t.pos] eqGuard35
    simp only [execOp, Sem.run_bind, h1, h2, hgd, Result.andThen_ok, neq35, Sem.run_pure]
end
def StJ (H : Hp) (a b m : List UInt8) (x y : List AV) (n1 e1 n2 e2 : Int) : St := [(.h, .hp H), (.s 0, .sv (.v (.str a))), (.s 1, .sv (.v (.str b))), (.s 7, .sv (.v (.sl x))), (.s 8, .sv (.v (.int .i64 n1))), (.s 9, .sv (.v (.int .i64 e1))),
  (.s 10, .sv (.v (.sl y))), (.s 11, .sv (.v (.int .i64 n2))), (.s 12, .sv (.v (.int .i64 e2))), (.s 13, .sv (.v (.str m)))]
theorem mid_t {line : Bool} (h : line = true) : mid line = [47, 47, 10] := by rw [h]; rfl
theorem mid_f {line : Bool} (h : line = false) : mid line = [32] := by rw [h]; rfl
theorem mid_len (line : Bool) : (mid line).length ≤ 3 := by cases line <;> decide
theorem lexGo_pos : ∀ (n : Nat) (r : List UInt8) (p : Nat), r.length ≤ n → ∀ t ∈ (lexGo r p).1, t.pos ≤ p + r.length
  | n, [], p, _, t, h => by simp [lexGo_nil] at h
  | 0, c :: r, p, hn, _, _ => by simp at hn
  | n + 1, c :: r, p, hn, t, h => by
    by_cases hb : isBl c = true
    · rw [lexGo_bl hb] at h
      have := lexGo_pos n r (p + 1) (by simp at hn; omega) t h
      simp; omega
    · have hb' : isBl c = false := by simpa using hb
      by_cases hr : isRem (c :: r) = true
      · rw [lexGo_rem hb' hr] at h
        have h2 := spn_le noNl (c :: r)
        have h3 := spn_rem hr
        have := lexGo_pos n _ _ (by rw [List.length_drop]; simp at hn ⊢; omega) t h
        rw [List.length_drop] at this; omega
      · have hr' : isRem (c :: r) = false := by simpa using hr
        by_cases hk : (nxtT (c :: r)).2 = 0
        · rw [lexGo_no hb' hr' hk] at h; simp at h
        · rw [lexGo_tok hb' hr' hk] at h
          have h2 := nxt_le (c :: r)
          rcases List.mem_cons.1 h with rfl | h
          · show p ≤ _; omega
          · have := lexGo_pos n _ _ (by rw [List.length_drop]; simp at hn ⊢; omega) t h
            rw [List.length_drop] at this; omega
theorem joins_no (a b : List UInt8) (line : Bool) (x y z : List AV) (n1 e1 n2 e2 n3 e3 : Int) (la : a.length ≤ 150) (lb : b.length ≤ 150) (ha : Pure Tryd.prog 7 [.str a, .int .i64 400] (.tup [.sl (x), .int .i64 n1, .int .i64 e1])) (hb : Pure Tryd.prog 7 [.str b, .int .i64 400] (.tup [.sl (y), .int .i64 n2, .int .i64 e2])) (hz : Pure Tryd.prog 7 [.str (((a ++ [10]) ++ mid line) ++ b), .int .i64 400] (.tup [.sl (z), .int .i64 n3, .int .i64 e3])) (h1 : (!(e1 == 0)) = true) : Pure Tryd.prog 4 [.str a, .str b, .bool line] (.bool true) := by
  refine Pure.of_tri Tryd.func4 rfl rfl (ltb rfl) fun H => ?_
  refine Tri.seq ?_
  refine Tri.region ?_
  refine TriL.c1 rfl (op_as (ltb rfl) rfl) ?_
  refine TriL.nil ?_
  refine Tri.seq ?_
  refine Tri.seq ?_
  refine Tri.region ?_
  refine TriL.c1 rfl (op_mv (ltb rfl) rfl) ?_
  refine TriL.c1 rfl (op_lens (ltb rfl) un9 rfl) ?_
  refine TriL.c1 rfl (op_bin (ltb rfl) rfl rfl rfl) ?_
  refine TriL.c1 rfl (op_mv (ltb rfl) rfl) ?_
  refine TriL.g1 rfl (ltb rfl) rfl (decide_eq_false (by omega)) (op_mv (ltb rfl) rfl) ?_
  refine TriL.g1 rfl (ltb rfl) rfl (decide_eq_false (by omega)) (op_lens (ltb rfl) un9 rfl) ?_
  refine TriL.g1 rfl (ltb rfl) rfl (decide_eq_false (by omega)) (op_bin (ltb rfl) rfl rfl rfl) ?_
  refine TriL.c1 rfl (op_pickf (ltb rfl) rfl (decide_eq_false (by omega)) rfl) ?_
  refine TriL.nil ?_
  refine Tri.condF rfl (decide_eq_false (by omega)) ?_
  refine Tri.skip ?_
  refine Tri.seq ?_
  refine Tri.region ?_
  refine TriL.c1 rfl (op_mv (ltb rfl) rfl) ?_
  refine TriL.c1 rfl (op_call (ltb rfl) fn7 rfl ha) ?_
  refine TriL.c1 rfl (op_mv (ltb rfl) rfl) ?_
  refine TriL.c1 rfl (op_ext (ltb rfl) rfl rfl) ?_
  refine TriL.c1 rfl (op_ext (ltb rfl) rfl rfl) ?_
  refine TriL.c1 rfl (op_ext (ltb rfl) rfl rfl) ?_
  refine TriL.c1 rfl (op_as (ltb rfl) rfl) ?_
  refine TriL.c1 rfl (op_as (ltb rfl) rfl) ?_
  refine TriL.c1 rfl (op_as (ltb rfl) rfl) ?_
  refine TriL.nil ?_
  refine Tri.seq ?_
  refine Tri.region ?_
  refine TriL.c1 rfl (op_mv (ltb rfl) rfl) ?_
  refine TriL.c1 rfl (op_call (ltb rfl) fn7 rfl hb) ?_
  refine TriL.c1 rfl (op_mv (ltb rfl) rfl) ?_
  refine TriL.c1 rfl (op_ext (ltb rfl) rfl rfl) ?_
  refine TriL.c1 rfl (op_ext (ltb rfl) rfl rfl) ?_
  refine TriL.c1 rfl (op_ext (ltb rfl) rfl rfl) ?_
  refine TriL.c1 rfl (op_as (ltb rfl) rfl) ?_
  refine TriL.c1 rfl (op_as (ltb rfl) rfl) ?_
  refine TriL.c1 rfl (op_as (ltb rfl) rfl) ?_
  refine TriL.nil ?_
  refine Tri.seq ?_
  refine Tri.region ?_
  refine TriL.c1 rfl (op_as (ltb rfl) rfl) ?_
  refine TriL.nil ?_
  refine Tri.join (fun w => w = StJ H a b (mid line) x y n1 e1 n2 e2) ?_ ?_
  · refine Tri.seq ?_
    refine Tri.region ?_
    refine TriL.c1 rfl (op_mv (ltb rfl) rfl) ?_
    refine TriL.nil ?_
    refine Tri.cond rfl (fun hc1 => ?_) (fun hc1 => ?_)
    · -- region 7 law.go:69
      refine Tri.region ?_
      refine TriL.c1 rfl (op_as (ltb rfl) rfl) ?_
      refine TriL.kept (Kept.keep [.h, .s 0, .s 1, .s 7, .s 8, .s 9, .s 10, .s 11, .s 12, .s 13] rfl (by decide) (Kept.now ?_))
      unfold StJ; rw [mid_t hc1]
    · refine Tri.ofKept (Kept.keep [.h, .s 0, .s 1, .s 7, .s 8, .s 9, .s 10, .s 11, .s 12, .s 13] rfl (by decide) (Kept.now ?_))
      refine Tri.skip ?_
      unfold StJ; rw [mid_f hc1]
  · rintro w rfl
    have hml := mid_len line
    refine Tri.seq ?_
    refine Tri.region ?_
    refine TriL.c1 rfl (op_mv (ltb rfl) rfl) ?_
    refine TriL.c1 rfl (op_cat (ltb rfl) rfl rfl (by simp; omega)) ?_
    refine TriL.c1 rfl (op_mv (ltb rfl) rfl) ?_
    refine TriL.c1 rfl (op_cat (ltb rfl) rfl rfl (by simp; omega)) ?_
    refine TriL.c1 rfl (op_mv (ltb rfl) rfl) ?_
    refine TriL.c1 rfl (op_cat (ltb rfl) rfl rfl (by simp; omega)) ?_
    refine TriL.c1 rfl (op_call (ltb rfl) fn7 rfl hz) ?_
    refine TriL.c1 rfl (op_mv (ltb rfl) rfl) ?_
    refine TriL.c1 rfl (op_ext (ltb rfl) rfl rfl) ?_
    refine TriL.c1 rfl (op_ext (ltb rfl) rfl rfl) ?_
    refine TriL.c1 rfl (op_ext (ltb rfl) rfl rfl) ?_
    refine TriL.c1 rfl (op_as (ltb rfl) rfl) ?_
    refine TriL.c1 rfl (op_as (ltb rfl) rfl) ?_
    refine TriL.c1 rfl (op_as (ltb rfl) rfl) ?_
    refine TriL.nil ?_
    refine Tri.seq ?_
    refine Tri.seq ?_
    refine Tri.region ?_
    refine TriL.c1 rfl (op_mv (ltb rfl) rfl) ?_
    refine TriL.c1 rfl (op_call (ltb rfl) fn10 rfl (num_pure _)) ?_
    refine TriL.c1 rfl (op_bin (ltb rfl) rfl rfl rfl) ?_
    refine TriL.c1 rfl (op_mv (ltb rfl) rfl) ?_
    refine TriL.skipu rfl rfl (ltb rfl) (ltb rfl) rfl h1 ?_
    refine TriL.skipu rfl rfl (ltb rfl) (ltb rfl) rfl h1 ?_
    refine TriL.skipu rfl rfl (ltb rfl) (ltb rfl) rfl h1 ?_
    refine TriL.c1 rfl (op_pickt (ltb rfl) rfl h1 rfl) ?_
    refine TriL.nil ?_
    refine Tri.condT rfl rfl ?_
    refine Tri.seq ?_
    refine Tri.region ?_
    refine TriL.c1 rfl (op_mv (ltb rfl) rfl) ?_
    refine TriL.c1 rfl (op_call (ltb rfl) fn10 rfl (num_pure _)) ?_
    refine TriL.c1 rfl (op_bin (ltb rfl) rfl rfl rfl) ?_
    refine TriL.c1 rfl (op_mv (ltb rfl) rfl) ?_
    refine TriL.g1 rfl (ltb rfl) rfl h1 (op_call (ltb rfl) fn6 rfl live_pure) ?_
    refine TriL.c1 rfl (op_pickt (ltb rfl) rfl h1 rfl) ?_
    refine TriL.c1 rfl (op_as (ltb rfl) rfl) ?_
    refine TriL.nil ?_
    refine Tri.ret ?_
    exact ⟨.inr rfl, (ResOK.r1 rfl (.tmp rfl .nil)), rfl⟩
theorem joins_bad (a b : List UInt8) (line : Bool) (x y z : List AV) (n1 e1 n2 e2 n3 e3 : Int) (la : a.length ≤ 150) (lb : b.length ≤ 150) (ha : Pure Tryd.prog 7 [.str a, .int .i64 400] (.tup [.sl (x), .int .i64 n1, .int .i64 e1])) (hb : Pure Tryd.prog 7 [.str b, .int .i64 400] (.tup [.sl (y), .int .i64 n2, .int .i64 e2])) (hz : Pure Tryd.prog 7 [.str (((a ++ [10]) ++ mid line) ++ b), .int .i64 400] (.tup [.sl (z), .int .i64 n3, .int .i64 e3])) (h1 : (!(e1 == 0)) = false) (hx : ((x.length : Int) == 0) = false) (h2 : (!(e2 == 0)) = true) (h3 : (e3 == e2) = true) (hn : (n3 == IntKind.i64.wrap (IntKind.i64.wrap (IntKind.i64.wrap (n2 + (a.length : Int)) + 1) + ((mid line).length : Int))) = true) : Pure Tryd.prog 4 [.str a, .str b, .bool line] (.bool true) := by
  refine Pure.of_tri Tryd.func4 rfl rfl (ltb rfl) fun H => ?_
  refine Tri.seq ?_
  refine Tri.region ?_
  refine TriL.c1 rfl (op_as (ltb rfl) rfl) ?_
  refine TriL.nil ?_
  refine Tri.seq ?_
  refine Tri.seq ?_
  refine Tri.region ?_
  refine TriL.c1 rfl (op_mv (ltb rfl) rfl) ?_
  refine TriL.c1 rfl (op_lens (ltb rfl) un9 rfl) ?_
  refine TriL.c1 rfl (op_bin (ltb rfl) rfl rfl rfl) ?_
  refine TriL.c1 rfl (op_mv (ltb rfl) rfl) ?_
  refine TriL.g1 rfl (ltb rfl) rfl (decide_eq_false (by omega)) (op_mv (ltb rfl) rfl) ?_
  refine TriL.g1 rfl (ltb rfl) rfl (decide_eq_false (by omega)) (op_lens (ltb rfl) un9 rfl) ?_
  refine TriL.g1 rfl (ltb rfl) rfl (decide_eq_false (by omega)) (op_bin (ltb rfl) rfl rfl rfl) ?_
  refine TriL.c1 rfl (op_pickf (ltb rfl) rfl (decide_eq_false (by omega)) rfl) ?_
  refine TriL.nil ?_
  refine Tri.condF rfl (decide_eq_false (by omega)) ?_
  refine Tri.skip ?_
  refine Tri.seq ?_
  refine Tri.region ?_
  refine TriL.c1 rfl (op_mv (ltb rfl) rfl) ?_
  refine TriL.c1 rfl (op_call (ltb rfl) fn7 rfl ha) ?_
  refine TriL.c1 rfl (op_mv (ltb rfl) rfl) ?_
  refine TriL.c1 rfl (op_ext (ltb rfl) rfl rfl) ?_
  refine TriL.c1 rfl (op_ext (ltb rfl) rfl rfl) ?_
  refine TriL.c1 rfl (op_ext (ltb rfl) rfl rfl) ?_
  refine TriL.c1 rfl (op_as (ltb rfl) rfl) ?_
  refine TriL.c1 rfl (op_as (ltb rfl) rfl) ?_
  refine TriL.c1 rfl (op_as (ltb rfl) rfl) ?_
  refine TriL.nil ?_
  refine Tri.seq ?_
  refine Tri.region ?_
  refine TriL.c1 rfl (op_mv (ltb rfl) rfl) ?_
  refine TriL.c1 rfl (op_call (ltb rfl) fn7 rfl hb) ?_
  refine TriL.c1 rfl (op_mv (ltb rfl) rfl) ?_
  refine TriL.c1 rfl (op_ext (ltb rfl) rfl rfl) ?_
  refine TriL.c1 rfl (op_ext (ltb rfl) rfl rfl) ?_
  refine TriL.c1 rfl (op_ext (ltb rfl) rfl rfl) ?_
  refine TriL.c1 rfl (op_as (ltb rfl) rfl) ?_
  refine TriL.c1 rfl (op_as (ltb rfl) rfl) ?_
  refine TriL.c1 rfl (op_as (ltb rfl) rfl) ?_
  refine TriL.nil ?_
  refine Tri.seq ?_
  refine Tri.region ?_
  refine TriL.c1 rfl (op_as (ltb rfl) rfl) ?_
  refine TriL.nil ?_
  refine Tri.join (fun w => w = StJ H a b (mid line) x y n1 e1 n2 e2) ?_ ?_
  · refine Tri.seq ?_
    refine Tri.region ?_
    refine TriL.c1 rfl (op_mv (ltb rfl) rfl) ?_
    refine TriL.nil ?_
    refine Tri.cond rfl (fun hc1 => ?_) (fun hc1 => ?_)
    · -- region 7 law.go:69
      refine Tri.region ?_
      refine TriL.c1 rfl (op_as (ltb rfl) rfl) ?_
      refine TriL.kept (Kept.keep [.h, .s 0, .s 1, .s 7, .s 8, .s 9, .s 10, .s 11, .s 12, .s 13] rfl (by decide) (Kept.now ?_))
      unfold StJ; rw [mid_t hc1]
    · refine Tri.ofKept (Kept.keep [.h, .s 0, .s 1, .s 7, .s 8, .s 9, .s 10, .s 11, .s 12, .s 13] rfl (by decide) (Kept.now ?_))
      refine Tri.skip ?_
      unfold StJ; rw [mid_f hc1]
  · rintro w rfl
    have hml := mid_len line
    refine Tri.seq ?_
    refine Tri.region ?_
    refine TriL.c1 rfl (op_mv (ltb rfl) rfl) ?_
    refine TriL.c1 rfl (op_cat (ltb rfl) rfl rfl (by simp; omega)) ?_
    refine TriL.c1 rfl (op_mv (ltb rfl) rfl) ?_
    refine TriL.c1 rfl (op_cat (ltb rfl) rfl rfl (by simp; omega)) ?_
    refine TriL.c1 rfl (op_mv (ltb rfl) rfl) ?_
    refine TriL.c1 rfl (op_cat (ltb rfl) rfl rfl (by simp; omega)) ?_
    refine TriL.c1 rfl (op_call (ltb rfl) fn7 rfl hz) ?_
    refine TriL.c1 rfl (op_mv (ltb rfl) rfl) ?_
    refine TriL.c1 rfl (op_ext (ltb rfl) rfl rfl) ?_
    refine TriL.c1 rfl (op_ext (ltb rfl) rfl rfl) ?_
    refine TriL.c1 rfl (op_ext (ltb rfl) rfl rfl) ?_
    refine TriL.c1 rfl (op_as (ltb rfl) rfl) ?_
    refine TriL.c1 rfl (op_as (ltb rfl) rfl) ?_
    refine TriL.c1 rfl (op_as (ltb rfl) rfl) ?_
    refine TriL.nil ?_
    refine Tri.seq ?_
    refine Tri.seq ?_
    refine Tri.region ?_
    refine TriL.c1 rfl (op_mv (ltb rfl) rfl) ?_
    refine TriL.c1 rfl (op_call (ltb rfl) fn10 rfl (num_pure _)) ?_
    refine TriL.c1 rfl (op_bin (ltb rfl) rfl rfl rfl) ?_
    refine TriL.c1 rfl (op_mv (ltb rfl) rfl) ?_
    refine TriL.g1 rfl (ltb rfl) rfl h1 (op_mv (ltb rfl) rfl) ?_
    refine TriL.g1 rfl (ltb rfl) rfl h1 (op_lenl (ltb rfl) un23 rfl) ?_
    refine TriL.g1 rfl (ltb rfl) rfl h1 (op_bin (ltb rfl) rfl rfl rfl) ?_
    refine TriL.c1 rfl (op_pickf (ltb rfl) rfl h1 rfl) ?_
    refine TriL.nil ?_
    refine Tri.condF rfl hx ?_
    refine Tri.skip ?_
    refine Tri.seq ?_
    refine Tri.seq ?_
    refine Tri.region ?_
    refine TriL.c1 rfl (op_mv (ltb rfl) rfl) ?_
    refine TriL.c1 rfl (op_call (ltb rfl) fn10 rfl (num_pure _)) ?_
    refine TriL.c1 rfl (op_bin (ltb rfl) rfl rfl rfl) ?_
    refine TriL.nil ?_
    refine Tri.condT rfl h2 ?_
    refine Tri.seq ?_
    refine Tri.region ?_
    refine TriL.c1 rfl (op_mv (ltb rfl) rfl) ?_
    refine TriL.c1 rfl (op_call (ltb rfl) fn10 rfl (num_pure _)) ?_
    refine TriL.c1 rfl (op_mv (ltb rfl) rfl) ?_
    refine TriL.c1 rfl (op_call (ltb rfl) fn10 rfl (num_pure _)) ?_
    refine TriL.c1 rfl (op_bin (ltb rfl) rfl rfl rfl) ?_
    refine TriL.c1 rfl (op_mv (ltb rfl) rfl) ?_
    refine TriL.g1 rfl (ltb rfl) rfl h3 (op_mv (ltb rfl) rfl) ?_
    refine TriL.g1 rfl (ltb rfl) rfl h3 (op_mv (ltb rfl) rfl) ?_
    refine TriL.g1 rfl (ltb rfl) rfl h3 (op_mv (ltb rfl) rfl) ?_
    refine TriL.g1 rfl (ltb rfl) rfl h3 (op_lens (ltb rfl) un9 rfl) ?_
    refine TriL.g1 rfl (ltb rfl) rfl h3 (op_bin (ltb rfl) rfl rfl rfl) ?_
    refine TriL.g1 rfl (ltb rfl) rfl h3 (op_bin (ltb rfl) rfl rfl rfl) ?_
    refine TriL.g1 rfl (ltb rfl) rfl h3 (op_mv (ltb rfl) rfl) ?_
    refine TriL.g1 rfl (ltb rfl) rfl h3 (op_lens (ltb rfl) un9 rfl) ?_
    refine TriL.g1 rfl (ltb rfl) rfl h3 (op_bin (ltb rfl) rfl rfl rfl) ?_
    refine TriL.g1 rfl (ltb rfl) rfl h3 (op_bin (ltb rfl) rfl rfl rfl) ?_
    refine TriL.c1 rfl (op_pickt (ltb rfl) rfl h3 rfl) ?_
    refine TriL.c1 rfl (op_mv (ltb rfl) rfl) ?_
    refine TriL.g1 rfl (ltb rfl) rfl hn (op_call (ltb rfl) fn6 rfl live_pure) ?_
    refine TriL.c1 rfl (op_pickt (ltb rfl) rfl hn rfl) ?_
    refine TriL.c1 rfl (op_as (ltb rfl) rfl) ?_
    refine TriL.nil ?_
    refine Tri.ret ?_
    exact ⟨.inr rfl, (ResOK.r1 rfl (.tmp rfl .nil)), rfl⟩
def StJL (H : Hp) (a m : List UInt8) (x y z : List AV) (j : Int) : St := [(.h, .hp H), (.s 0, .sv (.v (.str a))), (.s 7, .sv (.v (.sl x))), (.s 10, .sv (.v (.sl y))), (.s 13, .sv (.v (.str m))), (.s 14, .sv (.v (.sl z))), (.s 17, .sv (.v (.int .i64 j)))]
theorem tk_getm {ts : List Tk} {i : Nat} {j : Int} {t : Tk} (hj : j = i) (h : ts[i]? = some t) : (ts.map Tk.av)[j.toNat]? = some t.av := by subst hj; simp [h]
theorem joins_ok (a b : List UInt8) (line : Bool) (ta ty : List Tk) (ex : Tk) (d : Nat) (n1 n2 n3 : Int) (la : a.length ≤ 150) (lb : b.length ≤ 150) (hd : d = a.length + 1 + (mid line).length) (hta : ta.length ≤ 1000) (hty : ty.length ≤ 1000) (hty1 : 1 ≤ ty.length) (hp : ∀ t ∈ ty, t.pos ≤ 1000)
    (ha : Pure Tryd.prog 7 [.str a, .int .i64 400] (.tup [.sl ((ta ++ [ex]).map Tk.av), .int .i64 n1, .int .i64 0])) (hb : Pure Tryd.prog 7 [.str b, .int .i64 400] (.tup [.sl (ty.map Tk.av), .int .i64 n2, .int .i64 0])) (hz : Pure Tryd.prog 7 [.str (((a ++ [10]) ++ mid line) ++ b), .int .i64 400] (.tup [.sl ((ta ++ ty.map (Tk.sh d)).map Tk.av), .int .i64 n3, .int .i64 0])) : Pure Tryd.prog 4 [.str a, .str b, .bool line] (.bool true) := by
  refine Pure.of_tri Tryd.func4 rfl rfl (ltb rfl) fun H => ?_
  refine Tri.seq ?_
  refine Tri.region ?_
  refine TriL.c1 rfl (op_as (ltb rfl) rfl) ?_
  refine TriL.nil ?_
  refine Tri.seq ?_
  refine Tri.seq ?_
  refine Tri.region ?_
  refine TriL.c1 rfl (op_mv (ltb rfl) rfl) ?_
  refine TriL.c1 rfl (op_lens (ltb rfl) un9 rfl) ?_
  refine TriL.c1 rfl (op_bin (ltb rfl) rfl rfl rfl) ?_
  refine TriL.c1 rfl (op_mv (ltb rfl) rfl) ?_
  refine TriL.g1 rfl (ltb rfl) rfl (decide_eq_false (by omega)) (op_mv (ltb rfl) rfl) ?_
  refine TriL.g1 rfl (ltb rfl) rfl (decide_eq_false (by omega)) (op_lens (ltb rfl) un9 rfl) ?_
  refine TriL.g1 rfl (ltb rfl) rfl (decide_eq_false (by omega)) (op_bin (ltb rfl) rfl rfl rfl) ?_
  refine TriL.c1 rfl (op_pickf (ltb rfl) rfl (decide_eq_false (by omega)) rfl) ?_
  refine TriL.nil ?_
  refine Tri.condF rfl (decide_eq_false (by omega)) ?_
  refine Tri.skip ?_
  refine Tri.seq ?_
  refine Tri.region ?_
  refine TriL.c1 rfl (op_mv (ltb rfl) rfl) ?_
  refine TriL.c1 rfl (op_call (ltb rfl) fn7 rfl ha) ?_
  refine TriL.c1 rfl (op_mv (ltb rfl) rfl) ?_
  refine TriL.c1 rfl (op_ext (ltb rfl) rfl rfl) ?_
  refine TriL.c1 rfl (op_ext (ltb rfl) rfl rfl) ?_
  refine TriL.c1 rfl (op_ext (ltb rfl) rfl rfl) ?_
  refine TriL.c1 rfl (op_as (ltb rfl) rfl) ?_
  refine TriL.c1 rfl (op_as (ltb rfl) rfl) ?_
  refine TriL.c1 rfl (op_as (ltb rfl) rfl) ?_
  refine TriL.nil ?_
  refine Tri.seq ?_
  refine Tri.region ?_
  refine TriL.c1 rfl (op_mv (ltb rfl) rfl) ?_
  refine TriL.c1 rfl (op_call (ltb rfl) fn7 rfl hb) ?_
  refine TriL.c1 rfl (op_mv (ltb rfl) rfl) ?_
  refine TriL.c1 rfl (op_ext (ltb rfl) rfl rfl) ?_
  refine TriL.c1 rfl (op_ext (ltb rfl) rfl rfl) ?_
  refine TriL.c1 rfl (op_ext (ltb rfl) rfl rfl) ?_
  refine TriL.c1 rfl (op_as (ltb rfl) rfl) ?_
  refine TriL.c1 rfl (op_as (ltb rfl) rfl) ?_
  refine TriL.c1 rfl (op_as (ltb rfl) rfl) ?_
  refine TriL.nil ?_
  refine Tri.seq ?_
  refine Tri.region ?_
  refine TriL.c1 rfl (op_as (ltb rfl) rfl) ?_
  refine TriL.nil ?_
  refine Tri.join (fun w => w = StJ H a b (mid line) ((ta ++ [ex]).map Tk.av) (ty.map Tk.av) n1 0 n2 0) ?_ ?_
  · refine Tri.seq ?_
    refine Tri.region ?_
    refine TriL.c1 rfl (op_mv (ltb rfl) rfl) ?_
    refine TriL.nil ?_
    refine Tri.cond rfl (fun hc1 => ?_) (fun hc1 => ?_)
    · -- region 7 law.go:69
      refine Tri.region ?_
      refine TriL.c1 rfl (op_as (ltb rfl) rfl) ?_
      refine TriL.kept (Kept.keep [.h, .s 0, .s 1, .s 7, .s 8, .s 9, .s 10, .s 11, .s 12, .s 13] rfl (by decide) (Kept.now ?_))
      unfold StJ; rw [mid_t hc1]
    · refine Tri.ofKept (Kept.keep [.h, .s 0, .s 1, .s 7, .s 8, .s 9, .s 10, .s 11, .s 12, .s 13] rfl (by decide) (Kept.now ?_))
      refine Tri.skip ?_
      unfold StJ; rw [mid_f hc1]
  · rintro w rfl
    have hml := mid_len line
    refine Tri.seq ?_
    refine Tri.region ?_
    refine TriL.c1 rfl (op_mv (ltb rfl) rfl) ?_
    refine TriL.c1 rfl (op_cat (ltb rfl) rfl rfl (by simp; omega)) ?_
    refine TriL.c1 rfl (op_mv (ltb rfl) rfl) ?_
    refine TriL.c1 rfl (op_cat (ltb rfl) rfl rfl (by simp; omega)) ?_
    refine TriL.c1 rfl (op_mv (ltb rfl) rfl) ?_
    refine TriL.c1 rfl (op_cat (ltb rfl) rfl rfl (by simp; omega)) ?_
    refine TriL.c1 rfl (op_call (ltb rfl) fn7 rfl hz) ?_
    refine TriL.c1 rfl (op_mv (ltb rfl) rfl) ?_
    refine TriL.c1 rfl (op_ext (ltb rfl) rfl rfl) ?_
    refine TriL.c1 rfl (op_ext (ltb rfl) rfl rfl) ?_
    refine TriL.c1 rfl (op_ext (ltb rfl) rfl rfl) ?_
    refine TriL.c1 rfl (op_as (ltb rfl) rfl) ?_
    refine TriL.c1 rfl (op_as (ltb rfl) rfl) ?_
    refine TriL.c1 rfl (op_as (ltb rfl) rfl) ?_
    refine TriL.nil ?_
    refine Tri.seq ?_
    refine Tri.seq ?_
    refine Tri.region ?_
    refine TriL.c1 rfl (op_mv (ltb rfl) rfl) ?_
    refine TriL.c1 rfl (op_call (ltb rfl) fn10 rfl (num_pure _)) ?_
    refine TriL.c1 rfl (op_bin (ltb rfl) rfl rfl rfl) ?_
    refine TriL.c1 rfl (op_mv (ltb rfl) rfl) ?_
    refine TriL.g1 rfl (ltb rfl) rfl rfl (op_mv (ltb rfl) rfl) ?_
    refine TriL.g1 rfl (ltb rfl) rfl rfl (op_lenl (ltb rfl) un23 rfl) ?_
    refine TriL.g1 rfl (ltb rfl) rfl rfl (op_bin (ltb rfl) rfl rfl rfl) ?_
    refine TriL.c1 rfl (op_pickf (ltb rfl) rfl rfl rfl) ?_
    refine TriL.nil ?_
    refine Tri.condF rfl (beq_eq_false_iff_ne.2 (by simp; omega)) ?_
    refine Tri.skip ?_
    refine Tri.seq ?_
    refine Tri.seq ?_
    refine Tri.region ?_
    refine TriL.c1 rfl (op_mv (ltb rfl) rfl) ?_
    refine TriL.c1 rfl (op_call (ltb rfl) fn10 rfl (num_pure _)) ?_
    refine TriL.c1 rfl (op_bin (ltb rfl) rfl rfl rfl) ?_
    refine TriL.nil ?_
    refine Tri.condF rfl rfl ?_
    refine Tri.skip ?_
    refine Tri.seq ?_
    refine Tri.seq ?_
    refine Tri.region ?_
    refine TriL.c1 rfl (op_mv (ltb rfl) rfl) ?_
    refine TriL.c1 rfl (op_call (ltb rfl) fn10 rfl (num_pure _)) ?_
    refine TriL.c1 rfl (op_bin (ltb rfl) rfl rfl rfl) ?_
    refine TriL.c1 rfl (op_mv (ltb rfl) rfl) ?_
    refine TriL.g1 rfl (ltb rfl) rfl rfl (op_mv (ltb rfl) rfl) ?_
    refine TriL.g1 rfl (ltb rfl) rfl rfl (op_lenl (ltb rfl) un23 rfl) ?_
    refine TriL.g1 rfl (ltb rfl) rfl rfl (op_mv (ltb rfl) rfl) ?_
    refine TriL.g1 rfl (ltb rfl) rfl rfl (op_lenl (ltb rfl) un23 rfl) ?_
    refine TriL.g1 rfl (ltb rfl) rfl rfl (op_mv (ltb rfl) rfl) ?_
    refine TriL.g1 rfl (ltb rfl) rfl rfl (op_lenl (ltb rfl) un23 rfl) ?_
    refine TriL.g1 rfl (ltb rfl) rfl rfl (op_bin (ltb rfl) rfl rfl rfl) ?_
    refine TriL.g1 rfl (ltb rfl) rfl rfl (op_bin (ltb rfl) rfl rfl rfl) ?_
    refine TriL.g1 rfl (ltb rfl) rfl rfl (op_bin (ltb rfl) rfl rfl rfl) ?_
    refine TriL.c1 rfl (op_pickf (ltb rfl) rfl rfl rfl) ?_
    refine TriL.nil ?_
    refine Tri.condF rfl (by rw [List.length_map, List.length_map, List.length_map]; simp only [List.length_append, List.length_map, List.length_cons, List.length_nil]; rw [wr64 (n := ((ta.length + (0 + 1) : Nat) : Int) + (ty.length : Int)) (by omega) (by omega), wr64 (by omega) (by omega)]; simp; omega) ?_
    refine Tri.skip ?_
    refine Tri.seq ?_
    refine Tri.seq ?_
    refine Tri.region ?_
    refine TriL.c1 rfl (op_as (ltb rfl) rfl) ?_
    refine TriL.kept (Kept.keep [.h, .s 0, .s 7, .s 10, .s 13, .s 14, .s 17] rfl (by decide) (Kept.now ?_))
    refine Tri.blk ?_
    -- LOOP 1: KEEP
    refine Tri.loop (fun q w => ∃ (i : Nat) (j : Int), w = StJL H a (mid line) ((ta ++ [ex]).map Tk.av) (ty.map Tk.av) ((ta ++ ty.map (Tk.sh d)).map Tk.av) j ∧ j = i ∧ q = (ta ++ ty.map (Tk.sh d)).length - i) ?_ (n := (ta ++ ty.map (Tk.sh d)).length) ⟨0, 0, rfl, rfl, rfl⟩
    rintro q w ⟨i, j, rfl, hj, rfl⟩
    have hzl : (ta ++ ty.map (Tk.sh d)).length = ta.length + ty.length := by simp
    have hxl : ((ta ++ [ex]).map Tk.av).length = ta.length + 1 := by simp
    refine Tri.seq ?_
    refine Tri.seq ?_
    refine Tri.region ?_
    refine TriL.c1 rfl (op_mv (ltb rfl) rfl) ?_
    refine TriL.c1 rfl (op_mv (ltb rfl) rfl) ?_
    refine TriL.c1 rfl (op_lenl (ltb rfl) un23 rfl) ?_
    refine TriL.c1 rfl (op_bin (ltb rfl) rfl rfl rfl) ?_
    refine TriL.nil ?_
    refine Tri.cond rfl (fun hc2 => ?_) (fun hc2 => ?_)
    · have hlt : i < ta.length + ty.length := by have := of_decide_eq_true hc2; simp at this; omega
      obtain ⟨zt, hzt⟩ : ∃ zt, (ta ++ ty.map (Tk.sh d))[i]? = some zt := ⟨(ta ++ ty.map (Tk.sh d))[i]'(by omega), List.getElem?_eq_getElem _⟩
      refine Tri.skip ?_
      refine Tri.seq ?_
      refine Tri.blk ?_
      refine Tri.seq ?_
      refine Tri.region ?_
      refine TriL.c1 rfl (op_mv (ltb rfl) rfl) ?_
      refine TriL.c1 rfl (op_mv (ltb rfl) rfl) ?_
      refine TriL.c1 rfl (op_iak (ltb rfl) ie23 rfl rfl (by omega) (tk_getm hj hzt) rfl) ?_
      refine TriL.c1 rfl (op_ldk (ltb rfl) lk35 rfl rfl) ?_
      refine TriL.c2 rfl (op_all (ltb rfl) zA35 rfl) ?_
      refine TriL.c1 rfl (op_stl lk35 rfl rfl rfl rfl rfl (leb rfl)) ?_
      refine TriL.nil ?_
      refine Tri.seq ?_
      refine Tri.seq ?_
      refine Tri.region ?_
      refine TriL.c1 rfl (op_mv (ltb rfl) rfl) ?_
      refine TriL.c1 rfl (op_mv (ltb rfl) rfl) ?_
      refine TriL.c1 rfl (op_lenl (ltb rfl) un23 rfl) ?_
      refine TriL.c1 rfl (op_bin (ltb rfl) rfl rfl rfl) ?_
      refine TriL.c1 rfl (op_bin (ltb rfl) rfl rfl rfl) ?_
      refine TriL.nil ?_
      refine Tri.cond rfl (fun hc3 => ?_) (fun hc3 => ?_)
      · have hlt2 : i < ta.length := by
            have := of_decide_eq_true hc3
            rw [hxl, wr64 (by omega) (by omega)] at this; omega
        have hxt : (ta ++ [ex])[i]? = some zt := by
          rw [List.getElem?_append_left hlt2] at hzt ⊢; exact hzt
        refine Tri.seq ?_
        refine Tri.seq ?_
        refine Tri.drawn mixed rfl ?_
        refine TriD.c1 rfl (op_ldl (ltb rfl) lk35 rfl rfl rfl) ?_
        refine TriD.c1 rfl (op_mv (ltb rfl) rfl) ?_
        refine TriD.c1 rfl (op_mv (ltb rfl) rfl) ?_
        refine TriD.c1 rfl (op_iak (ltb rfl) ie23 rfl rfl (by omega) (tk_getm hj hxt) rfl) ?_
        refine TriD.c1 rfl (op_ldk (ltb rfl) lk35 rfl rfl) ?_
        refine TriD.c1 rfl (op_nes35 (t := zt) (ltb rfl) rfl rfl rfl rfl) ?_
        refine TriD.nil (by kernel_rfl) (Kept.now ?_)
        refine Tri.condF rfl rfl ?_
        refine Tri.skip ?_
        refine Tri.exit ?_
        refine Tri.region ?_
        refine TriL.c1 rfl (op_mv (ltb rfl) rfl) ?_
        refine TriL.c1 rfl (op_bin (ltb rfl) rfl rfl rfl) ?_
        refine TriL.c1 rfl (op_as (ltb rfl) rfl) ?_
        refine TriL.kept (Kept.keep [.h, .s 0, .s 7, .s 10, .s 13, .s 14, .s 17] rfl (by decide) (Kept.now ?_))
        exact ⟨(ta ++ ty.map (Tk.sh d)).length - (i + 1), by omega, i + 1, IntKind.i64.wrap (j + 1), rfl, by rw [hj, wr64] <;> omega, rfl⟩
      · have hge : ta.length ≤ i := by
            have := of_decide_eq_false hc3
            rw [hxl, wr64 (by omega) (by omega)] at this; omega
        obtain ⟨yt, hyt⟩ : ∃ yt, ty[i - ta.length]? = some yt := ⟨ty[i - ta.length]'(by omega), List.getElem?_eq_getElem _⟩
        have hzy : zt = yt.sh d := by
          rw [List.getElem?_append_right hge, List.getElem?_map, hyt] at hzt
          exact (Option.some.inj hzt).symm
        subst hzy
        have hyp := hp yt (List.mem_of_getElem? hyt)
        have hix : IntKind.i64.wrap (IntKind.i64.wrap (j - (((ta ++ [ex]).map Tk.av).length : Int)) + 1) = ((i - ta.length : Nat) : Int) := by
          rw [hxl, hj, wr64 (n := (i : Int) - ((ta.length + 1 : Nat) : Int)) (by omega) (by omega), wr64 (by omega) (by omega)]; omega
        have hat : IntKind.i64.wrap (IntKind.i64.wrap (IntKind.i64.wrap (((yt.sh d).pos : Int) - (a.length : Int)) - 1) - ((mid line).length : Int)) = (yt.pos : Int) := by
          have e : (yt.sh d).pos = yt.pos + d := rfl
          have hml := mid_len line
          rw [e, wr64 (n := ((yt.pos + d : Nat) : Int) - (a.length : Int)) (by omega) (by omega), wr64 (n := ((yt.pos + d : Nat) : Int) - (a.length : Int) - 1) (by omega) (by omega), wr64 (by omega) (by omega)]; omega
        refine Tri.skip ?_
        refine Tri.seq ?_
        refine Tri.region ?_
        refine TriL.c1 rfl (op_fal (ltb rfl) fo35_4 rfl) ?_
        refine TriL.c1 rfl (op_ldl (ltb rfl) lk3 rfl rfl rfl) ?_
        refine TriL.c1 rfl (op_mv (ltb rfl) rfl) ?_
        refine TriL.c1 rfl (op_lens (ltb rfl) un9 rfl) ?_
        refine TriL.c1 rfl (op_bin (ltb rfl) rfl rfl rfl) ?_
        refine TriL.c1 rfl (op_bin (ltb rfl) rfl rfl rfl) ?_
        refine TriL.c1 rfl (op_mv (ltb rfl) rfl) ?_
        refine TriL.c1 rfl (op_lens (ltb rfl) un9 rfl) ?_
        refine TriL.c1 rfl (op_bin (ltb rfl) rfl rfl rfl) ?_
        refine TriL.c1 rfl (op_fal (ltb rfl) fo35_4 rfl) ?_
        refine TriL.c1 rfl (op_stl lk3 rfl rfl rfl rfl rfl (leb rfl)) ?_
        refine TriL.nil ?_
        refine Tri.seq ?_
        refine Tri.drawn mixed rfl ?_
        refine TriD.c1 rfl (op_ldl (ltb rfl) lk35 rfl rfl rfl) ?_
        refine TriD.c1 rfl (op_mv (ltb rfl) rfl) ?_
        refine TriD.c1 rfl (op_mv (ltb rfl) rfl) ?_
        refine TriD.c1 rfl (op_mv (ltb rfl) rfl) ?_
        refine TriD.c1 rfl (op_lenl (ltb rfl) un23 rfl) ?_
        refine TriD.c1 rfl (op_bin (ltb rfl) rfl rfl rfl) ?_
        refine TriD.c1 rfl (op_bin (ltb rfl) rfl rfl rfl) ?_
        refine TriD.c1 rfl (op_iak (ltb rfl) ie23 rfl rfl (by rw [hix]; omega) (tk_getm hix hyt) rfl) ?_
        refine TriD.c1 rfl (op_ldk (ltb rfl) lk35 rfl rfl) ?_
        refine TriD.c1 rfl (op_nes35 (t := yt) (ltb rfl) rfl rfl (by rw [hat]; rfl) rfl) ?_
        refine TriD.nil (by kernel_rfl) (Kept.now ?_)
        refine Tri.condF rfl rfl ?_
        refine Tri.skip ?_
        refine Tri.region ?_
        refine TriL.c1 rfl (op_mv (ltb rfl) rfl) ?_
        refine TriL.c1 rfl (op_bin (ltb rfl) rfl rfl rfl) ?_
        refine TriL.c1 rfl (op_as (ltb rfl) rfl) ?_
        refine TriL.kept (Kept.keep [.h, .s 0, .s 7, .s 10, .s 13, .s 14, .s 17] rfl (by decide) (Kept.now ?_))
        exact ⟨(ta ++ ty.map (Tk.sh d)).length - (i + 1), by omega, i + 1, IntKind.i64.wrap (j + 1), rfl, by rw [hj, wr64] <;> omega, rfl⟩
    · refine Tri.exit ?_
      refine Tri.seq ?_
      refine Tri.region ?_
      refine TriL.c1 rfl (op_call (ltb rfl) fn6 rfl live_pure) ?_
      refine TriL.c1 rfl (op_as (ltb rfl) rfl) ?_
      refine TriL.nil ?_
      refine Tri.ret ?_
      exact ⟨.inr rfl, (ResOK.r1 rfl (.tmp rfl .nil)), rfl⟩
theorem joins_long (a b : List UInt8) (line : Bool) (h : 150 < a.length ∨ 150 < b.length) : Pure Tryd.prog 4 [.str a, .str b, .bool line] (.bool true) := by
  refine Pure.of_tri Tryd.func4 rfl rfl (ltb rfl) fun H => ?_
  refine Tri.seq ?_
  refine Tri.region ?_
  refine TriL.c1 rfl (op_as (ltb rfl) rfl) ?_
  refine TriL.nil ?_
  refine Tri.seq ?_
  refine Tri.seq ?_
  refine Tri.region ?_
  refine TriL.c1 rfl (op_mv (ltb rfl) rfl) ?_
  refine TriL.c1 rfl (op_lens (ltb rfl) un9 rfl) ?_
  refine TriL.c1 rfl (op_bin (ltb rfl) rfl rfl rfl) ?_
  refine TriL.c1 rfl (op_mv (ltb rfl) rfl) ?_
  refine TriL.split (d := 22) rfl (fun hg1 => ?_) (fun hg1 => ?_)
  · refine TriL.skipu rfl rfl (ltb rfl) (ltb rfl) rfl hg1 ?_
    refine TriL.skipu rfl rfl (ltb rfl) (ltb rfl) rfl hg1 ?_
    refine TriL.skipu rfl rfl (ltb rfl) (ltb rfl) rfl hg1 ?_
    refine TriL.c1 rfl (op_pickt (ltb rfl) rfl hg1 rfl) ?_
    refine TriL.nil ?_
    refine Tri.condT rfl rfl ?_
    refine Tri.seq ?_
    refine Tri.region ?_
    refine TriL.c1 rfl (op_call (ltb rfl) fn6 rfl live_pure) ?_
    refine TriL.c1 rfl (op_as (ltb rfl) rfl) ?_
    refine TriL.nil ?_
    refine Tri.ret ?_
    exact ⟨.inr rfl, (ResOK.r1 rfl (.tmp rfl .nil)), rfl⟩
  · refine TriL.g1 rfl (ltb rfl) rfl hg1 (op_mv (ltb rfl) rfl) ?_
    refine TriL.g1 rfl (ltb rfl) rfl hg1 (op_lens (ltb rfl) un9 rfl) ?_
    refine TriL.g1 rfl (ltb rfl) rfl hg1 (op_bin (ltb rfl) rfl rfl rfl) ?_
    refine TriL.c1 rfl (op_pickf (ltb rfl) rfl hg1 rfl) ?_
    refine TriL.nil ?_
    refine Tri.condT rfl (decide_eq_true (by have := of_decide_eq_false hg1; omega)) ?_
    refine Tri.seq ?_
    refine Tri.region ?_
    refine TriL.c1 rfl (op_call (ltb rfl) fn6 rfl live_pure) ?_
    refine TriL.c1 rfl (op_as (ltb rfl) rfl) ?_
    refine TriL.nil ?_
    refine Tri.ret ?_
    exact ⟨.inr rfl, (ResOK.r1 rfl (.tmp rfl .nil)), rfl⟩
end Go.Proofs.YthoncmadikifnaaDoor.X
