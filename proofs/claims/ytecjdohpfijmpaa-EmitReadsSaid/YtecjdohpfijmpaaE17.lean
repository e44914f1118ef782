/- The reference's cursor, where it does not fail. -/
import Derived.Test.YtecjdohpfijmpaaE16
set_option linter.unusedVariables false
set_option linter.unusedSimpArgs false
namespace Go.Proofs.Ytecjdohpfijmpaa.X
open Go Go.RowKit Go.Proofs
theorem fn47 : isFn Try.prog 47 = true := by kernel_rfl
theorem fn48 : isFn Try.prog 48 = true := by kernel_rfl
theorem fn50 : isFn Try.prog 50 = true := by kernel_rfl
theorem fn51 : isFn Try.prog 51 = true := by kernel_rfl
theorem fn61 : isFn Try.prog 61 = true := by kernel_rfl
theorem fo43_0 : fo Try.prog 43 0 = some 0 := by kernel_rfl
theorem fo43_1 : fo Try.prog 43 1 = some 1 := by kernel_rfl
theorem fo43_2 : fo Try.prog 43 2 = some 2 := by kernel_rfl
theorem fo43_3 : fo Try.prog 43 3 = some 3 := by kernel_rfl
theorem ie41 : ie Try.prog 41 = some 1 := by kernel_rfl
theorem lk41 : lk Try.prog 41 = some (false, 1) := by kernel_rfl
theorem se41 : se Try.prog 41 = some (3, 1, 8) := by kernel_rfl
theorem spl43 : spl Try.prog 43 = some [(0, 1), (1, 1), (2, 1), (3, 1)] := by kernel_rfl
theorem un41 : Try.prog.underlying 41 = some (TypeDesc.slice 3) := Try.underlying41
theorem zAe41 : zeroA Try.prog 3 = some [AV.int IntKind.i64 (0)] := by kernel_rfl
theorem zN43 : zeroN Try.prog 43 = some [.nsl, .int .i64 0, .nsl, .bool false] := by kernel_rfl
def il (l : List Nat) : List AV := l.map fun (e : Nat) => .int .i64 (e : Int)
theorem il_len (l : List Nat) : (il l).length = l.length := by simp [il]
theorem il_app (l m : List Nat) : il (l ++ m) = il l ++ il m := by simp [il]
theorem il_fm (l : List Nat) : (il l).flatMap AV.cells = il l := by
  induction l with
  | nil => rfl
  | cons a l ih => simp only [il, List.map_cons, List.flatMap_cons] at ih ⊢; rw [ih]; rfl
theorem il_last (es : List Nat) (e : Nat) : ((il (es ++ [e])).flatMap AV.cells).drop (es.length * 1) = [.int .i64 (e : Int)] := by
  rw [il_fm, il_app, Nat.mul_one, List.drop_append_of_le_length (by rw [il_len]; omega), List.drop_of_length_le (by rw [il_len]; exact Nat.le_refl _)]; rfl
/-- a cursor: its bytes, the place, the frames' ends -/
def curs (b : List UInt8) (p : Nat) (ends : List Nat) (bad : Bool) : List Hc := [.v (.sl (bsl b)), .v (.int .i64 (p : Int)), .row 3 1 (il ends), .v (.bool bad)]
theorem bsl_es (b : List UInt8) : ∀ e ∈ bsl b, e.cells.length = 1 := by
  intro e he; simp only [bsl, List.mem_map] at he; obtain ⟨c, _, rfl⟩ := he; rfl
theorem bsl_cut (b : List UInt8) (i j : Nat) : ((bsl b).drop i).take j = bsl ((b.drop i).take j) := by simp [bsl]
theorem get1_pure' {xs : List AV} {b : List UInt8} {n k : Nat} (e : xs = bsl b) (h : vget b = (n, k)) : Pure Try.prog 61 [.sl xs] (.tup [.int .u64 (n : Int), .int .i64 (k : Int)]) := by
  subst e; have := get1_pure b; rw [h] at this; exact this
theorem from_run (H : Hp) (b : List UInt8) : Run Try.prog 20 [.sl (bsl b)] H (.op H.next 0) (H.add (curs b 0 [b.length] false)) := by
  refine Run.of_tri Try.func20 rfl rfl (ltb rfl) ?_
  refine Tri.seq ?_
  refine Tri.region ?_
  refine TriL.c1 rfl (op_as (ltb rfl) rfl) ?_
  refine TriL.nil ?_
  refine Tri.seq ?_
  refine Tri.region ?_
  refine TriL.c1 rfl (op_mv (ltb rfl) rfl) ?_
  refine TriL.c1 rfl (op_mv (ltb rfl) rfl) ?_
  refine TriL.c1 rfl (op_lenl (ltb rfl) un22 rfl) ?_
  refine TriL.c2 rfl (op_littm («as» := [_]) (ltb rfl) se41 zAe41 rfl rfl rfl (leb rfl) rfl) ?_
  refine TriL.bldbox (ltb rfl) (ltb rfl) spl43 zN43 rfl rfl rfl ?_
  refine TriL.c1 rfl (op_as (ltb rfl) rfl) ?_
  refine TriL.kept (Kept.pub 8 rfl rfl (Kept.op 2 rfl rfl (Kept.cls 8 rfl rfl rfl rfl (Kept.now ?_))))
  refine Tri.ret ?_
  refine ⟨.inr rfl, ResOK.r1 rfl (.tmp rfl .nil), ?_⟩
  rw [show curs b 0 [b.length] false = [.v (.sl (bsl b)), .v (.int .i64 0), .row 3 1 [.int .i64 ((bsl b).length : Int)], .v (.bool false)] by rw [bsl_len]; rfl]
  rfl
theorem end_run (H : Hp) (id : Nat) (b : List UInt8) (p : Nat) (es : List Nat) (e : Nat) (bad : Bool) (ho : H.obj id = some (curs b p (es ++ [e]) bad)) (hl : es.length ≤ 1048576) : Run Try.prog 51 [.op id 0] H (.int .i64 (e : Int)) H := by
  have hll : (il (es ++ [e])).length = es.length + 1 := by rw [il_len]; simp
  have hn : IntKind.i64.wrap (((il (es ++ [e])).length : Int) - 1) = (es.length : Int) := by rw [hll, wr64] <;> omega
  have hnn : ((es.length : Nat) : Int).toNat = es.length := rfl
  refine Run.of_tri Try.func51 rfl rfl (ltb rfl) ?_
  refine Tri.seq ?_
  refine Tri.region ?_
  refine TriL.c1 rfl (op_as (ltb rfl) rfl) ?_
  refine TriL.nil ?_
  refine Tri.seq ?_
  refine Tri.ofKept (Kept.opn 100 id 100 rfl ho rfl rfl (Kept.lp 0 100 rfl rfl (Kept.now ?_)))
  refine Tri.drawn mixed rfl ?_
  refine TriD.c1 rfl (op_mv (ltb rfl) rfl) ?_
  refine TriD.c1 rfl (op_nckl (ltb rfl) rfl) ?_
  refine TriD.c1 rfl (op_fal (ltb rfl) fo43_2 rfl) ?_
  refine TriD.c1 rfl (op_ldo (ltb rfl) lk41 rfl rfl rfl) ?_
  refine TriD.c1 rfl (op_mv (ltb rfl) rfl) ?_
  refine TriD.c1 rfl (op_nckl (ltb rfl) rfl) ?_
  refine TriD.c1 rfl (op_fal (ltb rfl) fo43_2 rfl) ?_
  refine TriD.c1 rfl (op_ldo (ltb rfl) lk41 rfl rfl rfl) ?_
  refine TriD.c1 rfl (op_lenom (ltb rfl) un41 rfl) ?_
  refine TriD.c1 rfl (op_bin (ltb rfl) rfl rfl rfl) ?_
  refine TriD.c1 rfl (op_iam (ltb rfl) ie41 rfl rfl rfl (by rw [hn]; omega) (by rw [hn, hll]; omega)) ?_
  refine TriD.c1 rfl (op_ldt (ltb rfl) lk3 rfl rfl (by rw [hn, hnn, il_last]; rfl)) ?_
  refine TriD.c1 rfl (op_as (ltb rfl) rfl) ?_
  refine TriD.nil (by kernel_rfl) (Kept.op 0 rfl rfl (Kept.cls 100 rfl rfl rfl rfl (Kept.now ?_)))
  refine Tri.ret ?_
  refine ⟨.inr rfl, ResOK.r1 rfl (.tmp rfl .nil), ?_⟩
  have e : (H.del id).set id (curs b p (es ++ [e]) bad) = H := by rw [Hp.del_set, Hp.set_same ho]
  exact congrArg (fun h => some (CV.hp h)) e
theorem cvarint_run (H : Hp) (id : Nat) (b : List UInt8) (p : Nat) (es : List Nat) (e n k : Nat) (ho : H.obj id = some (curs b p (es ++ [e]) false)) (hl : es.length ≤ 1048576) (hg : vget ((b.drop p).take (e - p)) = (n, k)) (hk : 0 < k) (h1 : p + k ≤ e) (h2 : e ≤ b.length) (hb : b.length ≤ 4611686018427387904) : Run Try.prog 48 [.op id 0] H (.int .u64 (n : Int)) (H.set id (curs b (p + k) (es ++ [e]) false)) := by
  refine Run.of_tri Try.func48 rfl rfl (ltb rfl) ?_
  refine Tri.seq ?_
  refine Tri.region ?_
  refine TriL.c1 rfl (op_as (ltb rfl) rfl) ?_
  refine TriL.nil ?_
  refine Tri.seq ?_
  refine Tri.seq ?_
  refine Tri.region ?_
  refine TriL.c1 rfl (op_mv (ltb rfl) rfl) ?_
  refine TriL.c1 rfl (op_nckc (ltb rfl) rfl) ?_
  refine TriL.c1 rfl (op_fac (ltb rfl) fo43_3 rfl) ?_
  refine TriL.c1 rfl (op_ldc (ltb rfl) lk4 rfl rfl ho rfl) ?_
  refine TriL.nil ?_
  refine Tri.condF rfl rfl ?_
  refine Tri.skip ?_
  refine Tri.seq ?_
  refine Tri.drawn mixed rfl ?_
  refine TriD.c1 rfl (op_mv (ltb rfl) rfl) ?_
  refine TriD.c1 rfl (op_nckc (ltb rfl) rfl) ?_
  refine TriD.c1 rfl (op_fac (ltb rfl) fo43_0 rfl) ?_
  refine TriD.c1 rfl (op_ldc (ltb rfl) lk22 rfl rfl ho rfl) ?_
  refine TriD.c1 rfl (op_mv (ltb rfl) rfl) ?_
  refine TriD.c1 rfl (op_nckc (ltb rfl) rfl) ?_
  refine TriD.c1 rfl (op_fac (ltb rfl) fo43_1 rfl) ?_
  refine TriD.c1 rfl (op_ldc (ltb rfl) lk3 rfl rfl ho rfl) ?_
  refine TriD.c1 rfl (op_mv (ltb rfl) rfl) ?_
  refine TriD.c1 rfl (op_callk (ltb rfl) fn51 rfl rfl (end_run H id b p es e false ho hl)) ?_
  refine TriD.c1 rfl (op_cutl (ltb rfl) ie22 rfl (bsl_es b) rfl rfl (by omega) (by omega) (by rw [bsl_len]; omega)) ?_
  refine TriD.c1 rfl (op_call (ltb rfl) fn61 rfl (get1_pure' (b := (b.drop p).take (e - p)) (by rw [← bsl_cut]; rfl) hg)) ?_
  refine TriD.c1 rfl (op_mv (ltb rfl) rfl) ?_
  refine TriD.c1 rfl (op_ext (ltb rfl) rfl rfl) ?_
  refine TriD.c1 rfl (op_ext (ltb rfl) rfl rfl) ?_
  refine TriD.c1 rfl (op_as (ltb rfl) rfl) ?_
  refine TriD.c1 rfl (op_as (ltb rfl) rfl) ?_
  refine TriD.nil (by kernel_rfl) (Kept.now ?_)
  refine Tri.seq ?_
  refine Tri.seq ?_
  refine Tri.region ?_
  refine TriL.c1 rfl (op_mv (ltb rfl) rfl) ?_
  refine TriL.c1 rfl (op_bin (ltb rfl) rfl rfl rfl) ?_
  refine TriL.nil ?_
  refine Tri.condF rfl (by simp; omega) ?_
  refine Tri.skip ?_
  refine Tri.seq ?_
  refine Tri.region ?_
  refine TriL.c1 rfl (op_mv (ltb rfl) rfl) ?_
  refine TriL.c1 rfl (op_mv (ltb rfl) rfl) ?_
  refine TriL.c1 rfl (op_nckc (ltb rfl) rfl) ?_
  refine TriL.c1 rfl (op_fac (ltb rfl) fo43_1 rfl) ?_
  refine TriL.c1 rfl (op_ldc (ltb rfl) lk3 rfl rfl ho rfl) ?_
  refine TriL.c1 rfl (op_mv (ltb rfl) rfl) ?_
  refine TriL.c1 rfl (op_bin (ltb rfl) rfl rfl rfl) ?_
  refine TriL.c1 rfl (op_nckc (ltb rfl) rfl) ?_
  refine TriL.c1 rfl (op_fac (ltb rfl) fo43_1 rfl) ?_
  refine TriL.c1 rfl (op_stc lk3 rfl rfl ho rfl rfl rfl) ?_
  refine TriL.nil ?_
  refine Tri.seq ?_
  refine Tri.region ?_
  refine TriL.c1 rfl (op_mv (ltb rfl) rfl) ?_
  refine TriL.c1 rfl (op_as (ltb rfl) rfl) ?_
  refine TriL.nil ?_
  refine Tri.ret ?_
  refine ⟨.inr rfl, ResOK.r1 rfl (.tmp rfl .nil), ?_⟩
  have e : H.set id [.v (.sl (bsl b)), .v (.int .i64 (IntKind.i64.wrap ((p : Int) + (k : Int)))), .row 3 1 (il (es ++ [e])), .v (.bool false)] = H.set id (curs b (p + k) (es ++ [e]) false) := by
    rw [wr64 (by omega) (by omega)]; rfl
  exact congrArg (fun h => some (CV.hp h)) e
theorem clong_run (H : Hp) (id : Nat) (b : List UInt8) (p : Nat) (es : List Nat) (e n k : Nat) (ho : H.obj id = some (curs b p (es ++ [e]) false)) (hl : es.length ≤ 1048576) (hg : vget ((b.drop p).take (e - p)) = (n, k)) (hk : 0 < k) (h1 : p + k ≤ e) (h2 : e ≤ b.length) (hb : b.length ≤ 4611686018427387904) (h3 : p + k + n ≤ e) : Run Try.prog 50 [.op id 0] H (.int .i64 (n : Int)) (H.set id (curs b (p + k) (es ++ [e]) false)) := by
  refine Run.of_tri Try.func50 rfl rfl (ltb rfl) ?_
  refine Tri.seq ?_
  refine Tri.region ?_
  refine TriL.c1 rfl (op_as (ltb rfl) rfl) ?_
  refine TriL.nil ?_
  refine Tri.seq ?_
  refine Tri.region ?_
  refine TriL.c1 rfl (op_mv (ltb rfl) rfl) ?_
  refine TriL.c2 rfl (op_callh (ltb rfl) fn48 rfl rfl (cvarint_run H id b p es e n k ho hl hg hk h1 h2 hb)) ?_
  refine TriL.c1 rfl (op_as (ltb rfl) rfl) ?_
  refine TriL.nil ?_
  refine Tri.seq ?_
  refine Tri.seq ?_
  refine Tri.drawn mixed rfl ?_
  refine TriD.c1 rfl (op_mv (ltb rfl) rfl) ?_
  refine TriD.c1 rfl (op_nckc (ltb rfl) rfl) ?_
  refine TriD.c1 rfl (op_fac (ltb rfl) fo43_3 rfl) ?_
  refine TriD.c1 rfl (op_ldc (ltb rfl) lk4 rfl rfl Hp.set_obj rfl) ?_
  refine TriD.c1 rfl (op_un (ltb rfl) rfl rfl) ?_
  refine TriD.c1 rfl (op_mv (ltb rfl) rfl) ?_
  refine TriD.g1 rfl (ltb rfl) rfl rfl (op_mv (ltb rfl) rfl) ?_
  refine TriD.g1 rfl (ltb rfl) rfl rfl (op_mv (ltb rfl) rfl) ?_
  refine TriD.g1 rfl (ltb rfl) rfl rfl (op_callk (ltb rfl) fn51 rfl rfl (end_run _ id b _ es e false Hp.set_obj hl)) ?_
  refine TriD.g1 rfl (ltb rfl) rfl rfl (op_mv (ltb rfl) rfl) ?_
  refine TriD.g1 rfl (ltb rfl) rfl rfl (op_nckc (ltb rfl) rfl) ?_
  refine TriD.g1 rfl (ltb rfl) rfl rfl (op_fac (ltb rfl) fo43_1 rfl) ?_
  refine TriD.g1 rfl (ltb rfl) rfl rfl (op_ldc (ltb rfl) lk3 rfl rfl Hp.set_obj rfl) ?_
  refine TriD.g1 rfl (ltb rfl) rfl rfl (op_bin (ltb rfl) rfl rfl rfl) ?_
  refine TriD.g1 rfl (ltb rfl) rfl rfl (op_cvi (ltb rfl) un3 un50 rfl) ?_
  refine TriD.g1 rfl (ltb rfl) rfl rfl (op_bin (ltb rfl) rfl rfl rfl) ?_
  refine TriD.c1 rfl (op_pickt (ltb rfl) rfl rfl rfl) ?_
  refine TriD.nil (by kernel_rfl) (Kept.now ?_)
  refine Tri.condF rfl (by rw [wr64 (by omega) (by omega), wru64 (by omega) (by omega)]; exact decide_eq_false (by omega)) ?_
  refine Tri.skip ?_
  refine Tri.seq ?_
  refine Tri.seq ?_
  refine Tri.region ?_
  refine TriL.c1 rfl (op_mv (ltb rfl) rfl) ?_
  refine TriL.c1 rfl (op_nckc (ltb rfl) rfl) ?_
  refine TriL.c1 rfl (op_fac (ltb rfl) fo43_3 rfl) ?_
  refine TriL.c1 rfl (op_ldc (ltb rfl) lk4 rfl rfl Hp.set_obj rfl) ?_
  refine TriL.nil ?_
  refine Tri.condF rfl rfl ?_
  refine Tri.skip ?_
  refine Tri.seq ?_
  refine Tri.region ?_
  refine TriL.c1 rfl (op_mv (ltb rfl) rfl) ?_
  refine TriL.c1 rfl (op_cvi (ltb rfl) un50 un3 rfl) ?_
  refine TriL.c1 rfl (op_as (ltb rfl) rfl) ?_
  refine TriL.nil ?_
  refine Tri.ret ?_
  exact ⟨.inr rfl, (ResOK.r1 rfl (.tmp rfl .nil)).cast (congrArg (AV.int .i64) (wr64 (by omega) (by omega))), rfl⟩
theorem ctag_run (H : Hp) (id : Nat) (b : List UInt8) (p : Nat) (es : List Nat) (e n k : Nat) (ho : H.obj id = some (curs b p (es ++ [e]) false)) (hl : es.length ≤ 1048576) (hg : vget ((b.drop p).take (e - p)) = (n, k)) (hk : 0 < k) (h1 : p + k ≤ e) (h2 : e ≤ b.length) (hb : b.length ≤ 4611686018427387904) (hr : rightok ((n / 8 : Nat) : Int) ((n % 8 : Nat) : Int) = true) : Run Try.prog 22 [.op id 0] H (.tup [.int .i64 ((n / 8 : Nat) : Int), .int .i64 ((n % 8 : Nat) : Int)]) (H.set id (curs b (p + k) (es ++ [e]) false)) := by
  refine Run.of_tri Try.func22 rfl rfl (ltb rfl) ?_
  refine Tri.seq ?_
  refine Tri.region ?_
  refine TriL.c1 rfl (op_as (ltb rfl) rfl) ?_
  refine TriL.c1 rfl (op_as (ltb rfl) rfl) ?_
  refine TriL.nil ?_
  refine Tri.seq ?_
  refine Tri.region ?_
  refine TriL.c1 rfl (op_mv (ltb rfl) rfl) ?_
  refine TriL.c2 rfl (op_callh (ltb rfl) fn48 rfl rfl (cvarint_run H id b p es e n k ho hl hg hk h1 h2 hb)) ?_
  refine TriL.c1 rfl (op_call (ltb rfl) fn47 rfl (split_ok n hr)) ?_
  refine TriL.c1 rfl (op_mv (ltb rfl) rfl) ?_
  refine TriL.c1 rfl (op_ext (ltb rfl) rfl rfl) ?_
  refine TriL.c1 rfl (op_ext (ltb rfl) rfl rfl) ?_
  refine TriL.c1 rfl (op_ext (ltb rfl) rfl rfl) ?_
  refine TriL.c1 rfl (op_as (ltb rfl) rfl) ?_
  refine TriL.c1 rfl (op_as (ltb rfl) rfl) ?_
  refine TriL.c1 rfl (op_as (ltb rfl) rfl) ?_
  refine TriL.nil ?_
  refine Tri.seq ?_
  refine Tri.seq ?_
  refine Tri.region ?_
  refine TriL.c1 rfl (op_mv (ltb rfl) rfl) ?_
  refine TriL.c1 rfl (op_nckc (ltb rfl) rfl) ?_
  refine TriL.c1 rfl (op_fac (ltb rfl) fo43_3 rfl) ?_
  refine TriL.c1 rfl (op_ldc (ltb rfl) lk4 rfl rfl Hp.set_obj rfl) ?_
  refine TriL.c1 rfl (op_un (ltb rfl) rfl rfl) ?_
  refine TriL.c1 rfl (op_mv (ltb rfl) rfl) ?_
  refine TriL.g1 rfl (ltb rfl) rfl rfl (op_mv (ltb rfl) rfl) ?_
  refine TriL.g1 rfl (ltb rfl) rfl rfl (op_un (ltb rfl) rfl rfl) ?_
  refine TriL.c1 rfl (op_pickt (ltb rfl) rfl rfl rfl) ?_
  refine TriL.nil ?_
  refine Tri.condF rfl rfl ?_
  refine Tri.skip ?_
  refine Tri.seq ?_
  refine Tri.seq ?_
  refine Tri.region ?_
  refine TriL.c1 rfl (op_mv (ltb rfl) rfl) ?_
  refine TriL.c1 rfl (op_nckc (ltb rfl) rfl) ?_
  refine TriL.c1 rfl (op_fac (ltb rfl) fo43_3 rfl) ?_
  refine TriL.c1 rfl (op_ldc (ltb rfl) lk4 rfl rfl Hp.set_obj rfl) ?_
  refine TriL.nil ?_
  refine Tri.condF rfl rfl ?_
  refine Tri.skip ?_
  refine Tri.seq ?_
  refine Tri.region ?_
  refine TriL.c1 rfl (op_mv (ltb rfl) rfl) ?_
  refine TriL.c1 rfl (op_mv (ltb rfl) rfl) ?_
  refine TriL.c1 rfl (op_as (ltb rfl) rfl) ?_
  refine TriL.c1 rfl (op_as (ltb rfl) rfl) ?_
  refine TriL.nil ?_
  refine Tri.ret ?_
  exact ⟨.inr rfl, (ResOK.r2 rfl (.tmp rfl (.tmp rfl .nil))), rfl⟩
theorem copen_run (H : Hp) (id : Nat) (b : List UInt8) (p : Nat) (es : List Nat) (e n k : Nat) (ho : H.obj id = some (curs b p (es ++ [e]) false)) (hl : es.length ≤ 1048576) (hg : vget ((b.drop p).take (e - p)) = (n, k)) (hk : 0 < k) (h1 : p + k ≤ e) (h2 : e ≤ b.length) (hb : b.length ≤ 4611686018427387904) (h3 : p + k + n ≤ e) : Run Try.prog 23 [.op id 0] H (.bool true) (H.set id (curs b (p + k) (es ++ [e] ++ [p + k + n]) false)) := by
  refine Run.of_tri Try.func23 rfl rfl (ltb rfl) ?_
  refine Tri.seq ?_
  refine Tri.region ?_
  refine TriL.c1 rfl (op_as (ltb rfl) rfl) ?_
  refine TriL.nil ?_
  refine Tri.seq ?_
  refine Tri.region ?_
  refine TriL.c1 rfl (op_mv (ltb rfl) rfl) ?_
  refine TriL.c2 rfl (op_callh (ltb rfl) fn50 rfl rfl (clong_run H id b p es e n k ho hl hg hk h1 h2 hb h3)) ?_
  refine TriL.c1 rfl (op_as (ltb rfl) rfl) ?_
  refine TriL.nil ?_
  refine Tri.seq ?_
  refine Tri.seq ?_
  refine Tri.region ?_
  refine TriL.c1 rfl (op_mv (ltb rfl) rfl) ?_
  refine TriL.c1 rfl (op_bin (ltb rfl) rfl rfl rfl) ?_
  refine TriL.nil ?_
  refine Tri.condF rfl (decide_eq_false (by omega)) ?_
  refine Tri.skip ?_
  refine Tri.seq ?_
  refine Tri.ofKept (Kept.opn 100 id 100 rfl Hp.set_obj rfl rfl (Kept.lp 0 100 rfl rfl (Kept.now ?_)))
  refine Tri.drawn mixed rfl ?_
  refine TriD.c1 rfl (op_mv (ltb rfl) rfl) ?_
  refine TriD.c1 rfl (op_mv (ltb rfl) rfl) ?_
  refine TriD.c1 rfl (op_nckl (ltb rfl) rfl) ?_
  refine TriD.c1 rfl (op_fal (ltb rfl) fo43_2 rfl) ?_
  refine TriD.c1 rfl (op_ldo (ltb rfl) lk41 rfl rfl rfl) ?_
  refine TriD.c1 rfl (op_mv (ltb rfl) rfl) ?_
  refine TriD.c1 rfl (op_nckl (ltb rfl) rfl) ?_
  refine TriD.c1 rfl (op_fal (ltb rfl) fo43_1 rfl) ?_
  refine TriD.c1 rfl (op_ldo (ltb rfl) lk3 rfl rfl rfl) ?_
  refine TriD.c1 rfl (op_mv (ltb rfl) rfl) ?_
  refine TriD.c1 rfl (op_bin (ltb rfl) rfl rfl rfl) ?_
  refine TriD.c1 rfl (op_lit («as» := [_]) (ltb rfl) se41 zAe41 rfl rfl rfl (leb rfl)) ?_
  refine TriD.c3 rfl (op_apm (ltb rfl) se41 rfl rfl rfl rfl (okEls_one _ _) rfl (by rw [il_len]; simp; omega) (by rw [il_len]; simp; omega)) ?_
  refine TriD.c1 rfl (op_nckl (ltb rfl) rfl) ?_
  refine TriD.c1 rfl (op_fal (ltb rfl) fo43_2 rfl) ?_
  refine TriD.c1 rfl (op_sto lk41 rfl rfl rfl rfl rfl (leb rfl)) ?_
  refine TriD.nil (by kernel_rfl) (Kept.op 0 rfl rfl (Kept.cls 100 rfl rfl rfl rfl (Kept.now ?_)))
  refine Tri.seq ?_
  refine Tri.region ?_
  refine TriL.c1 rfl (op_as (ltb rfl) rfl) ?_
  refine TriL.nil ?_
  refine Tri.ret ?_
  refine ⟨.inr rfl, ResOK.r1 rfl (.tmp rfl .nil), ?_⟩
  have e : ((H.set id (curs b (p + k) (es ++ [e]) false)).del id).set id [.v (.sl (bsl b)), .v (.int .i64 ((p + k : Nat) : Int)), .row 3 1 (il (es ++ [e]) ++ [.int .i64 (IntKind.i64.wrap (((p + k : Nat) : Int) + (n : Int)))]), .v (.bool false)] = H.set id (curs b (p + k) (es ++ [e] ++ [p + k + n]) false) := by
    rw [Hp.del_set, Hp.set_set, wr64 (by omega) (by omega), curs, il_app (es ++ [e])]; rfl
  exact congrArg (fun h => some (CV.hp h)) e
theorem ctext_run (H : Hp) (id : Nat) (b : List UInt8) (p : Nat) (es : List Nat) (e n k : Nat) (ho : H.obj id = some (curs b p (es ++ [e]) false)) (hl : es.length ≤ 1048576) (hg : vget ((b.drop p).take (e - p)) = (n, k)) (hk : 0 < k) (h1 : p + k ≤ e) (h2 : e ≤ b.length) (hb : b.length ≤ 4611686018427387904) (h3 : p + k + n ≤ e) : Run Try.prog 24 [.op id 0] H (.str ((b.drop (p + k)).take n)) (H.set id (curs b (p + k + n) (es ++ [e]) false)) := by
  have hw : IntKind.i64.wrap (((p + k : Nat) : Int) + (n : Int)) = ((p + k + n : Nat) : Int) := by rw [wr64 (by omega) (by omega)]; omega
  have hw2 : IntKind.i64.wrap (((p + k + n : Nat) : Int) - (n : Int)) = ((p + k : Nat) : Int) := by rw [wr64 (by omega) (by omega)]; omega
  refine Run.of_tri Try.func24 rfl rfl (ltb rfl) ?_
  refine Tri.seq ?_
  refine Tri.region ?_
  refine TriL.c1 rfl (op_as (ltb rfl) rfl) ?_
  refine TriL.nil ?_
  refine Tri.seq ?_
  refine Tri.region ?_
  refine TriL.c1 rfl (op_mv (ltb rfl) rfl) ?_
  refine TriL.c2 rfl (op_callh (ltb rfl) fn50 rfl rfl (clong_run H id b p es e n k ho hl hg hk h1 h2 hb h3)) ?_
  refine TriL.c1 rfl (op_as (ltb rfl) rfl) ?_
  refine TriL.nil ?_
  refine Tri.seq ?_
  refine Tri.seq ?_
  refine Tri.region ?_
  refine TriL.c1 rfl (op_mv (ltb rfl) rfl) ?_
  refine TriL.c1 rfl (op_bin (ltb rfl) rfl rfl rfl) ?_
  refine TriL.nil ?_
  refine Tri.condF rfl (decide_eq_false (by omega)) ?_
  refine Tri.skip ?_
  refine Tri.seq ?_
  refine Tri.region ?_
  refine TriL.c1 rfl (op_mv (ltb rfl) rfl) ?_
  refine TriL.c1 rfl (op_mv (ltb rfl) rfl) ?_
  refine TriL.c1 rfl (op_nckc (ltb rfl) rfl) ?_
  refine TriL.c1 rfl (op_fac (ltb rfl) fo43_1 rfl) ?_
  refine TriL.c1 rfl (op_ldc (ltb rfl) lk3 rfl rfl Hp.set_obj rfl) ?_
  refine TriL.c1 rfl (op_mv (ltb rfl) rfl) ?_
  refine TriL.c1 rfl (op_bin (ltb rfl) rfl rfl rfl) ?_
  refine TriL.c1 rfl (op_nckc (ltb rfl) rfl) ?_
  refine TriL.c1 rfl (op_fac (ltb rfl) fo43_1 rfl) ?_
  refine TriL.c1 rfl (op_stc lk3 rfl rfl Hp.set_obj rfl rfl rfl) ?_
  refine TriL.nil ?_
  refine Tri.seq ?_
  refine Tri.drawn mixed rfl ?_
  refine TriD.c1 rfl (op_mv (ltb rfl) rfl) ?_
  refine TriD.c1 rfl (op_nckc (ltb rfl) rfl) ?_
  refine TriD.c1 rfl (op_fac (ltb rfl) fo43_0 rfl) ?_
  refine TriD.c1 rfl (op_ldc (ltb rfl) lk22 rfl rfl Hp.set_obj rfl) ?_
  refine TriD.c1 rfl (op_mv (ltb rfl) rfl) ?_
  refine TriD.c1 rfl (op_nckc (ltb rfl) rfl) ?_
  refine TriD.c1 rfl (op_fac (ltb rfl) fo43_1 rfl) ?_
  refine TriD.c1 rfl (op_ldc (ltb rfl) lk3 rfl rfl Hp.set_obj rfl) ?_
  refine TriD.c1 rfl (op_mv (ltb rfl) rfl) ?_
  refine TriD.c1 rfl (op_bin (ltb rfl) rfl rfl rfl) ?_
  refine TriD.c1 rfl (op_mv (ltb rfl) rfl) ?_
  refine TriD.c1 rfl (op_nckc (ltb rfl) rfl) ?_
  refine TriD.c1 rfl (op_fac (ltb rfl) fo43_1 rfl) ?_
  refine TriD.c1 rfl (op_ldc (ltb rfl) lk3 rfl rfl Hp.set_obj rfl) ?_
  refine TriD.c1 rfl (op_cutl (ltb rfl) ie22 rfl (bsl_es b) rfl rfl (by rw [hw, hw2]; omega) (by rw [hw, hw2]; omega) (by rw [hw, bsl_len]; omega)) ?_
  refine TriD.c1 rfl (op_b2s (ltb rfl) un22 unel22 un9 rfl (by rw [hw, hw2, bsl_cut, show ((p + k + n : Nat) : Int).toNat - ((p + k : Nat) : Int).toNat = n by omega]; exact bytesOf_bsl _)) ?_
  refine TriD.c1 rfl (op_as (ltb rfl) rfl) ?_
  refine TriD.nil (by kernel_rfl) (Kept.now ?_)
  refine Tri.ret ?_
  refine ⟨.inr rfl, ResOK.r1 rfl (.tmp rfl .nil), ?_⟩
  have e : (H.set id (curs b (p + k) (es ++ [e]) false)).set id [.v (.sl (bsl b)), .v (.int .i64 (IntKind.i64.wrap (((p + k : Nat) : Int) + (n : Int)))), .row 3 1 (il (es ++ [e])), .v (.bool false)] = H.set id (curs b (p + k + n) (es ++ [e]) false) := by
    rw [Hp.set_set, hw]; rfl
  exact congrArg (fun h => some (CV.hp h)) e
theorem cmore_run (H : Hp) (id : Nat) (b : List UInt8) (p : Nat) (es : List Nat) (e : Nat) (ho : H.obj id = some (curs b p (es ++ [e]) false)) (hl : es.length ≤ 1048576) : Run Try.prog 25 [.op id 0] H (.bool (decide ((p : Int) < (e : Int)))) H := by
  refine Run.of_tri Try.func25 rfl rfl (ltb rfl) ?_
  refine Tri.seq ?_
  refine Tri.region ?_
  refine TriL.c1 rfl (op_as (ltb rfl) rfl) ?_
  refine TriL.nil ?_
  refine Tri.seq ?_
  refine Tri.drawn mixed rfl ?_
  refine TriD.c1 rfl (op_mv (ltb rfl) rfl) ?_
  refine TriD.c1 rfl (op_nckc (ltb rfl) rfl) ?_
  refine TriD.c1 rfl (op_fac (ltb rfl) fo43_3 rfl) ?_
  refine TriD.c1 rfl (op_ldc (ltb rfl) lk4 rfl rfl ho rfl) ?_
  refine TriD.c1 rfl (op_un (ltb rfl) rfl rfl) ?_
  refine TriD.c1 rfl (op_mv (ltb rfl) rfl) ?_
  refine TriD.g1 rfl (ltb rfl) rfl rfl (op_mv (ltb rfl) rfl) ?_
  refine TriD.g1 rfl (ltb rfl) rfl rfl (op_nckc (ltb rfl) rfl) ?_
  refine TriD.g1 rfl (ltb rfl) rfl rfl (op_fac (ltb rfl) fo43_1 rfl) ?_
  refine TriD.g1 rfl (ltb rfl) rfl rfl (op_ldc (ltb rfl) lk3 rfl rfl ho rfl) ?_
  refine TriD.g1 rfl (ltb rfl) rfl rfl (op_mv (ltb rfl) rfl) ?_
  refine TriD.g1 rfl (ltb rfl) rfl rfl (op_callk (ltb rfl) fn51 rfl rfl (end_run H id b p es e false ho hl)) ?_
  refine TriD.g1 rfl (ltb rfl) rfl rfl (op_bin (ltb rfl) rfl rfl rfl) ?_
  refine TriD.c1 rfl (op_pickt (ltb rfl) rfl rfl rfl) ?_
  refine TriD.c1 rfl (op_as (ltb rfl) rfl) ?_
  refine TriD.nil (by kernel_rfl) (Kept.now ?_)
  refine Tri.ret ?_
  exact ⟨.inr rfl, (ResOK.r1 rfl (.tmp rfl .nil)), rfl⟩
end Go.Proofs.Ytecjdohpfijmpaa.X
