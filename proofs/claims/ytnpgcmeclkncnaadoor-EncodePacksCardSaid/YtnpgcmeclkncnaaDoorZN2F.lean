/- fix: Put4, Put8. -/
import Derived.Test.YtnpgcmeclkncnaaDoorZN2E
set_option linter.unusedVariables false
set_option maxRecDepth 100000
set_option linter.unusedSimpArgs false
namespace Go.Proofs.YtnpgcmeclkncnaaDoor.X
open Go Go.RowKit Go.Proofs
theorem fn47_E12 : isFn Tryd.prog 47 = true := by kernel_rfl
theorem ia89_E12 : ia Tryd.prog 89 = some 8 := by kernel_rfl
theorem lk5_E12 : lk Tryd.prog 5 = some (false, 1) := by kernel_rfl
theorem lk89_E12 : lk Tryd.prog 89 = some (true, 8) := by kernel_rfl
theorem un40_E12 : Tryd.prog.underlying 40 = some (TypeDesc.int IntKind.u64) := Tryd.underlying40
theorem un5_E12 : Tryd.prog.underlying 5 = some (TypeDesc.int IntKind.u8) := Tryd.underlying5
theorem un70_E12 : Tryd.prog.underlying 70 = some (TypeDesc.int IntKind.u32) := Tryd.underlying70
theorem zA89_E12 : zeroA Tryd.prog 89 = some [AV.int IntKind.u8 (0), AV.int IntKind.u8 (0), AV.int IntKind.u8 (0), AV.int IntKind.u8 (0), AV.int IntKind.u8 (0), AV.int IntKind.u8 (0), AV.int IntKind.u8 (0), AV.int IntKind.u8 (0)] := by kernel_rfl
/-- the byte k of a number -/
def nb (n k : Nat) : UInt8 := UInt8.ofNat (n / 2 ^ (8 * k))
def wc (n i k : Nat) : AV := .int .u8 (if k < i then ((nb n k).toNat : Int) else 0)
def w8 (n i : Nat) : List AV := [wc n i 0, wc n i 1, wc n i 2, wc n i 3, wc n i 4, wc n i 5, wc n i 6, wc n i 7]
def StW (H : Hp) (n i : Nat) (j : Int) : St := [(.h, .hp H), (.s 0, .sv (.v (.int .u64 (n : Int)))), (.s 2, .sv (.lp 2 0)), (.s 3, .sv (.lp 3 0)), (.s 5, .sv (.v (.int .i64 j))), (.b 2, .bx [.v (.int .u8 0), .v (.int .u8 0), .v (.int .u8 0), .v (.int .u8 0), .v (.int .u8 0), .v (.int .u8 0), .v (.int .u8 0), .v (.int .u8 0)]), (.b 3, .bx [.v (wc n i 0), .v (wc n i 1), .v (wc n i 2), .v (wc n i 3), .v (wc n i 4), .v (wc n i 5), .v (wc n i 6), .v (wc n i 7)])]
theorem w8_set (n i : Nat) (h : i < 8) : setAt [.v (wc n i 0), .v (wc n i 1), .v (wc n i 2), .v (wc n i 3), .v (wc n i 4), .v (wc n i 5), .v (wc n i 6), .v (wc n i 7)] (0 + i) [.v (.int .u8 ((nb n i).toNat : Int))] = [.v (wc n (i + 1) 0), .v (wc n (i + 1) 1), .v (wc n (i + 1) 2), .v (wc n (i + 1) 3), .v (wc n (i + 1) 4), .v (wc n (i + 1) 5), .v (wc n (i + 1) 6), .v (wc n (i + 1) 7)] := by
  have : ∀ j : Fin 8, j.val = i → setAt [.v (wc n j.val 0), .v (wc n j.val 1), .v (wc n j.val 2), .v (wc n j.val 3), .v (wc n j.val 4), .v (wc n j.val 5), .v (wc n j.val 6), .v (wc n j.val 7)] (0 + j.val) [.v (.int .u8 ((nb n j.val).toNat : Int))] = [.v (wc n (j.val + 1) 0), .v (wc n (j.val + 1) 1), .v (wc n (j.val + 1) 2), .v (wc n (j.val + 1) 3), .v (wc n (j.val + 1) 4), .v (wc n (j.val + 1) 5), .v (wc n (j.val + 1) 6), .v (wc n (j.val + 1) 7)] := by
    intro j _
    match j with
    | ⟨0, _⟩ => rfl
    | ⟨1, _⟩ => rfl
    | ⟨2, _⟩ => rfl
    | ⟨3, _⟩ => rfl
    | ⟨4, _⟩ => rfl
    | ⟨5, _⟩ => rfl
    | ⟨6, _⟩ => rfl
    | ⟨7, _⟩ => rfl

  exact this ⟨i, h⟩ rfl
theorem shr_byte (n i : Nat) (h : i < 8) : IntKind.u8.wrap ((n / 2 ^ (min (IntKind.i64.wrap (8 * (i : Int))).toNat IntKind.u64.bits) : Nat) : Int) = ((nb n i).toNat : Int) := by
  rw [wr64 (by omega) (by omega), show (8 * (i : Int)).toNat = 8 * i by omega, show min (8 * i) IntKind.u64.bits = 8 * i from Nat.min_eq_left (by show 8 * i ≤ 64; omega), byte_of]; rfl
theorem w8_set' (n i : Nat) (h : i < 8) : setAt [.v (wc n i 0), .v (wc n i 1), .v (wc n i 2), .v (wc n i 3), .v (wc n i 4), .v (wc n i 5), .v (wc n i 6), .v (wc n i 7)] (0 + ((i : Nat) : Int).toNat) (Sv.v (.int .u8 (IntKind.u8.wrap ((n / 2 ^ (min (IntKind.i64.wrap (8 * (i : Int))).toNat IntKind.u64.bits) : Nat) : Int)))).cells = [.v (wc n (i + 1) 0), .v (wc n (i + 1) 1), .v (wc n (i + 1) 2), .v (wc n (i + 1) 3), .v (wc n (i + 1) 4), .v (wc n (i + 1) 5), .v (wc n (i + 1) 6), .v (wc n (i + 1) 7)] := by
  rw [shr_byte n i h, Int.toNat_natCast]; exact w8_set n i h
/-- the first k bytes of a number -/
def fput (n k : Nat) : List UInt8 := (List.range k).map fun i => nb n i
theorem bytesOf_pure (n : Nat) : Pure Tryd.prog 47 [.int .u64 (n : Int)] (.agg (w8 n 8)) := by
  refine Pure.of_tri Tryd.func47 rfl rfl (ltb rfl) fun H => ?_
  refine Tri.seq ?_
  refine Tri.region ?_
  refine TriL.c2 rfl (op_all (ltb rfl) zA89_E12 rfl) ?_
  refine TriL.nil ?_
  refine Tri.seq ?_
  refine Tri.region ?_
  refine TriL.c2 rfl (op_all (ltb rfl) zA89_E12 rfl) ?_
  refine TriL.nil ?_
  refine Tri.seq ?_
  refine Tri.seq ?_
  refine Tri.region ?_
  refine TriL.c1 rfl (op_mv (ltb rfl) rfl) ?_
  refine TriL.kept (Kept.keep [.h, .s 0, .s 2, .s 3, .s 5, .b 2, .b 3] rfl (by decide) (Kept.now ?_))
  refine Tri.blk ?_
  -- LOOP 1: KEEP
  refine Tri.loop (fun q s => ∃ (i : Nat) (j : Int), s = StW H n i j ∧ j = i ∧ i ≤ 8 ∧ q = 8 - i) ?_ (n := 8) ⟨0, 0, rfl, rfl, by omega, rfl⟩
  rintro q s ⟨i, j, rfl, hj, hi, rfl⟩
  refine Tri.seq ?_
  refine Tri.region ?_
  refine TriL.c1 rfl (op_bin (ltb rfl) rfl rfl rfl) ?_
  refine TriL.nil ?_
  refine Tri.seq ?_
  refine Tri.cond rfl (fun hc1 => ?_) (fun hc1 => ?_)
  · have hlt : i < 8 := by have := of_decide_eq_true hc1; omega
    subst hj
    refine Tri.skip ?_
    refine Tri.seq ?_
    refine Tri.blk ?_
    refine Tri.seq ?_
    refine Tri.region ?_
    refine TriL.c1 rfl (op_mv (ltb rfl) rfl) ?_
    refine TriL.c1 rfl (op_as (ltb rfl) rfl) ?_
    refine TriL.nil ?_
    refine Tri.region ?_
    refine TriL.c1 rfl (op_mv (ltb rfl) rfl) ?_
    refine TriL.c1 rfl (op_mv (ltb rfl) rfl) ?_
    refine TriL.c1 rfl (op_mv (ltb rfl) rfl) ?_
    refine TriL.c1 rfl (op_bin (ltb rfl) rfl rfl rfl) ?_
    refine TriL.c1 rfl (op_shr (ltb rfl) rfl rfl (by rw [wr64] <;> omega)) ?_
    refine TriL.c1 rfl (op_cvi (ltb rfl) un40_E12 un5_E12 rfl) ?_
    refine TriL.c1 rfl (op_iaa (ltb rfl) ia89_E12 rfl rfl (by omega) (by show (i : Int) < ((8 : Nat) : Int); omega)) ?_
    refine TriL.c1 rfl (op_stl lk5_E12 rfl rfl rfl rfl rfl (by show 0 + (i : Int).toNat + 1 ≤ 8; omega)) ?_
    refine TriL.nil ?_
    refine Tri.region ?_
    refine TriL.c1 rfl (op_bin (ltb rfl) rfl rfl rfl) ?_
    refine TriL.c1 rfl (op_mv (ltb rfl) rfl) ?_
    rw [w8_set' n i hlt]
    refine TriL.kept (Kept.keep [.h, .s 0, .s 2, .s 3, .s 5, .b 2, .b 3] rfl (by decide) (Kept.now ?_))
    refine ⟨8 - (i + 1), by omega, i + 1, _, rfl, by rw [wr64] <;> omega, by omega, rfl⟩
  · have hge : i = 8 := by have := of_decide_eq_false hc1; omega
    subst hge
    refine Tri.exit ?_
    refine Tri.seq ?_
    refine Tri.region ?_
    refine TriL.c1 rfl (op_ldl (ltb rfl) lk89_E12 rfl rfl rfl) ?_
    refine TriL.c1 rfl (op_stl lk89_E12 rfl rfl rfl rfl rfl (leb rfl)) ?_
    refine TriL.nil ?_
    refine Tri.ret ?_
    exact ⟨.inr rfl, (ResOK.r1 rfl (.cell lk89_E12 rfl rfl rfl rfl .nil)), rfl⟩
theorem bytesOf_pure' {m : Int} {n : Nat} (e : m = n) : Pure Tryd.prog 47 [.int .u64 m] (.agg (w8 n 8)) := e ▸ bytesOf_pure n
theorem put4_pure (n : Nat) (h : n < 4294967296) : Pure Tryd.prog 27 [.int .u32 (n : Int)] (.sl (bsl (fput n 4))) := by
  refine Pure.of_tri Tryd.func27 rfl rfl (ltb rfl) fun H => ?_
  refine Tri.seq ?_
  refine Tri.region ?_
  refine TriL.c1 rfl (op_as (ltb rfl) rfl) ?_
  refine TriL.nil ?_
  refine Tri.seq ?_
  refine Tri.region ?_
  refine TriL.c1 rfl (op_mv (ltb rfl) rfl) ?_
  refine TriL.c1 rfl (op_cvi (ltb rfl) un70_E12 un40_E12 rfl) ?_
  refine TriL.c1 rfl (op_call (ltb rfl) fn47_E12 rfl (bytesOf_pure' (n := n) (wru64 (by omega) (by omega)))) ?_
  refine TriL.c2 rfl (op_all (ltb rfl) zA89_E12 rfl) ?_
  refine TriL.c1 rfl (op_stl lk89_E12 rfl rfl rfl rfl rfl (leb rfl)) ?_
  refine TriL.nil ?_
  refine Tri.seq ?_
  refine Tri.region ?_
  refine TriL.c2 rfl (op_sla (ltb rfl) ia89_E12 (xs := w8 n 8) rfl rfl rfl rfl (by decide) (by decide)) ?_
  refine TriL.c1 rfl (op_as (ltb rfl) rfl) ?_
  refine TriL.nil ?_
  refine Tri.ret ?_
  exact ⟨.inr rfl, (ResOK.r1 rfl (.tmp rfl .nil)), rfl⟩
theorem put8_pure (n : Nat) : Pure Tryd.prog 28 [.int .u64 (n : Int)] (.sl (bsl (fput n 8))) := by
  refine Pure.of_tri Tryd.func28 rfl rfl (ltb rfl) fun H => ?_
  refine Tri.seq ?_
  refine Tri.region ?_
  refine TriL.c1 rfl (op_as (ltb rfl) rfl) ?_
  refine TriL.nil ?_
  refine Tri.seq ?_
  refine Tri.region ?_
  refine TriL.c1 rfl (op_mv (ltb rfl) rfl) ?_
  refine TriL.c1 rfl (op_call (ltb rfl) fn47_E12 rfl (bytesOf_pure n)) ?_
  refine TriL.c2 rfl (op_all (ltb rfl) zA89_E12 rfl) ?_
  refine TriL.c1 rfl (op_stl lk89_E12 rfl rfl rfl rfl rfl (leb rfl)) ?_
  refine TriL.nil ?_
  refine Tri.seq ?_
  refine Tri.region ?_
  refine TriL.c2 rfl (op_sla (ltb rfl) ia89_E12 (xs := w8 n 8) (m := 8) rfl rfl rfl rfl (by decide) (by decide)) ?_
  refine TriL.c1 rfl (op_as (ltb rfl) rfl) ?_
  refine TriL.nil ?_
  refine Tri.ret ?_
  exact ⟨.inr rfl, (ResOK.r1 rfl (.tmp rfl .nil)), rfl⟩
end Go.Proofs.YtnpgcmeclkncnaaDoor.X
/- emit: field, Varint, Fixed4, Fixed8, Text; what a writer that is none answers. -/
set_option linter.unusedVariables false
set_option maxRecDepth 100000
set_option linter.unusedSimpArgs false
namespace Go.Proofs.YtnpgcmeclkncnaaDoor.X
open Go Go.RowKit Go.Proofs
theorem fn27_E13 : isFn Tryd.prog 27 = true := by kernel_rfl
theorem fn28_E13 : isFn Tryd.prog 28 = true := by kernel_rfl
theorem fn29_E13 : isFn Tryd.prog 29 = true := by kernel_rfl
theorem fn41_E13 : isFn Tryd.prog 41 = true := by kernel_rfl
theorem fn69_E13 : isFn Tryd.prog 69 = true := by kernel_rfl
theorem fn78_E13 : isFn Tryd.prog 78 = true := by kernel_rfl
theorem se103_E13 : se Tryd.prog 103 = some (36, 1, 24) := by kernel_rfl
theorem un3_E13 : Tryd.prog.underlying 3 = some (TypeDesc.int IntKind.i64) := Tryd.underlying3
theorem un36_E13 : Tryd.prog.underlying 36 = some (TypeDesc.slice 5) := Tryd.underlying36
theorem un40_E13 : Tryd.prog.underlying 40 = some (TypeDesc.int IntKind.u64) := Tryd.underlying40
theorem un9_E13 : Tryd.prog.underlying 9 = some TypeDesc.string := Tryd.underlying9
theorem unel36_E13 : Tryd.prog.underlying 5 = some (TypeDesc.int IntKind.u8) := Tryd.underlying5
theorem zAe103_E13 : zeroA Tryd.prog 36 = some [AV.sl []] := by kernel_rfl
theorem vput_pureO' {m : Int} {n : Nat} (e : m = n) (h : n < 18446744073709551616) : PureO Tryd.prog 29 [.int .u64 m] 5 1 (bsl (vput n)) := e ▸ vput_pureO n h
theorem field_run (H : Hp) (id : Nat) (b : List UInt8) (fs : List AV) (n w : Int) (ps : List (List UInt8)) (ho : H.obj id = some (wr (bsl b) fs)) (hr : rightok n w = true) (hl : b.length + ps.flatten.length ≤ 1073741000) (hp : ps.length ≤ 1073741824) : Run Tryd.prog 69 [.op id 0, .int .i64 n, .int .i64 w, .sl (sls ps)] H (.bool true) (H.set id (wr (bsl (b ++ vput (8 * n + w).toNat ++ ps.flatten)) fs)) := by
  have hq := of_decide_eq_true hr
  have hm := vput_max (n := (8 * n + w).toNat) (by omega)
  refine Run.of_tri Tryd.func69 rfl rfl (ltb rfl) ?_
  refine Tri.seq ?_
  refine Tri.region ?_
  refine TriL.c1 rfl (op_as (ltb rfl) rfl) ?_
  refine TriL.nil ?_
  refine Tri.seq ?_
  refine Tri.region ?_
  refine TriL.c1 rfl (op_mv (ltb rfl) rfl) ?_
  refine TriL.c1 rfl (op_mv (ltb rfl) rfl) ?_
  refine TriL.c1 rfl (op_call (ltb rfl) fn78_E13 rfl (of_pure n w)) ?_
  refine TriL.c1 rfl (op_mv (ltb rfl) rfl) ?_
  refine TriL.c1 rfl (op_ext (ltb rfl) rfl rfl) ?_
  refine TriL.c1 rfl (op_ext (ltb rfl) rfl rfl) ?_
  refine TriL.c1 rfl (op_as (ltb rfl) rfl) ?_
  refine TriL.c1 rfl (op_as (ltb rfl) rfl) ?_
  refine TriL.nil ?_
  refine Tri.seq ?_
  refine Tri.region ?_
  refine TriL.c1 rfl (op_mv (ltb rfl) rfl) ?_
  refine TriL.c1 rfl (op_mv (ltb rfl) rfl) ?_
  refine TriL.g1 rfl (ltb rfl) rfl hr (op_mv (ltb rfl) rfl) ?_
  refine TriL.g1 rfl (ltb rfl) rfl hr (op_mv (ltb rfl) rfl) ?_
  refine TriL.g2 rfl (ltb rfl) rfl hr (op_callo (ltb rfl) fn29_E13 rfl (vput_pureO' (n := (8 * n + w).toNat) (by simp only [tagnum, hr, if_pos]; omega) (by omega)) rfl) ?_
  refine TriL.g1 rfl (ltb rfl) rfl hr (op_lit («as» := [_]) (ltb rfl) se103_E13 zAe103_E13 rfl rfl rfl (leb rfl)) ?_
  refine TriL.g2 rfl (ltb rfl) rfl hr (op_callh (ltb rfl) fn41_E13 rfl rfl (plain_run H id b fs [vput (8 * n + w).toNat] ho (by simp only [List.flatten_cons, List.flatten_nil, List.append_nil]; omega) (by simp))) ?_
  refine TriL.c1 rfl (op_pickt (ltb rfl) rfl hr rfl) ?_
  refine TriL.c1 rfl (op_mv (ltb rfl) rfl) ?_
  refine TriL.g1 rfl (ltb rfl) rfl rfl (op_mv (ltb rfl) rfl) ?_
  refine TriL.g1 rfl (ltb rfl) rfl rfl (op_mv (ltb rfl) rfl) ?_
  refine TriL.g2 rfl (ltb rfl) rfl rfl (op_callh (ltb rfl) fn41_E13 rfl rfl (plain_run _ id (b ++ [vput (8 * n + w).toNat].flatten) fs ps Hp.set_obj (by simp only [List.flatten_cons, List.flatten_nil, List.append_nil, List.length_append]; omega) hp)) ?_
  refine TriL.c1 rfl (op_pickt (ltb rfl) rfl rfl rfl) ?_
  refine TriL.c1 rfl (op_as (ltb rfl) rfl) ?_
  refine TriL.nil ?_
  refine Tri.ret ?_
  refine ⟨.inr rfl, ResOK.r1 rfl (.tmp rfl .nil), ?_⟩
  have e : (H.set id (wr (bsl (b ++ [vput (8 * n + w).toNat].flatten)) fs)).set id (wr (bsl (b ++ [vput (8 * n + w).toNat].flatten ++ ps.flatten)) fs) = H.set id (wr (bsl (b ++ vput (8 * n + w).toNat ++ ps.flatten)) fs) := by
    rw [Hp.set_set]; simp only [List.flatten_cons, List.flatten_nil, List.append_nil]
  exact congrArg (fun h => some (CV.hp h)) e
theorem varint_wrap (H H' : Hp) (p : AV) (n : Int) (x : Nat) (hx : x < 18446744073709551616) (c : Bool) (hf : Run Tryd.prog 69 [p, .int .i64 n, .int .i64 0, .sl (sls [vput x])] H (.bool c) H') : Run Tryd.prog 70 [p, .int .i64 n, .int .u64 (x : Int)] H (.bool c) H' := by
  refine Run.of_tri Tryd.func70 rfl rfl (ltb rfl) ?_
  refine Tri.seq ?_
  refine Tri.region ?_
  refine TriL.c1 rfl (op_as (ltb rfl) rfl) ?_
  refine TriL.nil ?_
  refine Tri.seq ?_
  refine Tri.region ?_
  refine TriL.c1 rfl (op_mv (ltb rfl) rfl) ?_
  refine TriL.c1 rfl (op_mv (ltb rfl) rfl) ?_
  refine TriL.c1 rfl (op_mv (ltb rfl) rfl) ?_
  refine TriL.c2 rfl (op_callo (ltb rfl) fn29_E13 rfl (vput_pureO x hx) rfl) ?_
  refine TriL.c1 rfl (op_lit («as» := [_]) (ltb rfl) se103_E13 zAe103_E13 rfl rfl rfl (leb rfl)) ?_
  refine TriL.c2 rfl (op_callh (ltb rfl) fn69_E13 rfl rfl hf) ?_
  refine TriL.c1 rfl (op_as (ltb rfl) rfl) ?_
  refine TriL.nil ?_
  refine Tri.ret ?_
  exact ⟨.inr rfl, (ResOK.r1 rfl (.tmp rfl .nil)), rfl⟩
theorem fixed4_wrap (H H' : Hp) (p : AV) (n : Int) (x : Nat) (hx : x < 4294967296) (c : Bool) (hf : Run Tryd.prog 69 [p, .int .i64 n, .int .i64 5, .sl (sls [fput x 4])] H (.bool c) H') : Run Tryd.prog 72 [p, .int .i64 n, .int .u32 (x : Int)] H (.bool c) H' := by
  refine Run.of_tri Tryd.func72 rfl rfl (ltb rfl) ?_
  refine Tri.seq ?_
  refine Tri.region ?_
  refine TriL.c1 rfl (op_as (ltb rfl) rfl) ?_
  refine TriL.nil ?_
  refine Tri.seq ?_
  refine Tri.region ?_
  refine TriL.c1 rfl (op_mv (ltb rfl) rfl) ?_
  refine TriL.c1 rfl (op_mv (ltb rfl) rfl) ?_
  refine TriL.c1 rfl (op_mv (ltb rfl) rfl) ?_
  refine TriL.c1 rfl (op_call (ltb rfl) fn27_E13 rfl (put4_pure x hx)) ?_
  refine TriL.c1 rfl (op_lit («as» := [_]) (ltb rfl) se103_E13 zAe103_E13 rfl rfl rfl (leb rfl)) ?_
  refine TriL.c2 rfl (op_callh (ltb rfl) fn69_E13 rfl rfl hf) ?_
  refine TriL.c1 rfl (op_as (ltb rfl) rfl) ?_
  refine TriL.nil ?_
  refine Tri.ret ?_
  exact ⟨.inr rfl, (ResOK.r1 rfl (.tmp rfl .nil)), rfl⟩
theorem fixed8_wrap (H H' : Hp) (p : AV) (n : Int) (x : Nat) (c : Bool) (hf : Run Tryd.prog 69 [p, .int .i64 n, .int .i64 1, .sl (sls [fput x 8])] H (.bool c) H') : Run Tryd.prog 71 [p, .int .i64 n, .int .u64 (x : Int)] H (.bool c) H' := by
  refine Run.of_tri Tryd.func71 rfl rfl (ltb rfl) ?_
  refine Tri.seq ?_
  refine Tri.region ?_
  refine TriL.c1 rfl (op_as (ltb rfl) rfl) ?_
  refine TriL.nil ?_
  refine Tri.seq ?_
  refine Tri.region ?_
  refine TriL.c1 rfl (op_mv (ltb rfl) rfl) ?_
  refine TriL.c1 rfl (op_mv (ltb rfl) rfl) ?_
  refine TriL.c1 rfl (op_mv (ltb rfl) rfl) ?_
  refine TriL.c1 rfl (op_call (ltb rfl) fn28_E13 rfl (put8_pure x)) ?_
  refine TriL.c1 rfl (op_lit («as» := [_]) (ltb rfl) se103_E13 zAe103_E13 rfl rfl rfl (leb rfl)) ?_
  refine TriL.c2 rfl (op_callh (ltb rfl) fn69_E13 rfl rfl hf) ?_
  refine TriL.c1 rfl (op_as (ltb rfl) rfl) ?_
  refine TriL.nil ?_
  refine Tri.ret ?_
  exact ⟨.inr rfl, (ResOK.r1 rfl (.tmp rfl .nil)), rfl⟩
theorem text_wrap (H H' : Hp) (p : AV) (n : Int) (x : List UInt8) (hx : x.length ≤ 1073741824) (c : Bool) (hf : Run Tryd.prog 69 [p, .int .i64 n, .int .i64 2, .sl (sls [vput x.length, x])] H (.bool c) H') : Run Tryd.prog 54 [p, .int .i64 n, .str x] H (.bool c) H' := by
  refine Run.of_tri Tryd.func54 rfl rfl (ltb rfl) ?_
  refine Tri.seq ?_
  refine Tri.region ?_
  refine TriL.c1 rfl (op_as (ltb rfl) rfl) ?_
  refine TriL.nil ?_
  refine Tri.seq ?_
  refine Tri.region ?_
  refine TriL.c1 rfl (op_mv (ltb rfl) rfl) ?_
  refine TriL.c1 rfl (op_mv (ltb rfl) rfl) ?_
  refine TriL.c1 rfl (op_mv (ltb rfl) rfl) ?_
  refine TriL.c1 rfl (op_lens (ltb rfl) un9_E13 rfl) ?_
  refine TriL.c1 rfl (op_cvi (ltb rfl) un3_E13 un40_E13 rfl) ?_
  refine TriL.c2 rfl (op_callo (ltb rfl) fn29_E13 rfl (vput_pureO' (n := x.length) (wru64 (by omega) (by omega)) (by omega)) rfl) ?_
  refine TriL.c1 rfl (op_mv (ltb rfl) rfl) ?_
  refine TriL.c1 rfl (op_s2b (ltb rfl) un9_E13 un36_E13 unel36_E13 rfl) ?_
  refine TriL.c1 rfl (op_lit («as» := [_, _]) (ltb rfl) se103_E13 zAe103_E13 rfl rfl rfl (leb rfl)) ?_
  refine TriL.c2 rfl (op_callh (ltb rfl) fn69_E13 rfl rfl hf) ?_
  refine TriL.c1 rfl (op_as (ltb rfl) rfl) ?_
  refine TriL.nil ?_
  refine Tri.ret ?_
  exact ⟨.inr rfl, (ResOK.r1 rfl (.tmp rfl .nil)), rfl⟩
end Go.Proofs.YtnpgcmeclkncnaaDoor.X
/- emit: Close. -/
set_option linter.unusedVariables false
set_option maxRecDepth 100000
set_option linter.unusedSimpArgs false
namespace Go.Proofs.YtnpgcmeclkncnaaDoor.X
open Go Go.RowKit Go.Proofs
theorem fn29_E14 : isFn Tryd.prog 29 = true := by kernel_rfl
theorem fn42_E14 : isFn Tryd.prog 42 = true := by kernel_rfl
theorem fn78_E14 : isFn Tryd.prog 78 = true := by kernel_rfl
theorem fn84_E14 : isFn Tryd.prog 84 = true := by kernel_rfl
theorem fo126_0_E14 : fo Tryd.prog 126 0 = some 0 := by kernel_rfl
theorem fo126_1_E14 : fo Tryd.prog 126 1 = some 1 := by kernel_rfl
theorem fo80_0_E14 : fo Tryd.prog 80 0 = some 0 := by kernel_rfl
theorem fo80_1_E14 : fo Tryd.prog 80 1 = some 1 := by kernel_rfl
theorem ie78_E14 : ie Tryd.prog 78 = some 2 := by kernel_rfl
theorem lk126_E14 : lk Tryd.prog 126 = some (true, 2) := by kernel_rfl
theorem lk3_E14 : lk Tryd.prog 3 = some (false, 1) := by kernel_rfl
theorem lk36_E14 : lk Tryd.prog 36 = some (false, 1) := by kernel_rfl
theorem lk78_E14 : lk Tryd.prog 78 = some (false, 1) := by kernel_rfl
theorem se36_E14 : se Tryd.prog 36 = some (5, 1, 1) := by kernel_rfl
theorem un3_E14 : Tryd.prog.underlying 3 = some (TypeDesc.int IntKind.i64) := Tryd.underlying3
theorem un36_E14 : Tryd.prog.underlying 36 = some (TypeDesc.slice 5) := Tryd.underlying36
theorem un40_E14 : Tryd.prog.underlying 40 = some (TypeDesc.int IntKind.u64) := Tryd.underlying40
theorem un78_E14 : Tryd.prog.underlying 78 = some (TypeDesc.slice 126) := Tryd.underlying78
theorem zA126_E14 : zeroA Tryd.prog 126 = some [AV.int IntKind.i64 (0), AV.int IntKind.i64 (0)] := by kernel_rfl
/-- a frame that is closed: its tag, its length, then what is in it -/
def shut (b : List UInt8) (n : Int) (k : Nat) : List UInt8 := b.take k ++ (vput (8 * n + 2).toNat ++ vput (b.length - k)) ++ b.drop k
theorem fm_frm (fs : List AV) (h : ∀ f ∈ fs, ∃ a b, f = frm a b) (n k : Int) : (((fs ++ [frm n k]).flatMap AV.cells).drop (fs.length * 2)) = [.int .i64 n, .int .i64 k] := by
  have hl : (fs.flatMap AV.cells).length = fs.length * 2 := flat_len fun e he => by obtain ⟨a, b, rfl⟩ := h e he; rfl
  rw [List.flatMap_append, List.drop_append_of_le_length (by omega), List.drop_of_length_le (by omega)]; rfl
theorem close_run (H : Hp) (id : Nat) (b : List UInt8) (fs : List AV) (n : Int) (k : Nat) (ho : H.obj id = some (wr (bsl b) (fs ++ [frm n k]))) (hfs : ∀ f ∈ fs, ∃ a b, f = frm a b) (hr : rightok n 2 = true) (hk : k ≤ b.length) (hl : b.length ≤ 1073741000) (hf : fs.length ≤ 1048576) :
    Run Tryd.prog 77 [.op id 0] H (.bool true) (H.set id (wr (bsl (shut b n k)) fs)) := by
  have hq := of_decide_eq_true hr
  have hm1 := vput_max (n := (8 * n + 2).toNat) (by omega)
  have hm2 := vput_max (n := b.length - k) (by omega)
  have hlen : (fs ++ [frm n k]).length = fs.length + 1 := by simp
  have hz : ((((fs ++ [frm n k]).length : Nat) : Int) == 0) = false := by rw [hlen]; simp; omega
  have hn1 : IntKind.i64.wrap ((((fs ++ [frm n k]).length : Nat) : Int) - 1) = (fs.length : Int) := by rw [hlen, wr64] <;> omega
  have hnn : ((fs.length : Nat) : Int).toNat = fs.length := rfl
  have hfr : List.take (IntKind.i64.wrap ((((fs ++ [frm n k]).length : Nat) : Int) - 1)).toNat (fs ++ [frm n k]) = fs := by rw [hn1, hnn, List.take_append_of_le_length (by omega), List.take_length]
  have hbl := bsl_len b
  have hw2 : IntKind.u64.wrap (IntKind.i64.wrap (((bsl b).length : Int) - (k : Int))) = ((b.length - k : Nat) : Int) := by rw [hbl, wr64 (by omega) (by omega), wru64 (by omega) (by omega)]; omega
  refine Run.of_tri Tryd.func77 rfl rfl (ltb rfl) ?_
  refine Tri.seq ?_
  refine Tri.region ?_
  refine TriL.c1 rfl (op_as (ltb rfl) rfl) ?_
  refine TriL.nil ?_
  refine Tri.seq ?_
  refine Tri.seq ?_
  refine Tri.region ?_
  refine TriL.c1 rfl (op_mv (ltb rfl) rfl) ?_
  refine TriL.c2 rfl (op_callh (ltb rfl) fn42_E14 rfl rfl (is_run H id _ _ ho)) ?_
  refine TriL.c1 rfl (op_un (ltb rfl) rfl rfl) ?_
  refine TriL.c1 rfl (op_mv (ltb rfl) rfl) ?_
  refine TriL.g1 rfl (ltb rfl) rfl rfl (op_mv (ltb rfl) rfl) ?_
  refine TriL.g1 rfl (ltb rfl) rfl rfl (op_nckc (ltb rfl) rfl) ?_
  refine TriL.g1 rfl (ltb rfl) rfl rfl (op_fac (ltb rfl) fo80_1_E14 rfl) ?_
  refine TriL.g1 rfl (ltb rfl) rfl rfl (op_ldc (ltb rfl) lk78_E14 rfl rfl ho rfl) ?_
  refine TriL.g1 rfl (ltb rfl) rfl rfl (op_lensl (ltb rfl) un78_E14 rfl) ?_
  refine TriL.g1 rfl (ltb rfl) rfl rfl (op_bin (ltb rfl) rfl rfl rfl) ?_
  refine TriL.c1 rfl (op_pickf (ltb rfl) rfl rfl rfl) ?_
  refine TriL.nil ?_
  refine Tri.condF rfl (hz) ?_
  refine Tri.skip ?_
  refine Tri.seq ?_
  refine Tri.ofKept (Kept.opn 100 id 100 rfl ho rfl rfl (Kept.lp 0 100 rfl rfl (Kept.now ?_)))
  refine Tri.drawn mixed rfl ?_
  refine TriD.c1 rfl (op_mv (ltb rfl) rfl) ?_
  refine TriD.c1 rfl (op_nckl (ltb rfl) rfl) ?_
  refine TriD.c1 rfl (op_fal (ltb rfl) fo80_1_E14 rfl) ?_
  refine TriD.c1 rfl (op_ldo (ltb rfl) lk78_E14 rfl rfl rfl) ?_
  refine TriD.c1 rfl (op_mv (ltb rfl) rfl) ?_
  refine TriD.c1 rfl (op_nckl (ltb rfl) rfl) ?_
  refine TriD.c1 rfl (op_fal (ltb rfl) fo80_1_E14 rfl) ?_
  refine TriD.c1 rfl (op_ldo (ltb rfl) lk78_E14 rfl rfl rfl) ?_
  refine TriD.c1 rfl (op_lenom (ltb rfl) un78_E14 rfl) ?_
  refine TriD.c1 rfl (op_bin (ltb rfl) rfl rfl rfl) ?_
  refine TriD.c1 rfl (op_iam (ltb rfl) ie78_E14 rfl rfl rfl (by rw [hn1]; omega) (by rw [hn1]; omega)) ?_
  refine TriD.c1 rfl (op_ldt (ltb rfl) lk126_E14 rfl rfl (by rw [hn1, hnn, fm_frm fs hfs]; rfl)) ?_
  refine TriD.c2 rfl (op_all (ltb rfl) zA126_E14 rfl) ?_
  refine TriD.c1 rfl (op_stl lk126_E14 rfl rfl rfl rfl rfl (leb rfl)) ?_
  refine TriD.nil (by kernel_rfl) (Kept.now ?_)
  refine Tri.seq ?_
  refine Tri.drawn mixed rfl ?_
  refine TriD.c1 rfl (op_mv (ltb rfl) rfl) ?_
  refine TriD.c1 rfl (op_mv (ltb rfl) rfl) ?_
  refine TriD.c1 rfl (op_nckl (ltb rfl) rfl) ?_
  refine TriD.c1 rfl (op_fal (ltb rfl) fo80_1_E14 rfl) ?_
  refine TriD.c1 rfl (op_ldo (ltb rfl) lk78_E14 rfl rfl rfl) ?_
  refine TriD.c1 rfl (op_mv (ltb rfl) rfl) ?_
  refine TriD.c1 rfl (op_nckl (ltb rfl) rfl) ?_
  refine TriD.c1 rfl (op_fal (ltb rfl) fo80_1_E14 rfl) ?_
  refine TriD.c1 rfl (op_ldo (ltb rfl) lk78_E14 rfl rfl rfl) ?_
  refine TriD.c1 rfl (op_lenom (ltb rfl) un78_E14 rfl) ?_
  refine TriD.c1 rfl (op_bin (ltb rfl) rfl rfl rfl) ?_
  refine TriD.c3 rfl (op_cutom (ltb rfl) ie78_E14 rfl rfl rfl rfl (by rw [hn1]; omega) (by rw [hn1]; omega) rfl) ?_
  refine TriD.c1 rfl (op_nckl (ltb rfl) rfl) ?_
  refine TriD.c1 rfl (op_fal (ltb rfl) fo80_1_E14 rfl) ?_
  refine TriD.c1 rfl (op_sto lk78_E14 rfl rfl rfl rfl rfl (leb rfl)) ?_
  refine TriD.nil (by kernel_rfl) (Kept.op 0 rfl rfl (Kept.cls 100 rfl rfl rfl rfl (Kept.now ?_)))
  rw [hfr, Hp.del_set]
  refine Tri.seq ?_  -- region 5 emit.go:84
  refine Tri.region ?_
  refine TriL.c1 rfl (op_fal (ltb rfl) fo126_0_E14 rfl) ?_
  refine TriL.c1 rfl (op_ldl (ltb rfl) lk3_E14 rfl rfl rfl) ?_
  refine TriL.c1 rfl (op_call (ltb rfl) fn78_E14 rfl (of_pure n 2)) ?_
  refine TriL.c1 rfl (op_mv (ltb rfl) rfl) ?_
  refine TriL.c1 rfl (op_ext (ltb rfl) rfl rfl) ?_
  refine TriL.c1 rfl (op_ext (ltb rfl) rfl rfl) ?_
  refine TriL.c1 rfl (op_as (ltb rfl) rfl) ?_
  refine TriL.c1 rfl (op_as (ltb rfl) rfl) ?_
  refine TriL.nil ?_
  refine Tri.seq ?_
  refine Tri.drawn mixed rfl ?_
  refine TriD.c1 rfl (op_mv (ltb rfl) rfl) ?_
  refine TriD.c1 rfl (op_fal (ltb rfl) fo126_1_E14 rfl) ?_
  refine TriD.c1 rfl (op_ldl (ltb rfl) lk3_E14 rfl rfl rfl) ?_
  refine TriD.c1 rfl (op_mv (ltb rfl) rfl) ?_
  refine TriD.c2 rfl (op_callo (ltb rfl) fn29_E14 rfl (vput_pureO' (n := (8 * n + 2).toNat) (by simp only [tagnum, hr, if_pos]; omega) (by omega)) rfl) ?_
  refine TriD.c1 rfl (op_mv (ltb rfl) rfl) ?_
  refine TriD.c1 rfl (op_nckc (ltb rfl) rfl) ?_
  refine TriD.c1 rfl (op_fac (ltb rfl) fo80_0_E14 rfl) ?_
  refine TriD.c1 rfl (op_ldc (ltb rfl) lk36_E14 rfl rfl Hp.set_obj rfl) ?_
  refine TriD.c1 rfl (op_lensl (ltb rfl) un36_E14 rfl) ?_
  refine TriD.c1 rfl (op_fal (ltb rfl) fo126_1_E14 rfl) ?_
  refine TriD.c1 rfl (op_ldl (ltb rfl) lk3_E14 rfl rfl rfl) ?_
  refine TriD.c1 rfl (op_bin (ltb rfl) rfl rfl rfl) ?_
  refine TriD.c1 rfl (op_cvi (ltb rfl) un3_E14 un40_E14 rfl) ?_
  refine TriD.c2 rfl (op_callo (ltb rfl) fn29_E14 rfl (vput_pureO' (n := b.length - k) hw2 (by omega)) rfl) ?_
  refine TriD.c3 rfl (op_app (ltb rfl) se36_E14 rfl rfl rfl (okEls_bsl _) rfl (by rw [bsl_len, bsl_len]; omega) (by rw [bsl_len, bsl_len]; omega)) ?_
  rw [← bsl_app]
  refine TriD.c2 rfl (op_callh (ltb rfl) fn84_E14 rfl rfl (lay_run (H.set id (wr (bsl b) fs)) id k b (vput (8 * n + 2).toNat ++ vput (b.length - k)) fs Hp.set_obj hk (by rw [List.length_append]; omega))) ?_
  refine TriD.nil (by kernel_rfl) (Kept.now ?_)
  refine Tri.seq ?_
  refine Tri.region ?_
  refine TriL.c1 rfl (op_as (ltb rfl) rfl) ?_
  refine TriL.nil ?_
  refine Tri.ret ?_
  refine ⟨.inr rfl, ResOK.r1 rfl (.tmp rfl .nil), ?_⟩
  have e : (H.set id (wr (bsl b) fs)).set id (wr (bsl (shut b n k)) fs) = H.set id (wr (bsl (shut b n k)) fs) := Hp.set_set
  exact congrArg (fun h => some (CV.hp h)) e
end Go.Proofs.YtnpgcmeclkncnaaDoor.X
/- The reference's bytes: Put, Of, Tag, Bytes. -/
set_option linter.unusedVariables false
set_option maxRecDepth 100000
set_option linter.unusedSimpArgs false
namespace Go.Proofs.YtnpgcmeclkncnaaDoor.X
open Go Go.RowKit Go.Proofs
theorem se36_E19 : se Tryd.prog 36 = some (5, 1, 1) := by kernel_rfl
theorem un40_E19 : Tryd.prog.underlying 40 = some (TypeDesc.int IntKind.u64) := Tryd.underlying40
theorem un5_E19 : Tryd.prog.underlying 5 = some (TypeDesc.int IntKind.u8) := Tryd.underlying5
theorem zAe36_E19 : zeroA Tryd.prog 5 = some [AV.int IntKind.u8 (0)] := by kernel_rfl
def StRP (H : Hp) (m : Int) (xs : List AV) : St := [(.h, .hp H), (.s 0, .sv (.v (.int .u64 m))), (.s 3, .sv (.ow 4 xs)), (.t 4, .tk false 5 1 xs)]
theorem tdiv_nat (m k : Nat) : ((m : Nat) : Int).tdiv (k : Int) = ((m / k : Nat) : Int) := by rw [Int.tdiv_eq_ediv_of_nonneg (by omega)]; omega
theorem tmod_nat (m k : Nat) : ((m : Nat) : Int).tmod (k : Int) = ((m % k : Nat) : Int) := by rw [Int.tmod_eq_emod_of_nonneg (by omega)]; omega
theorem byte_add (m : Nat) : IntKind.u8.wrap (IntKind.u8.wrap (((m : Nat) : Int).tmod 128) + 128) = (((UInt8.ofNat (m % 128 + 128)).toNat : Nat) : Int) := by
  rw [show ((m : Nat) : Int).tmod 128 = ((m % 128 : Nat) : Int) from tmod_nat m 128, wr8 (n := ((m % 128 : Nat) : Int)) (by omega) (by omega), wr8 (by omega) (by omega), UInt8.toNat_ofNat_of_lt' (by simp [UInt8.size]; omega)]
  omega
theorem rput_pureO (n : Nat) (h : n < 18446744073709551616) : PureO Tryd.prog 16 [.int .u64 (n : Int)] 5 1 (bsl (vput n)) := by
  refine PureO.of_tri Tryd.func16 rfl rfl (ltb rfl) rfl fun H => ?_
  refine Tri.seq ?_
  refine Tri.region ?_
  refine TriL.c1 rfl (op_as (ltb rfl) rfl) ?_
  refine TriL.nil ?_
  refine Tri.seq ?_
  refine Tri.region ?_
  refine TriL.c2 rfl (op_litt («as» := []) (ltb rfl) se36_E19 zAe36_E19 rfl rfl rfl (leb rfl) rfl) ?_
  refine TriL.c1 rfl (op_as (ltb rfl) rfl) ?_
  refine TriL.kept (Kept.keep [.h, .s 0, .s 3, .t 4] rfl (by decide) (Kept.now ?_))
  refine Tri.seq ?_
  refine Tri.blk ?_
  -- LOOP 1: KEEP
  refine Tri.loop (fun q s => ∃ (m : Nat) (o : List UInt8), s = StRP H m (bsl o) ∧ vput n = o ++ vput m ∧ m < 18446744073709551616 ∧ q = (vput m).length) ?_ (n := (vput n).length) ⟨n, [], rfl, rfl, h, rfl⟩
  rintro q s ⟨m, o, rfl, hv, hm, rfl⟩
  have hlen : (vput n).length = o.length + (vput m).length := by rw [hv, List.length_append]
  have hmx := vput_max h
  refine Tri.seq ?_
  refine Tri.seq ?_
  refine Tri.region ?_
  refine TriL.c1 rfl (op_mv (ltb rfl) rfl) ?_
  refine TriL.c1 rfl (op_bin (ltb rfl) rfl rfl rfl) ?_
  refine TriL.nil ?_
  refine Tri.cond rfl (fun hc1 => ?_) (fun hc1 => ?_)
  · have hlt : 128 ≤ m := by have := of_decide_eq_true hc1; omega
    have hvl := vput_pos (m / 128)
    have hvl2 : (vput m).length = (vput (m / 128)).length + 1 := by rw [vput_hi (n := m) (by omega), List.length_cons]
    refine Tri.skip ?_
    refine Tri.blk ?_
    refine Tri.seq ?_
    refine Tri.region ?_
    refine TriL.c1 rfl (op_mv (ltb rfl) rfl) ?_
    refine TriL.c1 rfl (op_mv (ltb rfl) rfl) ?_
    refine TriL.c1 rfl (op_bin (ltb rfl) rfl rfl rfl) ?_
    refine TriL.c1 rfl (op_cvi (ltb rfl) un40_E19 un5_E19 rfl) ?_
    refine TriL.c1 rfl (op_bin (ltb rfl) rfl rfl rfl) ?_
    refine TriL.c1 rfl (op_lit («as» := [_]) (ltb rfl) se36_E19 zAe36_E19 rfl rfl rfl (leb rfl)) ?_
    refine TriL.c3 rfl (op_app (ltb rfl) se36_E19 rfl rfl rfl (okEls_one _ _) rfl (by have := bsl_len o; simp only [List.length_cons, List.length_nil]; omega) (by have := bsl_len o; simp only [List.length_cons, List.length_nil]; omega)) ?_
    refine TriL.c1 rfl (op_as (ltb rfl) rfl) ?_
    refine TriL.nil ?_
    refine Tri.region ?_
    refine TriL.c1 rfl (op_mv (ltb rfl) rfl) ?_
    refine TriL.c1 rfl (op_bin (ltb rfl) rfl rfl rfl) ?_
    refine TriL.c1 rfl (op_as (ltb rfl) rfl) ?_
    refine TriL.kept (Kept.keep [.h, .s 0, .s 3, .t 13] rfl (by decide) (Kept.ren 13 4 (by decide) rfl (Kept.now ?_)))
    refine ⟨(vput (m / 128)).length, by omega, m / 128, o ++ [UInt8.ofNat (m % 128 + 128)], ?_, by rw [hv, vput_hi (n := m) (by omega)]; simp, by omega, rfl⟩
    have e1 : IntKind.u64.wrap (((m : Nat) : Int).tdiv 128) = ((m / 128 : Nat) : Int) := by rw [show ((m : Nat) : Int).tdiv 128 = ((m / 128 : Nat) : Int) from tdiv_nat m 128, wru64 (by omega) (by omega)]
    rw [← e1, show bsl (o ++ [UInt8.ofNat (m % 128 + 128)]) = bsl o ++ [.int .u8 (IntKind.u8.wrap (IntKind.u8.wrap (((m : Nat) : Int).tmod 128) + 128))] by rw [byte_add, bsl_app]; rfl]
    rfl
  · have hlt : m < 128 := by have := of_decide_eq_false hc1; omega
    have hvl : (vput m).length = 1 := by rw [vput_lo hlt]; rfl
    refine Tri.exit ?_
    refine Tri.seq ?_
    refine Tri.region ?_
    refine TriL.c1 rfl (op_mv (ltb rfl) rfl) ?_
    refine TriL.c1 rfl (op_mv (ltb rfl) rfl) ?_
    refine TriL.c1 rfl (op_cvi (ltb rfl) un40_E19 un5_E19 rfl) ?_
    refine TriL.c1 rfl (op_lit («as» := [_]) (ltb rfl) se36_E19 zAe36_E19 rfl rfl rfl (leb rfl)) ?_
    refine TriL.c3 rfl (op_app (ltb rfl) se36_E19 rfl rfl rfl (okEls_one _ _) rfl (by have := bsl_len o; simp only [List.length_cons, List.length_nil]; omega) (by have := bsl_len o; simp only [List.length_cons, List.length_nil]; omega)) ?_
    refine TriL.c1 rfl (op_as (ltb rfl) rfl) ?_
    refine TriL.nil ?_
    refine Tri.ret ?_
    have hb : bsl o ++ [.int .u8 (IntKind.u8.wrap (m : Int))] = bsl (vput n) := by rw [hv, vput_lo hlt, bsl_app, byte_of]; rfl
    rw [← hb]
    exact ⟨.inr rfl, ⟨20, rfl, rfl⟩, rfl⟩
def StRF (H : Hp) (m : Int) (k : Nat) (xs : List AV) (j : Int) : St := [(.h, .hp H), (.s 0, .sv (.v (.int .u64 m))), (.s 1, .sv (.v (.int .i64 (k : Int)))), (.s 5, .sv (.ow 7 xs)), (.s 6, .sv (.v (.int .i64 j))), (.t 7, .tk false 5 1 xs)]
theorem nb_step (n i : Nat) : IntKind.u8.wrap (((n / 2 ^ (8 * i) : Nat) : Int).tmod 256) = ((nb n i).toNat : Int) := by
  rw [show (((n / 2 ^ (8 * i) : Nat) : Int)).tmod 256 = ((n / 2 ^ (8 * i) % 256 : Nat) : Int) from tmod_nat _ 256, byte_of]
  simp [nb, UInt8.toNat_ofNat']
theorem nb_next (n i : Nat) : n / 2 ^ (8 * i) / 256 = n / 2 ^ (8 * (i + 1)) := by
  rw [Nat.div_div_eq_div_mul, show (256 : Nat) = 2 ^ 8 from rfl, ← Nat.pow_add]; congr 2
theorem fput_succ (n i : Nat) : fput n (i + 1) = fput n i ++ [nb n i] := by simp [fput, List.range_succ]
theorem fput_len (n i : Nat) : (fput n i).length = i := by simp [fput]
theorem rfix_pureO (n k : Nat) (h : n < 18446744073709551616) (hk : k ≤ 8) : PureO Tryd.prog 15 [.int .u64 (n : Int), .int .i64 (k : Int)] 5 1 (bsl (fput n k)) := by
  refine PureO.of_tri Tryd.func15 rfl rfl (ltb rfl) rfl fun H => ?_
  refine Tri.seq ?_
  refine Tri.region ?_
  refine TriL.c1 rfl (op_as (ltb rfl) rfl) ?_
  refine TriL.nil ?_
  refine Tri.seq ?_
  refine Tri.region ?_
  refine TriL.c2 rfl (op_litt («as» := []) (ltb rfl) se36_E19 zAe36_E19 rfl rfl rfl (leb rfl) rfl) ?_
  refine TriL.c1 rfl (op_as (ltb rfl) rfl) ?_
  refine TriL.nil ?_
  refine Tri.seq ?_
  refine Tri.seq ?_
  refine Tri.region ?_
  refine TriL.c1 rfl (op_as (ltb rfl) rfl) ?_
  refine TriL.kept (Kept.keep [.h, .s 0, .s 1, .s 5, .s 6, .t 7] rfl (by decide) (Kept.now ?_))
  refine Tri.blk ?_
  -- LOOP 1: KEEP
  refine Tri.loop (fun q s => ∃ (i : Nat) (j : Int), s = StRF H ((n / 2 ^ (8 * i) : Nat) : Int) k (bsl (fput n i)) j ∧ j = i ∧ i ≤ k ∧ q = k - i) ?_ (n := k) ⟨0, 0, by simp only [Nat.mul_zero, Nat.pow_zero, Nat.div_one]; rfl, rfl, by omega, rfl⟩
  rintro q s ⟨i, j, rfl, hj, hi, rfl⟩
  have hbl := bsl_len (fput n i)
  have hfl := fput_len n i
  have hdl : n / 2 ^ (8 * i) < 18446744073709551616 := Nat.lt_of_le_of_lt (Nat.div_le_self _ _) h
  refine Tri.seq ?_
  refine Tri.seq ?_
  refine Tri.region ?_
  refine TriL.c1 rfl (op_mv (ltb rfl) rfl) ?_
  refine TriL.c1 rfl (op_mv (ltb rfl) rfl) ?_
  refine TriL.c1 rfl (op_bin (ltb rfl) rfl rfl rfl) ?_
  refine TriL.nil ?_
  refine Tri.cond rfl (fun hc1 => ?_) (fun hc1 => ?_)
  · have hlt : i < k := by have := of_decide_eq_true hc1; omega
    refine Tri.skip ?_
    refine Tri.seq ?_
    refine Tri.blk ?_
    refine Tri.seq ?_
    refine Tri.region ?_
    refine TriL.c1 rfl (op_mv (ltb rfl) rfl) ?_
    refine TriL.c1 rfl (op_mv (ltb rfl) rfl) ?_
    refine TriL.c1 rfl (op_bin (ltb rfl) rfl rfl rfl) ?_
    refine TriL.c1 rfl (op_cvi (ltb rfl) un40_E19 un5_E19 rfl) ?_
    refine TriL.c1 rfl (op_lit («as» := [_]) (ltb rfl) se36_E19 zAe36_E19 rfl rfl rfl (leb rfl)) ?_
    refine TriL.c3 rfl (op_app (ltb rfl) se36_E19 rfl rfl rfl (okEls_one _ _) rfl (by simp only [List.length_cons, List.length_nil]; omega) (by simp only [List.length_cons, List.length_nil]; omega)) ?_
    refine TriL.c1 rfl (op_as (ltb rfl) rfl) ?_
    refine TriL.nil ?_
    refine Tri.region ?_
    refine TriL.c1 rfl (op_mv (ltb rfl) rfl) ?_
    refine TriL.c1 rfl (op_bin (ltb rfl) rfl rfl rfl) ?_
    refine TriL.c1 rfl (op_as (ltb rfl) rfl) ?_
    refine TriL.nil ?_
    refine Tri.region ?_
    refine TriL.c1 rfl (op_mv (ltb rfl) rfl) ?_
    refine TriL.c1 rfl (op_bin (ltb rfl) rfl rfl rfl) ?_
    refine TriL.c1 rfl (op_as (ltb rfl) rfl) ?_
    refine TriL.kept (Kept.keep [.h, .s 0, .s 1, .s 5, .s 6, .t 18] rfl (by decide) (Kept.ren 18 7 (by decide) rfl (Kept.now ?_)))
    refine ⟨k - (i + 1), by omega, i + 1, IntKind.i64.wrap (j + 1), ?_, by rw [hj, wr64] <;> omega, by omega, rfl⟩
    have e1 : IntKind.u64.wrap (((n / 2 ^ (8 * i) : Nat) : Int).tdiv 256) = ((n / 2 ^ (8 * (i + 1)) : Nat) : Int) := by rw [show (((n / 2 ^ (8 * i) : Nat) : Int)).tdiv 256 = ((n / 2 ^ (8 * i) / 256 : Nat) : Int) from tdiv_nat _ 256, nb_next, wru64 (Int.natCast_nonneg _) (Int.ofNat_lt.2 (Nat.lt_of_le_of_lt (Nat.div_le_self _ _) h))]
    rw [← e1, fput_succ, show bsl (fput n i ++ [nb n i]) = bsl (fput n i) ++ [.int .u8 (IntKind.u8.wrap (((n / 2 ^ (8 * i) : Nat) : Int).tmod 256))] by rw [nb_step, bsl_app]; rfl]
    rfl
  · have hge : i = k := by have := of_decide_eq_false hc1; omega
    subst hge
    refine Tri.exit ?_
    refine Tri.seq ?_
    refine Tri.region ?_
    refine TriL.c1 rfl (op_mv (ltb rfl) rfl) ?_
    refine TriL.c1 rfl (op_as (ltb rfl) rfl) ?_
    refine TriL.nil ?_
    refine Tri.ret ?_
    exact ⟨.inr rfl, ⟨7, rfl, rfl⟩, rfl⟩
end Go.Proofs.YtnpgcmeclkncnaaDoor.X
/- Plain laws: a value's bytes; how long the bytes of what is small are. No condition. -/
set_option linter.unusedVariables false
set_option linter.unusedSimpArgs false
namespace Go.Proofs.YtnpgcmeclkncnaaDoor.X
open Go Go.RowKit Go.Proofs
def pay (w : Int) (u : Nat) : Str := if w = 1 then fput u 8 else if w = 5 then fput u 4 else vput u
def tagB (n w : Int) : Str := vput (8 * n + w).toNat
def txt (n : Int) (s : Str) : Str := tagB n 2 ++ (vput s.length ++ s)
def pack1 (t : Int) (n : Nat) : Str := if numT t then pay (wireT t) (toT t n) else []
def packB (t : Int) (l : List Nat) : Str := l.flatMap (pack1 t)
def Rw.enc (r : Rw) : Str := if r.wire = 2 then txt r.num r.s else tagB r.num r.wire ++ pay r.wire r.n
mutual
def Tree.enc (s : Sch) (name : Str) : Tree → Str
  | .mk ss r => (match s.msgAt name with | none => [] | some m => encS s m ss) ++ r.flatMap Rw.enc
def Slot.enc (s : Sch) (m : Msg) : Slot → Str
  | .mk num vs => match m.fix num with
    | none => []
    | some f => if f.packed then txt f.num (packB f.ty (vs.map Val.n)) else encV s f vs
def Val.enc (s : Sch) (f : Fld) : Val → Str
  | .mk n str m => if numT f.ty then tagB f.num (wireT f.ty) ++ pay (wireT f.ty) (toT f.ty n) else if f.ty = 15 then txt f.num (encM s f.ref m) else txt f.num str
def encS (s : Sch) (m : Msg) : List Slot → Str
  | [] => []
  | x :: l => x.enc s m ++ encS s m l
def encV (s : Sch) (f : Fld) : List Val → Str
  | [] => []
  | v :: l => v.enc s f ++ encV s f l
def encM (s : Sch) (name : Str) : List Tree → Str
  | [] => []
  | t :: _ => t.enc s name
end
theorem Tree.enc_eq (s : Sch) (name : Str) (t : Tree) : t.enc s name = (match s.msgAt name with | none => [] | some m => encS s m t.slots) ++ t.rest.flatMap Rw.enc := by cases t; simp only [Tree.enc, Tree.slots, Tree.rest]
theorem Slot.enc_eq (s : Sch) (m : Msg) (x : Slot) : x.enc s m = match m.fix x.num with
    | none => []
    | some f => if f.packed then txt f.num (packB f.ty (x.vals.map Val.n)) else encV s f x.vals := by cases x; simp only [Slot.enc, Slot.num, Slot.vals]
theorem Val.enc_eq (s : Sch) (f : Fld) (v : Val) : v.enc s f = if numT f.ty then tagB f.num (wireT f.ty) ++ pay (wireT f.ty) (toT f.ty v.n) else if f.ty = 15 then txt f.num (encM s f.ref v.m) else txt f.num v.s := by
  cases v; simp only [Val.enc, Val.n, Val.s, Val.m]
theorem encM_one (s : Sch) (name : Str) {l : List Tree} (h : 0 < l.length) : encM s name l = (l[0]).enc s name := by
  cases l with
  | nil => simp at h
  | cons t l => simp [encM]
theorem encS_step {s : Sch} {m : Msg} {l : List Slot} {i : Nat} (h : i < l.length) : encS s m (l.drop i) = l[i].enc s m ++ encS s m (l.drop (i + 1)) := by rw [List.drop_eq_getElem_cons h]; simp [encS]
theorem encV_step {s : Sch} {f : Fld} {l : List Val} {i : Nat} (h : i < l.length) : encV s f (l.drop i) = l[i].enc s f ++ encV s f (l.drop (i + 1)) := by rw [List.drop_eq_getElem_cons h]; simp [encV]
theorem encS_end {s : Sch} {m : Msg} {l : List Slot} {i : Nat} (h : l.length ≤ i) : encS s m (l.drop i) = [] := by rw [List.drop_of_length_le h]; simp [encS]
theorem encV_end {s : Sch} {f : Fld} {l : List Val} {i : Nat} (h : l.length ≤ i) : encV s f (l.drop i) = [] := by rw [List.drop_of_length_le h]; simp [encV]
theorem flat_step {α : Type} {f : α → Str} {l : List α} {i : Nat} (h : i < l.length) : (l.drop i).flatMap f = f l[i] ++ (l.drop (i + 1)).flatMap f := by rw [List.drop_eq_getElem_cons h, List.flatMap_cons]
theorem flat_end {α : Type} {f : α → Str} {l : List α} {i : Nat} (h : l.length ≤ i) : (l.drop i).flatMap f = [] := by rw [List.drop_of_length_le h]; simp
/-- a schema of right fields -/
structure Sch.good (s : Sch) : Prop extends s.fine where
  n : ∀ m ∈ s.msgs, ∀ f ∈ m.fields, fnum f.num = true
structure Tree.fit1 (t : Tree) : Prop where
  s : t.slots.length ≤ 140737488355328
  r : t.rest.length ≤ 140737488355328
  v : ∀ x ∈ t.slots, x.vals.length ≤ 140737488355328
  m : ∀ x ∈ t.slots, ∀ v ∈ x.vals, v.m.length ≤ 140737488355328
  vs : ∀ x ∈ t.slots, ∀ v ∈ x.vals, v.s.length ≤ 140737488355328
  vn : ∀ x ∈ t.slots, ∀ v ∈ x.vals, v.n < 18446744073709551616
  rs : ∀ r ∈ t.rest, r.s.length ≤ 140737488355328
  rn : ∀ r ∈ t.rest, r.n < 18446744073709551616
def Tree.fits (t : Tree) : Prop := t.Every Tree.fit1
theorem Tree.fits.big {t : Tree} (h : t.fits) : t.big := fun u hu => by
  have h1 := h u hu
  exact ⟨Nat.le_trans h1.s (by omega), Nat.le_trans h1.r (by omega), fun x hx => Nat.le_trans (h1.v x hx) (by omega), fun x hx v hv => Nat.le_trans (h1.m x hx v hv) (by omega), fun x hx v hv => Nat.le_trans (h1.vs x hx v hv) (by omega), h1.vn, fun r hr => Nat.le_trans (h1.rs r hr) (by omega), h1.rn⟩
/-! ### how long -/
theorem pay_len {w : Int} {u : Nat} (h : u < 18446744073709551616) : (pay w u).length ≤ 10 := by
  unfold pay
  split
  · simp [fput_len]
  · split
    · simp [fput_len]
    · exact vput_max h
theorem txt_ge (n : Int) (s : Str) : s.length ≤ (txt n s).length := by simp only [txt, List.length_append]; omega
theorem fnum_le {n : Int} (h : fnum n = true) : 1 ≤ n ∧ n ≤ 536870911 := by simp [fnum] at h; omega
theorem fnum_right {n : Int} (h : fnum n = true) : rightok n 2 = true := by have := fnum_le h; simp [rightok]; omega
theorem numT_wire {t : Int} (h : numT t = true) : wireT t = 0 ∨ wireT t = 1 ∨ wireT t = 5 := by
  unfold numT wholeT at h; unfold wireT; simp at h; grind
theorem to5 {t : Int} {n : Nat} (h : wireT t = 5) : toT t n < 4294967296 := by
  have : t = 8 ∨ t = 10 := by unfold wireT at h; grind
  unfold toT; rw [if_pos (by omega)]; omega
theorem wire_right {n t : Int} (h : fnum n = true) : rightok n (wireT t) = true := by
  have := fnum_le h
  have h2 : wireT t = 0 ∨ wireT t = 1 ∨ wireT t = 2 ∨ wireT t = 5 := by unfold wireT; grind
  simp [rightok]; omega
theorem tagOK_right {n w : Int} : tagOK n w = rightok n w := by rw [Bool.eq_iff_iff]; simp [tagOK, rightok]; omega
theorem pack1_len {t : Int} {n : Nat} (h : n < 18446744073709551616) : (pack1 t n).length ≤ 10 := by
  unfold pack1; split
  · exact pay_len (toT_lt h)
  · simp
theorem packB_len (t : Int) : ∀ (l : List Nat), (∀ n ∈ l, n < 18446744073709551616) → (packB t l).length ≤ 10 * l.length
  | [], _ => by simp [packB]
  | n :: l, h => by
    have h1 := pack1_len (t := t) (h n (by simp))
    have h2 := packB_len t l (fun k hk => h k (by simp [hk]))
    simp only [packB, List.flatMap_cons, List.length_append, List.length_cons] at *
    omega
theorem slotsOk_all {s : Sch} {m : Msg} : ∀ {l : List Slot} {a : Option Int} {b : List Str}, slotsOk s m l a b = true → ∀ x ∈ l, x.ok s m = true
  | [], _, _, _, x, hx => by cases hx
  | y :: l, a, b, h, x, hx => by
    simp only [slotsOk, Bool.and_eq_true] at h
    rcases List.mem_cons.1 hx with rfl | hx
    · exact h.1.1.2
    · exact slotsOk_all h.2 x hx
theorem Tree.ok_slots {s : Sch} {name : Str} {t : Tree} (h : t.ok s name = true) : ∃ m, s.msgAt name = some m ∧ m ∈ s.msgs ∧ decide (s.msgIx name < 0) = false ∧ (∀ x ∈ t.slots, x.ok s m = true) ∧ t.rest.all (restOK m) = true := by
  rw [Tree.ok_eq] at h
  by_cases hd : decide (s.msgIx name < 0) = true
  · rw [Sch.ix_no hd] at h; cases h
  · have hd : decide (s.msgIx name < 0) = false := by simpa using hd
    have ha := Sch.ix_at hd
    rw [ha] at h
    simp only [Bool.and_eq_true] at h
    exact ⟨_, ha, List.getElem_mem _, hd, slotsOk_all h.1, h.2⟩
theorem Val.ok_msg {s : Sch} {f : Fld} {v : Val} (h : v.ok s f = true) (h1 : ¬ numT f.ty = true) (h2 : f.ty = 15) : ∃ u, v.m = [u] ∧ u.ok s f.ref = true := by
  rw [Val.ok_eq, if_neg h1, if_neg (by omega), if_neg (by omega), if_pos h2] at h
  simp only [Bool.and_eq_true] at h
  have h := h.2
  match hm : v.m, h with
  | [u], h => exact ⟨u, rfl, by simpa [treeOk1] using h⟩
  | [], h => simp [treeOk1] at h
  | _ :: _ :: _, h => simp [treeOk1] at h
end Go.Proofs.YtnpgcmeclkncnaaDoor.X
/- bytes of fields and of numbers, in the program. -/
set_option linter.unusedVariables false
set_option linter.unusedSimpArgs false
set_option linter.unusedSectionVars false
set_option maxRecDepth 100000
namespace Go.Proofs.YtnpgcmeclkncnaaDoor.X
open Go Go.RowKit Go.Proofs
theorem fn20_MC : isFn Tryd.prog 20 = true := by kernel_rfl
theorem fn23_MC : isFn Tryd.prog 23 = true := by kernel_rfl
theorem fn51_MC : isFn Tryd.prog 51 = true := by kernel_rfl
theorem fn54_MC : isFn Tryd.prog 54 = true := by kernel_rfl
theorem fn57_MC : isFn Tryd.prog 57 = true := by kernel_rfl
theorem fn70_MC : isFn Tryd.prog 70 = true := by kernel_rfl
theorem fn71_MC : isFn Tryd.prog 71 = true := by kernel_rfl
theorem fn72_MC : isFn Tryd.prog 72 = true := by kernel_rfl
theorem fo96_0_MC : fo Tryd.prog 96 0 = some 0 := by kernel_rfl
theorem fo96_1_MC : fo Tryd.prog 96 1 = some 1 := by kernel_rfl
theorem fo96_2_MC : fo Tryd.prog 96 2 = some 2 := by kernel_rfl
theorem fo96_3_MC : fo Tryd.prog 96 3 = some 3 := by kernel_rfl
theorem ie48_MC : ie Tryd.prog 48 = some 4 := by kernel_rfl
theorem lk3_MC : lk Tryd.prog 3 = some (false, 1) := by kernel_rfl
theorem lk40_MC : lk Tryd.prog 40 = some (false, 1) := by kernel_rfl
theorem lk9_MC : lk Tryd.prog 9 = some (false, 1) := by kernel_rfl
theorem lk96_MC : lk Tryd.prog 96 = some (true, 4) := by kernel_rfl
theorem un40_MC : Tryd.prog.underlying 40 = some (TypeDesc.int IntKind.u64) := Tryd.underlying40
theorem un48_MC : Tryd.prog.underlying 48 = some (TypeDesc.slice 96) := Tryd.underlying48
theorem un70_MC : Tryd.prog.underlying 70 = some (TypeDesc.int IntKind.u32) := Tryd.underlying70
theorem zA96_MC : zeroA Tryd.prog 96 = some [AV.int IntKind.i64 (0), AV.int IntKind.i64 (0), AV.int IntKind.u64 (0), AV.str []] := by kernel_rfl
theorem w_varint (H : Hp) (id : Nat) (b : List UInt8) (fs : List AV) (n : Int) (x : Nat) (ho : H.obj id = some (wr (bsl b) fs)) (hr : rightok n 0 = true) (hx : x < 18446744073709551616) (hl : b.length + (tagB n 0 ++ vput x).length ≤ 1000000000) : Run Tryd.prog 70 [.op id 0, .int .i64 n, .int .u64 (x : Int)] H (.bool true) (H.set id (wr (bsl (b ++ (tagB n 0 ++ vput x))) fs)) := by
  skip
  have h := field_run H id b fs n 0 [vput x] ho hr (by simp only [txt, List.length_append, List.flatten_cons, List.flatten_nil, List.append_nil] at *; omega) (by simp)
  have e : b ++ vput (8 * n + 0).toNat ++ [vput x].flatten = b ++ (tagB n 0 ++ vput x) := by simp [tagB, txt]
  rw [e] at h
  exact varint_wrap H _ _ n x hx true h
theorem w_fixed4 (H : Hp) (id : Nat) (b : List UInt8) (fs : List AV) (n : Int) (x : Nat) {y : Int} (ho : H.obj id = some (wr (bsl b) fs)) (hr : rightok n 5 = true) (hx : x < 4294967296) (hy : y = (x : Int)) (hl : b.length + (tagB n 5 ++ fput x 4).length ≤ 1000000000) : Run Tryd.prog 72 [.op id 0, .int .i64 n, .int .u32 y] H (.bool true) (H.set id (wr (bsl (b ++ (tagB n 5 ++ fput x 4))) fs)) := by
  subst hy
  have h := field_run H id b fs n 5 [fput x 4] ho hr (by simp only [txt, List.length_append, List.flatten_cons, List.flatten_nil, List.append_nil] at *; omega) (by simp)
  have e : b ++ vput (8 * n + 5).toNat ++ [fput x 4].flatten = b ++ (tagB n 5 ++ fput x 4) := by simp [tagB, txt]
  rw [e] at h
  exact fixed4_wrap H _ _ n x hx true h
theorem w_fixed8 (H : Hp) (id : Nat) (b : List UInt8) (fs : List AV) (n : Int) (x : Nat) (ho : H.obj id = some (wr (bsl b) fs)) (hr : rightok n 1 = true)  (hl : b.length + (tagB n 1 ++ fput x 8).length ≤ 1000000000) : Run Tryd.prog 71 [.op id 0, .int .i64 n, .int .u64 (x : Int)] H (.bool true) (H.set id (wr (bsl (b ++ (tagB n 1 ++ fput x 8))) fs)) := by
  skip
  have h := field_run H id b fs n 1 [fput x 8] ho hr (by simp only [txt, List.length_append, List.flatten_cons, List.flatten_nil, List.append_nil] at *; omega) (by simp)
  have e : b ++ vput (8 * n + 1).toNat ++ [fput x 8].flatten = b ++ (tagB n 1 ++ fput x 8) := by simp [tagB, txt]
  rw [e] at h
  exact fixed8_wrap H _ _ n x true h
theorem w_text (H : Hp) (id : Nat) (b : List UInt8) (fs : List AV) (n : Int) (x : List UInt8) (ho : H.obj id = some (wr (bsl b) fs)) (hr : rightok n 2 = true)  (hl : b.length + (txt n x).length ≤ 1000000000) : Run Tryd.prog 54 [.op id 0, .int .i64 n, .str x] H (.bool true) (H.set id (wr (bsl (b ++ (txt n x))) fs)) := by
  have hx : x.length ≤ 1000000000 := by have := txt_ge n x; omega
  have h := field_run H id b fs n 2 [vput x.length, x] ho hr (by simp only [txt, List.length_append, List.flatten_cons, List.flatten_nil, List.append_nil] at *; omega) (by simp)
  have e : b ++ vput (8 * n + 2).toNat ++ [vput x.length, x].flatten = b ++ (txt n x) := by simp [tagB, txt]
  rw [e] at h
  exact text_wrap H _ _ n x (by omega) true h
theorem Rw.right_tag {r : Rw} (h : r.right = true) : rightok r.num r.wire = true := by
  have ht : tagOK r.num r.wire = true := by unfold Rw.right at h; simp at h; exact h.1
  rw [← tagOK_right]; exact ht
theorem Rw.enc0 {r : Rw} (h : r.wire = 0) : r.enc = tagB r.num 0 ++ vput r.n := by simp [Rw.enc, h, pay]
theorem Rw.enc1 {r : Rw} (h : r.wire = 1) : r.enc = tagB r.num 1 ++ fput r.n 8 := by simp [Rw.enc, h, pay]
theorem Rw.enc5 {r : Rw} (h : r.wire = 5) : r.enc = tagB r.num 5 ++ fput r.n 4 := by simp [Rw.enc, h, pay]
theorem Rw.enc2 {r : Rw} (h : r.wire = 2) : r.enc = txt r.num r.s := by simp [Rw.enc, h]
theorem Rw.right5 {r : Rw} (h : r.right = true) (h5 : r.wire = 5) : r.n < 4294967296 := by
  unfold Rw.right at h; simp [h5] at h; exact h.2.2
theorem Rw.right2 {r : Rw} (h : r.right = true) (h0 : ¬ r.wire = 0) (h1 : ¬ r.wire = 1) (h5 : ¬ r.wire = 5) : r.wire = 2 := by
  have ht := Rw.right_tag h; simp [rightok] at ht; omega
theorem wru32 {n : Nat} (h : n < 4294967296) : IntKind.u32.wrap (n : Int) = (n : Int) := by simp only [IntKind.wrap, IntKind.bits, IntKind.signed]; simp; omega
theorem biT {a b : Int} (h : (a == b) = true) : a = b := by simpa using h
theorem biF {a b : Int} (h : (a == b) = false) : ¬ a = b := by simpa using h
theorem p_rput (H : Hp) (id : Nat) (b : List UInt8) (fs : List AV) (r : Rw) (ho : H.obj id = some (wr (bsl b) fs)) (hr : r.right = true) (hn : r.n < 18446744073709551616) (hl : b.length + r.enc.length ≤ 1000000000) : Run Tryd.prog 57 [.op id 0, r.av] H (.tup []) (H.set id (wr (bsl (b ++ r.enc)) fs)) := by
  refine Run.of_tri Tryd.func57 rfl rfl (ltb rfl) ?_
  refine Tri.seq ?_
  refine Tri.region ?_
  refine TriL.c2 rfl (op_box (ltb rfl) rfl rfl rfl) ?_
  refine TriL.nil ?_
  refine Tri.seq ?_
  refine Tri.region ?_
  refine TriL.c1 rfl (op_fal (ltb rfl) fo96_1_MC rfl) ?_
  refine TriL.c1 rfl (op_ldl (ltb rfl) lk3_MC rfl rfl rfl) ?_
  refine TriL.nil ?_
  refine Tri.blk ?_
  refine Tri.seq ?_
  refine Tri.region ?_
  refine TriL.c1 rfl (op_bin (ltb rfl) rfl rfl rfl) ?_
  refine TriL.c1 rfl (op_as (ltb rfl) rfl) ?_
  refine TriL.nil ?_
  refine Tri.cond rfl (fun hc1 => ?_) (fun hc1 => ?_)
  · -- region 4 raw.go:34
    refine Tri.region ?_
    refine TriL.c1 rfl (op_mv (ltb rfl) rfl) ?_
    refine TriL.c1 rfl (op_fal (ltb rfl) fo96_0_MC rfl) ?_
    refine TriL.c1 rfl (op_ldl (ltb rfl) lk3_MC rfl rfl rfl) ?_
    refine TriL.c1 rfl (op_fal (ltb rfl) fo96_2_MC rfl) ?_
    refine TriL.c1 rfl (op_ldl (ltb rfl) lk40_MC rfl rfl rfl) ?_
    refine TriL.c2 rfl (op_callh (ltb rfl) fn70_MC rfl rfl (w_varint H id b fs _ r.n ho (by have := r.right_tag hr; rwa [biT hc1] at this) hn (by rw [← Rw.enc0 (biT hc1)]; exact hl))) ?_
    refine TriL.nil ?_
    exact ⟨.inl rfl, (ResOK.r0 rfl ).cast rfl, (congrArg (fun h => some (CV.hp h)) (by rw [Rw.enc0 (biT hc1)]))⟩
  · refine Tri.seq ?_
    refine Tri.region ?_
    refine TriL.c1 rfl (op_bin (ltb rfl) rfl rfl rfl) ?_
    refine TriL.c1 rfl (op_as (ltb rfl) rfl) ?_
    refine TriL.nil ?_
    refine Tri.cond rfl (fun hc2 => ?_) (fun hc2 => ?_)
    · -- region 6 raw.go:36
      refine Tri.region ?_
      refine TriL.c1 rfl (op_mv (ltb rfl) rfl) ?_
      refine TriL.c1 rfl (op_fal (ltb rfl) fo96_0_MC rfl) ?_
      refine TriL.c1 rfl (op_ldl (ltb rfl) lk3_MC rfl rfl rfl) ?_
      refine TriL.c1 rfl (op_fal (ltb rfl) fo96_2_MC rfl) ?_
      refine TriL.c1 rfl (op_ldl (ltb rfl) lk40_MC rfl rfl rfl) ?_
      refine TriL.c2 rfl (op_callh (ltb rfl) fn71_MC rfl rfl (w_fixed8 H id b fs _ r.n ho (by have := r.right_tag hr; rwa [biT hc2] at this) (by rw [← Rw.enc1 (biT hc2)]; exact hl))) ?_
      refine TriL.nil ?_
      exact ⟨.inl rfl, (ResOK.r0 rfl ).cast rfl, (congrArg (fun h => some (CV.hp h)) (by rw [Rw.enc1 (biT hc2)]))⟩
    · refine Tri.seq ?_
      refine Tri.region ?_
      refine TriL.c1 rfl (op_bin (ltb rfl) rfl rfl rfl) ?_
      refine TriL.c1 rfl (op_as (ltb rfl) rfl) ?_
      refine TriL.nil ?_
      refine Tri.cond rfl (fun hc3 => ?_) (fun hc3 => ?_)
      · -- region 8 raw.go:38
        refine Tri.region ?_
        refine TriL.c1 rfl (op_mv (ltb rfl) rfl) ?_
        refine TriL.c1 rfl (op_fal (ltb rfl) fo96_0_MC rfl) ?_
        refine TriL.c1 rfl (op_ldl (ltb rfl) lk3_MC rfl rfl rfl) ?_
        refine TriL.c1 rfl (op_fal (ltb rfl) fo96_2_MC rfl) ?_
        refine TriL.c1 rfl (op_ldl (ltb rfl) lk40_MC rfl rfl rfl) ?_
        refine TriL.c1 rfl (op_cvi (ltb rfl) un40_MC un70_MC rfl) ?_
        refine TriL.c2 rfl (op_callh (ltb rfl) fn72_MC rfl rfl (w_fixed4 H id b fs _ r.n ho (by have := r.right_tag hr; rwa [biT hc3] at this) (Rw.right5 hr (biT hc3)) (wru32 (Rw.right5 hr (biT hc3))) (by rw [← Rw.enc5 (biT hc3)]; exact hl))) ?_
        refine TriL.nil ?_
        exact ⟨.inl rfl, (ResOK.r0 rfl ).cast rfl, (congrArg (fun h => some (CV.hp h)) (by rw [Rw.enc5 (biT hc3)]))⟩
      · -- region 2 raw.go:40
        refine Tri.region ?_
        refine TriL.c1 rfl (op_mv (ltb rfl) rfl) ?_
        refine TriL.c1 rfl (op_fal (ltb rfl) fo96_0_MC rfl) ?_
        refine TriL.c1 rfl (op_ldl (ltb rfl) lk3_MC rfl rfl rfl) ?_
        refine TriL.c1 rfl (op_fal (ltb rfl) fo96_3_MC rfl) ?_
        refine TriL.c1 rfl (op_ldl (ltb rfl) lk9_MC rfl rfl rfl) ?_
        refine TriL.c2 rfl (op_callh (ltb rfl) fn54_MC rfl rfl (w_text H id b fs _ r.s ho (by have := r.right_tag hr; rwa [Rw.right2 hr (biF hc1) (biF hc2) (biF hc3)] at this) (by rw [← Rw.enc2 (Rw.right2 hr (biF hc1) (biF hc2) (biF hc3))]; exact hl))) ?_
        refine TriL.nil ?_
        exact ⟨.inl rfl, (ResOK.r0 rfl ).cast rfl, (congrArg (fun h => some (CV.hp h)) (by rw [Rw.enc2 (Rw.right2 hr (biF hc1) (biF hc2) (biF hc3))]))⟩
/-- a new writer, that has written so much -/
def Hp.pen (H : Hp) (b : List UInt8) : Hp := ⟨H.next + 1, fun i => if i = H.next then some (wr (bsl b) []) else H.obj i⟩
theorem Hp.pen_obj (H : Hp) (b : List UInt8) : (H.pen b).obj H.next = some (wr (bsl b) []) := by simp [Hp.pen]
theorem Hp.pen_set (H : Hp) (b c : List UInt8) : (H.pen b).set H.next (wr (bsl c) []) = H.pen c := by
  simp only [Hp.set, Hp.pen]
  congr 1
  funext i
  split <;> rfl
theorem Hp.pen_low (H : Hp) (b : List UInt8) : H.next ≤ (H.pen b).next ∧ ∀ i, i < H.next → (H.pen b).obj i = H.obj i := ⟨Nat.le_succ _, fun i hi => by simp only [Hp.pen]; rw [if_neg (by omega)]⟩
theorem pen_new (H : Hp) : Run Tryd.prog 20 [] H (.op H.next 0) (H.pen []) := new_run H
theorem p_rawPut (l : List Rw) (hll : l.length ≤ 9223372036854775807) (hr : ∀ r ∈ l, r.right = true) (hn : ∀ r ∈ l, r.n < 18446744073709551616) (hl : (l.flatMap Rw.enc).length ≤ 1000000000) : Pure Tryd.prog 40 [.sl (l.map Rw.av)] (.tup [.sl (bsl (l.flatMap Rw.enc)), .int .i64 0]) := by
  intro H; refine Run.of_triF Tryd.func40 rfl rfl (ltb rfl) (.tup _ (by simp; exact ⟨.sl _ (fun x hx => by simp [bsl] at hx; obtain ⟨c, _, rfl⟩ := hx; exact .int _ _), .int _ _⟩)) ?_
  refine Tri.seq ?_
  refine Tri.region ?_
  refine TriL.c1 rfl (op_as (ltb rfl) rfl) ?_
  refine TriL.c1 rfl (op_as (ltb rfl) rfl) ?_
  refine TriL.nil ?_
  refine Tri.seq ?_
  refine Tri.region ?_
  refine TriL.c2 rfl (op_callh (ltb rfl) fn20_MC rfl rfl (pen_new H)) ?_
  refine TriL.c1 rfl (op_as (ltb rfl) rfl) ?_
  refine TriL.nil ?_
  refine Tri.seq ?_
  refine Tri.seq ?_
  refine Tri.region ?_
  refine TriL.c1 rfl (op_mv (ltb rfl) rfl) ?_
  refine TriL.c1 rfl (op_lenl (ltb rfl) un48_MC rfl) ?_
  refine TriL.c1 rfl (op_mv (ltb rfl) rfl) ?_
  refine TriL.nil ?_
  refine Tri.blk ?_
  refine Tri.ofKept (Kept.keep [.s 10, .h, .s 4, .s 8, .s 9] rfl (by decide) (Kept.now ?_))
  -- LOOP 1
  refine Tri.loopk (fun ((i, a) : Nat × List UInt8) => [(.s 10, .sv (.v (.int .i64 (i : Int)))), (.h, .hp (H.pen a))]) _ (fun ((i, a) : Nat × List UInt8) => a ++ (l.drop i).flatMap Rw.enc = l.flatMap Rw.enc) (fun ((i, a) : Nat × List UInt8) => l.length - i) (0, []) rfl (by simp) ?_
  rintro ⟨i, a⟩ hI
  refine Tri.seq ?_
  refine Tri.region ?_
  refine TriL.c1 rfl (op_bin (ltb rfl) rfl rfl rfl) ?_
  refine TriL.nil ?_
  refine Tri.seq ?_
  refine Tri.cond rfl (fun hc1 => ?_) (fun hc1 => ?_)
  · have hi := ltm hc1
    have hS := flat_step (f := Rw.enc) hi
    refine Tri.skip ?_
    refine Tri.seq ?_
    refine Tri.blk ?_
    refine Tri.seq ?_
    refine Tri.region ?_
    refine TriL.c1 rfl (op_iak (ltb rfl) ie48_MC rfl rfl (Int.natCast_nonneg _) (ixm hi) rfl) ?_
    refine TriL.c1 rfl (op_ldk (ltb rfl) lk96_MC rfl rfl) ?_
    refine TriL.c2 rfl (op_all (ltb rfl) zA96_MC rfl) ?_
    refine TriL.c1 rfl (op_stl lk96_MC rfl rfl rfl rfl rfl (leb rfl)) ?_
    refine TriL.nil ?_
    refine Tri.seq ?_
    refine Tri.seq ?_
    refine Tri.region ?_
    refine TriL.c1 rfl (op_ldl (ltb rfl) lk96_MC rfl rfl rfl) ?_
    refine TriL.c1 rfl (op_call (ltb rfl) fn51_MC rfl (p_rright _)) ?_
    refine TriL.c1 rfl (op_un (ltb rfl) rfl rfl) ?_
    refine TriL.nil ?_
    refine Tri.cond rfl (fun hc2 => ?_) (fun hc2 => ?_)
    · refine Tri.seq ?_
      refine Tri.region ?_
      refine TriL.c1 rfl (op_as (ltb rfl) rfl) ?_
      refine TriL.c1 rfl (op_as (ltb rfl) rfl) ?_
      refine TriL.nil ?_
      refine Tri.ret ?_
      exact ⟨.inr rfl, (ResOK.r2 rfl (.tmp rfl (.tmp rfl .nil))).cast (by exact absurd (hr _ (List.getElem_mem hi)) (by have := ntr hc2; simp [this])), ⟨_, rfl, Hp.pen_low _ _⟩⟩
    · refine Tri.skip ?_
      refine Tri.region ?_
      refine TriL.c1 rfl (op_mv (ltb rfl) rfl) ?_
      refine TriL.c1 rfl (op_ldl (ltb rfl) lk96_MC rfl rfl rfl) ?_
      refine TriL.c2 rfl (op_callh (ltb rfl) fn57_MC rfl rfl (p_rput (H.pen a) H.next a [] (l[i]'hi) (Hp.pen_obj _ _) (hr _ (List.getElem_mem hi)) (hn _ (List.getElem_mem hi)) (by have := congrArg List.length hI; simp only [hS, List.length_append] at this; omega))) ?_
      refine TriL.nil ?_
      refine Tri.region ?_
      refine TriL.c1 rfl (op_bin (ltb rfl) rfl rfl rfl) ?_
      refine TriL.c1 rfl (op_mv (ltb rfl) rfl) ?_
      refine TriL.kept (Kept.seth rfl (Hp.pen_set _ _ _) (Kept.seti 10 rfl (inc (by omega)) (Kept.keep [.s 10, .h, .s 4, .s 8, .s 9] rfl (by decide) (Kept.now ?_))))
      exact ⟨(i + 1, _), (by dsimp only; omega), by dsimp only at hI ⊢; rw [List.append_assoc, ← hS]; exact hI, rfl⟩
  · have hi := gem hc1
    have hS := flat_end (f := Rw.enc) hi
    refine Tri.exit ?_
    refine Tri.seq ?_
    refine Tri.region ?_
    refine TriL.c1 rfl (op_mv (ltb rfl) rfl) ?_
    refine TriL.c2 rfl (op_callh (ltb rfl) fn23_MC rfl rfl (bytes_run (H.pen a) H.next a (Hp.pen_obj _ _) (by have := congrArg List.length hI; simp only [List.length_append] at this; omega))) ?_
    refine TriL.c1 rfl (op_as (ltb rfl) rfl) ?_
    refine TriL.c1 rfl (op_as (ltb rfl) rfl) ?_
    refine TriL.nil ?_
    refine Tri.ret ?_
    exact ⟨.inr rfl, (ResOK.r2 rfl (.tmp rfl (.tmp rfl .nil))).cast (by dsimp only at hI; rw [hS, List.append_nil] at hI; rw [hI]), ⟨_, rfl, Hp.pen_low _ _⟩⟩
end Go.Proofs.YtnpgcmeclkncnaaDoor.X
/- encode, in the program. -/
set_option linter.unusedVariables false
set_option linter.unusedSimpArgs false
set_option linter.unusedSectionVars false
set_option maxRecDepth 100000
namespace Go.Proofs.YtnpgcmeclkncnaaDoor.X
open Go Go.RowKit Go.Proofs
theorem fn10_MD : isFn Tryd.prog 10 = true := by kernel_rfl
theorem fn11_MD : isFn Tryd.prog 11 = true := by kernel_rfl
theorem fn21_MD : isFn Tryd.prog 21 = true := by kernel_rfl
theorem fn25_MD : isFn Tryd.prog 25 = true := by kernel_rfl
theorem fn26_MD : isFn Tryd.prog 26 = true := by kernel_rfl
theorem fn27_MD : isFn Tryd.prog 27 = true := by kernel_rfl
theorem fn28_MD : isFn Tryd.prog 28 = true := by kernel_rfl
theorem fn29_MD : isFn Tryd.prog 29 = true := by kernel_rfl
theorem fn54_MD : isFn Tryd.prog 54 = true := by kernel_rfl
theorem fn66_MD : isFn Tryd.prog 66 = true := by kernel_rfl
theorem fn67_MD : isFn Tryd.prog 67 = true := by kernel_rfl
theorem fn68_MD : isFn Tryd.prog 68 = true := by kernel_rfl
theorem fn70_MD : isFn Tryd.prog 70 = true := by kernel_rfl
theorem fn71_MD : isFn Tryd.prog 71 = true := by kernel_rfl
theorem fn72_MD : isFn Tryd.prog 72 = true := by kernel_rfl
theorem fn76_MD : isFn Tryd.prog 76 = true := by kernel_rfl
theorem fn77_MD : isFn Tryd.prog 77 = true := by kernel_rfl
theorem fo23_1_MD : fo Tryd.prog 23 1 = some 1 := by kernel_rfl
theorem fo23_2_MD : fo Tryd.prog 23 2 = some 2 := by kernel_rfl
theorem fo23_3_MD : fo Tryd.prog 23 3 = some 3 := by kernel_rfl
theorem fo43_0_MD : fo Tryd.prog 43 0 = some 0 := by kernel_rfl
theorem fo43_1_MD : fo Tryd.prog 43 1 = some 1 := by kernel_rfl
theorem fo43_2_MD : fo Tryd.prog 43 2 = some 2 := by kernel_rfl
theorem fo65_1_MD : fo Tryd.prog 65 1 = some 2 := by kernel_rfl
theorem ie24_MD : ie Tryd.prog 24 = some 1 := by kernel_rfl
theorem ie41_MD : ie Tryd.prog 41 = some 2 := by kernel_rfl
theorem lk23_MD : lk Tryd.prog 23 = some (true, 7) := by kernel_rfl
theorem lk3_MD : lk Tryd.prog 3 = some (false, 1) := by kernel_rfl
theorem lk40_MD : lk Tryd.prog 40 = some (false, 1) := by kernel_rfl
theorem lk41_MD : lk Tryd.prog 41 = some (false, 1) := by kernel_rfl
theorem lk50_MD : lk Tryd.prog 50 = some (true, 2) := by kernel_rfl
theorem lk62_MD : lk Tryd.prog 62 = some (false, 1) := by kernel_rfl
theorem lk65_MD : lk Tryd.prog 65 = some (true, 3) := by kernel_rfl
theorem lk9_MD : lk Tryd.prog 9 = some (false, 1) := by kernel_rfl
theorem se36_MD : se Tryd.prog 36 = some (5, 1, 1) := by kernel_rfl
theorem un24_MD : Tryd.prog.underlying 24 = some (TypeDesc.slice 40) := Tryd.underlying24
theorem un36_MD : Tryd.prog.underlying 36 = some (TypeDesc.slice 5) := Tryd.underlying36
theorem un40_MD : Tryd.prog.underlying 40 = some (TypeDesc.int IntKind.u64) := Tryd.underlying40
theorem un70_MD : Tryd.prog.underlying 70 = some (TypeDesc.int IntKind.u32) := Tryd.underlying70
theorem un9_MD : Tryd.prog.underlying 9 = some TypeDesc.string := Tryd.underlying9
theorem unel36_MD : Tryd.prog.underlying 5 = some (TypeDesc.int IntKind.u8) := Tryd.underlying5
theorem put4_pure' {y : Int} {n : Nat} (e : y = (n : Int)) (h : n < 4294967296) : Pure Tryd.prog 27 [.int .u32 y] (.sl (bsl (fput n 4))) := e ▸ put4_pure n h
theorem pay1 {w : Int} {u : Nat} (h : w = 1) : pay w u = fput u 8 := by simp [pay, h]
theorem pay5 {w : Int} {u : Nat} (h : w = 5) : pay w u = fput u 4 := by simp [pay, h]
theorem payv {w : Int} {u : Nat} (h : ¬ w = 1) (h5 : ¬ w = 5) : pay w u = vput u := by simp [pay, h, h5]
theorem p_plain (t : Int) (n : Nat) (hn : n < 18446744073709551616) : Pure Tryd.prog 11 [.int .i64 t, .int .u64 (n : Int)] (.sl (bsl (pay (wireT t) (toT t n)))) := by
  refine Pure.of_tri Tryd.func11 rfl rfl (ltb rfl) fun H => ?_
  refine Tri.seq ?_
  refine Tri.region ?_
  refine TriL.c1 rfl (op_as (ltb rfl) rfl) ?_
  refine TriL.nil ?_
  refine Tri.seq ?_
  refine Tri.region ?_
  refine TriL.c1 rfl (op_mv (ltb rfl) rfl) ?_
  refine TriL.c1 rfl (op_mv (ltb rfl) rfl) ?_
  refine TriL.c1 rfl (op_call (ltb rfl) fn25_MD rfl (p_to _ _ hn)) ?_
  refine TriL.c1 rfl (op_as (ltb rfl) rfl) ?_
  refine TriL.nil ?_
  refine Tri.seq ?_
  refine Tri.seq ?_
  refine Tri.region ?_
  refine TriL.c1 rfl (op_mv (ltb rfl) rfl) ?_
  refine TriL.c1 rfl (op_call (ltb rfl) fn26_MD rfl (p_wire _)) ?_
  refine TriL.nil ?_
  refine Tri.blk ?_
  refine Tri.seq ?_
  refine Tri.region ?_
  refine TriL.c1 rfl (op_bin (ltb rfl) rfl rfl rfl) ?_
  refine TriL.c1 rfl (op_as (ltb rfl) rfl) ?_
  refine TriL.nil ?_
  refine Tri.cond rfl (fun hc1 => ?_) (fun hc1 => ?_)
  · refine Tri.seq ?_
    refine Tri.region ?_
    refine TriL.c1 rfl (op_mv (ltb rfl) rfl) ?_
    refine TriL.c1 rfl (op_cvi (ltb rfl) un40_MD un70_MD rfl) ?_
    refine TriL.c1 rfl (op_call (ltb rfl) fn27_MD rfl (put4_pure' (wru32 (to5 (biT hc1))) (to5 (biT hc1)))) ?_
    refine TriL.c1 rfl (op_as (ltb rfl) rfl) ?_
    refine TriL.nil ?_
    refine Tri.ret ?_
    exact ⟨.inr rfl, (ResOK.r1 rfl (.tmp rfl .nil)).cast (by rw [pay5 (biT hc1)]), rfl⟩
  · refine Tri.seq ?_
    refine Tri.region ?_
    refine TriL.c1 rfl (op_bin (ltb rfl) rfl rfl rfl) ?_
    refine TriL.c1 rfl (op_as (ltb rfl) rfl) ?_
    refine TriL.nil ?_
    refine Tri.cond rfl (fun hc2 => ?_) (fun hc2 => ?_)
    · refine Tri.seq ?_
      refine Tri.region ?_
      refine TriL.c1 rfl (op_mv (ltb rfl) rfl) ?_
      refine TriL.c1 rfl (op_call (ltb rfl) fn28_MD rfl (put8_pure _)) ?_
      refine TriL.c1 rfl (op_as (ltb rfl) rfl) ?_
      refine TriL.nil ?_
      refine Tri.ret ?_
      exact ⟨.inr rfl, (ResOK.r1 rfl (.tmp rfl .nil)).cast (by rw [pay1 (biT hc2)]), rfl⟩
    · refine Tri.skip ?_
      refine Tri.seq ?_
      refine Tri.region ?_
      refine TriL.c1 rfl (op_mv (ltb rfl) rfl) ?_
      refine TriL.c1 rfl (op_call (ltb rfl) fn29_MD rfl (vput_pureO _ (toT_lt hn)).pure) ?_
      refine TriL.c1 rfl (op_as (ltb rfl) rfl) ?_
      refine TriL.nil ?_
      refine Tri.ret ?_
      exact ⟨.inr rfl, (ResOK.r1 rfl (.tmp rfl .nil)).cast (by rw [payv (biF hc2) (biF hc1)]), rfl⟩
theorem pack1_yes {t : Int} (h : numT t = true) (n : Nat) : pack1 t n = pay (wireT t) (toT t n) := by simp [pack1, h]
theorem pack1_no {t : Int} (h : numT t = false) (n : Nat) : pack1 t n = [] := by simp [pack1, h]
theorem p_pack (f : Fld) (l : List Nat) (hll : l.length ≤ 9223372036854775807) (hn : ∀ n ∈ l, n < 18446744073709551616) (hl : (packB f.ty l).length ≤ 1000000000) : Pure Tryd.prog 5 [f.av, .sl (l.map (fun n : Nat => AV.int .u64 (n : Int)))] (.str (packB f.ty l)) := by
  refine Pure.of_tri Tryd.func5 rfl rfl (ltb rfl) fun H => ?_
  refine Tri.seq ?_
  refine Tri.region ?_
  refine TriL.c2 rfl (op_box (ltb rfl) rfl rfl rfl) ?_
  refine TriL.c1 rfl (op_as (ltb rfl) rfl) ?_
  refine TriL.nil ?_
  refine Tri.seq ?_
  refine Tri.region ?_
  refine TriL.c2 rfl (op_nilt (k := 5) (el := 5) (esz := 1) (c := 0) (ltb rfl) rfl (by decide)) ?_
  refine TriL.nil ?_
  refine Tri.seq ?_
  refine Tri.seq ?_
  refine Tri.region ?_
  refine TriL.c1 rfl (op_mv (ltb rfl) rfl) ?_
  refine TriL.c1 rfl (op_lenl (ltb rfl) un24_MD rfl) ?_
  refine TriL.c1 rfl (op_mv (ltb rfl) rfl) ?_
  refine TriL.nil ?_
  refine Tri.blk ?_
  refine Tri.ofKept (Kept.keep [.s 10, .s 5, .t 5, .h, .s 2, .b 2, .s 8, .s 9] rfl (by decide) (Kept.now ?_))
  -- LOOP 1
  refine Tri.loopk (fun ((i, a) : Nat × List AV) => [(.s 10, .sv (.v (.int .i64 (i : Int)))), (.s 5, .sv (.ow 5 a)), (.t 5, .tk false 5 1 a)]) _ (fun ((i, a) : Nat × List AV) => ∃ x, a = bsl x ∧ x ++ (l.drop i).flatMap (pack1 f.ty) = packB f.ty l) (fun ((i, a) : Nat × List AV) => l.length - i) (0, []) rfl ⟨[], rfl, by simp [packB]⟩ ?_
  rintro ⟨i, a⟩ ⟨x, rfl, hI⟩
  refine Tri.seq ?_
  refine Tri.region ?_
  refine TriL.c1 rfl (op_bin (ltb rfl) rfl rfl rfl) ?_
  refine TriL.nil ?_
  refine Tri.seq ?_
  refine Tri.cond rfl (fun hc1 => ?_) (fun hc1 => ?_)
  · have hi := ltm hc1
    have hS := flat_step (f := pack1 f.ty) hi
    refine Tri.skip ?_
    refine Tri.seq ?_
    refine Tri.blk ?_
    refine Tri.seq ?_
    refine Tri.region ?_
    refine TriL.c1 rfl (op_iak (ltb rfl) ie24_MD rfl rfl (Int.natCast_nonneg _) (ixm hi) rfl) ?_
    refine TriL.c1 rfl (op_ldk (ltb rfl) lk40_MD rfl rfl) ?_
    refine TriL.c1 rfl (op_as (ltb rfl) rfl) ?_
    refine TriL.nil ?_
    refine Tri.seq ?_
    refine Tri.region ?_
    refine TriL.c1 rfl (op_fal (ltb rfl) fo23_2_MD rfl) ?_
    refine TriL.c1 rfl (op_ldl (ltb rfl) lk3_MD rfl rfl rfl) ?_
    refine TriL.c1 rfl (op_call (ltb rfl) fn10_MD rfl (p_numT _)) ?_
    refine TriL.nil ?_
    refine Tri.cond rfl (fun hc2 => ?_) (fun hc2 => ?_)
    · -- region 6 encode.go:35
      refine Tri.region ?_
      refine TriL.c1 rfl (op_mv (ltb rfl) rfl) ?_
      refine TriL.c1 rfl (op_fal (ltb rfl) fo23_2_MD rfl) ?_
      refine TriL.c1 rfl (op_ldl (ltb rfl) lk3_MD rfl rfl rfl) ?_
      refine TriL.c1 rfl (op_mv (ltb rfl) rfl) ?_
      refine TriL.c1 rfl (op_call (ltb rfl) fn11_MD rfl (p_plain _ _ (hn _ (List.getElem_mem hi)))) ?_
      refine TriL.c3 rfl (op_app (ltb rfl) se36_MD rfl rfl rfl (okEls_bsl _) rfl (by have hq := congrArg List.length hI; rw [hS] at hq; simp only [pack1_yes hc2, List.length_append, bsl_len] at *; omega) (by have hq := congrArg List.length hI; rw [hS] at hq; simp only [pack1_yes hc2, List.length_append, bsl_len] at *; omega)) ?_
      refine TriL.c1 rfl (op_as (ltb rfl) rfl) ?_
      refine TriL.nil ?_
      refine Tri.region ?_
      refine TriL.c1 rfl (op_bin (ltb rfl) rfl rfl rfl) ?_
      refine TriL.c1 rfl (op_mv (ltb rfl) rfl) ?_
      refine TriL.kept (Kept.seti 10 rfl (inc (by omega)) (Kept.keep [.s 10, .s 5, .t 22, .h, .s 2, .b 2, .s 8, .s 9] rfl (by decide) (Kept.ren 22 5 (by decide) rfl (Kept.now ?_))))
      exact ⟨(i + 1, _), (by dsimp only; omega), ⟨x ++ pay (wireT f.ty) (toT f.ty (l[i]'hi)), (bsl_app _ _).symm, by rw [List.append_assoc, ← pack1_yes hc2, ← hS]; exact hI⟩, rfl⟩
    · refine Tri.skip ?_
      refine Tri.region ?_
      refine TriL.c1 rfl (op_bin (ltb rfl) rfl rfl rfl) ?_
      refine TriL.c1 rfl (op_mv (ltb rfl) rfl) ?_
      refine TriL.kept (Kept.seti 10 rfl (inc (by omega)) (Kept.keep [.s 10, .s 5, .t 5, .h, .s 2, .b 2, .s 8, .s 9] rfl (by decide) (Kept.now ?_)))
      exact ⟨(i + 1, _), (by dsimp only; omega), ⟨x, rfl, by rw [← hI, hS, pack1_no hc2]; rfl⟩, rfl⟩
  · have hi := gem hc1
    have hS := flat_end (f := pack1 f.ty) hi
    refine Tri.exit ?_
    refine Tri.seq ?_
    refine Tri.region ?_
    refine TriL.c1 rfl (op_mv (ltb rfl) rfl) ?_
    refine TriL.c1 rfl (op_b2s (ltb rfl) un36_MD unel36_MD un9_MD rfl (bytesOf_bsl _)) ?_
    refine TriL.c1 rfl (op_as (ltb rfl) rfl) ?_
    refine TriL.nil ?_
    refine Tri.ret ?_
    exact ⟨.inr rfl, (ResOK.r1 rfl (.tmp rfl .nil)).cast (by rw [← hI, hS, List.append_nil]), rfl⟩
/-- a pen's cells -/
def penC (s : Sch) (id : Nat) : List AV := [.sl (s.enums.map Enm.av), .sl (s.msgs.map Msg.av), .op id 0]
/-- a writer that has written so much -/
def Hp.wrote (H : Hp) (id : Nat) (b : List UInt8) (fs : List AV) : Hp := H.set id (wr (bsl b) fs)
theorem Hp.wrote_obj (H : Hp) (id : Nat) (b : List UInt8) (fs : List AV) : (H.wrote id b fs).obj id = some (wr (bsl b) fs) := Hp.set_obj
theorem Hp.wrote_set (H : Hp) (id : Nat) (b c : List UInt8) (fs gs : List AV) : (H.wrote id b fs).set id (wr (bsl c) gs) = H.wrote id c gs := Hp.set_set
theorem v_varint (H : Hp) (id : Nat) (b : List UInt8) (fs : List AV) (n : Int) (x : Nat) (hr : rightok n 0 = true) (hx : x < 18446744073709551616) (hl : b.length + (tagB n 0 ++ vput x).length ≤ 1000000000) : Run Tryd.prog 70 [.op id 0, .int .i64 n, .int .u64 (x : Int)] (H.wrote id b fs) (.bool true) (H.wrote id (b ++ (tagB n 0 ++ vput x)) fs) := by
  have h := w_varint (H.wrote id b fs) id b fs n x (H.wrote_obj id b fs) hr hx hl
  rwa [Hp.wrote_set] at h
theorem v_fixed8 (H : Hp) (id : Nat) (b : List UInt8) (fs : List AV) (n : Int) (x : Nat) (hr : rightok n 1 = true) (hl : b.length + (tagB n 1 ++ fput x 8).length ≤ 1000000000) : Run Tryd.prog 71 [.op id 0, .int .i64 n, .int .u64 (x : Int)] (H.wrote id b fs) (.bool true) (H.wrote id (b ++ (tagB n 1 ++ fput x 8)) fs) := by
  have h := w_fixed8 (H.wrote id b fs) id b fs n x (H.wrote_obj id b fs) hr hl
  rwa [Hp.wrote_set] at h
theorem v_fixed4 (H : Hp) (id : Nat) (b : List UInt8) (fs : List AV) (n : Int) (x : Nat) {y : Int} (hr : rightok n 5 = true) (hx : x < 4294967296) (hy : y = (x : Int)) (hl : b.length + (tagB n 5 ++ fput x 4).length ≤ 1000000000) : Run Tryd.prog 72 [.op id 0, .int .i64 n, .int .u32 y] (H.wrote id b fs) (.bool true) (H.wrote id (b ++ (tagB n 5 ++ fput x 4)) fs) := by
  have h := w_fixed4 (H.wrote id b fs) id b fs n x (H.wrote_obj id b fs) hr hx hy hl
  rwa [Hp.wrote_set] at h
theorem v_text (H : Hp) (id : Nat) (b : List UInt8) (fs : List AV) (n : Int) (x : List UInt8) (hr : rightok n 2 = true) (hl : b.length + (txt n x).length ≤ 1000000000) : Run Tryd.prog 54 [.op id 0, .int .i64 n, .str x] (H.wrote id b fs) (.bool true) (H.wrote id (b ++ txt n x) fs) := by
  have h := w_text (H.wrote id b fs) id b fs n x (H.wrote_obj id b fs) hr hl
  rwa [Hp.wrote_set] at h
theorem v_open (H : Hp) (id : Nat) (b : List UInt8) (fs : List AV) (n : Int) (hr : rightok n 2 = true) (hl : fs.length ≤ 1000) : Run Tryd.prog 76 [.op id 0, .int .i64 n] (H.wrote id b fs) (.bool true) (H.wrote id b (fs ++ [frm n ((b.length : Nat) : Int)])) := by
  have h := open_run (H.wrote id b fs) id n b fs (H.wrote_obj id b fs) hr (by omega)
  rw [Hp.wrote_set, bsl_len] at h
  exact h
theorem shut_app (b c : List UInt8) (n : Int) : shut (b ++ c) n b.length = b ++ txt n c := by simp [shut, txt, tagB]
theorem v_close (H : Hp) (id : Nat) (b c : List UInt8) (fs : List AV) (n : Int) (hr : rightok n 2 = true) (hfs : ∀ f ∈ fs, ∃ a b, f = frm a b) (hl : b.length + (txt n c).length ≤ 1000000000) (hf : fs.length ≤ 1000) : Run Tryd.prog 77 [.op id 0] (H.wrote id (b ++ c) (fs ++ [frm n ((b.length : Nat) : Int)])) (.bool true) (H.wrote id (b ++ txt n c) fs) := by
  have hc := txt_ge n c
  have h := close_run (H.wrote id (b ++ c) (fs ++ [frm n ((b.length : Nat) : Int)])) id (b ++ c) fs n b.length (H.wrote_obj id _ _) hfs hr (by simp) (by rw [List.length_append]; omega) (by omega)
  rw [Hp.wrote_set, shut_app] at h
  exact h
theorem v_plain (H : Hp) (id : Nat) (b c : List UInt8) (fs : List AV) (hl : b.length + c.length ≤ 1000000000) : Run Tryd.prog 41 [.op id 0, .sl [.sl (bsl c)]] (H.wrote id b fs) (.bool true) (H.wrote id (b ++ c) fs) := by
  have h := plain_run (H.wrote id b fs) id b fs [c] (H.wrote_obj id b fs) (by simp; omega) (by simp)
  rw [Hp.wrote_set] at h
  simpa [sls] using h
theorem deepT_mem : ∀ {l : List Tree} {u : Tree}, u ∈ l → u.deep ≤ deepT l
  | x :: l, u, h => by
    simp only [deepT]
    rcases List.mem_cons.1 h with rfl | h
    · omega
    · have := deepT_mem h; omega
theorem deepV_mem : ∀ {l : List Val} {u : Val}, u ∈ l → u.deep ≤ deepV l
  | x :: l, u, h => by
    simp only [deepV]
    rcases List.mem_cons.1 h with rfl | h
    · omega
    · have := deepV_mem h; omega
theorem deepS_mem : ∀ {l : List Slot} {u : Slot}, u ∈ l → u.deep ≤ deepS l
  | x :: l, u, h => by
    simp only [deepS]
    rcases List.mem_cons.1 h with rfl | h
    · omega
    · have := deepS_mem h; omega
theorem p_number1 (s : Sch) (H : Hp) (id : Nat) (b : List UInt8) (fs : List AV) (f : Fld) (n : Nat) (hn : n < 18446744073709551616) (ht : numT f.ty = true) (hf : fnum f.num = true) (hl : b.length + (tagB f.num (wireT f.ty) ++ pay (wireT f.ty) (toT f.ty n)).length ≤ 1000000000) : Run Tryd.prog 66 [.agg (penC s id), f.av, .int .u64 (n : Int)] (H.wrote id b fs) (.tup []) (H.wrote id (b ++ (tagB f.num (wireT f.ty) ++ pay (wireT f.ty) (toT f.ty n))) fs) := by
  refine Run.of_tri Tryd.func66 rfl rfl (ltb rfl) ?_
  refine Tri.seq ?_
  refine Tri.region ?_
  refine TriL.c2 rfl (op_box (ltb rfl) rfl rfl rfl) ?_
  refine TriL.c2 rfl (op_box (ltb rfl) rfl rfl rfl) ?_
  refine TriL.nil ?_
  refine Tri.seq ?_
  refine Tri.region ?_
  refine TriL.c1 rfl (op_fal (ltb rfl) fo23_2_MD rfl) ?_
  refine TriL.c1 rfl (op_ldl (ltb rfl) lk3_MD rfl rfl rfl) ?_
  refine TriL.c1 rfl (op_mv (ltb rfl) rfl) ?_
  refine TriL.c1 rfl (op_call (ltb rfl) fn25_MD rfl (p_to _ _ hn)) ?_
  refine TriL.c1 rfl (op_as (ltb rfl) rfl) ?_
  refine TriL.nil ?_
  refine Tri.seq ?_
  refine Tri.region ?_
  refine TriL.c1 rfl (op_fal (ltb rfl) fo23_2_MD rfl) ?_
  refine TriL.c1 rfl (op_ldl (ltb rfl) lk3_MD rfl rfl rfl) ?_
  refine TriL.c1 rfl (op_call (ltb rfl) fn26_MD rfl (p_wire _)) ?_
  refine TriL.nil ?_
  refine Tri.blk ?_
  refine Tri.seq ?_
  refine Tri.region ?_
  refine TriL.c1 rfl (op_bin (ltb rfl) rfl rfl rfl) ?_
  refine TriL.c1 rfl (op_as (ltb rfl) rfl) ?_
  refine TriL.nil ?_
  refine Tri.cond rfl (fun hc1 => ?_) (fun hc1 => ?_)
  · -- region 5 encode.go:52
    refine Tri.region ?_
    refine TriL.c1 rfl (op_fal (ltb rfl) fo65_1_MD rfl) ?_
    refine TriL.c1 rfl (op_ldl (ltb rfl) lk62_MD rfl rfl rfl) ?_
    refine TriL.c1 rfl (op_fal (ltb rfl) fo23_1_MD rfl) ?_
    refine TriL.c1 rfl (op_ldl (ltb rfl) lk3_MD rfl rfl rfl) ?_
    refine TriL.c1 rfl (op_mv (ltb rfl) rfl) ?_
    refine TriL.c1 rfl (op_cvi (ltb rfl) un40_MD un70_MD rfl) ?_
    refine TriL.c2 rfl (op_callh (ltb rfl) fn72_MD rfl rfl (v_fixed4 H id b fs _ _ (by have := wire_right (t := f.ty) hf; rwa [biT hc1] at this) (to5 (biT hc1)) (wru32 (to5 (biT hc1))) (by rw [pay5 (biT hc1), biT hc1] at hl; exact hl))) ?_
    refine TriL.nil ?_
    exact ⟨.inl rfl, (ResOK.r0 rfl ).cast rfl, (congrArg (fun h => some (CV.hp h)) (by rw [pay5 (biT hc1), biT hc1]))⟩
  · refine Tri.seq ?_
    refine Tri.region ?_
    refine TriL.c1 rfl (op_bin (ltb rfl) rfl rfl rfl) ?_
    refine TriL.c1 rfl (op_as (ltb rfl) rfl) ?_
    refine TriL.nil ?_
    refine Tri.cond rfl (fun hc2 => ?_) (fun hc2 => ?_)
    · -- region 7 encode.go:54
      refine Tri.region ?_
      refine TriL.c1 rfl (op_fal (ltb rfl) fo65_1_MD rfl) ?_
      refine TriL.c1 rfl (op_ldl (ltb rfl) lk62_MD rfl rfl rfl) ?_
      refine TriL.c1 rfl (op_fal (ltb rfl) fo23_1_MD rfl) ?_
      refine TriL.c1 rfl (op_ldl (ltb rfl) lk3_MD rfl rfl rfl) ?_
      refine TriL.c1 rfl (op_mv (ltb rfl) rfl) ?_
      refine TriL.c2 rfl (op_callh (ltb rfl) fn71_MD rfl rfl (v_fixed8 H id b fs _ _ (by have := wire_right (t := f.ty) hf; rwa [biT hc2] at this) (by rw [pay1 (biT hc2), biT hc2] at hl; exact hl))) ?_
      refine TriL.nil ?_
      exact ⟨.inl rfl, (ResOK.r0 rfl ).cast rfl, (congrArg (fun h => some (CV.hp h)) (by rw [pay1 (biT hc2), biT hc2]))⟩
    · -- region 3 encode.go:56
      refine Tri.region ?_
      refine TriL.c1 rfl (op_fal (ltb rfl) fo65_1_MD rfl) ?_
      refine TriL.c1 rfl (op_ldl (ltb rfl) lk62_MD rfl rfl rfl) ?_
      refine TriL.c1 rfl (op_fal (ltb rfl) fo23_1_MD rfl) ?_
      refine TriL.c1 rfl (op_ldl (ltb rfl) lk3_MD rfl rfl rfl) ?_
      refine TriL.c1 rfl (op_mv (ltb rfl) rfl) ?_
      refine TriL.c2 rfl (op_callh (ltb rfl) fn70_MD rfl rfl (v_varint H id b fs _ _ (by have := wire_right (t := f.ty) hf; rwa [(show wireT f.ty = 0 by have := numT_wire ht; have := biF hc1; have := biF hc2; omega)] at this) (toT_lt hn) (by rw [payv (biF hc2) (biF hc1), (show wireT f.ty = 0 by have := numT_wire ht; have := biF hc1; have := biF hc2; omega)] at hl; exact hl))) ?_
      refine TriL.nil ?_
      exact ⟨.inl rfl, (ResOK.r0 rfl ).cast rfl, (congrArg (fun h => some (CV.hp h)) (by rw [payv (biF hc2) (biF hc1), (show wireT f.ty = 0 by have := numT_wire ht; have := biF hc1; have := biF hc2; omega)]))⟩
theorem p_within (s : Sch) (H : Hp) (id : Nat) (b c : List UInt8) (fs : List AV) (n : Int) (F : FuncId) (caps : List AV) (hF : isFn Tryd.prog F = true) (hr : rightok n 2 = true) (hf : fs.length ≤ 1000) (hfs : ∀ f ∈ fs, ∃ a b, f = frm a b) (hl : b.length + (txt n c).length ≤ 1000000000) (hp : Run Tryd.prog F ([] ++ caps) (H.wrote id b (fs ++ [frm n ((b.length : Nat) : Int)])) (.tup []) (H.wrote id (b ++ c) (fs ++ [frm n ((b.length : Nat) : Int)]))) : Run Tryd.prog 67 [.agg (penC s id), .int .i64 n, .fn F caps] (H.wrote id b fs) (.tup []) (H.wrote id (b ++ txt n c) fs) := by
  refine Run.of_tri Tryd.func67 rfl rfl (ltb rfl) ?_
  refine Tri.seq ?_
  refine Tri.region ?_
  refine TriL.c2 rfl (op_box (ltb rfl) rfl rfl rfl) ?_
  refine TriL.nil ?_
  refine Tri.seq ?_
  refine Tri.region ?_
  refine TriL.c1 rfl (op_fal (ltb rfl) fo65_1_MD rfl) ?_
  refine TriL.c1 rfl (op_ldl (ltb rfl) lk62_MD rfl rfl rfl) ?_
  refine TriL.c1 rfl (op_mv (ltb rfl) rfl) ?_
  refine TriL.c2 rfl (op_callh (ltb rfl) fn76_MD rfl rfl (v_open H id b fs _ hr hf)) ?_
  refine TriL.nil ?_
  refine Tri.seq ?_
  refine Tri.region ?_
  refine TriL.c1 rfl (op_mv (ltb rfl) rfl) ?_
  refine TriL.c2 rfl (op_callch (ltb rfl) hF rfl rfl rfl hp) ?_
  refine TriL.nil ?_
  refine Tri.region ?_
  refine TriL.c1 rfl (op_fal (ltb rfl) fo65_1_MD rfl) ?_
  refine TriL.c1 rfl (op_ldl (ltb rfl) lk62_MD rfl rfl rfl) ?_
  refine TriL.c2 rfl (op_callh (ltb rfl) fn77_MD rfl rfl (v_close H id b c fs _ hr hfs hl hf)) ?_
  refine TriL.nil ?_
  exact ⟨.inl rfl, (ResOK.r0 rfl ).cast rfl, rfl⟩
def PenT (s : Sch) (t : Tree) : Prop := ∀ (name : Str) (H : Hp) (id : Nat) (b : List UInt8) (fs : List AV), t.ok s name = true → (∀ f ∈ fs, ∃ a b, f = frm a b) → b.length + (t.enc s name).length ≤ 1000000000 → fs.length + t.deep ≤ 1000 →
  Run Tryd.prog 21 [.agg (penC s id), .str name, .agg t.cells] (H.wrote id b fs) (.tup []) (H.wrote id (b ++ t.enc s name) fs)
theorem p_value1 (s : Sch) (f : Fld) (v : Val) (H H2 : Hp) (id : Nat) (hm : 0 < v.m.length) (hp : Run Tryd.prog 21 [.agg (penC s id), .str f.ref, .agg (v.m[0]).cells] H (.tup []) H2) : Run Tryd.prog 68 ([] ++ [.kp (penC s id), .kp f.cells, .kp v.cells]) H (.tup []) H2 := by
  refine Run.of_tri Tryd.func68 rfl rfl (ltb rfl) ?_
  refine Tri.drawn mixed rfl ?_
  refine TriD.c1 rfl (op_ldk (ltb rfl) lk65_MD rfl rfl) ?_
  refine TriD.c1 rfl (op_fak (ltb rfl) fo23_3_MD rfl) ?_
  refine TriD.c1 rfl (op_ldk (ltb rfl) lk9_MD rfl rfl) ?_
  refine TriD.c1 rfl (op_fak (ltb rfl) fo43_2_MD rfl) ?_
  refine TriD.c1 rfl (op_ldk (ltb rfl) lk41_MD rfl rfl) ?_
  refine TriD.c1 rfl (op_iak (ltb rfl) ie41_MD rfl rfl (by decide) (ixmE (i := 0) Tree.av_eq hm) rfl) ?_
  refine TriD.c1 rfl (op_ldk (ltb rfl) lk50_MD rfl rfl) ?_
  refine TriD.c2 rfl (op_callh (ltb rfl) fn21_MD rfl rfl hp) ?_
  refine TriD.nil (by kernel_rfl) (Kept.now ?_)
  exact ⟨.inl rfl, (ResOK.r0 rfl ).cast rfl, rfl⟩
theorem frm_snoc {fs : List AV} {n k : Int} (h : ∀ f ∈ fs, ∃ a b, f = frm a b) : ∀ f ∈ fs ++ [frm n k], ∃ a b, f = frm a b := by
  intro f hf
  rcases List.mem_append.1 hf with hf | hf
  · exact h f hf
  · exact ⟨n, k, by simpa using hf⟩
theorem Val.msg_at {s : Sch} {f : Fld} {v : Val} (h : v.ok s f = true) (h1 : numT f.ty = false) (h2 : f.ty = 15) : ∃ hm : 0 < v.m.length, (v.m[0]'hm).ok s f.ref = true ∧ v.enc s f = txt f.num ((v.m[0]'hm).enc s f.ref) := by
  obtain ⟨u, hu, hk⟩ := Val.ok_msg h (by simp [h1]) h2
  have hm : 0 < v.m.length := by rw [hu]; simp
  have he : v.m[0]'hm = u := by simp [hu]
  refine ⟨hm, by rw [he]; exact hk, ?_⟩
  rw [Val.enc_eq, if_neg (by simp [h1]), if_pos h2, encM_one _ _ hm]
theorem p_value (s : Sch) (f : Fld) (v : Val) (H : Hp) (id : Nat) (b : List UInt8) (fs : List AV) (hv : v.ok s f = true) (hn : v.n < 18446744073709551616) (hf : fnum f.num = true) (hfs : ∀ f ∈ fs, ∃ a b, f = frm a b) (hl : b.length + (v.enc s f).length ≤ 1000000000) (hd : fs.length + v.deep ≤ 999) (ih : ∀ u ∈ v.m, PenT s u) : Run Tryd.prog 53 [.agg (penC s id), f.av, .agg v.cells] (H.wrote id b fs) (.tup []) (H.wrote id (b ++ v.enc s f) fs) := by
  refine Run.of_tri Tryd.func53 rfl rfl (ltb rfl) ?_
  refine Tri.seq ?_
  refine Tri.region ?_
  refine TriL.c2 rfl (op_box (ltb rfl) rfl rfl rfl) ?_
  refine TriL.c2 rfl (op_box (ltb rfl) rfl rfl rfl) ?_
  refine TriL.c2 rfl (op_box (ltb rfl) rfl rfl rfl) ?_
  refine TriL.nil ?_
  refine Tri.blk ?_
  refine Tri.seq ?_
  refine Tri.region ?_
  refine TriL.c1 rfl (op_fal (ltb rfl) fo23_2_MD rfl) ?_
  refine TriL.c1 rfl (op_ldl (ltb rfl) lk3_MD rfl rfl rfl) ?_
  refine TriL.c1 rfl (op_call (ltb rfl) fn10_MD rfl (p_numT _)) ?_
  refine TriL.c1 rfl (op_as (ltb rfl) rfl) ?_
  refine TriL.nil ?_
  refine Tri.cond rfl (fun hc1 => ?_) (fun hc1 => ?_)
  · -- region 3 encode.go:71
    refine Tri.region ?_
    refine TriL.c1 rfl (op_ldl (ltb rfl) lk65_MD rfl rfl rfl) ?_
    refine TriL.c1 rfl (op_ldl (ltb rfl) lk23_MD rfl rfl rfl) ?_
    refine TriL.c1 rfl (op_fal (ltb rfl) fo43_0_MD rfl) ?_
    refine TriL.c1 rfl (op_ldl (ltb rfl) lk40_MD rfl rfl rfl) ?_
    refine TriL.c2 rfl (op_callh (ltb rfl) fn66_MD rfl rfl (p_number1 s H id b fs f v.n hn hc1 hf (by rw [Val.enc_eq, if_pos hc1] at hl; exact hl))) ?_
    refine TriL.nil ?_
    exact ⟨.inl rfl, (ResOK.r0 rfl ).cast rfl, (congrArg (fun h => some (CV.hp h)) (by rw [Val.enc_eq, if_pos hc1]))⟩
  · refine Tri.seq ?_
    refine Tri.region ?_
    refine TriL.c1 rfl (op_fal (ltb rfl) fo23_2_MD rfl) ?_
    refine TriL.c1 rfl (op_ldl (ltb rfl) lk3_MD rfl rfl rfl) ?_
    refine TriL.c1 rfl (op_bin (ltb rfl) rfl rfl rfl) ?_
    refine TriL.c1 rfl (op_as (ltb rfl) rfl) ?_
    refine TriL.nil ?_
    refine Tri.cond rfl (fun hc2 => ?_) (fun hc2 => ?_)
    · obtain ⟨hm, hu, hE2⟩ := Val.msg_at hv hc1 (biT hc2)
      refine Tri.ofKept (Kept.fzb 3 rfl rfl (Kept.now ?_))
      refine Tri.ofKept (Kept.fzb 4 rfl rfl (Kept.now ?_))
      refine Tri.ofKept (Kept.fzb 5 rfl rfl (Kept.now ?_))
      refine Tri.region ?_
      refine TriL.c1 rfl (op_ldk (ltb rfl) lk65_MD rfl rfl) ?_
      refine TriL.c1 rfl (op_fak (ltb rfl) fo23_1_MD rfl) ?_
      refine TriL.c1 rfl (op_ldk (ltb rfl) lk3_MD rfl rfl) ?_
      refine TriL.c1 rfl (op_mkf (ltb rfl) rfl) ?_
      refine TriL.c2 rfl (op_callh (ltb rfl) fn67_MD rfl rfl (p_within s H id b ((v.m[0]'hm).enc s f.ref) fs _ _ _ fn68_MD (fnum_right hf) (by omega) hfs (by rw [hE2] at hl; exact hl) (p_value1 s f v _ _ id hm (ih _ (List.getElem_mem hm) f.ref H id b _ hu (frm_snoc hfs) (by rw [hE2] at hl; have := txt_ge f.num ((v.m[0]'hm).enc s f.ref); omega) (by have := deepT_mem (List.getElem_mem hm); have := v.deep_eq; simp only [List.length_append, List.length_cons, List.length_nil]; omega))))) ?_
      refine TriL.nil ?_
      exact ⟨.inl rfl, (ResOK.r0 rfl ).cast rfl, (congrArg (fun h => some (CV.hp h)) (by rw [hE2]))⟩
    · -- region 1 encode.go:75
      refine Tri.region ?_
      refine TriL.c1 rfl (op_fal (ltb rfl) fo65_1_MD rfl) ?_
      refine TriL.c1 rfl (op_ldl (ltb rfl) lk62_MD rfl rfl rfl) ?_
      refine TriL.c1 rfl (op_fal (ltb rfl) fo23_1_MD rfl) ?_
      refine TriL.c1 rfl (op_ldl (ltb rfl) lk3_MD rfl rfl rfl) ?_
      refine TriL.c1 rfl (op_fal (ltb rfl) fo43_1_MD rfl) ?_
      refine TriL.c1 rfl (op_ldl (ltb rfl) lk9_MD rfl rfl rfl) ?_
      refine TriL.c2 rfl (op_callh (ltb rfl) fn54_MD rfl rfl (v_text H id b fs _ v.s (fnum_right hf) (by rw [Val.enc_eq, if_neg (by simp [hc1]), if_neg (biF hc2)] at hl; exact hl))) ?_
      refine TriL.nil ?_
      exact ⟨.inl rfl, (ResOK.r0 rfl ).cast rfl, (congrArg (fun h => some (CV.hp h)) (by rw [Val.enc_eq, if_neg (by simp [hc1]), if_neg (biF hc2)]))⟩
end Go.Proofs.YtnpgcmeclkncnaaDoor.X
/- encode, in the program: slots, trees, Put. -/
set_option linter.unusedVariables false
set_option linter.unusedSimpArgs false
set_option linter.unusedSectionVars false
set_option maxRecDepth 100000
namespace Go.Proofs.YtnpgcmeclkncnaaDoor.X
open Go Go.RowKit Go.Proofs
theorem fn17_ME : isFn Tryd.prog 17 = true := by kernel_rfl
theorem fn18_ME : isFn Tryd.prog 18 = true := by kernel_rfl
theorem fn19_ME : isFn Tryd.prog 19 = true := by kernel_rfl
theorem fn20_ME : isFn Tryd.prog 20 = true := by kernel_rfl
theorem fn21_ME : isFn Tryd.prog 21 = true := by kernel_rfl
theorem fn22_ME : isFn Tryd.prog 22 = true := by kernel_rfl
theorem fn23_ME : isFn Tryd.prog 23 = true := by kernel_rfl
theorem fn38_ME : isFn Tryd.prog 38 = true := by kernel_rfl
theorem fn39_ME : isFn Tryd.prog 39 = true := by kernel_rfl
theorem fn40_ME : isFn Tryd.prog 40 = true := by kernel_rfl
theorem fn41_ME : isFn Tryd.prog 41 = true := by kernel_rfl
theorem fn5_ME : isFn Tryd.prog 5 = true := by kernel_rfl
theorem fn52_ME : isFn Tryd.prog 52 = true := by kernel_rfl
theorem fn53_ME : isFn Tryd.prog 53 = true := by kernel_rfl
theorem fn54_ME : isFn Tryd.prog 54 = true := by kernel_rfl
theorem fo23_1_ME : fo Tryd.prog 23 1 = some 1 := by kernel_rfl
theorem fo31_1_ME : fo Tryd.prog 31 1 = some 1 := by kernel_rfl
theorem fo35_1_ME : fo Tryd.prog 35 1 = some 1 := by kernel_rfl
theorem fo43_0_ME : fo Tryd.prog 43 0 = some 0 := by kernel_rfl
theorem fo46_0_ME : fo Tryd.prog 46 0 = some 0 := by kernel_rfl
theorem fo46_1_ME : fo Tryd.prog 46 1 = some 1 := by kernel_rfl
theorem fo50_0_ME : fo Tryd.prog 50 0 = some 0 := by kernel_rfl
theorem fo50_1_ME : fo Tryd.prog 50 1 = some 1 := by kernel_rfl
theorem fo65_0_ME : fo Tryd.prog 65 0 = some 0 := by kernel_rfl
theorem fo65_1_ME : fo Tryd.prog 65 1 = some 2 := by kernel_rfl
theorem ie28_ME : ie Tryd.prog 28 = some 7 := by kernel_rfl
theorem ie32_ME : ie Tryd.prog 32 = some 3 := by kernel_rfl
theorem ie44_ME : ie Tryd.prog 44 = some 3 := by kernel_rfl
theorem ie47_ME : ie Tryd.prog 47 = some 2 := by kernel_rfl
theorem lk23_ME : lk Tryd.prog 23 = some (true, 7) := by kernel_rfl
theorem lk28_ME : lk Tryd.prog 28 = some (false, 1) := by kernel_rfl
theorem lk3_ME : lk Tryd.prog 3 = some (false, 1) := by kernel_rfl
theorem lk31_ME : lk Tryd.prog 31 = some (true, 3) := by kernel_rfl
theorem lk32_ME : lk Tryd.prog 32 = some (false, 1) := by kernel_rfl
theorem lk35_ME : lk Tryd.prog 35 = some (true, 2) := by kernel_rfl
theorem lk40_ME : lk Tryd.prog 40 = some (false, 1) := by kernel_rfl
theorem lk43_ME : lk Tryd.prog 43 = some (true, 3) := by kernel_rfl
theorem lk44_ME : lk Tryd.prog 44 = some (false, 1) := by kernel_rfl
theorem lk46_ME : lk Tryd.prog 46 = some (true, 2) := by kernel_rfl
theorem lk47_ME : lk Tryd.prog 47 = some (false, 1) := by kernel_rfl
theorem lk48_ME : lk Tryd.prog 48 = some (false, 1) := by kernel_rfl
theorem lk50_ME : lk Tryd.prog 50 = some (true, 2) := by kernel_rfl
theorem lk62_ME : lk Tryd.prog 62 = some (false, 1) := by kernel_rfl
theorem lk65_ME : lk Tryd.prog 65 = some (true, 3) := by kernel_rfl
theorem se103_ME : se Tryd.prog 103 = some (36, 1, 24) := by kernel_rfl
theorem se24_ME : se Tryd.prog 24 = some (40, 1, 8) := by kernel_rfl
theorem spl65_ME : spl Tryd.prog 65 = some [(0, 2), (2, 1)] := by kernel_rfl
theorem un44_ME : Tryd.prog.underlying 44 = some (TypeDesc.slice 43) := Tryd.underlying44
theorem un47_ME : Tryd.prog.underlying 47 = some (TypeDesc.slice 46) := Tryd.underlying47
theorem zA31_ME : zeroA Tryd.prog 31 = some [AV.str [], AV.sl [], AV.sl []] := by kernel_rfl
theorem zA43_ME : zeroA Tryd.prog 43 = some [AV.int IntKind.u64 (0), AV.str [], AV.sl []] := by kernel_rfl
theorem zA46_ME : zeroA Tryd.prog 46 = some [AV.int IntKind.i64 (0), AV.sl []] := by kernel_rfl
theorem zA65_ME : zeroA Tryd.prog 65 = some [AV.sl [], AV.sl [], AV.nilp] := by kernel_rfl
theorem zAe103_ME : zeroA Tryd.prog 36 = some [AV.sl []] := by kernel_rfl
theorem zAe24_ME : zeroA Tryd.prog 40 = some [AV.int IntKind.u64 (0)] := by kernel_rfl
def encX (s : Sch) (f : Fld) (l : List Val) : Str := if f.packed then txt f.num (packB f.ty (l.map Val.n)) else encV s f l
theorem encX_yes {s : Sch} {f : Fld} {l : List Val} (h : f.packed = true) : encX s f l = txt f.num (packB f.ty (l.map Val.n)) := by simp [encX, h]
theorem encX_no {s : Sch} {f : Fld} {l : List Val} (h : f.packed = false) : encX s f l = encV s f l := by simp [encX, h]
theorem Slot.enc_at {s : Sch} {m : Msg} {x : Slot} (h : decide (m.at x.num < 0) = false) : x.enc s m = encX s (m.fields[m.ixN x.num]'(Msg.at_lt h)) x.vals := by rw [Slot.enc_eq, Msg.at_fix h]; rfl
theorem Slot.ok_ix {s : Sch} {m : Msg} {x : Slot} (h : x.ok s m = true) : ∃ ha : decide (m.at x.num < 0) = false, ∀ v ∈ x.vals, v.ok s (m.fields[m.ixN x.num]'(Msg.at_lt ha)) = true := by
  have ha := Slot.ok_at h
  refine ⟨ha, ?_⟩
  rw [Slot.ok_eq, Msg.at_fix ha] at h
  simp only [Bool.and_eq_true, valsOk_all, List.all_eq_true] at h
  exact h.1.2
theorem Tree.ok_ix {s : Sch} {name : Str} {t : Tree} (h : t.ok s name = true) : ∃ hix : decide (s.msgIx name < 0) = false, (∀ x ∈ t.slots, x.ok s (s.msgs[s.ixN name]'(Sch.ix_lt hix)) = true) ∧ (∀ r ∈ t.rest, r.right = true) ∧ t.enc s name = encS s (s.msgs[s.ixN name]'(Sch.ix_lt hix)) t.slots ++ t.rest.flatMap Rw.enc := by
  obtain ⟨m, h1, h2, h3, h4, h5⟩ := Tree.ok_slots h
  have h6 := Sch.ix_at h3
  rw [h1] at h6
  cases h6
  refine ⟨h3, h4, fun r hr => ?_, ?_⟩
  · have := List.all_eq_true.1 h5 r hr
    simp [restOK] at this; exact this.1
  · rw [Tree.enc_eq, h1]
theorem pay_pos (w : Int) (u : Nat) : 1 ≤ (pay w u).length := by
  unfold pay; split
  · simp [fput_len]
  · split
    · simp [fput_len]
    · exact vput_pos u
theorem packB_pos {t : Int} (h : numT t = true) : ∀ l : List Nat, l.length ≤ (packB t l).length
  | [] => by simp
  | n :: l => by
    have h1 := pay_pos (wireT t) (toT t n)
    have h2 := packB_pos h l
    simp only [packB, List.flatMap_cons, List.length_append, List.length_cons, pack1_yes h] at *
    omega
theorem packed_num {f : Fld} (h : f.packed = true) : numT f.ty = true := by simp [Fld.packed] at h; exact h.1.2
theorem encX_pos {s : Sch} {f : Fld} {l : List Val} (h : f.packed = true) : l.length ≤ (encX s f l).length := by
  rw [encX_yes h]
  have h1 := packB_pos (packed_num h) (l.map Val.n)
  have h2 := txt_ge f.num (packB f.ty (l.map Val.n))
  rw [List.length_map] at h1
  omega
theorem p_slot (s : Sch) (f : Fld) (l : List Val) (H : Hp) (id : Nat) (b : List UInt8) (fs : List AV) (hll : l.length ≤ 140737488355328) (hv : ∀ v ∈ l, v.ok s f = true) (hn : ∀ v ∈ l, v.n < 18446744073709551616) (hf : fnum f.num = true) (hfs : ∀ f ∈ fs, ∃ a b, f = frm a b) (hl : b.length + (encX s f l).length ≤ 1000000000) (hd : fs.length + deepV l ≤ 999) (ih : ∀ v ∈ l, ∀ u ∈ v.m, PenT s u) : Run Tryd.prog 38 [.agg (penC s id), f.av, .sl (l.map Val.av)] (H.wrote id b fs) (.tup []) (H.wrote id (b ++ encX s f l) fs) := by
  refine Run.of_tri Tryd.func38 rfl rfl (ltb rfl) ?_
  refine Tri.seq ?_
  refine Tri.region ?_
  refine TriL.c2 rfl (op_box (ltb rfl) rfl rfl rfl) ?_
  refine TriL.c2 rfl (op_box (ltb rfl) rfl rfl rfl) ?_
  refine TriL.nil ?_
  refine Tri.seq ?_
  refine Tri.seq ?_
  refine Tri.region ?_
  refine TriL.c1 rfl (op_ldl (ltb rfl) lk23_ME rfl rfl rfl) ?_
  refine TriL.c1 rfl (op_call (ltb rfl) fn52_ME rfl (p_packed _)) ?_
  refine TriL.c1 rfl (op_un (ltb rfl) rfl rfl) ?_
  refine TriL.nil ?_
  refine Tri.cond rfl (fun hc1 => ?_) (fun hc1 => ?_)
  · refine Tri.seq ?_
    refine Tri.seq ?_
    refine Tri.region ?_
    refine TriL.c1 rfl (op_mv (ltb rfl) rfl) ?_
    refine TriL.c1 rfl (op_lenl (ltb rfl) un44_ME rfl) ?_
    refine TriL.c1 rfl (op_mv (ltb rfl) rfl) ?_
    refine TriL.nil ?_
    refine Tri.blk ?_
    refine Tri.ofKept (Kept.keep [.s 16, .h, .s 3, .b 3, .s 4, .b 4, .s 14, .s 15] rfl (by decide) (Kept.now ?_))
    -- LOOP 1
    refine Tri.loopk (fun ((i, a) : Nat × List UInt8) => [(.s 16, .sv (.v (.int .i64 (i : Int)))), (.h, .hp (H.wrote id a fs))]) _ (fun ((i, a) : Nat × List UInt8) => a ++ encV s f (l.drop i) = b ++ encV s f l) (fun ((i, a) : Nat × List UInt8) => l.length - i) (0, b) rfl (by simp) ?_
    rintro ⟨i, a⟩ hI
    refine Tri.seq ?_
    refine Tri.region ?_
    refine TriL.c1 rfl (op_bin (ltb rfl) rfl rfl rfl) ?_
    refine TriL.nil ?_
    refine Tri.seq ?_
    refine Tri.cond rfl (fun hc2 => ?_) (fun hc2 => ?_)
    · have hi := ltm hc2
      have hS := @encV_step s f l i hi
      refine Tri.skip ?_
      refine Tri.seq ?_
      refine Tri.blk ?_
      refine Tri.seq ?_
      refine Tri.region ?_
      refine TriL.c1 rfl (op_iak (ltb rfl) ie44_ME rfl rfl (Int.natCast_nonneg _) (ixmE Val.av_eq hi) rfl) ?_
      refine TriL.c1 rfl (op_ldk (ltb rfl) lk43_ME rfl rfl) ?_
      refine TriL.c2 rfl (op_all (ltb rfl) zA43_ME rfl) ?_
      refine TriL.c1 rfl (op_stl lk43_ME rfl rfl rfl rfl rfl (leb rfl)) ?_
      refine TriL.nil ?_
      refine Tri.region ?_
      refine TriL.c1 rfl (op_ldl (ltb rfl) lk65_ME rfl rfl rfl) ?_
      refine TriL.c1 rfl (op_ldl (ltb rfl) lk23_ME rfl rfl rfl) ?_
      refine TriL.c1 rfl (op_ldl (ltb rfl) lk43_ME rfl rfl rfl) ?_
      refine TriL.c2 rfl (op_callh (ltb rfl) fn53_ME rfl rfl (p_value s f (l[i]'hi) H id a fs (hv _ (List.getElem_mem hi)) (hn _ (List.getElem_mem hi)) hf hfs (by have hq := congrArg List.length hI; rw [hS] at hq; rw [encX_no (ntr hc1)] at hl; simp only [List.length_append] at hq; omega) (by have := deepV_mem (List.getElem_mem hi); omega) (ih _ (List.getElem_mem hi)))) ?_
      refine TriL.nil ?_
      refine Tri.region ?_
      refine TriL.c1 rfl (op_bin (ltb rfl) rfl rfl rfl) ?_
      refine TriL.c1 rfl (op_mv (ltb rfl) rfl) ?_
      refine TriL.kept (Kept.seti 16 rfl (inc (by omega)) (Kept.keep [.s 16, .h, .s 3, .b 3, .s 4, .b 4, .s 14, .s 15] rfl (by decide) (Kept.now ?_)))
      exact ⟨(i + 1, _), (by dsimp only; omega), by dsimp only at hI ⊢; rw [List.append_assoc, ← hS]; exact hI, rfl⟩
    · have hi := gem hc2
      have hS := @encV_end s f l i hi
      refine Tri.exit ?_
      refine Tri.ret ?_
      exact ⟨.inr rfl, (ResOK.r0 rfl ).cast rfl, (congrArg (fun h => some (CV.hp h)) (by rw [encX_no (ntr hc1), show b ++ encV s f l = a by dsimp only at hI; rw [hS, List.append_nil] at hI; exact hI.symm]))⟩
  · refine Tri.skip ?_
    refine Tri.seq ?_
    refine Tri.region ?_
    refine TriL.c2 rfl (op_nilt (k := 8) (el := 40) (esz := 1) (c := 0) (ltb rfl) rfl (by decide)) ?_
    refine TriL.nil ?_
    refine Tri.seq ?_
    refine Tri.seq ?_
    refine Tri.region ?_
    refine TriL.c1 rfl (op_mv (ltb rfl) rfl) ?_
    refine TriL.c1 rfl (op_lenl (ltb rfl) un44_ME rfl) ?_
    refine TriL.c1 rfl (op_mv (ltb rfl) rfl) ?_
    refine TriL.nil ?_
    refine Tri.blk ?_
    refine Tri.ofKept (Kept.keep [.s 27, .s 8, .t 8, .h, .s 3, .b 3, .s 4, .b 4, .s 25, .s 26] rfl (by decide) (Kept.now ?_))
    -- LOOP 2
    refine Tri.loopk (fun ((i, a) : Nat × List AV) => [(.s 27, .sv (.v (.int .i64 (i : Int)))), (.s 8, .sv (.ow 8 a)), (.t 8, .tk false 40 1 a)]) _ (fun ((i, a) : Nat × List AV) => a = (l.take i).map (fun v : Val => AV.int .u64 (v.n : Int))) (fun ((i, a) : Nat × List AV) => l.length - i) (0, []) rfl rfl ?_
    rintro ⟨i, a⟩ ha
    refine Tri.seq ?_
    refine Tri.region ?_
    refine TriL.c1 rfl (op_bin (ltb rfl) rfl rfl rfl) ?_
    refine TriL.nil ?_
    refine Tri.seq ?_
    refine Tri.cond rfl (fun hc3 => ?_) (fun hc3 => ?_)
    · have hi := ltm hc3
      refine Tri.skip ?_
      refine Tri.seq ?_
      refine Tri.blk ?_
      refine Tri.seq ?_
      refine Tri.region ?_
      refine TriL.c1 rfl (op_iak (ltb rfl) ie44_ME rfl rfl (Int.natCast_nonneg _) (ixmE Val.av_eq hi) rfl) ?_
      refine TriL.c1 rfl (op_ldk (ltb rfl) lk43_ME rfl rfl) ?_
      refine TriL.c2 rfl (op_all (ltb rfl) zA43_ME rfl) ?_
      refine TriL.c1 rfl (op_stl lk43_ME rfl rfl rfl rfl rfl (leb rfl)) ?_
      refine TriL.nil ?_
      refine Tri.region ?_
      refine TriL.c1 rfl (op_mv (ltb rfl) rfl) ?_
      refine TriL.c1 rfl (op_fal (ltb rfl) fo43_0_ME rfl) ?_
      refine TriL.c1 rfl (op_ldl (ltb rfl) lk40_ME rfl rfl rfl) ?_
      refine TriL.c1 rfl (op_lit («as» := [_]) (ltb rfl) se24_ME zAe24_ME rfl rfl rfl (leb rfl)) ?_
      refine TriL.c3 rfl (op_app (ltb rfl) se24_ME rfl rfl rfl rfl rfl (by have := encX_pos (s := s) (l := l) (nfl hc1); rw [ha]; simp; omega) (by have := encX_pos (s := s) (l := l) (nfl hc1); rw [ha]; simp; omega)) ?_
      refine TriL.c1 rfl (op_as (ltb rfl) rfl) ?_
      refine TriL.nil ?_
      refine Tri.region ?_
      refine TriL.c1 rfl (op_bin (ltb rfl) rfl rfl rfl) ?_
      refine TriL.c1 rfl (op_mv (ltb rfl) rfl) ?_
      refine TriL.kept (Kept.seti 27 rfl (inc (by omega)) (Kept.keep [.s 27, .s 8, .t 35, .h, .s 3, .b 3, .s 4, .b 4, .s 25, .s 26] rfl (by decide) (Kept.ren 35 8 (by decide) rfl (Kept.now ?_))))
      exact ⟨(i + 1, _), (by dsimp only; omega), take_app hi ha, rfl⟩
    · have hi := gem hc3
      have hT := take_end hi
      have hA : a = (l.map Val.n).map (fun n : Nat => AV.int .u64 (n : Int)) := by rw [show a = (l.take i).map (fun v : Val => AV.int .u64 (v.n : Int)) from ha, hT, List.map_map]; rfl
      clear ha
      subst hA
      refine Tri.exit ?_
      refine Tri.drawn mixed rfl ?_
      refine TriD.c1 rfl (op_fal (ltb rfl) fo65_1_ME rfl) ?_
      refine TriD.c1 rfl (op_ldl (ltb rfl) lk62_ME rfl rfl rfl) ?_
      refine TriD.c1 rfl (op_fal (ltb rfl) fo23_1_ME rfl) ?_
      refine TriD.c1 rfl (op_ldl (ltb rfl) lk3_ME rfl rfl rfl) ?_
      refine TriD.c1 rfl (op_ldl (ltb rfl) lk23_ME rfl rfl rfl) ?_
      refine TriD.c1 rfl (op_mv (ltb rfl) rfl) ?_
      refine TriD.c1 rfl (op_call (ltb rfl) fn5_ME rfl (p_pack f (l.map Val.n) (by rw [List.length_map]; omega) (by intro n h2; obtain ⟨v, h3, rfl⟩ := List.mem_map.1 h2; exact hn v h3) (by rw [encX_yes (nfl hc1)] at hl; have := txt_ge f.num (packB f.ty (l.map Val.n)); omega))) ?_
      refine TriD.c2 rfl (op_callh (ltb rfl) fn54_ME rfl rfl (v_text H id b fs _ _ (fnum_right hf) (by rw [encX_yes (nfl hc1)] at hl; exact hl))) ?_
      refine TriD.nil (by kernel_rfl) (Kept.now ?_)
      exact ⟨.inl rfl, (ResOK.r0 rfl ).cast rfl, (congrArg (fun h => some (CV.hp h)) (by rw [encX_yes (nfl hc1)]))⟩
theorem p_ptree1 (s : Sch) (hs : s.good) (t : Tree) (hb : t.fits) (ih : ∀ x ∈ t.slots, ∀ v ∈ x.vals, ∀ u ∈ v.m, PenT s u) : PenT s t := by
  intro name H id b fs hok hfs hl hd
  obtain ⟨hix, hxs, hrs, hE⟩ := Tree.ok_ix hok
  have hsm := hs.m
  have hsl := hb.here.s
  refine Run.of_tri Tryd.func21 rfl rfl (ltb rfl) ?_
  refine Tri.seq ?_
  refine Tri.region ?_
  refine TriL.c2 rfl (op_box (ltb rfl) rfl rfl rfl) ?_
  refine TriL.c2 rfl (op_box (ltb rfl) rfl rfl rfl) ?_
  refine TriL.nil ?_
  refine Tri.seq ?_
  refine Tri.drawn mixed rfl ?_
  refine TriD.c1 rfl (op_fal (ltb rfl) fo65_0_ME rfl) ?_
  refine TriD.c1 rfl (op_fal (ltb rfl) fo35_1_ME rfl) ?_
  refine TriD.c1 rfl (op_ldl (ltb rfl) lk32_ME rfl rfl rfl) ?_
  refine TriD.c1 rfl (op_fal (ltb rfl) fo65_0_ME rfl) ?_
  refine TriD.c1 rfl (op_ldl (ltb rfl) lk35_ME rfl rfl rfl) ?_
  refine TriD.c1 rfl (op_mv (ltb rfl) rfl) ?_
  refine TriD.c1 rfl (op_call (ltb rfl) fn17_ME rfl (p_msgIx _ _ (by omega))) ?_
  refine TriD.c1 rfl (op_iak (ltb rfl) ie32_ME rfl rfl (Sch.ix_nn hix) (ixm1 (Sch.ix_eq hix) (Sch.ix_lt hix)) rfl) ?_
  refine TriD.c1 rfl (op_ldk (ltb rfl) lk31_ME rfl rfl) ?_
  refine TriD.c2 rfl (op_all (ltb rfl) zA31_ME rfl) ?_
  refine TriD.c1 rfl (op_stl lk31_ME rfl rfl rfl rfl rfl (leb rfl)) ?_
  refine TriD.nil (by kernel_rfl) (Kept.now ?_)
  refine Tri.seq ?_
  refine Tri.seq ?_
  refine Tri.region ?_
  refine TriL.c1 rfl (op_fal (ltb rfl) fo50_0_ME rfl) ?_
  refine TriL.c1 rfl (op_ldl (ltb rfl) lk47_ME rfl rfl rfl) ?_
  refine TriL.c1 rfl (op_lenl (ltb rfl) un47_ME rfl) ?_
  refine TriL.c1 rfl (op_mv (ltb rfl) rfl) ?_
  refine TriL.nil ?_
  refine Tri.blk ?_
  refine Tri.ofKept (Kept.keep [.s 23, .h, .s 3, .b 3, .s 5, .b 5, .s 6, .b 6, .s 21, .s 22] rfl (by decide) (Kept.now ?_))
  -- LOOP 1
  refine Tri.loopk (fun ((i, a) : Nat × List UInt8) => [(.s 23, .sv (.v (.int .i64 (i : Int)))), (.h, .hp (H.wrote id a fs))]) _ (fun ((i, a) : Nat × List UInt8) => a ++ encS s (s.msgs[s.ixN name]'(Sch.ix_lt hix)) (t.slots.drop i) = b ++ encS s (s.msgs[s.ixN name]'(Sch.ix_lt hix)) t.slots) (fun ((i, a) : Nat × List UInt8) => t.slots.length - i) (0, b) rfl (by simp) ?_
  rintro ⟨i, a⟩ hI
  refine Tri.seq ?_
  refine Tri.region ?_
  refine TriL.c1 rfl (op_bin (ltb rfl) rfl rfl rfl) ?_
  refine TriL.nil ?_
  refine Tri.seq ?_
  refine Tri.cond rfl (fun hc1 => ?_) (fun hc1 => ?_)
  · have hi := ltm hc1
    have hS := @encS_step s (s.msgs[s.ixN name]'(Sch.ix_lt hix)) t.slots i hi
    obtain ⟨hat, hvs⟩ := Slot.ok_ix (hxs _ (List.getElem_mem hi))
    have hX := Slot.enc_at (s := s) hat
    refine Tri.skip ?_
    refine Tri.seq ?_
    refine Tri.blk ?_
    refine Tri.seq ?_
    refine Tri.region ?_
    refine TriL.c1 rfl (op_iak (ltb rfl) ie47_ME rfl rfl (Int.natCast_nonneg _) (ixmE Slot.av_eq hi) rfl) ?_
    refine TriL.c1 rfl (op_ldk (ltb rfl) lk46_ME rfl rfl) ?_
    refine TriL.c2 rfl (op_all (ltb rfl) zA46_ME rfl) ?_
    refine TriL.c1 rfl (op_stl lk46_ME rfl rfl rfl rfl rfl (leb rfl)) ?_
    refine TriL.nil ?_
    refine Tri.drawn mixed rfl ?_
    refine TriD.c1 rfl (op_ldl (ltb rfl) lk65_ME rfl rfl rfl) ?_
    refine TriD.c1 rfl (op_fal (ltb rfl) fo31_1_ME rfl) ?_
    refine TriD.c1 rfl (op_ldl (ltb rfl) lk28_ME rfl rfl rfl) ?_
    refine TriD.c1 rfl (op_ldl (ltb rfl) lk31_ME rfl rfl rfl) ?_
    refine TriD.c1 rfl (op_fal (ltb rfl) fo46_0_ME rfl) ?_
    refine TriD.c1 rfl (op_ldl (ltb rfl) lk3_ME rfl rfl rfl) ?_
    refine TriD.c1 rfl (op_call (ltb rfl) fn39_ME rfl (p_number _ _ (hs.f _ (List.getElem_mem (Sch.ix_lt hix))))) ?_
    refine TriD.c1 rfl (op_iak (ltb rfl) ie28_ME rfl rfl (Msg.at_nn hat) (ixm1 (Msg.at_eq hat) (Msg.at_lt hat)) rfl) ?_
    refine TriD.c1 rfl (op_ldk (ltb rfl) lk23_ME rfl rfl) ?_
    refine TriD.c1 rfl (op_fal (ltb rfl) fo46_1_ME rfl) ?_
    refine TriD.c1 rfl (op_ldl (ltb rfl) lk44_ME rfl rfl rfl) ?_
    refine TriD.c2 rfl (op_callh (ltb rfl) fn38_ME rfl rfl (p_slot s _ (t.slots[i]'hi).vals H id a fs (hb.here.v _ (List.getElem_mem hi)) hvs (hb.here.vn _ (List.getElem_mem hi)) (hs.n _ (List.getElem_mem (Sch.ix_lt hix)) _ (List.getElem_mem (Msg.at_lt hat))) hfs (by have hq := congrArg List.length hI; rw [hS, hX] at hq; rw [hE] at hl; simp only [List.length_append] at hq hl; omega) (by have := deepS_mem (List.getElem_mem hi); have := (t.slots[i]'hi).deep_eq; have := t.deep_eq; omega) (ih _ (List.getElem_mem hi)))) ?_
    refine TriD.nil (by kernel_rfl) (Kept.now ?_)
    refine Tri.region ?_
    refine TriL.c1 rfl (op_bin (ltb rfl) rfl rfl rfl) ?_
    refine TriL.c1 rfl (op_mv (ltb rfl) rfl) ?_
    refine TriL.kept (Kept.seti 23 rfl (inc (by omega)) (Kept.keep [.s 23, .h, .s 3, .b 3, .s 5, .b 5, .s 6, .b 6, .s 21, .s 22] rfl (by decide) (Kept.now ?_)))
    exact ⟨(i + 1, _), (by dsimp only; omega), by dsimp only at hI ⊢; rw [List.append_assoc, ← hX, ← hS]; exact hI, rfl⟩
  · have hi := gem hc1
    have hS := @encS_end s (s.msgs[s.ixN name]'(Sch.ix_lt hix)) t.slots i hi
    refine Tri.exit ?_
    refine Tri.seq ?_
    refine Tri.region ?_
    refine TriL.c1 rfl (op_fal (ltb rfl) fo50_1_ME rfl) ?_
    refine TriL.c1 rfl (op_ldl (ltb rfl) lk48_ME rfl rfl rfl) ?_
    refine TriL.c1 rfl (op_call (ltb rfl) fn40_ME rfl (p_rawPut t.rest (Nat.le_trans hb.here.r (by omega)) hrs hb.here.rn (by rw [hE] at hl; simp only [List.length_append] at hl; omega))) ?_
    refine TriL.c1 rfl (op_mv (ltb rfl) rfl) ?_
    refine TriL.c1 rfl (op_ext (ltb rfl) rfl rfl) ?_
    refine TriL.c1 rfl (op_ext (ltb rfl) rfl rfl) ?_
    refine TriL.c1 rfl (op_as (ltb rfl) rfl) ?_
    refine TriL.c1 rfl (op_as (ltb rfl) rfl) ?_
    refine TriL.nil ?_
    refine Tri.region ?_
    refine TriL.c1 rfl (op_fal (ltb rfl) fo65_1_ME rfl) ?_
    refine TriL.c1 rfl (op_ldl (ltb rfl) lk62_ME rfl rfl rfl) ?_
    refine TriL.c1 rfl (op_mv (ltb rfl) rfl) ?_
    refine TriL.c1 rfl (op_lit («as» := [_]) (ltb rfl) se103_ME zAe103_ME rfl rfl rfl (leb rfl)) ?_
    refine TriL.c2 rfl (op_callh (ltb rfl) fn41_ME rfl rfl (v_plain H id a (t.rest.flatMap Rw.enc) fs (by have hq := congrArg List.length hI; rw [hE] at hl; simp only [List.length_append] at hq hl; omega))) ?_
    refine TriL.nil ?_
    exact ⟨.inl rfl, (ResOK.r0 rfl ).cast rfl, (congrArg (fun h => some (CV.hp h)) (by rw [hE, show b ++ (encS s (s.msgs[s.ixN name]'(Sch.ix_lt hix)) t.slots ++ t.rest.flatMap Rw.enc) = a ++ t.rest.flatMap Rw.enc by dsimp only at hI; rw [hS, List.append_nil] at hI; rw [← List.append_assoc, ← hI]]))⟩
theorem p_ptree (s : Sch) (hs : s.good) (t : Tree) (hb : t.fits) : PenT s t :=
  Tree.ind (Q := fun t => t.fits → PenT s t) (fun t ih hb => p_ptree1 s hs t hb (fun x hx v hv u hu => ih x hx v hv u hu (hb.sub hu hv hx))) t hb
theorem Hp.pen_wrote (H : Hp) (b c : List UInt8) : (H.pen b).wrote H.next c [] = H.pen c := Hp.pen_set H b c
theorem pen_tree {s : Sch} (hs : s.good) (H : Hp) {t : Tree} (hb : t.fits) {name : Str} (hok : t.ok s name = true) (hl : (t.enc s name).length ≤ 1000000000) (hd : t.deep ≤ 1000) : Run Tryd.prog 21 [.agg (penC s H.next), .str name, .agg t.cells] (H.pen []) (.tup []) (H.pen (t.enc s name)) := by
  have h := p_ptree s hs t hb name (H.pen []) H.next [] [] hok (by simp) (by simpa using hl) (by simpa using hd)
  rw [Hp.pen_wrote, Hp.pen_wrote, List.nil_append] at h
  exact h
theorem deep_sub {t : Tree} {x : Slot} {v : Val} {u : Tree} (hx : x ∈ t.slots) (hv : v ∈ x.vals) (hu : u ∈ v.m) : u.deep < t.deep := by
  have h1 := deepT_mem hu
  have h2 := deepV_mem hv
  have h3 := deepS_mem hx
  rw [Val.deep_eq] at h2
  rw [Slot.deep_eq] at h3
  rw [t.deep_eq]
  omega
theorem p_deep (t : Tree) (hb : t.big) (hd : t.deep ≤ 9223372036854775807) : Pure Tryd.prog 19 [.agg t.cells] (.int .i64 (t.deep : Int)) :=
  Tree.ind (Q := fun t => t.big → t.deep ≤ 9223372036854775807 → Pure Tryd.prog 19 [.agg t.cells] (.int .i64 (t.deep : Int))) (fun t ih hb hd => p_deep1 t hb hd (fun x hx v hv u hu => ih x hx v hv u hu (hb.sub hu hv hx) (by have := deep_sub hx hv hu; omega))) t hb hd
/-- what Put answers -/
def Tree.putE (s : Sch) (name : Str) (t : Tree) : Int :=
  if s.msgIx name < 0 then 5 else if t.ok s name = false then 1 else if 16 < t.deep then 3 else if 65536 < (t.enc s name).length then 3 else 0
def Tree.putB (s : Sch) (name : Str) (t : Tree) : Str := if t.putE s name = 0 then t.enc s name else []
def Tree.putR (s : Sch) (name : Str) (t : Tree) : AV := .tup [.sl (bsl (t.putB s name)), .int .i64 (t.putE s name)]
theorem Tree.put5 {s : Sch} {name : Str} {t : Tree} (h : s.msgIx name < 0) : AV.tup [.sl [], .int .i64 5] = t.putR s name := by simp [Tree.putR, Tree.putB, Tree.putE, h, bsl]
theorem Tree.put1 {s : Sch} {name : Str} {t : Tree} (h : ¬ s.msgIx name < 0) (h1 : t.ok s name = false) : AV.tup [.sl [], .int .i64 1] = t.putR s name := by simp [Tree.putR, Tree.putB, Tree.putE, h, h1, bsl]
theorem Tree.put3 {s : Sch} {name : Str} {t : Tree} (h : ¬ s.msgIx name < 0) (h1 : t.ok s name = true) (h2 : 16 < t.deep) : AV.tup [.sl [], .int .i64 3] = t.putR s name := by simp [Tree.putR, Tree.putB, Tree.putE, h, h1, h2, bsl]
theorem Tree.put3' {s : Sch} {name : Str} {t : Tree} (h : ¬ s.msgIx name < 0) (h1 : t.ok s name = true) (h2 : ¬ 16 < t.deep) (h3 : 65536 < (t.enc s name).length) : AV.tup [.sl [], .int .i64 3] = t.putR s name := by simp [Tree.putR, Tree.putB, Tree.putE, h, h1, h2, h3, bsl]
theorem Tree.put0 {s : Sch} {name : Str} {t : Tree} (h : ¬ s.msgIx name < 0) (h1 : t.ok s name = true) (h2 : ¬ 16 < t.deep) (h3 : ¬ 65536 < (t.enc s name).length) : AV.tup [.sl (bsl (t.enc s name)), .int .i64 0] = t.putR s name := by simp [Tree.putR, Tree.putB, Tree.putE, h, h1, h2, h3, bsl]
theorem p_put (s : Sch) (hs : s.good) (name : Str) (t : Tree) (hb : t.fits) (hd : t.ok s name = true → t.deep ≤ 1000) (hlen : t.ok s name = true → (t.enc s name).length ≤ 1000000000) : Pure Tryd.prog 7 [s.av, .str name, .agg t.cells] (t.putR s name) := by
  have hsm := hs.m
  intro H; refine Run.of_triF Tryd.func7 rfl rfl (ltb rfl) (.tup _ (by simp; exact ⟨.sl _ (fun x hx => by simp [bsl] at hx; obtain ⟨c, _, rfl⟩ := hx; exact .int _ _), .int _ _⟩)) ?_
  refine Tri.seq ?_
  refine Tri.region ?_
  refine TriL.c2 rfl (op_box (ltb rfl) rfl rfl rfl) ?_
  refine TriL.c2 rfl (op_box (ltb rfl) rfl rfl rfl) ?_
  refine TriL.c1 rfl (op_as (ltb rfl) rfl) ?_
  refine TriL.c1 rfl (op_as (ltb rfl) rfl) ?_
  refine TriL.nil ?_
  refine Tri.seq ?_
  refine Tri.blk ?_
  refine Tri.seq ?_
  refine Tri.region ?_
  refine TriL.c1 rfl (op_ldl (ltb rfl) lk35_ME rfl rfl rfl) ?_
  refine TriL.c1 rfl (op_mv (ltb rfl) rfl) ?_
  refine TriL.c1 rfl (op_call (ltb rfl) fn17_ME rfl (p_msgIx _ _ (by omega))) ?_
  refine TriL.c1 rfl (op_bin (ltb rfl) rfl rfl rfl) ?_
  refine TriL.c1 rfl (op_as (ltb rfl) rfl) ?_
  refine TriL.nil ?_
  refine Tri.cond rfl (fun hc1 => ?_) (fun hc1 => ?_)
  · refine Tri.seq ?_
    refine Tri.region ?_
    refine TriL.c1 rfl (op_as (ltb rfl) rfl) ?_
    refine TriL.c1 rfl (op_as (ltb rfl) rfl) ?_
    refine TriL.nil ?_
    refine Tri.ret ?_
    exact ⟨.inr rfl, (ResOK.r2 rfl (.tmp rfl (.tmp rfl .nil))).cast (Tree.put5 (of_decide_eq_true hc1)), ⟨_, rfl, Nat.le_refl _, fun i hi => rfl⟩⟩
  · refine Tri.seq ?_
    refine Tri.region ?_
    refine TriL.c1 rfl (op_ldl (ltb rfl) lk35_ME rfl rfl rfl) ?_
    refine TriL.c1 rfl (op_mv (ltb rfl) rfl) ?_
    refine TriL.c1 rfl (op_ldl (ltb rfl) lk50_ME rfl rfl rfl) ?_
    refine TriL.c1 rfl (op_call (ltb rfl) fn18_ME rfl (p_tree s hs.tofine t hb.big _)) ?_
    refine TriL.c1 rfl (op_un (ltb rfl) rfl rfl) ?_
    refine TriL.c1 rfl (op_as (ltb rfl) rfl) ?_
    refine TriL.nil ?_
    refine Tri.cond rfl (fun hc2 => ?_) (fun hc2 => ?_)
    · refine Tri.seq ?_
      refine Tri.region ?_
      refine TriL.c1 rfl (op_as (ltb rfl) rfl) ?_
      refine TriL.c1 rfl (op_as (ltb rfl) rfl) ?_
      refine TriL.nil ?_
      refine Tri.ret ?_
      exact ⟨.inr rfl, (ResOK.r2 rfl (.tmp rfl (.tmp rfl .nil))).cast (Tree.put1 (of_decide_eq_false hc1) (ntr hc2)), ⟨_, rfl, Nat.le_refl _, fun i hi => rfl⟩⟩
    · refine Tri.seq ?_
      refine Tri.region ?_
      refine TriL.c1 rfl (op_ldl (ltb rfl) lk50_ME rfl rfl rfl) ?_
      refine TriL.c1 rfl (op_call (ltb rfl) fn19_ME rfl (p_deep t hb.big (by have := hd (nfl hc2); omega))) ?_
      refine TriL.c1 rfl (op_bin (ltb rfl) rfl rfl rfl) ?_
      refine TriL.c1 rfl (op_as (ltb rfl) rfl) ?_
      refine TriL.nil ?_
      refine Tri.cond rfl (fun hc3 => ?_) (fun hc3 => ?_)
      · refine Tri.seq ?_
        refine Tri.region ?_
        refine TriL.c1 rfl (op_as (ltb rfl) rfl) ?_
        refine TriL.c1 rfl (op_as (ltb rfl) rfl) ?_
        refine TriL.nil ?_
        refine Tri.ret ?_
        exact ⟨.inr rfl, (ResOK.r2 rfl (.tmp rfl (.tmp rfl .nil))).cast (Tree.put3 (of_decide_eq_false hc1) (nfl hc2) (by have := of_decide_eq_true hc3; omega)), ⟨_, rfl, Nat.le_refl _, fun i hi => rfl⟩⟩
      · refine Tri.skip ?_
        refine Tri.seq ?_
        refine Tri.drawn mixed rfl ?_
        refine TriD.c1 rfl (op_ldl (ltb rfl) lk35_ME rfl rfl rfl) ?_
        refine TriD.c2 rfl (op_callh (ltb rfl) fn20_ME rfl rfl (pen_new H)) ?_
        refine TriD.c1 rfl (op_bld (ltb rfl) spl65_ME zA65_ME rfl rfl) ?_
        refine TriD.c2 rfl (op_all (ltb rfl) zA65_ME rfl) ?_
        refine TriD.c1 rfl (op_stl lk65_ME rfl rfl rfl rfl rfl (leb rfl)) ?_
        refine TriD.nil (by kernel_rfl) (Kept.now ?_)
        refine Tri.seq ?_
        refine Tri.region ?_
        refine TriL.c1 rfl (op_ldl (ltb rfl) lk65_ME rfl rfl rfl) ?_
        refine TriL.c1 rfl (op_mv (ltb rfl) rfl) ?_
        refine TriL.c1 rfl (op_ldl (ltb rfl) lk50_ME rfl rfl rfl) ?_
        refine TriL.c2 rfl (op_callh (ltb rfl) fn21_ME rfl rfl (pen_tree hs H hb (nfl hc2) (hlen (nfl hc2)) (hd (nfl hc2)))) ?_
        refine TriL.nil ?_
        refine Tri.seq ?_
        refine Tri.seq ?_
        refine Tri.region ?_
        refine TriL.c1 rfl (op_fal (ltb rfl) fo65_1_ME rfl) ?_
        refine TriL.c1 rfl (op_ldl (ltb rfl) lk62_ME rfl rfl rfl) ?_
        refine TriL.c2 rfl (op_callh (ltb rfl) fn22_ME rfl rfl (len_run (H.pen (t.enc s name)) H.next _ [] (Hp.pen_obj _ _))) ?_
        refine TriL.c1 rfl (op_bin (ltb rfl) rfl rfl rfl) ?_
        refine TriL.nil ?_
        refine Tri.cond rfl (fun hc4 => ?_) (fun hc4 => ?_)
        · refine Tri.seq ?_
          refine Tri.region ?_
          refine TriL.c1 rfl (op_as (ltb rfl) rfl) ?_
          refine TriL.c1 rfl (op_as (ltb rfl) rfl) ?_
          refine TriL.nil ?_
          refine Tri.ret ?_
          exact ⟨.inr rfl, (ResOK.r2 rfl (.tmp rfl (.tmp rfl .nil))).cast (Tree.put3' (of_decide_eq_false hc1) (nfl hc2) (by have := of_decide_eq_false hc3; omega) (by have := of_decide_eq_true hc4; rw [bsl_len] at this; omega)), ⟨_, rfl, Hp.pen_low _ _⟩⟩
        · refine Tri.skip ?_
          refine Tri.seq ?_
          refine Tri.region ?_
          refine TriL.c1 rfl (op_fal (ltb rfl) fo65_1_ME rfl) ?_
          refine TriL.c1 rfl (op_ldl (ltb rfl) lk62_ME rfl rfl rfl) ?_
          refine TriL.c2 rfl (op_callh (ltb rfl) fn23_ME rfl rfl (bytes_run (H.pen (t.enc s name)) H.next _ (Hp.pen_obj _ _) (by have := hlen (nfl hc2); omega))) ?_
          refine TriL.c1 rfl (op_as (ltb rfl) rfl) ?_
          refine TriL.c1 rfl (op_as (ltb rfl) rfl) ?_
          refine TriL.nil ?_
          refine Tri.ret ?_
          exact ⟨.inr rfl, (ResOK.r2 rfl (.tmp rfl (.tmp rfl .nil))).cast (Tree.put0 (of_decide_eq_false hc1) (nfl hc2) (by have := of_decide_eq_false hc3; omega) (by have := of_decide_eq_false hc4; rw [bsl_len] at this; omega)), ⟨_, rfl, Hp.pen_low _ _⟩⟩
end Go.Proofs.YtnpgcmeclkncnaaDoor.X
/- encode, in the document. -/
set_option linter.unusedVariables false
set_option linter.unusedSimpArgs false
set_option linter.unusedSectionVars false
set_option maxRecDepth 100000
namespace Go.Proofs.YtnpgcmeclkncnaaDoor.X
open Go Go.RowKit Go.Proofs
theorem fn12_MF : isFn Tryd.prog 12 = true := by kernel_rfl
theorem fn13_MF : isFn Tryd.prog 13 = true := by kernel_rfl
theorem fn14_MF : isFn Tryd.prog 14 = true := by kernel_rfl
theorem fn15_MF : isFn Tryd.prog 15 = true := by kernel_rfl
theorem fn16_MF : isFn Tryd.prog 16 = true := by kernel_rfl
theorem fo23_2_MF : fo Tryd.prog 23 2 = some 2 := by kernel_rfl
theorem ie24_MF : ie Tryd.prog 24 = some 1 := by kernel_rfl
theorem lk3_MF : lk Tryd.prog 3 = some (false, 1) := by kernel_rfl
theorem lk40_MF : lk Tryd.prog 40 = some (false, 1) := by kernel_rfl
theorem se36_MF : se Tryd.prog 36 = some (5, 1, 1) := by kernel_rfl
theorem un24_MF : Tryd.prog.underlying 24 = some (TypeDesc.slice 40) := Tryd.underlying24
theorem un36_MF : Tryd.prog.underlying 36 = some (TypeDesc.slice 5) := Tryd.underlying36
theorem un9_MF : Tryd.prog.underlying 9 = some TypeDesc.string := Tryd.underlying9
theorem unel36_MF : Tryd.prog.underlying 5 = some (TypeDesc.int IntKind.u8) := Tryd.underlying5
theorem zAe36_MF : zeroA Tryd.prog 5 = some [AV.int IntKind.u8 (0)] := by kernel_rfl
theorem pack_no {t : Int} (h : numT t = false) (l : List Nat) : l.flatMap (pack1 t) = [] := by
  induction l with
  | nil => rfl
  | cons n l ih => rw [List.flatMap_cons, pack1_no h, ih]; rfl
theorem r_pack (f : Fld) (l : List Nat) (hll : l.length ≤ 9223372036854775807) (hn : ∀ n ∈ l, n < 18446744073709551616) (hl : (packB f.ty l).length ≤ 1000000000) : Pure Tryd.prog 6 [f.av, .sl (l.map (fun n : Nat => AV.int .u64 (n : Int)))] (.str (packB f.ty l)) := by
  refine Pure.of_tri Tryd.func6 rfl rfl (ltb rfl) fun H => ?_
  refine Tri.seq ?_
  refine Tri.region ?_
  refine TriL.c2 rfl (op_box (ltb rfl) rfl rfl rfl) ?_
  refine TriL.c1 rfl (op_as (ltb rfl) rfl) ?_
  refine TriL.nil ?_
  refine Tri.seq ?_
  refine Tri.region ?_
  refine TriL.c2 rfl (op_litt («as» := []) (ltb rfl) se36_MF zAe36_MF rfl rfl rfl (leb rfl) rfl) ?_
  refine TriL.c1 rfl (op_as (ltb rfl) rfl) ?_
  refine TriL.nil ?_
  refine Tri.seq ?_
  refine Tri.seq ?_
  refine Tri.region ?_
  refine TriL.c1 rfl (op_as (ltb rfl) rfl) ?_
  refine TriL.nil ?_
  refine Tri.blk ?_
  refine Tri.ofKept (Kept.keep [.s 6, .s 5, .t 8, .h, .s 1, .s 2, .b 2] rfl (by decide) (Kept.now ?_))
  -- LOOP 1
  refine Tri.loopk (fun ((i, a) : Nat × List AV) => [(.s 6, .sv (.v (.int .i64 (i : Int)))), (.s 5, .sv (.ow 8 a)), (.t 8, .tk false 5 1 a)]) _ (fun ((i, a) : Nat × List AV) => ∃ x, a = bsl x ∧ x ++ (l.drop i).flatMap (pack1 f.ty) = packB f.ty l) (fun ((i, a) : Nat × List AV) => l.length - i) (0, []) rfl ⟨[], rfl, by simp [packB]⟩ ?_
  rintro ⟨i, a⟩ ⟨x, rfl, hI⟩
  refine Tri.seq ?_
  refine Tri.seq ?_
  refine Tri.region ?_
  refine TriL.c1 rfl (op_mv (ltb rfl) rfl) ?_
  refine TriL.c1 rfl (op_mv (ltb rfl) rfl) ?_
  refine TriL.c1 rfl (op_lenl (ltb rfl) un24_MF rfl) ?_
  refine TriL.c1 rfl (op_bin (ltb rfl) rfl rfl rfl) ?_
  refine TriL.c1 rfl (op_mv (ltb rfl) rfl) ?_
  refine TriL.split (d := 13) rfl (fun hg1 => ?_) (fun hg1 => ?_)
  · have hi := ltm hg1
    have hS := flat_step (f := pack1 f.ty) hi
    refine TriL.g1 rfl (ltb rfl) rfl hg1 (op_fal (ltb rfl) fo23_2_MF rfl) ?_
    refine TriL.g1 rfl (ltb rfl) rfl hg1 (op_ldl (ltb rfl) lk3_MF rfl rfl rfl) ?_
    refine TriL.g1 rfl (ltb rfl) rfl hg1 (op_call (ltb rfl) fn12_MF rfl (r_numT _)) ?_
    refine TriL.c1 rfl (op_pickt (ltb rfl) rfl hg1 rfl) ?_
    refine TriL.nil ?_
    refine Tri.cond rfl (fun hc2 => ?_) (fun hc2 => ?_)
    · refine Tri.skip ?_
      refine Tri.seq ?_
      refine Tri.blk ?_
      refine Tri.seq ?_
      refine Tri.drawn mixed rfl ?_
      refine TriD.c1 rfl (op_fal (ltb rfl) fo23_2_MF rfl) ?_
      refine TriD.c1 rfl (op_ldl (ltb rfl) lk3_MF rfl rfl rfl) ?_
      refine TriD.c1 rfl (op_mv (ltb rfl) rfl) ?_
      refine TriD.c1 rfl (op_mv (ltb rfl) rfl) ?_
      refine TriD.c1 rfl (op_iak (ltb rfl) ie24_MF rfl rfl (Int.natCast_nonneg _) (ixm hi) rfl) ?_
      refine TriD.c1 rfl (op_ldk (ltb rfl) lk40_MF rfl rfl) ?_
      refine TriD.c1 rfl (op_call (ltb rfl) fn13_MF rfl (r_to _ _ (hn _ (List.getElem_mem hi)))) ?_
      refine TriD.c1 rfl (op_as (ltb rfl) rfl) ?_
      refine TriD.nil (by kernel_rfl) (Kept.now ?_)
      refine Tri.seq ?_
      refine Tri.region ?_
      refine TriL.c1 rfl (op_fal (ltb rfl) fo23_2_MF rfl) ?_
      refine TriL.c1 rfl (op_ldl (ltb rfl) lk3_MF rfl rfl rfl) ?_
      refine TriL.c1 rfl (op_call (ltb rfl) fn14_MF rfl (r_wireT _)) ?_
      refine TriL.nil ?_
      refine Tri.blk ?_
      refine Tri.seq ?_
      refine Tri.region ?_
      refine TriL.c1 rfl (op_bin (ltb rfl) rfl rfl rfl) ?_
      refine TriL.c1 rfl (op_as (ltb rfl) rfl) ?_
      refine TriL.nil ?_
      refine Tri.cond rfl (fun hc3 => ?_) (fun hc3 => ?_)
      · -- region 9 ref.go:36
        refine Tri.region ?_
        refine TriL.c1 rfl (op_mv (ltb rfl) rfl) ?_
        refine TriL.c1 rfl (op_mv (ltb rfl) rfl) ?_
        refine TriL.c1 rfl (op_call (ltb rfl) fn15_MF rfl (rfix_pureO _ 8 (toT_lt (hn _ (List.getElem_mem hi))) (by decide)).pure) ?_
        refine TriL.c3 rfl (op_app (ltb rfl) se36_MF rfl rfl rfl (okEls_bsl _) rfl (by have hq := congrArg List.length hI; have hv := vput_max (toT_lt (t := f.ty) (hn _ (List.getElem_mem hi))); simp only [List.length_append, bsl_len, fput_len] at *; omega) (by have hq := congrArg List.length hI; have hv := vput_max (toT_lt (t := f.ty) (hn _ (List.getElem_mem hi))); simp only [List.length_append, bsl_len, fput_len] at *; omega)) ?_
        refine TriL.c1 rfl (op_as (ltb rfl) rfl) ?_
        refine TriL.nil ?_
        refine Tri.region ?_
        refine TriL.c1 rfl (op_mv (ltb rfl) rfl) ?_
        refine TriL.c1 rfl (op_bin (ltb rfl) rfl rfl rfl) ?_
        refine TriL.c1 rfl (op_as (ltb rfl) rfl) ?_
        refine TriL.kept (Kept.seti 6 rfl (inc (by omega)) (Kept.keep [.s 6, .s 5, .t 39, .h, .s 1, .s 2, .b 2] rfl (by decide) (Kept.ren 39 8 (by decide) rfl (Kept.now ?_))))
        exact ⟨(i + 1, _), (by dsimp only; omega), ⟨x ++ pay (wireT f.ty) (toT f.ty (l[i]'hi)), by rw [bsl_app, pay1 (biT hc3)], by rw [List.append_assoc, ← pack1_yes hc2, ← hS]; exact hI⟩, rfl⟩
      · refine Tri.seq ?_
        refine Tri.region ?_
        refine TriL.c1 rfl (op_bin (ltb rfl) rfl rfl rfl) ?_
        refine TriL.c1 rfl (op_as (ltb rfl) rfl) ?_
        refine TriL.nil ?_
        refine Tri.cond rfl (fun hc4 => ?_) (fun hc4 => ?_)
        · -- region 11 ref.go:38
          refine Tri.region ?_
          refine TriL.c1 rfl (op_mv (ltb rfl) rfl) ?_
          refine TriL.c1 rfl (op_mv (ltb rfl) rfl) ?_
          refine TriL.c1 rfl (op_call (ltb rfl) fn15_MF rfl (rfix_pureO _ 4 (toT_lt (hn _ (List.getElem_mem hi))) (by decide)).pure) ?_
          refine TriL.c3 rfl (op_app (ltb rfl) se36_MF rfl rfl rfl (okEls_bsl _) rfl (by have hq := congrArg List.length hI; have hv := vput_max (toT_lt (t := f.ty) (hn _ (List.getElem_mem hi))); simp only [List.length_append, bsl_len, fput_len] at *; omega) (by have hq := congrArg List.length hI; have hv := vput_max (toT_lt (t := f.ty) (hn _ (List.getElem_mem hi))); simp only [List.length_append, bsl_len, fput_len] at *; omega)) ?_
          refine TriL.c1 rfl (op_as (ltb rfl) rfl) ?_
          refine TriL.nil ?_
          refine Tri.region ?_
          refine TriL.c1 rfl (op_mv (ltb rfl) rfl) ?_
          refine TriL.c1 rfl (op_bin (ltb rfl) rfl rfl rfl) ?_
          refine TriL.c1 rfl (op_as (ltb rfl) rfl) ?_
          refine TriL.kept (Kept.seti 6 rfl (inc (by omega)) (Kept.keep [.s 6, .s 5, .t 45, .h, .s 1, .s 2, .b 2] rfl (by decide) (Kept.ren 45 8 (by decide) rfl (Kept.now ?_))))
          exact ⟨(i + 1, _), (by dsimp only; omega), ⟨x ++ pay (wireT f.ty) (toT f.ty (l[i]'hi)), by rw [bsl_app, pay5 (biT hc4)], by rw [List.append_assoc, ← pack1_yes hc2, ← hS]; exact hI⟩, rfl⟩
        · -- region 7 ref.go:40
          refine Tri.region ?_
          refine TriL.c1 rfl (op_mv (ltb rfl) rfl) ?_
          refine TriL.c1 rfl (op_mv (ltb rfl) rfl) ?_
          refine TriL.c1 rfl (op_call (ltb rfl) fn16_MF rfl (rput_pureO _ (toT_lt (hn _ (List.getElem_mem hi)))).pure) ?_
          refine TriL.c3 rfl (op_app (ltb rfl) se36_MF rfl rfl rfl (okEls_bsl _) rfl (by have hq := congrArg List.length hI; have hv := vput_max (toT_lt (t := f.ty) (hn _ (List.getElem_mem hi))); simp only [List.length_append, bsl_len, fput_len] at *; omega) (by have hq := congrArg List.length hI; have hv := vput_max (toT_lt (t := f.ty) (hn _ (List.getElem_mem hi))); simp only [List.length_append, bsl_len, fput_len] at *; omega)) ?_
          refine TriL.c1 rfl (op_as (ltb rfl) rfl) ?_
          refine TriL.nil ?_
          refine Tri.region ?_
          refine TriL.c1 rfl (op_mv (ltb rfl) rfl) ?_
          refine TriL.c1 rfl (op_bin (ltb rfl) rfl rfl rfl) ?_
          refine TriL.c1 rfl (op_as (ltb rfl) rfl) ?_
          refine TriL.kept (Kept.seti 6 rfl (inc (by omega)) (Kept.keep [.s 6, .s 5, .t 33, .h, .s 1, .s 2, .b 2] rfl (by decide) (Kept.ren 33 8 (by decide) rfl (Kept.now ?_))))
          exact ⟨(i + 1, _), (by dsimp only; omega), ⟨x ++ pay (wireT f.ty) (toT f.ty (l[i]'hi)), by rw [bsl_app, payv (biF hc3) (biF hc4)], by rw [List.append_assoc, ← pack1_yes hc2, ← hS]; exact hI⟩, rfl⟩
    · refine Tri.exit ?_
      refine Tri.seq ?_
      refine Tri.region ?_
      refine TriL.c1 rfl (op_mv (ltb rfl) rfl) ?_
      refine TriL.c1 rfl (op_b2s (ltb rfl) un36_MF unel36_MF un9_MF rfl (bytesOf_bsl _)) ?_
      refine TriL.c1 rfl (op_as (ltb rfl) rfl) ?_
      refine TriL.nil ?_
      refine Tri.ret ?_
      exact ⟨.inr rfl, (ResOK.r1 rfl (.tmp rfl .nil)).cast (by rw [← hI, pack_no hc2, List.append_nil]), rfl⟩
  · have hi := gem hg1
    have hS := flat_end (f := pack1 f.ty) hi
    refine TriL.skipu rfl rfl (ltb rfl) (ltb rfl) rfl hg1 ?_
    refine TriL.skipu rfl rfl (ltb rfl) (ltb rfl) rfl hg1 ?_
    refine TriL.skipu rfl rfl (ltb rfl) (ltb rfl) rfl hg1 ?_
    refine TriL.c1 rfl (op_pickf (ltb rfl) rfl hg1 rfl) ?_
    refine TriL.nil ?_
    refine Tri.condF rfl rfl ?_
    refine Tri.exit ?_
    refine Tri.seq ?_
    refine Tri.region ?_
    refine TriL.c1 rfl (op_mv (ltb rfl) rfl) ?_
    refine TriL.c1 rfl (op_b2s (ltb rfl) un36_MF unel36_MF un9_MF rfl (bytesOf_bsl _)) ?_
    refine TriL.c1 rfl (op_as (ltb rfl) rfl) ?_
    refine TriL.nil ?_
    refine Tri.ret ?_
    exact ⟨.inr rfl, (ResOK.r1 rfl (.tmp rfl .nil)).cast (by rw [← hI, hS, List.append_nil]), rfl⟩
end Go.Proofs.YtnpgcmeclkncnaaDoor.X
/- Plain laws: what is small has few bytes, and is not deep; a schema that may be is good. No condition. -/
set_option linter.unusedVariables false
set_option linter.unusedSimpArgs false
namespace Go.Proofs.YtnpgcmeclkncnaaDoor.X
open Go Go.RowKit Go.Proofs
end Go.Proofs.YtnpgcmeclkncnaaDoor.X
/- Small of schemas; the page's example. -/
set_option linter.unusedVariables false
set_option linter.unusedSimpArgs false
set_option linter.unusedSectionVars false
set_option maxRecDepth 100000
namespace Go.Proofs.YtnpgcmeclkncnaaDoor.X
open Go Go.RowKit Go.Proofs
/-- what a schema's lists are at most -/
structure Sch.lens (s : Sch) : Prop where
  e : s.enums.length ≤ 140737488355328
  m : s.msgs.length ≤ 140737488355328
  v : ∀ x ∈ s.enums, x.values.length ≤ 140737488355328
  f : ∀ x ∈ s.msgs, x.fields.length ≤ 140737488355328
theorem Sch.lens.big {s : Sch} (h : s.lens) : s.big := ⟨Nat.le_trans h.e (by omega), Nat.le_trans h.m (by omega)⟩
end Go.Proofs.YtnpgcmeclkncnaaDoor.X
/- the page's example. -/
set_option linter.unusedVariables false
set_option linter.unusedSimpArgs false
set_option linter.unusedSectionVars false
set_option maxRecDepth 100000
namespace Go.Proofs.YtnpgcmeclkncnaaDoor.X
open Go Go.RowKit Go.Proofs
theorem fn7_MH : isFn Tryd.prog 7 = true := by kernel_rfl
theorem fn8_MH : isFn Tryd.prog 8 = true := by kernel_rfl
theorem fn9_MH : isFn Tryd.prog 9 = true := by kernel_rfl
theorem lk35_MH : lk Tryd.prog 35 = some (true, 2) := by kernel_rfl
theorem se28_MH : se Tryd.prog 28 = some (23, 7, 72) := by kernel_rfl
theorem se32_MH : se Tryd.prog 32 = some (31, 3, 64) := by kernel_rfl
theorem se36_MH : se Tryd.prog 36 = some (5, 1, 1) := by kernel_rfl
theorem se44_MH : se Tryd.prog 44 = some (43, 3, 48) := by kernel_rfl
theorem se47_MH : se Tryd.prog 47 = some (46, 2, 32) := by kernel_rfl
theorem spl23_MH : spl Tryd.prog 23 = some [(0, 1), (1, 1), (2, 1), (3, 1), (4, 1), (5, 1), (6, 1)] := by kernel_rfl
theorem spl31_MH : spl Tryd.prog 31 = some [(0, 1), (1, 1), (2, 1)] := by kernel_rfl
theorem spl35_MH : spl Tryd.prog 35 = some [(0, 1), (1, 1)] := by kernel_rfl
theorem spl43_MH : spl Tryd.prog 43 = some [(0, 1), (1, 1), (2, 1)] := by kernel_rfl
theorem spl46_MH : spl Tryd.prog 46 = some [(0, 1), (1, 1)] := by kernel_rfl
theorem spl50_MH : spl Tryd.prog 50 = some [(0, 1), (1, 1)] := by kernel_rfl
theorem zA23_MH : zeroA Tryd.prog 23 = some [AV.str [], AV.int IntKind.i64 (0), AV.int IntKind.i64 (0), AV.str [], AV.bool false, AV.bool false, AV.str []] := by kernel_rfl
theorem zA31_MH : zeroA Tryd.prog 31 = some [AV.str [], AV.sl [], AV.sl []] := by kernel_rfl
theorem zA35_MH : zeroA Tryd.prog 35 = some [AV.sl [], AV.sl []] := by kernel_rfl
theorem zA43_MH : zeroA Tryd.prog 43 = some [AV.int IntKind.u64 (0), AV.str [], AV.sl []] := by kernel_rfl
theorem zA46_MH : zeroA Tryd.prog 46 = some [AV.int IntKind.i64 (0), AV.sl []] := by kernel_rfl
theorem zA50_MH : zeroA Tryd.prog 50 = some [AV.sl [], AV.sl []] := by kernel_rfl
theorem zAe28_MH : zeroA Tryd.prog 23 = some [AV.str [], AV.int IntKind.i64 (0), AV.int IntKind.i64 (0), AV.str [], AV.bool false, AV.bool false, AV.str []] := by kernel_rfl
theorem zAe32_MH : zeroA Tryd.prog 31 = some [AV.str [], AV.sl [], AV.sl []] := by kernel_rfl
theorem zAe36_MH : zeroA Tryd.prog 5 = some [AV.int IntKind.u8 (0)] := by kernel_rfl
theorem zAe44_MH : zeroA Tryd.prog 43 = some [AV.int IntKind.u64 (0), AV.str [], AV.sl []] := by kernel_rfl
theorem zAe47_MH : zeroA Tryd.prog 46 = some [AV.int IntKind.i64 (0), AV.sl []] := by kernel_rfl
def liveS : Sch := ⟨[], [⟨[77], [⟨[97], 1, 1, [], false, false, []⟩], []⟩]⟩
def liveT : Tree := .mk [.mk 1 [.mk 300 [] []]] []
theorem liveS_good : liveS.good := by
  refine { m := by decide, f := by simp [liveS], o := by simp [liveS], n := by simp [liveS]; decide }
theorem liveT_fits : liveT.fits := by
  refine Tree.Every.mk ⟨by decide, by decide, ?_, ?_, ?_, ?_, ?_, ?_⟩ ?_ <;> simp [liveT, Tree.slots, Tree.rest, Slot.vals, Val.m, Val.s, Val.n]
theorem vput300 : vput 300 = [172, 2] := by rw [vput_hi (by decide), vput_lo (by decide)]; rfl
theorem vput8 : vput 8 = [8] := by rw [vput_lo (by decide)]; rfl
theorem liveT_ok : liveT.ok liveS [77] = true := by decide
theorem liveT_enc : liveT.enc liveS [77] = [8, 172, 2] := by
  have h1 : liveS.msgAt [77] = some liveS.msgs[0] := by decide
  have h2 : (liveS.msgs[0]).fix 1 = some (liveS.msgs[0]).fields[0] := by decide
  have h3 : ((liveS.msgs[0]).fields[0]).packed = false := by decide
  have h4 : numT 1 = true := by decide
  have h5 : toT 1 300 = 300 := by decide
  have h6 : wireT 1 = 0 := by decide
  rw [Tree.enc_eq, h1]
  simp only [liveT, Tree.slots, Tree.rest, encS, Slot.enc_eq, Slot.num, Slot.vals, h2, h3, encV, Val.enc_eq, Val.n, Bool.false_eq_true, if_false, List.flatMap_nil, List.append_nil]
  simp only [liveS, List.getElem_cons_zero, h4, h5, h6, if_true, tagB, pay, vput300]
  simp [vput8]
theorem liveT_put : liveT.putR liveS [77] = .tup [.sl [.int .u8 8, .int .u8 172, .int .u8 2], .int .i64 0] := by
  rw [← Tree.put0 (by decide) liveT_ok (by decide) (by rw [liveT_enc]; decide), liveT_enc]; rfl
theorem p_liveput : Pure Tryd.prog 7 [.agg [.sl [], .sl [.agg [.str [77], .sl [.agg [.str [97], .int .i64 1, .int .i64 1, .str [], .bool false, .bool false, .str []]], .sl []]]], .str [77], .agg [.sl [.agg [.int .i64 1, .sl [.agg [.int .u64 300, .str [], .sl []]]]], .sl []]] (.tup [.sl (bsl [8, 172, 2]), .int .i64 0]) := by
  have h := p_put liveS liveS_good [77] liveT liveT_fits (fun _ => by decide) (fun _ => by rw [liveT_enc]; decide)
  rw [liveT_put] at h
  simpa [Tree.cells, Sch.av, Sch.cells, Msg.av, Msg.cells, Fld.av, Fld.cells, liveS, liveT, Tree.slots, Tree.rest, Slot.av, Val.av, valsAV, treesAV, bsl] using h
theorem p_liveb : Pure Tryd.prog 9 [.sl (bsl [8, 172, 2]), .sl [.int .u8 8, .int .u8 172, .int .u8 2]] (.bool true) := (bytes_pure [8, 172, 2] [8, 172, 2]).at rfl
theorem p_lnum (e : Int) : Pure Tryd.prog 8 [.int .i64 e] (.int .i64 e) := by
  refine Pure.of_tri Tryd.func8 rfl rfl (ltb rfl) fun H => ?_
  refine Tri.seq ?_
  refine Tri.region ?_
  refine TriL.c1 rfl (op_as (ltb rfl) rfl) ?_
  refine TriL.nil ?_
  refine Tri.seq ?_
  refine Tri.region ?_
  refine TriL.c1 rfl (op_mv (ltb rfl) rfl) ?_
  refine TriL.c1 rfl (op_as (ltb rfl) rfl) ?_
  refine TriL.nil ?_
  refine Tri.ret ?_
  exact ⟨.inr rfl, (ResOK.r1 rfl (.tmp rfl .nil)).cast rfl, rfl⟩
theorem p_live : Pure Tryd.prog 4 [] (.bool true) := by
  refine Pure.of_tri Tryd.func4 rfl rfl (Nat.zero_le _) fun H => ?_
  refine Tri.seq ?_
  refine Tri.region ?_
  refine TriL.c1 rfl (op_as (ltb rfl) rfl) ?_
  refine TriL.nil ?_
  refine Tri.seq ?_
  refine Tri.region ?_
  refine TriL.c1 rfl (op_bld (ltb rfl) spl23_MH zA23_MH rfl rfl) ?_
  refine TriL.c1 rfl (op_lit («as» := [_]) (ltb rfl) se28_MH zAe28_MH rfl rfl rfl (leb rfl)) ?_
  refine TriL.c1 rfl (op_bld (ltb rfl) spl31_MH zA31_MH rfl rfl) ?_
  refine TriL.c1 rfl (op_lit («as» := [_]) (ltb rfl) se32_MH zAe32_MH rfl rfl rfl (leb rfl)) ?_
  refine TriL.c1 rfl (op_bld (ltb rfl) spl35_MH zA35_MH rfl rfl) ?_
  refine TriL.c2 rfl (op_all (ltb rfl) zA35_MH rfl) ?_
  refine TriL.c1 rfl (op_stl lk35_MH rfl rfl rfl rfl rfl (leb rfl)) ?_
  refine TriL.nil ?_
  refine Tri.seq ?_
  refine Tri.region ?_
  refine TriL.c1 rfl (op_ldl (ltb rfl) lk35_MH rfl rfl rfl) ?_
  refine TriL.c1 rfl (op_bld (ltb rfl) spl43_MH zA43_MH rfl rfl) ?_
  refine TriL.c1 rfl (op_lit («as» := [_]) (ltb rfl) se44_MH zAe44_MH rfl rfl rfl (leb rfl)) ?_
  refine TriL.c1 rfl (op_bld (ltb rfl) spl46_MH zA46_MH rfl rfl) ?_
  refine TriL.c1 rfl (op_lit («as» := [_]) (ltb rfl) se47_MH zAe47_MH rfl rfl rfl (leb rfl)) ?_
  refine TriL.c1 rfl (op_bld (ltb rfl) spl50_MH zA50_MH rfl rfl) ?_
  refine TriL.c1 rfl (op_call (ltb rfl) fn7_MH rfl p_liveput) ?_
  refine TriL.c1 rfl (op_mv (ltb rfl) rfl) ?_
  refine TriL.c1 rfl (op_ext (ltb rfl) rfl rfl) ?_
  refine TriL.c1 rfl (op_ext (ltb rfl) rfl rfl) ?_
  refine TriL.c1 rfl (op_as (ltb rfl) rfl) ?_
  refine TriL.c1 rfl (op_as (ltb rfl) rfl) ?_
  refine TriL.nil ?_
  refine Tri.seq ?_
  refine Tri.region ?_
  refine TriL.c1 rfl (op_mv (ltb rfl) rfl) ?_
  refine TriL.c1 rfl (op_call (ltb rfl) fn8_MH rfl (p_lnum _)) ?_
  refine TriL.c1 rfl (op_bin (ltb rfl) rfl rfl rfl) ?_
  refine TriL.c1 rfl (op_mv (ltb rfl) rfl) ?_
  refine TriL.split (d := 22) rfl (fun hg1 => ?_) (fun hg1 => ?_)
  · refine TriL.g1 rfl (ltb rfl) rfl hg1 (op_mv (ltb rfl) rfl) ?_
    refine TriL.g1 rfl (ltb rfl) rfl hg1 (op_lit («as» := [_, _, _]) (ltb rfl) se36_MH zAe36_MH rfl rfl rfl (leb rfl)) ?_
    refine TriL.g1 rfl (ltb rfl) rfl hg1 (op_call (ltb rfl) fn9_MH rfl p_liveb) ?_
    refine TriL.c1 rfl (op_pickt (ltb rfl) rfl hg1 rfl) ?_
    refine TriL.c1 rfl (op_as (ltb rfl) rfl) ?_
    refine TriL.nil ?_
    refine Tri.ret ?_
    exact ⟨.inr rfl, (ResOK.r1 rfl (.tmp rfl .nil)).cast rfl, rfl⟩
  · refine TriL.skipu rfl rfl (ltb rfl) (ltb rfl) rfl hg1 ?_
    refine TriL.skipu rfl rfl (ltb rfl) (ltb rfl) rfl hg1 ?_
    refine TriL.skipu rfl rfl (ltb rfl) (ltb rfl) rfl hg1 ?_
    refine TriL.c1 rfl (op_pickf (ltb rfl) rfl hg1 rfl) ?_
    refine TriL.c1 rfl (op_as (ltb rfl) rfl) ?_
    refine TriL.nil ?_
    refine Tri.ret ?_
    exact ⟨.inr rfl, (ResOK.r1 rfl (.tmp rfl .nil)).cast (by exact absurd hg1 (by decide)), rfl⟩
end Go.Proofs.YtnpgcmeclkncnaaDoor.X
/- EncodePacks. -/
set_option linter.unusedVariables false
set_option linter.unusedSimpArgs false
set_option linter.unusedSectionVars false
set_option maxRecDepth 100000
namespace Go.Proofs.YtnpgcmeclkncnaaDoor.X
open Go Go.RowKit Go.Proofs
theorem fn4_MJ : isFn Tryd.prog 4 = true := by kernel_rfl
theorem fn5_MJ : isFn Tryd.prog 5 = true := by kernel_rfl
theorem fn6_MJ : isFn Tryd.prog 6 = true := by kernel_rfl
theorem lk23_MJ : lk Tryd.prog 23 = some (true, 7) := by kernel_rfl
theorem un24_MJ : Tryd.prog.underlying 24 = some (TypeDesc.slice 40) := Tryd.underlying24
theorem l_packs (f : Fld) (l : List Nat) (hll : l.length ≤ 140737488355328) (hn : ∀ n ∈ l, n < 18446744073709551616) : Pure Tryd.prog 3 [f.av, .sl (l.map (fun n : Nat => AV.int .u64 (n : Int)))] (.bool true) := by
  refine Pure.of_tri Tryd.func3 rfl rfl (ltb rfl) fun H => ?_
  refine Tri.seq ?_
  refine Tri.region ?_
  refine TriL.c2 rfl (op_box (ltb rfl) rfl rfl rfl) ?_
  refine TriL.c1 rfl (op_as (ltb rfl) rfl) ?_
  refine TriL.nil ?_
  refine Tri.seq ?_
  refine Tri.seq ?_
  refine Tri.region ?_
  refine TriL.c1 rfl (op_mv (ltb rfl) rfl) ?_
  refine TriL.c1 rfl (op_lenl (ltb rfl) un24_MJ rfl) ?_
  refine TriL.c1 rfl (op_bin (ltb rfl) rfl rfl rfl) ?_
  refine TriL.nil ?_
  refine Tri.cond rfl (fun hc1 => ?_) (fun hc1 => ?_)
  · refine Tri.seq ?_
    refine Tri.region ?_
    refine TriL.c1 rfl (op_call (ltb rfl) fn4_MJ rfl p_live) ?_
    refine TriL.c1 rfl (op_as (ltb rfl) rfl) ?_
    refine TriL.nil ?_
    refine Tri.ret ?_
    exact ⟨.inr rfl, (ResOK.r1 rfl (.tmp rfl .nil)).cast rfl, rfl⟩
  · refine Tri.skip ?_
    refine Tri.seq ?_
    refine Tri.drawn mixed rfl ?_
    refine TriD.c1 rfl (op_ldl (ltb rfl) lk23_MJ rfl rfl rfl) ?_
    refine TriD.c1 rfl (op_mv (ltb rfl) rfl) ?_
    refine TriD.c1 rfl (op_call (ltb rfl) fn5_MJ rfl (p_pack f l (by omega) hn (by have := packB_len f.ty l hn; have := of_decide_eq_false hc1; rw [List.length_map] at this; omega))) ?_
    refine TriD.c1 rfl (op_ldl (ltb rfl) lk23_MJ rfl rfl rfl) ?_
    refine TriD.c1 rfl (op_mv (ltb rfl) rfl) ?_
    refine TriD.c1 rfl (op_call (ltb rfl) fn6_MJ rfl (r_pack f l (by omega) hn (by have := packB_len f.ty l hn; have := of_decide_eq_false hc1; rw [List.length_map] at this; omega))) ?_
    refine TriD.c1 rfl (op_bin (ltb rfl) rfl rfl rfl) ?_
    refine TriD.c1 rfl (op_mv (ltb rfl) rfl) ?_
    refine TriD.split (d := 16) rfl (fun hg2 => ?_) (fun hg2 => ?_)
    · refine TriD.g1 rfl (ltb rfl) rfl hg2 (op_call (ltb rfl) fn4_MJ rfl p_live) ?_
      refine TriD.c1 rfl (op_pickt (ltb rfl) rfl hg2 rfl) ?_
      refine TriD.c1 rfl (op_as (ltb rfl) rfl) ?_
      refine TriD.nil (by kernel_rfl) (Kept.now ?_)
      refine Tri.ret ?_
      exact ⟨.inr rfl, (ResOK.r1 rfl (.tmp rfl .nil)).cast rfl, rfl⟩
    · refine TriD.skipu rfl rfl (ltb rfl) (ltb rfl) rfl hg2 ?_
      refine TriD.c1 rfl (op_pickf (ltb rfl) rfl hg2 rfl) ?_
      refine TriD.c1 rfl (op_as (ltb rfl) rfl) ?_
      refine TriD.nil (by kernel_rfl) (Kept.now ?_)
      refine Tri.ret ?_
      exact ⟨.inr rfl, (ResOK.r1 rfl (.tmp rfl .nil)).cast (by simp at hg2), rfl⟩

end Go.Proofs.YtnpgcmeclkncnaaDoor.X
/- Whatever comes in as a schema or a value is one. No condition. -/
set_option linter.unusedVariables false
set_option linter.unusedSimpArgs false
set_option maxRecDepth 100000
namespace Go.Proofs.YtnpgcmeclkncnaaDoor.X
open Go Go.RowKit Go.Proofs
section
variable {P : Program} {n : Nat} {t e : TypeId} {acs : List AV}
theorem ty_int {k : IntKind} (hu : P.underlying t = some (.int k)) (h : Ty P n t acs) : ∃ m, acs = [.int k m] ∧ (Lit.int k m).wf = true := by
  cases n with
  | zero => exact h.elim
  | succ n => unfold Ty at h; rw [hu] at h; exact h
theorem ty_bool (hu : P.underlying t = some .bool) (h : Ty P n t acs) : ∃ b, acs = [.bool b] := by
  cases n with
  | zero => exact h.elim
  | succ n => unfold Ty at h; rw [hu] at h; exact h
theorem ty_str (hu : P.underlying t = some .string) (h : Ty P n t acs) : ∃ s : Str, acs = [.str s] ∧ s.length ≤ 140737488355328 := by
  cases n with
  | zero => exact h.elim
  | succ n => unfold Ty at h; rw [hu] at h; obtain ⟨s, h1, h2⟩ := h; exact ⟨s, h1, by unfold reachBytes at h2; omega⟩
theorem ty_slice (hu : P.underlying t = some (.slice e)) (hb : 1 ≤ P.bytesOf e) (h : Ty P n t acs) : ∃ (k : Nat) (css : List (List AV)), k < n ∧ acs = [.sl (css.map (pack P e))] ∧ css.length ≤ 140737488355328 ∧ ∀ c ∈ css, Ty P k e c := by
  cases n with
  | zero => exact h.elim
  | succ n =>
    unfold Ty at h; rw [hu] at h
    obtain ⟨css, h1, h2, h3⟩ := h
    refine ⟨n, css, by omega, h1, ?_, h3⟩
    have : css.length * 1 ≤ css.length * P.bytesOf e := Nat.mul_le_mul_left _ hb
    unfold reachBytes at h2
    omega
theorem ty_struct {fs : Array Field} (hu : P.underlying t = some (.struct fs)) (h : Ty P n t acs) : ∃ k, k < n ∧ TyF P (Ty P k) (fs.toList.map (·.type)) acs := by
  cases n with
  | zero => exact h.elim
  | succ n => unfold Ty at h; rw [hu] at h; exact ⟨n, by omega, h⟩
theorem tyf_cons {R : TypeId → List AV → Prop} {t : TypeId} {ts : List TypeId} (h : TyF P R (t :: ts) acs) : ∃ a b, acs = a ++ b ∧ R t a ∧ TyF P R ts b := by
  obtain ⟨a, b, h1, _, h3, h4⟩ := h; exact ⟨a, b, h1, h3, h4⟩
theorem tyf_nil {R : TypeId → List AV → Prop} (h : TyF P R [] acs) : acs = [] := h
theorem pack_struct {fs : Array Field} (hu : P.underlying t = some (.struct fs)) (cs : List AV) : pack P t cs = .agg cs := by unfold pack; rw [hu]
theorem list_of {α : Type} {f : α → List AV} {Q : α → Prop} : ∀ {css : List (List AV)}, (∀ c ∈ css, ∃ x : α, c = f x ∧ Q x) → ∃ xs : List α, css = xs.map f ∧ ∀ x ∈ xs, Q x
  | [], _ => ⟨[], rfl, by simp⟩
  | c :: css, h => by
    obtain ⟨x, h1, h2⟩ := h c (by simp)
    obtain ⟨xs, h3, h4⟩ := list_of (css := css) fun c hc => h c (by simp [hc])
    exact ⟨x :: xs, by simp [h1, h3], by intro y hy; rcases List.mem_cons.1 hy with rfl | hy; exact h2; exact h4 y hy⟩
end
theorem map_pack {α : Type} {P : Program} {t : TypeId} {f : α → List AV} {g : α → AV} (h : ∀ x, pack P t (f x) = g x) (xs : List α) : (xs.map f).map (pack P t) = xs.map g := by
  rw [List.map_map]; congr 1; funext x; exact h x
theorem wfU64 {m : Int} (h : (Lit.int .u64 m).wf = true) : ∃ k : Nat, m = (k : Int) ∧ k < 18446744073709551616 := by
  have : 0 ≤ m ∧ m ≤ 18446744073709551615 := by simpa [Lit.wf, IntKind.min, IntKind.max, IntKind.signed, IntKind.bits] using h
  exact ⟨m.toNat, by omega, by omega⟩
abbrev TY := Ty Tryd.prog
theorem ty_fld {n : Nat} {acs : List AV} (h : TY n 23 acs) : ∃ f : Fld, acs = f.cells := by
  obtain ⟨k, _, h⟩ := ty_struct Tryd.underlying23 h
  obtain ⟨a1, b1, rfl, h1, wa1⟩ := tyf_cons h; obtain ⟨s1, rfl, _⟩ := ty_str Tryd.underlying9 h1
  obtain ⟨a2, b2, rfl, h1, wa2⟩ := tyf_cons wa1; obtain ⟨s2, rfl, _⟩ := ty_int Tryd.underlying3 h1
  obtain ⟨a3, b3, rfl, h1, wa3⟩ := tyf_cons wa2; obtain ⟨s3, rfl, _⟩ := ty_int Tryd.underlying3 h1
  obtain ⟨a4, b4, rfl, h1, wa4⟩ := tyf_cons wa3; obtain ⟨s4, rfl, _⟩ := ty_str Tryd.underlying9 h1
  obtain ⟨a5, b5, rfl, h1, wa5⟩ := tyf_cons wa4; obtain ⟨s5, rfl⟩ := ty_bool Tryd.underlying4 h1
  obtain ⟨a6, b6, rfl, h1, wa6⟩ := tyf_cons wa5; obtain ⟨s6, rfl⟩ := ty_bool Tryd.underlying4 h1
  obtain ⟨a7, b7, rfl, h1, wa7⟩ := tyf_cons wa6; obtain ⟨s7, rfl, _⟩ := ty_str Tryd.underlying9 h1
  obtain rfl := tyf_nil wa7
  exact ⟨⟨s1, s2, s3, s4, s5, s6, s7⟩, rfl⟩
theorem pk_fld (f : Fld) : pack Tryd.prog 23 f.cells = f.av := pack_struct Tryd.underlying23 _
def Val.fits (v : Val) : Prop := v.n < 18446744073709551616 ∧ v.s.length ≤ 140737488355328 ∧ v.m.length ≤ 140737488355328 ∧ ∀ u ∈ v.m, u.fits
def Slot.fits (x : Slot) : Prop := x.vals.length ≤ 140737488355328 ∧ ∀ v ∈ x.vals, v.fits
end Go.Proofs.YtnpgcmeclkncnaaDoor.X
