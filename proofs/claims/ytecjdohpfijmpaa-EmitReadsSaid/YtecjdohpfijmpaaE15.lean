/- the page's example; EmitNil. -/
import Derived.Test.YtecjdohpfijmpaaE14
set_option linter.unusedVariables false
set_option linter.unusedSimpArgs false
namespace Go.Proofs.Ytecjdohpfijmpaa.X
open Go Go.RowKit Go.Proofs
theorem fn15 : isFn Try.prog 15 = true := by kernel_rfl
theorem fn16 : isFn Try.prog 16 = true := by kernel_rfl
theorem fn17 : isFn Try.prog 17 = true := by kernel_rfl
theorem fn18 : isFn Try.prog 18 = true := by kernel_rfl
theorem fn19 : isFn Try.prog 19 = true := by kernel_rfl
theorem fn21 : isFn Try.prog 21 = true := by kernel_rfl
theorem fn29 : isFn Try.prog 29 = true := by kernel_rfl
theorem fn32 : isFn Try.prog 32 = true := by kernel_rfl
theorem fn33 : isFn Try.prog 33 = true := by kernel_rfl
theorem fn34 : isFn Try.prog 34 = true := by kernel_rfl
/-- a new object -/
def Hp.add (H : Hp) (cs : List Hc) : Hp := (⟨H.next + 1, H.obj⟩ : Hp).set H.next cs
theorem new_add (H : Hp) : Run Try.prog 16 [] H (.op H.next 0) (H.add (wr [] [])) := new_run H
theorem Hp.add_obj {H : Hp} {cs : List Hc} : (H.add cs).obj H.next = some cs := Hp.set_obj
theorem vput_300 : vput 300 = [172, 2] := by rw [vput_hi (by decide), vput_lo (by decide)]; rfl
theorem live_b : shut ([] ++ vput (8 * 2 + 0 : Int).toNat ++ [vput 300].flatten) 1 0 = [10, 3, 16, 172, 2] := by
  rw [vput_300, vput_lo (n := (8 * 2 + 0 : Int).toNat) (by decide)]
  simp only [shut, List.flatten_cons, List.flatten_nil]
  rw [vput_lo (n := (8 * 1 + 2 : Int).toNat) (by decide), vput_lo (by decide)]; rfl
theorem field_dead (H : Hp) (p : AV) (n w : Int) (ps : List (List UInt8)) (hi : Run Try.prog 40 [p] H (.bool false) H) : Run Try.prog 42 [p, .int .i64 n, .int .i64 w, .sl (sls ps)] H (.bool false) H := by
  cases hr : rightok n w with
  | true => exact field_no H p n w ps hr hi
  | false => exact field_bad H p n w ps hr
theorem fixed4_wrap' (H H' : Hp) (p : AV) (n m : Int) (x : Nat) (e : m = x) (hx : x < 4294967296) (c : Bool) (hf : Run Try.prog 42 [p, .int .i64 n, .int .i64 5, .sl (sls [fput x 4])] H (.bool c) H') : Run Try.prog 33 [p, .int .i64 n, .int .u32 m] H (.bool c) H' := e ▸ fixed4_wrap H H' p n x hx c hf
theorem wru64_mod (n : Nat) : IntKind.u64.wrap (n : Int) = ((n % 18446744073709551616 : Nat) : Int) := by simp only [IntKind.wrap, IntKind.bits, IntKind.signed]; simp
theorem wru32_mod (n : Nat) : IntKind.u32.wrap (n : Int) = ((n % 4294967296 : Nat) : Int) := by simp only [IntKind.wrap, IntKind.bits, IntKind.signed]; simp
theorem live_run (H : Hp) : Run Try.prog 15 [] H (.bool true) (H.add (wr (bsl [10, 3, 16, 172, 2]) [])) := by
  refine Run.of_tri Try.func15 rfl rfl (Nat.zero_le _) ?_
  refine Tri.seq ?_
  refine Tri.region ?_
  refine TriL.c1 rfl (op_as (ltb rfl) rfl) ?_
  refine TriL.nil ?_
  refine Tri.seq ?_
  refine Tri.region ?_
  refine TriL.c2 rfl (op_callh (ltb rfl) fn16 rfl rfl (new_add H)) ?_
  refine TriL.c1 rfl (op_as (ltb rfl) rfl) ?_
  refine TriL.nil ?_
  refine Tri.seq ?_
  refine Tri.region ?_
  refine TriL.c1 rfl (op_mv (ltb rfl) rfl) ?_
  refine TriL.c2 rfl (op_callh (ltb rfl) fn17 rfl rfl (open_run (H.add (wr [] [])) H.next 1 [] [] Hp.add_obj rfl (by decide))) ?_
  refine TriL.c1 rfl (op_mv (ltb rfl) rfl) ?_
  refine TriL.g1 rfl (ltb rfl) rfl rfl (op_mv (ltb rfl) rfl) ?_
  refine TriL.g2 rfl (ltb rfl) rfl rfl (op_callh (ltb rfl) fn32 rfl rfl (varint_wrap _ _ (.op H.next 0) 2 300 (by decide) true (field_run _ H.next [] [frm 1 0] 2 0 [vput 300] Hp.set_obj rfl (by rw [vput_300]; decide) (by simp)))) ?_
  refine TriL.c1 rfl (op_pickt (ltb rfl) rfl rfl rfl) ?_
  refine TriL.c1 rfl (op_mv (ltb rfl) rfl) ?_
  refine TriL.g1 rfl (ltb rfl) rfl rfl (op_mv (ltb rfl) rfl) ?_
  refine TriL.g2 rfl (ltb rfl) rfl rfl (op_callh (ltb rfl) fn19 rfl rfl (close_run _ H.next _ [] 1 0 Hp.set_obj (by simp) rfl (by omega) (by rw [vput_300, vput_lo (by decide)]; simp) (by decide))) ?_
  refine TriL.c1 rfl (op_pickt (ltb rfl) rfl rfl rfl) ?_
  refine TriL.c1 rfl (op_as (ltb rfl) rfl) ?_
  refine TriL.nil ?_
  refine Tri.seq ?_
  refine Tri.region ?_
  refine TriL.c1 rfl (op_mv (ltb rfl) rfl) ?_
  refine TriL.c1 rfl (op_mv (ltb rfl) rfl) ?_
  refine TriL.g1 rfl (ltb rfl) rfl rfl (op_mv (ltb rfl) rfl) ?_
  refine TriL.g2 rfl (ltb rfl) rfl rfl (op_callh (ltb rfl) fn21 rfl rfl (bytes_run _ H.next _ Hp.set_obj (by rw [live_b]; simp))) ?_
  rw [live_b]
  refine TriL.g1 rfl (ltb rfl) rfl rfl (op_lit («as» := [_, _, _, _, _]) (ltb rfl) se22 zAe22 rfl rfl rfl (leb rfl)) ?_
  refine TriL.g1 rfl (ltb rfl) rfl rfl (op_call (ltb rfl) fn13 rfl (bytes_pure _ [10, 3, 16, 172, 2])) ?_
  refine TriL.c1 rfl (op_pickt (ltb rfl) rfl rfl rfl) ?_
  refine TriL.c1 rfl (op_as (ltb rfl) rfl) ?_
  refine TriL.nil ?_
  refine Tri.ret ?_
  refine ⟨.inr rfl, (ResOK.r1 rfl (.tmp rfl .nil)).cast (by simp), ?_⟩
  have e : ((((H.add (wr [] [])).set H.next (wr (bsl []) ([] ++ [frm 1 (bsl []).length]))).set H.next (wr (bsl ([] ++ vput (8 * 2 + 0 : Int).toNat ++ [vput 300].flatten)) [frm 1 0])).set H.next (wr (bsl [10, 3, 16, 172, 2]) [])) = H.add (wr (bsl [10, 3, 16, 172, 2]) []) := by
    rw [Hp.set_set, Hp.set_set, Hp.add, Hp.set_set]; rfl
  exact congrArg (fun h => some (CV.hp h)) e
theorem text_wrap' (H H' : Hp) (p : AV) (n : Int) (x : List UInt8) (c : Bool) (hf : Run Try.prog 42 [p, .int .i64 n, .int .i64 2, .sl (sls [vput (x.length % 18446744073709551616), x])] H (.bool c) H') : Run Try.prog 18 [p, .int .i64 n, .str x] H (.bool c) H' := by
  refine Run.of_tri Try.func18 rfl rfl (ltb rfl) ?_
  refine Tri.seq ?_
  refine Tri.region ?_
  refine TriL.c1 rfl (op_as (ltb rfl) rfl) ?_
  refine TriL.nil ?_
  refine Tri.seq ?_
  refine Tri.region ?_
  refine TriL.c1 rfl (op_mv (ltb rfl) rfl) ?_
  refine TriL.c1 rfl (op_mv (ltb rfl) rfl) ?_
  refine TriL.c1 rfl (op_mv (ltb rfl) rfl) ?_
  refine TriL.c1 rfl (op_lens (ltb rfl) un9 rfl) ?_
  refine TriL.c1 rfl (op_cvi (ltb rfl) un3 un50 rfl) ?_
  refine TriL.c2 rfl (op_callo (ltb rfl) fn43 rfl (vput_pureO' (wru64_mod x.length) (by omega)) rfl) ?_
  refine TriL.c1 rfl (op_mv (ltb rfl) rfl) ?_
  refine TriL.c1 rfl (op_s2b (ltb rfl) un9 un22 unel22 rfl) ?_
  refine TriL.c1 rfl (op_lit («as» := [_, _]) (ltb rfl) se54 zAe54 rfl rfl rfl (leb rfl)) ?_
  refine TriL.c2 rfl (op_callh (ltb rfl) fn42 rfl rfl hf) ?_
  refine TriL.c1 rfl (op_as (ltb rfl) rfl) ?_
  refine TriL.nil ?_
  refine Tri.ret ?_
  exact ⟨.inr rfl, (ResOK.r1 rfl (.tmp rfl .nil)), rfl⟩
def hh (H : Hp) (i : Nat) : Hp := if i ≤ 1 then H else H.add deadw
def StN (H : Hp) (num : Int) (n : Nat) (x : List UInt8) (j : Int) : St := [(.h, .hp H), (.s 0, .sv (.v (.int .i64 num))), (.s 1, .sv (.v (.int .u64 (n : Int)))), (.s 2, .sv (.v (.str x))), (.s 7, .sv (.v (.int .i64 j)))]
theorem nil_run (H : Hp) (num : Int) (n : Nat) (hn : n < 18446744073709551616) (x : List UInt8) : Run Try.prog 8 [.int .i64 num, .int .u64 (n : Int), .str x] H (.bool true) ((H.add deadw).add (wr (bsl [10, 3, 16, 172, 2]) [])) := by
  refine Run.of_tri Try.func8 rfl rfl (ltb rfl) ?_
  refine Tri.seq ?_
  refine Tri.region ?_
  refine TriL.c1 rfl (op_as (ltb rfl) rfl) ?_
  refine TriL.nil ?_
  refine Tri.seq ?_
  refine Tri.seq ?_
  refine Tri.region ?_
  refine TriL.c1 rfl (op_as (ltb rfl) rfl) ?_
  refine TriL.kept (Kept.keep [.h, .s 0, .s 1, .s 2, .s 7] rfl (by decide) (Kept.now ?_))
  refine Tri.blk ?_
  -- LOOP 1: KEEP
  refine Tri.loop (fun q s => ∃ (i : Nat) (j : Int), s = StN (hh H i) num n x j ∧ j = i ∧ i ≤ 2 ∧ q = 2 - i) ?_ (n := 2) ⟨0, 0, rfl, rfl, by omega, rfl⟩
  rintro q s ⟨i, j, rfl, hj, hi, rfl⟩
  refine Tri.seq ?_
  refine Tri.seq ?_
  refine Tri.region ?_
  refine TriL.c1 rfl (op_mv (ltb rfl) rfl) ?_
  refine TriL.c1 rfl (op_bin (ltb rfl) rfl rfl rfl) ?_
  refine TriL.nil ?_
  refine Tri.cond rfl (fun hc1 => ?_) (fun hc1 => ?_)
  · have hlt : i < 2 := by have := of_decide_eq_true hc1; omega
    refine Tri.skip ?_
    refine Tri.seq ?_
    refine Tri.blk ?_
    refine Tri.seq ?_
    refine Tri.region ?_
    refine TriL.c1 rfl (op_as (ltb rfl) rfl) ?_
    refine TriL.nil ?_
    refine Tri.seq ?_
    refine Tri.seq ?_
    refine Tri.region ?_
    refine TriL.c1 rfl (op_mv (ltb rfl) rfl) ?_
    refine TriL.c1 rfl (op_bin (ltb rfl) rfl rfl rfl) ?_
    refine TriL.nil ?_
    refine Tri.cond rfl (fun hc2 => ?_) (fun hc2 => ?_)
    · have hi1 : i = 1 := by have := eq_of_beq hc2; omega
      refine Tri.region ?_
      refine TriL.c1 rfl (op_bldn (ltb rfl) spl59 zN59 rfl rfl) ?_
      refine TriL.c2 rfl (op_box (ltb rfl) rfl rfl rfl) ?_
      refine TriL.c1 rfl (op_as (ltb rfl) rfl) ?_
      refine TriL.kept (Kept.pub 16 rfl rfl (Kept.op 8 rfl rfl (Kept.cls 16 rfl rfl rfl rfl (Kept.now ?_))))
      refine Tri.seq ?_
      refine Tri.seq ?_
      refine Tri.region ?_
      refine TriL.c1 rfl (op_mv (ltb rfl) rfl) ?_
      refine TriL.c1 rfl (op_mv (ltb rfl) rfl) ?_
      refine TriL.c1 rfl (op_mv (ltb rfl) rfl) ?_
      refine TriL.c2 rfl (op_callh (ltb rfl) fn32 rfl rfl (varint_wrap _ _ _ num n hn false (field_dead _ _ num 0 [vput n] (is_dead _ _ Hp.set_obj)))) ?_
      refine TriL.c1 rfl (op_mv (ltb rfl) rfl) ?_
      refine TriL.g1 rfl (ltb rfl) rfl rfl (op_mv (ltb rfl) rfl) ?_
      refine TriL.g1 rfl (ltb rfl) rfl rfl (op_mv (ltb rfl) rfl) ?_
      refine TriL.g1 rfl (ltb rfl) rfl rfl (op_mv (ltb rfl) rfl) ?_
      refine TriL.g1 rfl (ltb rfl) rfl rfl (op_cvi (ltb rfl) un50 un62 rfl) ?_
      refine TriL.g2 rfl (ltb rfl) rfl rfl (op_callh (ltb rfl) fn33 rfl rfl (fixed4_wrap' _ _ _ num _ (n % 4294967296) (wru32_mod n) (by omega) false (field_dead _ _ num 5 [fput (n % 4294967296) 4] (is_dead _ _ Hp.set_obj)))) ?_
      refine TriL.c1 rfl (op_pickf (ltb rfl) rfl rfl rfl) ?_
      refine TriL.c1 rfl (op_mv (ltb rfl) rfl) ?_
      refine TriL.g1 rfl (ltb rfl) rfl rfl (op_mv (ltb rfl) rfl) ?_
      refine TriL.g1 rfl (ltb rfl) rfl rfl (op_mv (ltb rfl) rfl) ?_
      refine TriL.g1 rfl (ltb rfl) rfl rfl (op_mv (ltb rfl) rfl) ?_
      refine TriL.g2 rfl (ltb rfl) rfl rfl (op_callh (ltb rfl) fn34 rfl rfl (fixed8_wrap _ _ _ num n false (field_dead _ _ num 1 [fput n 8] (is_dead _ _ Hp.set_obj)))) ?_
      refine TriL.c1 rfl (op_pickf (ltb rfl) rfl rfl rfl) ?_
      refine TriL.c1 rfl (op_mv (ltb rfl) rfl) ?_
      refine TriL.g1 rfl (ltb rfl) rfl rfl (op_mv (ltb rfl) rfl) ?_
      refine TriL.g1 rfl (ltb rfl) rfl rfl (op_mv (ltb rfl) rfl) ?_
      refine TriL.g1 rfl (ltb rfl) rfl rfl (op_mv (ltb rfl) rfl) ?_
      refine TriL.g2 rfl (ltb rfl) rfl rfl (op_callh (ltb rfl) fn18 rfl rfl (text_wrap' _ _ _ num x false (field_dead _ _ num 2 [vput (x.length % 18446744073709551616), x] (is_dead _ _ Hp.set_obj)))) ?_
      refine TriL.c1 rfl (op_pickf (ltb rfl) rfl rfl rfl) ?_
      refine TriL.c1 rfl (op_mv (ltb rfl) rfl) ?_
      refine TriL.g1 rfl (ltb rfl) rfl rfl (op_mv (ltb rfl) rfl) ?_
      refine TriL.g1 rfl (ltb rfl) rfl rfl (op_mv (ltb rfl) rfl) ?_
      refine TriL.g2 rfl (ltb rfl) rfl rfl (op_callh (ltb rfl) fn17 rfl rfl (open_no _ _ num (is_dead _ _ Hp.set_obj))) ?_
      refine TriL.c1 rfl (op_pickf (ltb rfl) rfl rfl rfl) ?_
      refine TriL.c1 rfl (op_mv (ltb rfl) rfl) ?_
      refine TriL.g1 rfl (ltb rfl) rfl rfl (op_mv (ltb rfl) rfl) ?_
      refine TriL.g2 rfl (ltb rfl) rfl rfl (op_callh (ltb rfl) fn19 rfl rfl (close_no _ _ (is_dead _ _ Hp.set_obj))) ?_
      refine TriL.c1 rfl (op_pickf (ltb rfl) rfl rfl rfl) ?_
      refine TriL.c1 rfl (op_mv (ltb rfl) rfl) ?_
      refine TriL.g1 rfl (ltb rfl) rfl rfl (op_mv (ltb rfl) rfl) ?_
      refine TriL.g1 rfl (ltb rfl) rfl rfl (op_mv (ltb rfl) rfl) ?_
      refine TriL.g1 rfl (ltb rfl) rfl rfl (op_s2b (ltb rfl) un9 un22 unel22 rfl) ?_
      refine TriL.g1 rfl (ltb rfl) rfl rfl (op_lit («as» := [_]) (ltb rfl) se54 zAe54 rfl rfl rfl (leb rfl)) ?_
      refine TriL.g2 rfl (ltb rfl) rfl rfl (op_callh (ltb rfl) fn35 rfl rfl (plain_no _ _ [x] (is_dead _ _ Hp.set_obj))) ?_
      refine TriL.c1 rfl (op_pickf (ltb rfl) rfl rfl rfl) ?_
      refine TriL.nil ?_
      refine Tri.condF rfl rfl ?_
      refine Tri.skip ?_
      refine Tri.seq ?_
      refine Tri.region ?_
      refine TriL.c1 rfl (op_mv (ltb rfl) rfl) ?_
      refine TriL.c2 rfl (op_callh (ltb rfl) fn29 rfl rfl (len_no _ _ (is_dead _ _ Hp.set_obj))) ?_
      refine TriL.c1 rfl (op_bin (ltb rfl) rfl rfl rfl) ?_
      refine TriL.c1 rfl (op_mv (ltb rfl) rfl) ?_
      refine TriL.g1 rfl (ltb rfl) rfl rfl (op_mv (ltb rfl) rfl) ?_
      refine TriL.g2 rfl (ltb rfl) rfl rfl (op_callh (ltb rfl) fn31 rfl rfl (deep_no _ _ (is_dead _ _ Hp.set_obj))) ?_
      refine TriL.g1 rfl (ltb rfl) rfl rfl (op_bin (ltb rfl) rfl rfl rfl) ?_
      refine TriL.c1 rfl (op_pickf (ltb rfl) rfl rfl rfl) ?_
      refine TriL.c1 rfl (op_mv (ltb rfl) rfl) ?_
      refine TriL.g1 rfl (ltb rfl) rfl rfl (op_mv (ltb rfl) rfl) ?_
      refine TriL.g2 rfl (ltb rfl) rfl rfl (op_callh (ltb rfl) fn21 rfl rfl (bytes_no _ _ (is_dead _ _ Hp.set_obj))) ?_
      refine TriL.g1 rfl (ltb rfl) rfl rfl (op_lenl (ltb rfl) un22 rfl) ?_
      refine TriL.g1 rfl (ltb rfl) rfl rfl (op_bin (ltb rfl) rfl rfl rfl) ?_
      refine TriL.c1 rfl (op_pickf (ltb rfl) rfl rfl rfl) ?_
      refine TriL.nil ?_
      refine Tri.condF rfl rfl ?_
      refine Tri.skip ?_
      refine Tri.region ?_
      refine TriL.c1 rfl (op_mv (ltb rfl) rfl) ?_
      refine TriL.c1 rfl (op_bin (ltb rfl) rfl rfl rfl) ?_
      refine TriL.c1 rfl (op_as (ltb rfl) rfl) ?_
      refine TriL.kept (Kept.keep [.h, .s 0, .s 1, .s 2, .s 7] rfl (by decide) (Kept.now ?_))
      refine ⟨2 - (i + 1), by omega, i + 1, IntKind.i64.wrap (j + 1), ?_, by rw [hj, wr64] <;> omega, by omega, rfl⟩
      subst hi1
      rfl
    · have hi1 : i ≠ 1 := by intro e; subst e; subst hj; cases hc2
      refine Tri.skip ?_
      refine Tri.seq ?_
      refine Tri.seq ?_
      refine Tri.region ?_
      refine TriL.c1 rfl (op_mv (ltb rfl) rfl) ?_
      refine TriL.c1 rfl (op_mv (ltb rfl) rfl) ?_
      refine TriL.c1 rfl (op_mv (ltb rfl) rfl) ?_
      refine TriL.c2 rfl (op_callh (ltb rfl) fn32 rfl rfl (varint_wrap _ _ _ num n hn false (field_dead _ _ num 0 [vput n] (is_nil _)))) ?_
      refine TriL.c1 rfl (op_mv (ltb rfl) rfl) ?_
      refine TriL.g1 rfl (ltb rfl) rfl rfl (op_mv (ltb rfl) rfl) ?_
      refine TriL.g1 rfl (ltb rfl) rfl rfl (op_mv (ltb rfl) rfl) ?_
      refine TriL.g1 rfl (ltb rfl) rfl rfl (op_mv (ltb rfl) rfl) ?_
      refine TriL.g1 rfl (ltb rfl) rfl rfl (op_cvi (ltb rfl) un50 un62 rfl) ?_
      refine TriL.g2 rfl (ltb rfl) rfl rfl (op_callh (ltb rfl) fn33 rfl rfl (fixed4_wrap' _ _ _ num _ (n % 4294967296) (wru32_mod n) (by omega) false (field_dead _ _ num 5 [fput (n % 4294967296) 4] (is_nil _)))) ?_
      refine TriL.c1 rfl (op_pickf (ltb rfl) rfl rfl rfl) ?_
      refine TriL.c1 rfl (op_mv (ltb rfl) rfl) ?_
      refine TriL.g1 rfl (ltb rfl) rfl rfl (op_mv (ltb rfl) rfl) ?_
      refine TriL.g1 rfl (ltb rfl) rfl rfl (op_mv (ltb rfl) rfl) ?_
      refine TriL.g1 rfl (ltb rfl) rfl rfl (op_mv (ltb rfl) rfl) ?_
      refine TriL.g2 rfl (ltb rfl) rfl rfl (op_callh (ltb rfl) fn34 rfl rfl (fixed8_wrap _ _ _ num n false (field_dead _ _ num 1 [fput n 8] (is_nil _)))) ?_
      refine TriL.c1 rfl (op_pickf (ltb rfl) rfl rfl rfl) ?_
      refine TriL.c1 rfl (op_mv (ltb rfl) rfl) ?_
      refine TriL.g1 rfl (ltb rfl) rfl rfl (op_mv (ltb rfl) rfl) ?_
      refine TriL.g1 rfl (ltb rfl) rfl rfl (op_mv (ltb rfl) rfl) ?_
      refine TriL.g1 rfl (ltb rfl) rfl rfl (op_mv (ltb rfl) rfl) ?_
      refine TriL.g2 rfl (ltb rfl) rfl rfl (op_callh (ltb rfl) fn18 rfl rfl (text_wrap' _ _ _ num x false (field_dead _ _ num 2 [vput (x.length % 18446744073709551616), x] (is_nil _)))) ?_
      refine TriL.c1 rfl (op_pickf (ltb rfl) rfl rfl rfl) ?_
      refine TriL.c1 rfl (op_mv (ltb rfl) rfl) ?_
      refine TriL.g1 rfl (ltb rfl) rfl rfl (op_mv (ltb rfl) rfl) ?_
      refine TriL.g1 rfl (ltb rfl) rfl rfl (op_mv (ltb rfl) rfl) ?_
      refine TriL.g2 rfl (ltb rfl) rfl rfl (op_callh (ltb rfl) fn17 rfl rfl (open_no _ _ num (is_nil _))) ?_
      refine TriL.c1 rfl (op_pickf (ltb rfl) rfl rfl rfl) ?_
      refine TriL.c1 rfl (op_mv (ltb rfl) rfl) ?_
      refine TriL.g1 rfl (ltb rfl) rfl rfl (op_mv (ltb rfl) rfl) ?_
      refine TriL.g2 rfl (ltb rfl) rfl rfl (op_callh (ltb rfl) fn19 rfl rfl (close_no _ _ (is_nil _))) ?_
      refine TriL.c1 rfl (op_pickf (ltb rfl) rfl rfl rfl) ?_
      refine TriL.c1 rfl (op_mv (ltb rfl) rfl) ?_
      refine TriL.g1 rfl (ltb rfl) rfl rfl (op_mv (ltb rfl) rfl) ?_
      refine TriL.g1 rfl (ltb rfl) rfl rfl (op_mv (ltb rfl) rfl) ?_
      refine TriL.g1 rfl (ltb rfl) rfl rfl (op_s2b (ltb rfl) un9 un22 unel22 rfl) ?_
      refine TriL.g1 rfl (ltb rfl) rfl rfl (op_lit («as» := [_]) (ltb rfl) se54 zAe54 rfl rfl rfl (leb rfl)) ?_
      refine TriL.g2 rfl (ltb rfl) rfl rfl (op_callh (ltb rfl) fn35 rfl rfl (plain_no _ _ [x] (is_nil _))) ?_
      refine TriL.c1 rfl (op_pickf (ltb rfl) rfl rfl rfl) ?_
      refine TriL.nil ?_
      refine Tri.condF rfl rfl ?_
      refine Tri.skip ?_
      refine Tri.seq ?_
      refine Tri.region ?_
      refine TriL.c1 rfl (op_mv (ltb rfl) rfl) ?_
      refine TriL.c2 rfl (op_callh (ltb rfl) fn29 rfl rfl (len_no _ _ (is_nil _))) ?_
      refine TriL.c1 rfl (op_bin (ltb rfl) rfl rfl rfl) ?_
      refine TriL.c1 rfl (op_mv (ltb rfl) rfl) ?_
      refine TriL.g1 rfl (ltb rfl) rfl rfl (op_mv (ltb rfl) rfl) ?_
      refine TriL.g2 rfl (ltb rfl) rfl rfl (op_callh (ltb rfl) fn31 rfl rfl (deep_no _ _ (is_nil _))) ?_
      refine TriL.g1 rfl (ltb rfl) rfl rfl (op_bin (ltb rfl) rfl rfl rfl) ?_
      refine TriL.c1 rfl (op_pickf (ltb rfl) rfl rfl rfl) ?_
      refine TriL.c1 rfl (op_mv (ltb rfl) rfl) ?_
      refine TriL.g1 rfl (ltb rfl) rfl rfl (op_mv (ltb rfl) rfl) ?_
      refine TriL.g2 rfl (ltb rfl) rfl rfl (op_callh (ltb rfl) fn21 rfl rfl (bytes_no _ _ (is_nil _))) ?_
      refine TriL.g1 rfl (ltb rfl) rfl rfl (op_lenl (ltb rfl) un22 rfl) ?_
      refine TriL.g1 rfl (ltb rfl) rfl rfl (op_bin (ltb rfl) rfl rfl rfl) ?_
      refine TriL.c1 rfl (op_pickf (ltb rfl) rfl rfl rfl) ?_
      refine TriL.nil ?_
      refine Tri.condF rfl rfl ?_
      refine Tri.skip ?_
      refine Tri.region ?_
      refine TriL.c1 rfl (op_mv (ltb rfl) rfl) ?_
      refine TriL.c1 rfl (op_bin (ltb rfl) rfl rfl rfl) ?_
      refine TriL.c1 rfl (op_as (ltb rfl) rfl) ?_
      refine TriL.kept (Kept.keep [.h, .s 0, .s 1, .s 2, .s 7] rfl (by decide) (Kept.now ?_))
      refine ⟨2 - (i + 1), by omega, i + 1, IntKind.i64.wrap (j + 1), ?_, by rw [hj, wr64] <;> omega, by omega, rfl⟩
      obtain rfl : i = 0 := by omega
      rfl
  · have hge : i = 2 := by have := of_decide_eq_false hc1; omega
    subst hge
    refine Tri.exit ?_
    refine Tri.seq ?_
    refine Tri.region ?_
    refine TriL.c2 rfl (op_callh (ltb rfl) fn15 rfl rfl (live_run _)) ?_
    refine TriL.c1 rfl (op_as (ltb rfl) rfl) ?_
    refine TriL.nil ?_
    refine Tri.ret ?_
    exact ⟨.inr rfl, (ResOK.r1 rfl (.tmp rfl .nil)), rfl⟩
end Go.Proofs.Ytecjdohpfijmpaa.X
