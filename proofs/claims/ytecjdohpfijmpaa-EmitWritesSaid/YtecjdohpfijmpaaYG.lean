/- EmitReads: what is written in frames, and texts, is read back. -/
import Derived.Test.YtecjdohpfijmpaaYF
import Derived.Test.YtecjdohpfijmpaaYC
import Derived.Test.YtecjdohpfijmpaaYB
set_option linter.unusedVariables false
set_option linter.unusedSimpArgs false
namespace Go.Proofs.Ytecjdohpfijmpaa.X
open Go Go.RowKit Go.Proofs
theorem fn20 : isFn Try.prog 20 = true := by kernel_rfl
theorem fn22 : isFn Try.prog 22 = true := by kernel_rfl
theorem fn23 : isFn Try.prog 23 = true := by kernel_rfl
theorem fn24 : isFn Try.prog 24 = true := by kernel_rfl
theorem fn25 : isFn Try.prog 25 = true := by kernel_rfl
theorem ie30 : ie Try.prog 30 = some 1 := by kernel_rfl
theorem lk9 : lk Try.prog 9 = some (false, 1) := by kernel_rfl
theorem un30 : Try.prog.underlying 30 = some (TypeDesc.slice 9) := Try.underlying30
/-- the frames that are open, of the first numbers, all at the start -/
def frs (i : Nat) : List AV := (List.range i).map fun k => frm ((k + 1 : Nat) : Int) ((0 : Nat) : Int)
theorem frs_succ (i : Nat) : frs (i + 1) = frs i ++ [frm ((i + 1 : Nat) : Int) ((0 : Nat) : Int)] := by simp [frs, List.range_succ]
theorem frs_len (i : Nat) : (frs i).length = i := by simp [frs]
theorem frs_ok (i : Nat) : ∀ f ∈ frs i, ∃ a b, f = frm a b := by
  intro f hf; simp only [frs, List.mem_map] at hf; obtain ⟨k, _, rfl⟩ := hf; exact ⟨_, _, rfl⟩
/-- texts of the field 7 -/
def txt (l : List (List UInt8)) : List UInt8 := l.flatMap fun x => vput 58 ++ (vput x.length ++ x)
theorem txt_cons (x : List UInt8) (l : List (List UInt8)) : txt (x :: l) = vput 58 ++ (vput x.length ++ (x ++ txt l)) := by simp [txt]
theorem txt_take {l : List (List UInt8)} {i : Nat} {x : List UInt8} (h : l[i]? = some x) : txt (l.take (i + 1)) = txt (l.take i) ++ vput 58 ++ [vput x.length, x].flatten := by
  rw [List.take_add_one, h]; simp [txt]
theorem txt_len {l : List (List UInt8)} (h : ∀ x ∈ l, x.length ≤ 300) : (txt l).length ≤ 320 * l.length := by
  induction l with
  | nil => simp [txt]
  | cons x l ih =>
    have h1 := h x (by simp)
    have h2 := ih (fun y hy => h y (by simp [hy]))
    have h3 := vput_max (n := 58) (by decide)
    have h4 := vput_max (n := x.length) (by omega)
    rw [txt_cons]; simp only [List.length_append, List.length_cons]; omega
/-- what is there when j of n frames are shut -/
def lay (t : List UInt8) (n : Nat) : Nat → List UInt8
  | 0 => t
  | j + 1 => vput (8 * (n - j) + 2) ++ (vput (lay t n j).length ++ lay t n j)
theorem lay_len (t : List UInt8) (n : Nat) (hn : n ≤ 9) (ht : t.length ≤ 6400) : ∀ j, j ≤ 9 → (lay t n j).length ≤ 6400 + 20 * j
  | 0, _ => by simp [lay]; exact ht
  | j + 1, h => by
    have h1 := lay_len t n hn ht j (by omega)
    have h2 := vput_max (n := 8 * (n - j) + 2) (by omega)
    have h3 := vput_max (n := (lay t n j).length) (by omega)
    simp only [lay, List.length_append]; omega
theorem shut_lay (t : List UInt8) (n j : Nat) : shut (lay t n j) ((n - j : Nat) : Int) 0 = lay t n (j + 1) := by
  simp only [shut, lay, List.take_zero, List.nil_append, List.drop_zero, Nat.sub_zero, List.append_assoc]
  congr 2
theorem rightok_num (i : Nat) (h : i ≤ 8) : rightok ((i + 1 : Nat) : Int) 2 = true := decide_eq_true (by omega)
def StR (H : Hp) (id : Nat) (l : List (List UInt8)) (n : Nat) (k : Nat) (j : Int) : St := [(.h, .hp H), (.s 0, .sv (.v (.sl (l.map .str)))), (.s 5, .sv (.v (.op id 0))), (.s 6, .sv (.v (.int .i64 (n : Int)))), (.s k, .sv (.v (.int .i64 j)))]
def StC (H : Hp) (id : Nat) (l : List (List UInt8)) (n : Nat) (k : Nat) (j : Int) : St := [(.h, .hp H), (.s 0, .sv (.v (.sl (l.map .str)))), (.s 6, .sv (.v (.int .i64 (n : Int)))), (.s 10, .sv (.v (.op id 0))), (.s k, .sv (.v (.int .i64 j)))]
theorem drop_len {α : Type} {B X : List α} {p : Nat} (h : B.drop p = X) (hp : p ≤ B.length) : p + X.length = B.length := by rw [← h, List.length_drop]; omega
theorem drop_more {α : Type} {B X Y : List α} {p k : Nat} (h : B.drop p = X ++ Y) (hk : k = X.length) : B.drop (p + k) = Y := by
  subst hk; rw [← List.drop_drop, h, List.drop_left]
theorem vget_in {B : List UInt8} {p x : Nat} {r : List UInt8} (h : B.drop p = vput x ++ r) (hx : x < 18446744073709551616) (hp : p ≤ B.length) : vget ((B.drop p).take (B.length - p)) = (x, (vput x).length) := by
  rw [List.take_of_length_le (by rw [List.length_drop]; exact Nat.le_refl _), h]; exact vget_put x r hx
theorem rep_succ {α : Type} (i : Nat) (x : α) : List.replicate i x ++ [x] ++ [x] = List.replicate (i + 1) x ++ [x] := by rw [List.replicate_succ']
theorem open_run' (H : Hp) (id : Nat) (n : Int) (b : List UInt8) (fs : List AV) (m : Nat) (ho : H.obj id = some (wr (bsl b) fs)) (hr : rightok n 2 = true) (hl : fs.length ≤ 1048576) (e : b.length = m) : Run Try.prog 17 [.op id 0, .int .i64 n] H (.bool true) (H.set id (wr (bsl b) (fs ++ [frm n ((m : Nat) : Int)]))) := by
  have := open_run H id n b fs ho hr hl
  rw [bsl_len, e] at this; exact this
theorem reads_run (H : Hp) (l : List (List UInt8)) (d : Nat) (hd0 : d < 256) : RunX Try.prog 6 [.sl (l.map .str), .int .u8 (d : Int)] H (.bool true) := by
  have hdm : IntKind.i64.wrap (((d : Int)).tmod 10) = ((d % 10 : Nat) : Int) := by rw [Int.tmod_eq_emod_of_nonneg (by omega), wr64 (by omega) (by omega)]; omega
  have hml0 : (l.map AV.str).length = l.length := by simp
  refine RunX.of_tri Try.func6 rfl rfl (ltb rfl) ?_
  refine Tri.seq ?_
  refine Tri.region ?_
  refine TriL.c1 rfl (op_as (ltb rfl) rfl) ?_
  refine TriL.nil ?_
  refine Tri.seq ?_
  refine Tri.seq ?_
  refine Tri.region ?_
  refine TriL.c1 rfl (op_mv (ltb rfl) rfl) ?_
  refine TriL.c1 rfl (op_lenl (ltb rfl) un30 rfl) ?_
  refine TriL.c1 rfl (op_bin (ltb rfl) rfl rfl rfl) ?_
  refine TriL.nil ?_
  refine Tri.cond rfl (fun hc1 => ?_) (fun hc1 => ?_)
  · refine Tri.seq ?_
    refine Tri.region ?_
    refine TriL.c2 rfl (op_callh (ltb rfl) fn15 rfl rfl (live_run _)) ?_
    refine TriL.c1 rfl (op_as (ltb rfl) rfl) ?_
    refine TriL.nil ?_
    refine Tri.ret ?_
    exact ⟨.inr rfl, (ResOK.r1 rfl (.tmp rfl .nil))⟩
  · have h20 : l.length ≤ 20 := by have := of_decide_eq_false hc1; omega
    have hd : d % 10 ≤ 9 := by omega
    refine Tri.skip ?_
    refine Tri.seq ?_
    refine Tri.region ?_
    refine TriL.c2 rfl (op_callh (ltb rfl) fn16 rfl rfl (new_add H)) ?_
    refine TriL.c1 rfl (op_as (ltb rfl) rfl) ?_
    refine TriL.nil ?_
    refine Tri.seq ?_
    refine Tri.region ?_
    refine TriL.c1 rfl (op_mv (ltb rfl) rfl) ?_
    refine TriL.c1 rfl (op_bin (ltb rfl) rfl rfl rfl) ?_
    refine TriL.c1 rfl (op_cvi (ltb rfl) un5 un3 rfl) ?_
    refine TriL.c1 rfl (op_as (ltb rfl) rfl) ?_
    refine TriL.nil ?_
    refine Tri.seq ?_
    refine Tri.seq ?_
    refine Tri.region ?_
    refine TriL.c1 rfl (op_as (ltb rfl) rfl) ?_
    rw [hdm]
    refine TriL.kept (Kept.keep [.h, .s 0, .s 5, .s 6, .s 7] rfl (by decide) (Kept.now ?_))
    refine Tri.blk ?_
    -- LOOP 1: KEEP
    refine Tri.loop (fun q s => ∃ (i : Nat) (HH : Hp) (j : Int), s = StR HH H.next l (d % 10) 7 j ∧ j = i ∧ HH.obj H.next = some (wr (bsl []) (frs i)) ∧ i ≤ d % 10 ∧ q = d % 10 - i) ?_ (n := d % 10) ⟨0, _, 0, rfl, rfl, Hp.add_obj, by omega, rfl⟩
    rintro q s ⟨i, HH, j, rfl, hj, ho, hi, rfl⟩
    refine Tri.seq ?_
    refine Tri.seq ?_
    refine Tri.region ?_
    refine TriL.c1 rfl (op_mv (ltb rfl) rfl) ?_
    refine TriL.c1 rfl (op_mv (ltb rfl) rfl) ?_
    refine TriL.c1 rfl (op_bin (ltb rfl) rfl rfl rfl) ?_
    refine TriL.nil ?_
    refine Tri.cond rfl (fun hc2 => ?_) (fun hc2 => ?_)
    · have hlt : i < d % 10 := by have := of_decide_eq_true hc2; omega
      refine Tri.skip ?_
      refine Tri.seq ?_
      refine Tri.blk ?_
      refine Tri.seq ?_
      refine Tri.region ?_
      refine TriL.c1 rfl (op_mv (ltb rfl) rfl) ?_
      refine TriL.c1 rfl (op_mv (ltb rfl) rfl) ?_
      refine TriL.c1 rfl (op_bin (ltb rfl) rfl rfl rfl) ?_
      refine TriL.c2 rfl (op_callh (ltb rfl) fn17 rfl rfl (open_run' HH H.next _ [] (frs i) 0 ho (by rw [hj, wr64 (by omega) (by omega)]; exact rightok_num i (by omega)) (by rw [frs_len]; omega) rfl)) ?_
      refine TriL.c1 rfl (op_un (ltb rfl) rfl rfl) ?_
      refine TriL.nil ?_
      refine Tri.condF rfl rfl ?_
      refine Tri.skip ?_
      refine Tri.region ?_
      refine TriL.c1 rfl (op_mv (ltb rfl) rfl) ?_
      refine TriL.c1 rfl (op_bin (ltb rfl) rfl rfl rfl) ?_
      refine TriL.c1 rfl (op_as (ltb rfl) rfl) ?_
      refine TriL.kept (Kept.keep [.h, .s 0, .s 5, .s 6, .s 7] rfl (by decide) (Kept.now ?_))
      refine ⟨d % 10 - (i + 1), by omega, i + 1, _, IntKind.i64.wrap (j + 1), rfl, by rw [hj, wr64] <;> omega, ?_, by omega, rfl⟩
      rw [show IntKind.i64.wrap (j + 1) = ((i + 1 : Nat) : Int) by rw [hj, wr64 (by omega) (by omega)]; omega, frs_succ]; exact Hp.set_obj
    · have hge : i = d % 10 := by have := of_decide_eq_false hc2; omega
      subst hge
      refine Tri.exit ?_
      refine Tri.seq ?_
      refine Tri.seq ?_
      refine Tri.region ?_
      refine TriL.c1 rfl (op_as (ltb rfl) rfl) ?_
      refine TriL.kept (Kept.keep [.h, .s 0, .s 5, .s 6, .s 8] rfl (by decide) (Kept.now ?_))
      refine Tri.blk ?_
      -- LOOP 2: KEEP
      refine Tri.loop (fun q s => ∃ (i : Nat) (HH : Hp) (j : Int), s = StR HH H.next l (d % 10) 8 j ∧ j = i ∧ HH.obj H.next = some (wr (bsl (txt (l.take i))) (frs (d % 10))) ∧ (∀ x ∈ l.take i, x.length ≤ 300) ∧ i ≤ l.length ∧ q = l.length - i) ?_ (n := l.length) ⟨0, _, 0, rfl, rfl, ho, by simp, by omega, rfl⟩
      clear ho
      clear hj
      clear hi
      clear HH
      rintro q s ⟨i, HH, j, rfl, hj, ho, hall, hi, rfl⟩
      have hml : (l.map AV.str).length = l.length := by simp
      refine Tri.seq ?_
      refine Tri.seq ?_
      refine Tri.region ?_
      refine TriL.c1 rfl (op_mv (ltb rfl) rfl) ?_
      refine TriL.c1 rfl (op_mv (ltb rfl) rfl) ?_
      refine TriL.c1 rfl (op_lenl (ltb rfl) un30 rfl) ?_
      refine TriL.c1 rfl (op_bin (ltb rfl) rfl rfl rfl) ?_
      refine TriL.nil ?_
      refine Tri.cond rfl (fun hc3 => ?_) (fun hc3 => ?_)
      · have hlt : i < l.length := by have := of_decide_eq_true hc3; omega
        obtain ⟨x, hx⟩ : ∃ x, l[i]? = some x := ⟨l[i], List.getElem?_eq_getElem hlt⟩
        have hxs : (l.map AV.str)[j.toNat]? = some (.str x) := by subst hj; simp [hx]
        have htl := txt_len hall
        rw [List.length_take, Nat.min_eq_left (by omega)] at htl
        refine Tri.skip ?_
        refine Tri.seq ?_
        refine Tri.blk ?_
        refine Tri.seq ?_
        refine Tri.region ?_
        refine TriL.c1 rfl (op_mv (ltb rfl) rfl) ?_
        refine TriL.c1 rfl (op_mv (ltb rfl) rfl) ?_
        refine TriL.c1 rfl (op_iak (ltb rfl) ie30 rfl rfl (by omega) hxs rfl) ?_
        refine TriL.c1 rfl (op_ldk (ltb rfl) lk9 rfl rfl) ?_
        refine TriL.c1 rfl (op_lens (ltb rfl) un9 rfl) ?_
        refine TriL.c1 rfl (op_bin (ltb rfl) rfl rfl rfl) ?_
        refine TriL.c1 rfl (op_mv (ltb rfl) rfl) ?_
        have hvx := vput_max (n := x.length % 18446744073709551616) (by omega)
        have h58 := vput_max (n := 58) (by decide)
        refine TriL.split (d := 47) rfl (fun hg4 => ?_) (fun hg4 => ?_)
        · refine TriL.skipu rfl rfl (ltb rfl) (ltb rfl) rfl hg4 ?_
          refine TriL.skipu rfl rfl (ltb rfl) (ltb rfl) rfl hg4 ?_
          refine TriL.skipu rfl rfl (ltb rfl) (ltb rfl) rfl hg4 ?_
          refine TriL.skipu rfl rfl (ltb rfl) (ltb rfl) rfl hg4 ?_
          refine TriL.skipu rfl rfl (ltb rfl) (ltb rfl) rfl hg4 ?_
          refine TriL.skipu rfl rfl (ltb rfl) (ltb rfl) rfl hg4 ?_
          refine TriL.skipu rfl rfl (ltb rfl) (ltb rfl) rfl hg4 ?_
          refine TriL.c1 rfl (op_pickt (ltb rfl) rfl hg4 rfl) ?_
          refine TriL.nil ?_
          refine Tri.condT rfl rfl ?_
          refine Tri.seq ?_
          refine Tri.region ?_
          refine TriL.c1 rfl (op_mv (ltb rfl) rfl) ?_
          refine TriL.c1 rfl (op_mv (ltb rfl) rfl) ?_
          refine TriL.c1 rfl (op_iak (ltb rfl) ie30 rfl rfl (by omega) hxs rfl) ?_
          refine TriL.c1 rfl (op_ldk (ltb rfl) lk9 rfl rfl) ?_
          refine TriL.c1 rfl (op_lens (ltb rfl) un9 rfl) ?_
          refine TriL.c1 rfl (op_bin (ltb rfl) rfl rfl rfl) ?_
          refine TriL.c1 rfl (op_mv (ltb rfl) rfl) ?_
          refine TriL.g2 rfl (ltb rfl) rfl hg4 (op_callh (ltb rfl) fn15 rfl rfl (live_run _)) ?_
          refine TriL.c1 rfl (op_pickt (ltb rfl) rfl hg4 rfl) ?_
          refine TriL.c1 rfl (op_as (ltb rfl) rfl) ?_
          refine TriL.nil ?_
          refine Tri.ret ?_
          exact ⟨.inr rfl, (ResOK.r1 rfl (.tmp rfl .nil))⟩
        · have hx3 : x.length ≤ 300 := by have := of_decide_eq_false hg4; omega
          have hvx2 := vput_max (n := x.length) (by omega)
          refine TriL.g1 rfl (ltb rfl) rfl hg4 (op_mv (ltb rfl) rfl) ?_
          refine TriL.g1 rfl (ltb rfl) rfl hg4 (op_mv (ltb rfl) rfl) ?_
          refine TriL.g1 rfl (ltb rfl) rfl hg4 (op_mv (ltb rfl) rfl) ?_
          refine TriL.g1 rfl (ltb rfl) rfl hg4 (op_iak (ltb rfl) ie30 rfl rfl (by omega) hxs rfl) ?_
          refine TriL.g1 rfl (ltb rfl) rfl hg4 (op_ldk (ltb rfl) lk9 rfl rfl) ?_
          refine TriL.g2 rfl (ltb rfl) rfl hg4 (op_callh (ltb rfl) fn18 rfl rfl (text_wrap' _ _ _ 7 x true (by have hf := field_run HH H.next (txt (l.take i)) (frs (d % 10)) 7 2 [vput x.length, x] ho rfl (by simp only [List.flatten_cons, List.flatten_nil, List.append_nil, List.length_append]; omega) (by simp); rw [Nat.mod_eq_of_lt (show x.length < 18446744073709551616 by omega)]; exact hf))) ?_
          refine TriL.g1 rfl (ltb rfl) rfl hg4 (op_un (ltb rfl) rfl rfl) ?_
          refine TriL.c1 rfl (op_pickf (ltb rfl) rfl hg4 rfl) ?_
          refine TriL.nil ?_
          refine Tri.condF rfl rfl ?_
          refine Tri.skip ?_
          refine Tri.region ?_
          refine TriL.c1 rfl (op_mv (ltb rfl) rfl) ?_
          refine TriL.c1 rfl (op_bin (ltb rfl) rfl rfl rfl) ?_
          refine TriL.c1 rfl (op_as (ltb rfl) rfl) ?_
          refine TriL.kept (Kept.keep [.h, .s 0, .s 5, .s 6, .s 8] rfl (by decide) (Kept.now ?_))
          refine ⟨l.length - (i + 1), by omega, i + 1, _, IntKind.i64.wrap (j + 1), rfl, by rw [hj, wr64] <;> omega, by rw [txt_take hx]; exact Hp.set_obj, ?_, by omega, rfl⟩
          intro y hy
          rw [List.take_add_one, hx] at hy
          rcases List.mem_append.1 hy with h | h
          · exact hall y h
          · simp at h; subst h; exact hx3
      · have hge : i = l.length := by have := of_decide_eq_false hc3; omega
        subst hge
        rw [List.take_length] at ho hall
        have htl := txt_len hall
        refine Tri.exit ?_
        refine Tri.seq ?_
        refine Tri.seq ?_
        refine Tri.region ?_
        refine TriL.c1 rfl (op_as (ltb rfl) rfl) ?_
        refine TriL.kept (Kept.keep [.h, .s 0, .s 5, .s 6, .s 9] rfl (by decide) (Kept.now ?_))
        refine Tri.blk ?_
        -- LOOP 3: KEEP
        refine Tri.loop (fun q s => ∃ (i : Nat) (HH : Hp) (j : Int), s = StR HH H.next l (d % 10) 9 j ∧ j = i ∧ HH.obj H.next = some (wr (bsl (lay (txt l) (d % 10) i)) (frs (d % 10 - i))) ∧ i ≤ d % 10 ∧ q = d % 10 - i) ?_ (n := d % 10) ⟨0, _, 0, rfl, rfl, ho, by omega, rfl⟩
        clear ho
        clear hj
        clear HH
        rintro q s ⟨i, HH, j, rfl, hj, ho, hi, rfl⟩
        have hll := lay_len (txt l) (d % 10) hd (by omega) i (by omega)
        refine Tri.seq ?_
        refine Tri.seq ?_
        refine Tri.region ?_
        refine TriL.c1 rfl (op_mv (ltb rfl) rfl) ?_
        refine TriL.c1 rfl (op_mv (ltb rfl) rfl) ?_
        refine TriL.c1 rfl (op_bin (ltb rfl) rfl rfl rfl) ?_
        refine TriL.nil ?_
        refine Tri.cond rfl (fun hc5 => ?_) (fun hc5 => ?_)
        · have hlt : i < d % 10 := by have := of_decide_eq_true hc5; omega
          have hfr : frs (d % 10 - i) = frs (d % 10 - (i + 1)) ++ [frm ((d % 10 - i : Nat) : Int) ((0 : Nat) : Int)] := by
            rw [show d % 10 - i = d % 10 - (i + 1) + 1 by omega, frs_succ]
          refine Tri.skip ?_
          refine Tri.seq ?_
          refine Tri.blk ?_
          refine Tri.seq ?_
          refine Tri.region ?_
          refine TriL.c1 rfl (op_mv (ltb rfl) rfl) ?_
          refine TriL.c2 rfl (op_callh (ltb rfl) fn19 rfl rfl (close_run HH H.next (lay (txt l) (d % 10) i) (frs (d % 10 - (i + 1))) ((d % 10 - i : Nat) : Int) 0 (by rw [ho, hfr]) (frs_ok _) (decide_eq_true (by omega)) (by omega) (by omega) (by rw [frs_len]; omega))) ?_
          refine TriL.c1 rfl (op_un (ltb rfl) rfl rfl) ?_
          refine TriL.nil ?_
          refine Tri.condF rfl rfl ?_
          refine Tri.skip ?_
          refine Tri.region ?_
          refine TriL.c1 rfl (op_mv (ltb rfl) rfl) ?_
          refine TriL.c1 rfl (op_bin (ltb rfl) rfl rfl rfl) ?_
          refine TriL.c1 rfl (op_as (ltb rfl) rfl) ?_
          refine TriL.kept (Kept.keep [.h, .s 0, .s 5, .s 6, .s 9] rfl (by decide) (Kept.now ?_))
          refine ⟨d % 10 - (i + 1), by omega, i + 1, _, IntKind.i64.wrap (j + 1), rfl, by rw [hj, wr64] <;> omega, by rw [shut_lay]; exact Hp.set_obj, by omega, rfl⟩
        · have hge : i = d % 10 := by have := of_decide_eq_false hc5; omega
          rw [hge] at ho hll
          rw [show frs (d % 10 - d % 10) = [] by rw [Nat.sub_self]; rfl] at ho
          generalize hBe : lay (txt l) (d % 10) (d % 10) = B at ho hll
          refine Tri.exit ?_
          refine Tri.seq ?_
          refine Tri.region ?_
          refine TriL.c1 rfl (op_mv (ltb rfl) rfl) ?_
          refine TriL.c1 rfl (op_callk (ltb rfl) fn21 rfl rfl (bytes_run HH H.next B ho (by omega))) ?_
          refine TriL.c2 rfl (op_callh (ltb rfl) fn20 rfl rfl (from_run HH B)) ?_
          refine TriL.c1 rfl (op_as (ltb rfl) rfl) ?_
          refine TriL.nil ?_
          refine Tri.seq ?_
          refine Tri.seq ?_
          refine Tri.region ?_
          refine TriL.c1 rfl (op_as (ltb rfl) rfl) ?_
          refine TriL.kept (Kept.keep [.h, .s 0, .s 6, .s 10, .s 11] rfl (by decide) (Kept.now ?_))
          refine Tri.blk ?_
          -- LOOP 4: KEEP
          refine Tri.loop (fun q s => ∃ (i : Nat) (H2 : Hp) (j : Int) (p : Nat), s = StC H2 HH.next l (d % 10) 11 j ∧ j = i ∧ H2.obj HH.next = some (curs B p (List.replicate i B.length ++ [B.length]) false) ∧ B.drop p = lay (txt l) (d % 10) (d % 10 - i) ∧ p ≤ B.length ∧ i ≤ d % 10 ∧ q = d % 10 - i) ?_ (n := d % 10) ⟨0, _, 0, 0, rfl, rfl, Hp.add_obj, by rw [List.drop_zero, ← hBe, Nat.sub_zero], by omega, by omega, rfl⟩
          clear ho
          clear hj
          clear hi
          clear hge
          clear hc5
          rintro q s ⟨i2, H2, j2, p, rfl, hj, ho, hB, hp, hi, rfl⟩
          refine Tri.seq ?_
          refine Tri.seq ?_
          refine Tri.region ?_
          refine TriL.c1 rfl (op_mv (ltb rfl) rfl) ?_
          refine TriL.c1 rfl (op_mv (ltb rfl) rfl) ?_
          refine TriL.c1 rfl (op_bin (ltb rfl) rfl rfl rfl) ?_
          refine TriL.nil ?_
          refine Tri.cond rfl (fun hc6 => ?_) (fun hc6 => ?_)
          · have hlt : i2 < d % 10 := by have := of_decide_eq_true hc6; omega
            have hB1 : B.drop p = vput (8 * (i2 + 1) + 2) ++ (vput (lay (txt l) (d % 10) (d % 10 - (i2 + 1))).length ++ lay (txt l) (d % 10) (d % 10 - (i2 + 1))) := by
              rw [hB, show d % 10 - i2 = d % 10 - (i2 + 1) + 1 by omega, lay, show d % 10 - (d % 10 - (i2 + 1)) = i2 + 1 by omega]
            generalize hL : lay (txt l) (d % 10) (d % 10 - (i2 + 1)) = L at hB1
            have hlen := drop_len hB1 hp
            simp only [List.length_append] at hlen
            have hg1 := vget_in hB1 (by omega) hp
            have hB2 := drop_more hB1 rfl
            have hg2 := vget_in hB2 (by omega) (by omega)
            have hB3 := drop_more hB2 rfl
            have hf1 : (!((((8 * (i2 + 1) + 2) / 8 : Nat) : Int) == IntKind.i64.wrap (j2 + 1))) = false := by rw [hj, wr64 (by omega) (by omega), show (8 * (i2 + 1) + 2) / 8 = i2 + 1 by omega]; simp
            have hf2 : (!((((8 * (i2 + 1) + 2) % 8 : Nat) : Int) == 2)) = false := by rw [show (8 * (i2 + 1) + 2) % 8 = 2 by omega]; rfl
            refine Tri.skip ?_
            refine Tri.seq ?_
            refine Tri.blk ?_
            refine Tri.seq ?_
            refine Tri.region ?_
            refine TriL.c1 rfl (op_mv (ltb rfl) rfl) ?_
            refine TriL.c2 rfl (op_callh (ltb rfl) fn22 rfl rfl (ctag_run H2 HH.next B p (List.replicate i2 B.length) B.length (8 * (i2 + 1) + 2) (vput (8 * (i2 + 1) + 2)).length ho (by simp; omega) hg1 (vput_pos _) (by omega) (Nat.le_refl _) (by omega) (decide_eq_true (by omega)))) ?_
            refine TriL.c1 rfl (op_mv (ltb rfl) rfl) ?_
            refine TriL.c1 rfl (op_ext (ltb rfl) rfl rfl) ?_
            refine TriL.c1 rfl (op_ext (ltb rfl) rfl rfl) ?_
            refine TriL.c1 rfl (op_as (ltb rfl) rfl) ?_
            refine TriL.c1 rfl (op_as (ltb rfl) rfl) ?_
            refine TriL.nil ?_
            refine Tri.seq ?_
            refine Tri.region ?_
            refine TriL.c1 rfl (op_mv (ltb rfl) rfl) ?_
            refine TriL.c1 rfl (op_mv (ltb rfl) rfl) ?_
            refine TriL.c1 rfl (op_bin (ltb rfl) rfl rfl rfl) ?_
            refine TriL.c1 rfl (op_bin (ltb rfl) rfl rfl rfl) ?_
            refine TriL.c1 rfl (op_mv (ltb rfl) rfl) ?_
            refine TriL.g1 rfl (ltb rfl) rfl hf1 (op_mv (ltb rfl) rfl) ?_
            refine TriL.g1 rfl (ltb rfl) rfl hf1 (op_bin (ltb rfl) rfl rfl rfl) ?_
            refine TriL.c1 rfl (op_pickf (ltb rfl) rfl hf1 rfl) ?_
            refine TriL.c1 rfl (op_mv (ltb rfl) rfl) ?_
            refine TriL.g1 rfl (ltb rfl) rfl hf2 (op_mv (ltb rfl) rfl) ?_
            refine TriL.g2 rfl (ltb rfl) rfl hf2 (op_callh (ltb rfl) fn23 rfl rfl (copen_run _ HH.next B (p + (vput (8 * (i2 + 1) + 2)).length) (List.replicate i2 B.length) B.length L.length (vput L.length).length Hp.set_obj (by simp; omega) hg2 (vput_pos _) (by omega) (Nat.le_refl _) (by omega) (by omega))) ?_
            refine TriL.g1 rfl (ltb rfl) rfl hf2 (op_un (ltb rfl) rfl rfl) ?_
            refine TriL.c1 rfl (op_pickf (ltb rfl) rfl hf2 rfl) ?_
            refine TriL.nil ?_
            refine Tri.condF rfl rfl ?_
            refine Tri.skip ?_
            refine Tri.region ?_
            refine TriL.c1 rfl (op_mv (ltb rfl) rfl) ?_
            refine TriL.c1 rfl (op_bin (ltb rfl) rfl rfl rfl) ?_
            refine TriL.c1 rfl (op_as (ltb rfl) rfl) ?_
            refine TriL.kept (Kept.keep [.h, .s 0, .s 6, .s 10, .s 11] rfl (by decide) (Kept.now ?_))
            refine ⟨d % 10 - (i2 + 1), by omega, i2 + 1, _, IntKind.i64.wrap (j2 + 1), p + (vput (8 * (i2 + 1) + 2)).length + (vput L.length).length, rfl, by rw [hj, wr64] <;> omega, ?_, by rw [hB3, hL], by omega, by omega, rfl⟩
            rw [show p + (vput (8 * (i2 + 1) + 2)).length + (vput L.length).length + L.length = B.length by omega, rep_succ]
            exact Hp.set_obj
          · have hge : i2 = d % 10 := by have := of_decide_eq_false hc6; omega
            subst hge
            rw [Nat.sub_self, lay] at hB
            refine Tri.exit ?_
            refine Tri.seq ?_
            refine Tri.seq ?_
            refine Tri.region ?_
            refine TriL.c1 rfl (op_as (ltb rfl) rfl) ?_
            refine TriL.kept (Kept.keep [.h, .s 0, .s 6, .s 10, .s 14] rfl (by decide) (Kept.now ?_))
            refine Tri.blk ?_
            -- LOOP 5: KEEP
            refine Tri.loop (fun q s => ∃ (i : Nat) (H2 : Hp) (j : Int) (p : Nat), s = StC H2 HH.next l (d % 10) 14 j ∧ j = i ∧ H2.obj HH.next = some (curs B p (List.replicate (d % 10) B.length ++ [B.length]) false) ∧ B.drop p = txt (l.drop i) ∧ p ≤ B.length ∧ i ≤ l.length ∧ q = l.length - i) ?_ (n := l.length) ⟨0, _, 0, p, rfl, rfl, ho, by rw [hB, List.drop_zero], hp, by omega, rfl⟩
            clear ho
            clear hj
            clear hi
            clear hp
            clear hB
            rintro q s ⟨i3, H3, j3, p3, rfl, hj, ho, hB, hp, hi, rfl⟩
            have hml : (l.map AV.str).length = l.length := by simp
            refine Tri.seq ?_
            refine Tri.seq ?_
            refine Tri.region ?_
            refine TriL.c1 rfl (op_mv (ltb rfl) rfl) ?_
            refine TriL.c1 rfl (op_mv (ltb rfl) rfl) ?_
            refine TriL.c1 rfl (op_lenl (ltb rfl) un30 rfl) ?_
            refine TriL.c1 rfl (op_bin (ltb rfl) rfl rfl rfl) ?_
            refine TriL.nil ?_
            refine Tri.cond rfl (fun hc7 => ?_) (fun hc7 => ?_)
            · have hlt : i3 < l.length := by have := of_decide_eq_true hc7; omega
              obtain ⟨x, hx⟩ : ∃ x, l[i3]? = some x := ⟨l[i3], List.getElem?_eq_getElem hlt⟩
              have hx3 := hall x (List.mem_of_getElem? hx)
              have hxs : (l.map AV.str)[j3.toNat]? = some (.str x) := by subst hj; simp [hx]
              have hB1 : B.drop p3 = vput 58 ++ (vput x.length ++ (x ++ txt (l.drop (i3 + 1)))) := by
                rw [hB, ← txt_cons]; congr 1; rw [List.drop_eq_getElem_cons hlt]; congr 1; rw [List.getElem?_eq_getElem hlt] at hx; cases hx; rfl
              have hlen := drop_len hB1 hp
              simp only [List.length_append] at hlen
              have hg1 := vget_in hB1 (by omega) hp
              have hB2 := drop_more hB1 rfl
              have hg2 := vget_in hB2 (by omega) (by omega)
              have hB3 := drop_more hB2 rfl
              have hB4 := drop_more hB3 rfl
              have hf3 : (!((((58 / 8 : Nat) : Nat) : Int) == 7)) = false := rfl
              have hf4 : (!((((58 % 8 : Nat) : Nat) : Int) == 2)) = false := rfl
              have hf5 : (!((B.drop (p3 + (vput 58).length + (vput x.length).length)).take x.length == x)) = false := by rw [hB3, List.take_left]; simp
              refine Tri.skip ?_
              refine Tri.seq ?_
              refine Tri.blk ?_
              refine Tri.seq ?_
              refine Tri.region ?_
              refine TriL.c1 rfl (op_mv (ltb rfl) rfl) ?_
              refine TriL.c2 rfl (op_callh (ltb rfl) fn22 rfl rfl (ctag_run H3 HH.next B p3 (List.replicate (d % 10) B.length) B.length 58 (vput 58).length ho (by simp; omega) hg1 (vput_pos _) (by omega) (Nat.le_refl _) (by omega) (decide_eq_true (by decide)))) ?_
              refine TriL.c1 rfl (op_mv (ltb rfl) rfl) ?_
              refine TriL.c1 rfl (op_ext (ltb rfl) rfl rfl) ?_
              refine TriL.c1 rfl (op_ext (ltb rfl) rfl rfl) ?_
              refine TriL.c1 rfl (op_as (ltb rfl) rfl) ?_
              refine TriL.c1 rfl (op_as (ltb rfl) rfl) ?_
              refine TriL.nil ?_
              refine Tri.seq ?_
              refine Tri.drawn mixed rfl ?_
              refine TriD.c1 rfl (op_mv (ltb rfl) rfl) ?_
              refine TriD.c1 rfl (op_bin (ltb rfl) rfl rfl rfl) ?_
              refine TriD.c1 rfl (op_mv (ltb rfl) rfl) ?_
              refine TriD.g1 rfl (ltb rfl) rfl hf3 (op_mv (ltb rfl) rfl) ?_
              refine TriD.g1 rfl (ltb rfl) rfl hf3 (op_bin (ltb rfl) rfl rfl rfl) ?_
              refine TriD.c1 rfl (op_pickf (ltb rfl) rfl hf3 rfl) ?_
              refine TriD.c1 rfl (op_mv (ltb rfl) rfl) ?_
              refine TriD.g1 rfl (ltb rfl) rfl hf4 (op_mv (ltb rfl) rfl) ?_
              refine TriD.g2 rfl (ltb rfl) rfl hf4 (op_callh (ltb rfl) fn24 rfl rfl (ctext_run _ HH.next B (p3 + (vput 58).length) (List.replicate (d % 10) B.length) B.length x.length (vput x.length).length Hp.set_obj (by simp; omega) hg2 (vput_pos _) (by omega) (Nat.le_refl _) (by omega) (by omega))) ?_
              refine TriD.g1 rfl (ltb rfl) rfl hf4 (op_mv (ltb rfl) rfl) ?_
              refine TriD.g1 rfl (ltb rfl) rfl hf4 (op_mv (ltb rfl) rfl) ?_
              refine TriD.g1 rfl (ltb rfl) rfl hf4 (op_iak (ltb rfl) ie30 rfl rfl (by omega) hxs rfl) ?_
              refine TriD.g1 rfl (ltb rfl) rfl hf4 (op_ldk (ltb rfl) lk9 rfl rfl) ?_
              refine TriD.g1 rfl (ltb rfl) rfl hf4 (op_bin (ltb rfl) rfl rfl rfl) ?_
              refine TriD.c1 rfl (op_pickf (ltb rfl) rfl hf4 rfl) ?_
              refine TriD.nil (by kernel_rfl) (Kept.now ?_)
              refine Tri.condF rfl hf5 ?_
              refine Tri.skip ?_
              refine Tri.region ?_
              refine TriL.c1 rfl (op_mv (ltb rfl) rfl) ?_
              refine TriL.c1 rfl (op_bin (ltb rfl) rfl rfl rfl) ?_
              refine TriL.c1 rfl (op_as (ltb rfl) rfl) ?_
              refine TriL.kept (Kept.keep [.h, .s 0, .s 6, .s 10, .s 14] rfl (by decide) (Kept.now ?_))
              refine ⟨l.length - (i3 + 1), by omega, i3 + 1, _, IntKind.i64.wrap (j3 + 1), p3 + (vput 58).length + (vput x.length).length + x.length, rfl, by rw [hj, wr64] <;> omega, Hp.set_obj, hB4, by omega, by omega, rfl⟩
            · have hge : i3 = l.length := by have := of_decide_eq_false hc7; omega
              rw [hge, List.drop_length] at hB
              have hpe : p3 = B.length := by have := drop_len hB hp; simpa [txt] using this
              have hf6 : (!(decide ((p3 : Int) < (B.length : Int)))) = true := by rw [hpe]; simp
              refine Tri.exit ?_
              refine Tri.seq ?_
              refine Tri.region ?_
              refine TriL.c1 rfl (op_mv (ltb rfl) rfl) ?_
              refine TriL.c1 rfl (op_callk (ltb rfl) fn25 rfl rfl (cmore_run H3 HH.next B p3 (List.replicate (d % 10) B.length) B.length ho (by simp; omega))) ?_
              refine TriL.c1 rfl (op_un (ltb rfl) rfl rfl) ?_
              refine TriL.c1 rfl (op_mv (ltb rfl) rfl) ?_
              refine TriL.g1 rfl (ltb rfl) rfl hf6 (op_mv (ltb rfl) rfl) ?_
              refine TriL.g1 rfl (ltb rfl) rfl hf6 (op_nckc (ltb rfl) rfl) ?_
              refine TriL.g1 rfl (ltb rfl) rfl hf6 (op_fac (ltb rfl) fo43_3 rfl) ?_
              refine TriL.g1 rfl (ltb rfl) rfl hf6 (op_ldc (ltb rfl) lk4 rfl rfl ho rfl) ?_
              refine TriL.g1 rfl (ltb rfl) rfl hf6 (op_un (ltb rfl) rfl rfl) ?_
              refine TriL.c1 rfl (op_pickt (ltb rfl) rfl hf6 rfl) ?_
              refine TriL.c1 rfl (op_mv (ltb rfl) rfl) ?_
              refine TriL.g2 rfl (ltb rfl) rfl rfl (op_callh (ltb rfl) fn15 rfl rfl (live_run _)) ?_
              refine TriL.c1 rfl (op_pickt (ltb rfl) rfl rfl rfl) ?_
              refine TriL.c1 rfl (op_as (ltb rfl) rfl) ?_
              refine TriL.nil ?_
              refine Tri.ret ?_
              exact ⟨.inr rfl, (ResOK.r1 rfl (.tmp rfl .nil))⟩
end Go.Proofs.Ytecjdohpfijmpaa.X
/- The reference's bytes: Put, Of, Tag, Bytes. -/
set_option linter.unusedVariables false
set_option linter.unusedSimpArgs false
namespace Go.Proofs.Ytecjdohpfijmpaa.X
open Go Go.RowKit Go.Proofs
theorem fn65 : isFn Try.prog 65 = true := by kernel_rfl
theorem fn66 : isFn Try.prog 66 = true := by kernel_rfl
theorem fn67 : isFn Try.prog 67 = true := by kernel_rfl
theorem fn68 : isFn Try.prog 68 = true := by kernel_rfl
def StRP (H : Hp) (m : Int) (xs : List AV) : St := [(.h, .hp H), (.s 0, .sv (.v (.int .u64 m))), (.s 3, .sv (.ow 4 xs)), (.t 4, .tk false 5 1 xs)]
theorem tdiv_nat (m k : Nat) : ((m : Nat) : Int).tdiv (k : Int) = ((m / k : Nat) : Int) := by rw [Int.tdiv_eq_ediv_of_nonneg (by omega)]; omega
theorem tmod_nat (m k : Nat) : ((m : Nat) : Int).tmod (k : Int) = ((m % k : Nat) : Int) := by rw [Int.tmod_eq_emod_of_nonneg (by omega)]; omega
theorem byte_add (m : Nat) : IntKind.u8.wrap (IntKind.u8.wrap (((m : Nat) : Int).tmod 128) + 128) = (((UInt8.ofNat (m % 128 + 128)).toNat : Nat) : Int) := by
  rw [show ((m : Nat) : Int).tmod 128 = ((m % 128 : Nat) : Int) from tmod_nat m 128, wr8 (n := ((m % 128 : Nat) : Int)) (by omega) (by omega), wr8 (by omega) (by omega), UInt8.toNat_ofNat_of_lt' (by simp [UInt8.size]; omega)]
  omega
theorem rput_pureO (n : Nat) (h : n < 18446744073709551616) : PureO Try.prog 66 [.int .u64 (n : Int)] 5 1 (bsl (vput n)) := by
  refine PureO.of_tri Try.func66 rfl rfl (ltb rfl) rfl fun H => ?_
  refine Tri.seq ?_
  refine Tri.region ?_
  refine TriL.c1 rfl (op_as (ltb rfl) rfl) ?_
  refine TriL.nil ?_
  refine Tri.seq ?_
  refine Tri.region ?_
  refine TriL.c2 rfl (op_litt («as» := []) (ltb rfl) se22 zAe22 rfl rfl rfl (leb rfl) rfl) ?_
  refine TriL.c1 rfl (op_as (ltb rfl) rfl) ?_
  refine TriL.kept (Kept.keep [.h, .s 0, .s 3, .t 4] rfl (by decide) (Kept.now ?_))
  refine Tri.seq ?_
  refine Tri.blk ?_
  -- LOOP 1: KEEP
  refine Tri.loop (fun q s => ∃ (m : Nat) (o : List UInt8), s = StRP H m (bsl o) ∧ vput n = o ++ vput m ∧ m < 18446744073709551616 ∧ q = (vput m).length) ?_ (n := (vput n).length) ⟨n, [], rfl, rfl, h, rfl⟩
  rintro q s ⟨m, o, rfl, hv, hm, rfl⟩
  have hlen : (vput n).length = o.length + (vput m).length := by rw [hv, List.length_append]
  have hmx := vput_max h
  refine Tri.seq ?_
  refine Tri.seq ?_
  refine Tri.region ?_
  refine TriL.c1 rfl (op_mv (ltb rfl) rfl) ?_
  refine TriL.c1 rfl (op_bin (ltb rfl) rfl rfl rfl) ?_
  refine TriL.nil ?_
  refine Tri.cond rfl (fun hc1 => ?_) (fun hc1 => ?_)
  · have hlt : 128 ≤ m := by have := of_decide_eq_true hc1; omega
    have hvl := vput_pos (m / 128)
    have hvl2 : (vput m).length = (vput (m / 128)).length + 1 := by rw [vput_hi (n := m) (by omega), List.length_cons]
    refine Tri.skip ?_
    refine Tri.blk ?_
    refine Tri.seq ?_
    refine Tri.region ?_
    refine TriL.c1 rfl (op_mv (ltb rfl) rfl) ?_
    refine TriL.c1 rfl (op_mv (ltb rfl) rfl) ?_
    refine TriL.c1 rfl (op_bin (ltb rfl) rfl rfl rfl) ?_
    refine TriL.c1 rfl (op_cvi (ltb rfl) un50 un5 rfl) ?_
    refine TriL.c1 rfl (op_bin (ltb rfl) rfl rfl rfl) ?_
    refine TriL.c1 rfl (op_lit («as» := [_]) (ltb rfl) se22 zAe22 rfl rfl rfl (leb rfl)) ?_
    refine TriL.c3 rfl (op_app (ltb rfl) se22 rfl rfl rfl (okEls_one _ _) rfl (by have := bsl_len o; simp only [List.length_cons, List.length_nil]; omega) (by have := bsl_len o; simp only [List.length_cons, List.length_nil]; omega)) ?_
    refine TriL.c1 rfl (op_as (ltb rfl) rfl) ?_
    refine TriL.nil ?_
    refine Tri.region ?_
    refine TriL.c1 rfl (op_mv (ltb rfl) rfl) ?_
    refine TriL.c1 rfl (op_bin (ltb rfl) rfl rfl rfl) ?_
    refine TriL.c1 rfl (op_as (ltb rfl) rfl) ?_
    refine TriL.kept (Kept.keep [.h, .s 0, .s 3, .t 13] rfl (by decide) (Kept.ren 13 4 (by decide) rfl (Kept.now ?_)))
    refine ⟨(vput (m / 128)).length, by omega, m / 128, o ++ [UInt8.ofNat (m % 128 + 128)], ?_, by rw [hv, vput_hi (n := m) (by omega)]; simp, by omega, rfl⟩
    have e1 : IntKind.u64.wrap (((m : Nat) : Int).tdiv 128) = ((m / 128 : Nat) : Int) := by rw [show ((m : Nat) : Int).tdiv 128 = ((m / 128 : Nat) : Int) from tdiv_nat m 128, wru64 (by omega) (by omega)]
    rw [← e1, show bsl (o ++ [UInt8.ofNat (m % 128 + 128)]) = bsl o ++ [.int .u8 (IntKind.u8.wrap (IntKind.u8.wrap (((m : Nat) : Int).tmod 128) + 128))] by rw [byte_add, bsl_app]; rfl]
    rfl
  · have hlt : m < 128 := by have := of_decide_eq_false hc1; omega
    have hvl : (vput m).length = 1 := by rw [vput_lo hlt]; rfl
    refine Tri.exit ?_
    refine Tri.seq ?_
    refine Tri.region ?_
    refine TriL.c1 rfl (op_mv (ltb rfl) rfl) ?_
    refine TriL.c1 rfl (op_mv (ltb rfl) rfl) ?_
    refine TriL.c1 rfl (op_cvi (ltb rfl) un50 un5 rfl) ?_
    refine TriL.c1 rfl (op_lit («as» := [_]) (ltb rfl) se22 zAe22 rfl rfl rfl (leb rfl)) ?_
    refine TriL.c3 rfl (op_app (ltb rfl) se22 rfl rfl rfl (okEls_one _ _) rfl (by have := bsl_len o; simp only [List.length_cons, List.length_nil]; omega) (by have := bsl_len o; simp only [List.length_cons, List.length_nil]; omega)) ?_
    refine TriL.c1 rfl (op_as (ltb rfl) rfl) ?_
    refine TriL.nil ?_
    refine Tri.ret ?_
    have hb : bsl o ++ [.int .u8 (IntKind.u8.wrap (m : Int))] = bsl (vput n) := by rw [hv, vput_lo hlt, bsl_app, byte_of]; rfl
    rw [← hb]
    exact ⟨.inr rfl, ⟨20, rfl, rfl⟩, rfl⟩
theorem rput_pureO' {m : Int} {n : Nat} (e : m = n) (h : n < 18446744073709551616) : PureO Try.prog 66 [.int .u64 m] 5 1 (bsl (vput n)) := e ▸ rput_pureO n h
def StRF (H : Hp) (m : Int) (k : Nat) (xs : List AV) (j : Int) : St := [(.h, .hp H), (.s 0, .sv (.v (.int .u64 m))), (.s 1, .sv (.v (.int .i64 (k : Int)))), (.s 5, .sv (.ow 7 xs)), (.s 6, .sv (.v (.int .i64 j))), (.t 7, .tk false 5 1 xs)]
theorem nb_step (n i : Nat) : IntKind.u8.wrap (((n / 2 ^ (8 * i) : Nat) : Int).tmod 256) = ((nb n i).toNat : Int) := by
  rw [show (((n / 2 ^ (8 * i) : Nat) : Int)).tmod 256 = ((n / 2 ^ (8 * i) % 256 : Nat) : Int) from tmod_nat _ 256, byte_of]
  simp [nb, UInt8.toNat_ofNat']
theorem nb_next (n i : Nat) : n / 2 ^ (8 * i) / 256 = n / 2 ^ (8 * (i + 1)) := by
  rw [Nat.div_div_eq_div_mul, show (256 : Nat) = 2 ^ 8 from rfl, ← Nat.pow_add]; congr 2
theorem fput_succ (n i : Nat) : fput n (i + 1) = fput n i ++ [nb n i] := by simp [fput, List.range_succ]
theorem fput_len (n i : Nat) : (fput n i).length = i := by simp [fput]
theorem rfix_pureO (n k : Nat) (h : n < 18446744073709551616) (hk : k ≤ 8) : PureO Try.prog 67 [.int .u64 (n : Int), .int .i64 (k : Int)] 5 1 (bsl (fput n k)) := by
  refine PureO.of_tri Try.func67 rfl rfl (ltb rfl) rfl fun H => ?_
  refine Tri.seq ?_
  refine Tri.region ?_
  refine TriL.c1 rfl (op_as (ltb rfl) rfl) ?_
  refine TriL.nil ?_
  refine Tri.seq ?_
  refine Tri.region ?_
  refine TriL.c2 rfl (op_litt («as» := []) (ltb rfl) se22 zAe22 rfl rfl rfl (leb rfl) rfl) ?_
  refine TriL.c1 rfl (op_as (ltb rfl) rfl) ?_
  refine TriL.nil ?_
  refine Tri.seq ?_
  refine Tri.seq ?_
  refine Tri.region ?_
  refine TriL.c1 rfl (op_as (ltb rfl) rfl) ?_
  refine TriL.kept (Kept.keep [.h, .s 0, .s 1, .s 5, .s 6, .t 7] rfl (by decide) (Kept.now ?_))
  refine Tri.blk ?_
  -- LOOP 1: KEEP
  refine Tri.loop (fun q s => ∃ (i : Nat) (j : Int), s = StRF H ((n / 2 ^ (8 * i) : Nat) : Int) k (bsl (fput n i)) j ∧ j = i ∧ i ≤ k ∧ q = k - i) ?_ (n := k) ⟨0, 0, by simp only [Nat.mul_zero, Nat.pow_zero, Nat.div_one]; rfl, rfl, by omega, rfl⟩
  rintro q s ⟨i, j, rfl, hj, hi, rfl⟩
  have hbl := bsl_len (fput n i)
  have hfl := fput_len n i
  have hdl : n / 2 ^ (8 * i) < 18446744073709551616 := Nat.lt_of_le_of_lt (Nat.div_le_self _ _) h
  refine Tri.seq ?_
  refine Tri.seq ?_
  refine Tri.region ?_
  refine TriL.c1 rfl (op_mv (ltb rfl) rfl) ?_
  refine TriL.c1 rfl (op_mv (ltb rfl) rfl) ?_
  refine TriL.c1 rfl (op_bin (ltb rfl) rfl rfl rfl) ?_
  refine TriL.nil ?_
  refine Tri.cond rfl (fun hc1 => ?_) (fun hc1 => ?_)
  · have hlt : i < k := by have := of_decide_eq_true hc1; omega
    refine Tri.skip ?_
    refine Tri.seq ?_
    refine Tri.blk ?_
    refine Tri.seq ?_
    refine Tri.region ?_
    refine TriL.c1 rfl (op_mv (ltb rfl) rfl) ?_
    refine TriL.c1 rfl (op_mv (ltb rfl) rfl) ?_
    refine TriL.c1 rfl (op_bin (ltb rfl) rfl rfl rfl) ?_
    refine TriL.c1 rfl (op_cvi (ltb rfl) un50 un5 rfl) ?_
    refine TriL.c1 rfl (op_lit («as» := [_]) (ltb rfl) se22 zAe22 rfl rfl rfl (leb rfl)) ?_
    refine TriL.c3 rfl (op_app (ltb rfl) se22 rfl rfl rfl (okEls_one _ _) rfl (by simp only [List.length_cons, List.length_nil]; omega) (by simp only [List.length_cons, List.length_nil]; omega)) ?_
    refine TriL.c1 rfl (op_as (ltb rfl) rfl) ?_
    refine TriL.nil ?_
    refine Tri.region ?_
    refine TriL.c1 rfl (op_mv (ltb rfl) rfl) ?_
    refine TriL.c1 rfl (op_bin (ltb rfl) rfl rfl rfl) ?_
    refine TriL.c1 rfl (op_as (ltb rfl) rfl) ?_
    refine TriL.nil ?_
    refine Tri.region ?_
    refine TriL.c1 rfl (op_mv (ltb rfl) rfl) ?_
    refine TriL.c1 rfl (op_bin (ltb rfl) rfl rfl rfl) ?_
    refine TriL.c1 rfl (op_as (ltb rfl) rfl) ?_
    refine TriL.kept (Kept.keep [.h, .s 0, .s 1, .s 5, .s 6, .t 18] rfl (by decide) (Kept.ren 18 7 (by decide) rfl (Kept.now ?_)))
    refine ⟨k - (i + 1), by omega, i + 1, IntKind.i64.wrap (j + 1), ?_, by rw [hj, wr64] <;> omega, by omega, rfl⟩
    have e1 : IntKind.u64.wrap (((n / 2 ^ (8 * i) : Nat) : Int).tdiv 256) = ((n / 2 ^ (8 * (i + 1)) : Nat) : Int) := by rw [show (((n / 2 ^ (8 * i) : Nat) : Int)).tdiv 256 = ((n / 2 ^ (8 * i) / 256 : Nat) : Int) from tdiv_nat _ 256, nb_next, wru64 (Int.natCast_nonneg _) (Int.ofNat_lt.2 (Nat.lt_of_le_of_lt (Nat.div_le_self _ _) h))]
    rw [← e1, fput_succ, show bsl (fput n i ++ [nb n i]) = bsl (fput n i) ++ [.int .u8 (IntKind.u8.wrap (((n / 2 ^ (8 * i) : Nat) : Int).tmod 256))] by rw [nb_step, bsl_app]; rfl]
    rfl
  · have hge : i = k := by have := of_decide_eq_false hc1; omega
    subst hge
    refine Tri.exit ?_
    refine Tri.seq ?_
    refine Tri.region ?_
    refine TriL.c1 rfl (op_mv (ltb rfl) rfl) ?_
    refine TriL.c1 rfl (op_as (ltb rfl) rfl) ?_
    refine TriL.nil ?_
    refine Tri.ret ?_
    exact ⟨.inr rfl, ⟨7, rfl, rfl⟩, rfl⟩
theorem of4_pure (n w : Int) (hr : rightok n w = true) : Pure Try.prog 68 [.int .i64 n, .int .i64 w] (.int .u64 ((8 * n + w).toNat : Nat)) := by
  have hq := of_decide_eq_true hr
  refine Pure.of_tri Try.func68 rfl rfl (ltb rfl) fun H => ?_
  refine Tri.seq ?_
  refine Tri.region ?_
  refine TriL.c1 rfl (op_as (ltb rfl) rfl) ?_
  refine TriL.nil ?_
  refine Tri.seq ?_
  refine Tri.region ?_
  refine TriL.c1 rfl (op_mv (ltb rfl) rfl) ?_
  refine TriL.c1 rfl (op_cvi (ltb rfl) un3 un50 rfl) ?_
  refine TriL.c1 rfl (op_bin (ltb rfl) rfl rfl rfl) ?_
  refine TriL.c1 rfl (op_mv (ltb rfl) rfl) ?_
  refine TriL.c1 rfl (op_cvi (ltb rfl) un3 un50 rfl) ?_
  refine TriL.c1 rfl (op_bin (ltb rfl) rfl rfl rfl) ?_
  refine TriL.c1 rfl (op_as (ltb rfl) rfl) ?_
  refine TriL.nil ?_
  refine Tri.ret ?_
  exact ⟨.inr rfl, (ResOK.r1 rfl (.tmp rfl .nil)).cast (congrArg (AV.int .u64) (by rw [wru64 (n := n) (by omega) (by omega), wru64 (n := w) (by omega) (by omega), wru64 (n := 8 * n) (by omega) (by omega), wru64 (by omega) (by omega)]; omega)), rfl⟩
theorem rtag_pureO (n w : Int) (hr : rightok n w = true) : PureO Try.prog 65 [.int .i64 n, .int .i64 w] 5 1 (bsl (vput (8 * n + w).toNat)) := by
  have hq := of_decide_eq_true hr
  refine PureO.of_tri Try.func65 rfl rfl (ltb rfl) rfl fun H => ?_
  refine Tri.seq ?_
  refine Tri.region ?_
  refine TriL.c1 rfl (op_as (ltb rfl) rfl) ?_
  refine TriL.nil ?_
  refine Tri.seq ?_
  refine Tri.region ?_
  refine TriL.c1 rfl (op_mv (ltb rfl) rfl) ?_
  refine TriL.c1 rfl (op_mv (ltb rfl) rfl) ?_
  refine TriL.c1 rfl (op_call (ltb rfl) fn68 rfl (of4_pure n w hr)) ?_
  refine TriL.c2 rfl (op_callo (ltb rfl) fn66 rfl (rput_pureO _ (by omega)) rfl) ?_
  refine TriL.c1 rfl (op_as (ltb rfl) rfl) ?_
  refine TriL.nil ?_
  refine Tri.ret ?_
  exact ⟨.inr rfl, ⟨8, rfl, rfl⟩, rfl⟩
theorem rbytes0 (n w : Int) (x : Nat) (l : List UInt8) (hr : rightok n w = true) (hw : w = 0) (hx : x < 18446744073709551616) : PureO Try.prog 62 [.int .i64 n, .int .i64 w, .int .u64 (x : Int), .str l] 5 1 (bsl (vput (8 * n + w).toNat ++ (vput x))) := by
  have hq := of_decide_eq_true hr
  have hm1 := vput_max (n := (8 * n + w).toNat) (by omega)
  refine PureO.of_tri Try.func62 rfl rfl (ltb rfl) rfl fun H => ?_
  refine Tri.seq ?_
  refine Tri.region ?_
  refine TriL.c1 rfl (op_as (ltb rfl) rfl) ?_
  refine TriL.nil ?_
  refine Tri.seq ?_
  refine Tri.region ?_
  refine TriL.c1 rfl (op_mv (ltb rfl) rfl) ?_
  refine TriL.c1 rfl (op_mv (ltb rfl) rfl) ?_
  refine TriL.c2 rfl (op_callo (ltb rfl) fn65 rfl (rtag_pureO n w hr) rfl) ?_
  refine TriL.c1 rfl (op_as (ltb rfl) rfl) ?_
  refine TriL.nil ?_
  refine Tri.seq ?_
  refine Tri.seq ?_
  refine Tri.region ?_
  refine TriL.c1 rfl (op_mv (ltb rfl) rfl) ?_
  refine TriL.nil ?_
  refine Tri.blk ?_
  refine Tri.seq ?_
  refine Tri.region ?_
  refine TriL.c1 rfl (op_bin (ltb rfl) rfl rfl rfl) ?_
  refine TriL.c1 rfl (op_as (ltb rfl) rfl) ?_
  refine TriL.nil ?_
  refine Tri.condT rfl (by rw [hw]; rfl) ?_
  refine Tri.seq ?_
  refine Tri.region ?_
  refine TriL.c1 rfl (op_mv (ltb rfl) rfl) ?_
  refine TriL.c1 rfl (op_mv (ltb rfl) rfl) ?_
  refine TriL.c2 rfl (op_callo (ltb rfl) fn66 rfl (rput_pureO x hx) rfl) ?_
  refine TriL.c3 rfl (op_app (ltb rfl) se22 rfl rfl rfl (okEls_bsl _) rfl (by have := vput_max hx; rw [bsl_len, bsl_len]; omega) (by have := vput_max hx; rw [bsl_len, bsl_len]; omega)) ?_
  refine TriL.c1 rfl (op_as (ltb rfl) rfl) ?_
  refine TriL.nil ?_
  refine Tri.ret ?_
  rw [bsl_app]
  exact ⟨.inr rfl, ⟨19, rfl, rfl⟩, rfl⟩
theorem rbytes1 (n w : Int) (x : Nat) (l : List UInt8) (hr : rightok n w = true) (hw : w = 1) (hx : x < 18446744073709551616) : PureO Try.prog 62 [.int .i64 n, .int .i64 w, .int .u64 (x : Int), .str l] 5 1 (bsl (vput (8 * n + w).toNat ++ (fput x 8))) := by
  have hq := of_decide_eq_true hr
  have hm1 := vput_max (n := (8 * n + w).toNat) (by omega)
  refine PureO.of_tri Try.func62 rfl rfl (ltb rfl) rfl fun H => ?_
  refine Tri.seq ?_
  refine Tri.region ?_
  refine TriL.c1 rfl (op_as (ltb rfl) rfl) ?_
  refine TriL.nil ?_
  refine Tri.seq ?_
  refine Tri.region ?_
  refine TriL.c1 rfl (op_mv (ltb rfl) rfl) ?_
  refine TriL.c1 rfl (op_mv (ltb rfl) rfl) ?_
  refine TriL.c2 rfl (op_callo (ltb rfl) fn65 rfl (rtag_pureO n w hr) rfl) ?_
  refine TriL.c1 rfl (op_as (ltb rfl) rfl) ?_
  refine TriL.nil ?_
  refine Tri.seq ?_
  refine Tri.seq ?_
  refine Tri.region ?_
  refine TriL.c1 rfl (op_mv (ltb rfl) rfl) ?_
  refine TriL.nil ?_
  refine Tri.blk ?_
  refine Tri.seq ?_
  refine Tri.region ?_
  refine TriL.c1 rfl (op_bin (ltb rfl) rfl rfl rfl) ?_
  refine TriL.c1 rfl (op_as (ltb rfl) rfl) ?_
  refine TriL.nil ?_
  refine Tri.condF rfl (by rw [hw]; rfl) ?_
  refine Tri.seq ?_
  refine Tri.region ?_
  refine TriL.c1 rfl (op_bin (ltb rfl) rfl rfl rfl) ?_
  refine TriL.c1 rfl (op_as (ltb rfl) rfl) ?_
  refine TriL.nil ?_
  refine Tri.condT rfl (by rw [hw]; rfl) ?_
  refine Tri.seq ?_
  refine Tri.region ?_
  refine TriL.c1 rfl (op_mv (ltb rfl) rfl) ?_
  refine TriL.c1 rfl (op_mv (ltb rfl) rfl) ?_
  refine TriL.c2 rfl (op_callo (ltb rfl) fn67 rfl (rfix_pureO x 8 hx (by decide)) rfl) ?_
  refine TriL.c3 rfl (op_app (ltb rfl) se22 rfl rfl rfl (okEls_bsl _) rfl (by have := fput_len x 8; rw [bsl_len, bsl_len]; omega) (by have := fput_len x 8; rw [bsl_len, bsl_len]; omega)) ?_
  refine TriL.c1 rfl (op_as (ltb rfl) rfl) ?_
  refine TriL.nil ?_
  refine Tri.ret ?_
  rw [bsl_app]
  exact ⟨.inr rfl, ⟨25, rfl, rfl⟩, rfl⟩
theorem rbytes5 (n w : Int) (x : Nat) (l : List UInt8) (hr : rightok n w = true) (hw : w = 5) (hx : x < 18446744073709551616) : PureO Try.prog 62 [.int .i64 n, .int .i64 w, .int .u64 (x : Int), .str l] 5 1 (bsl (vput (8 * n + w).toNat ++ (fput x 4))) := by
  have hq := of_decide_eq_true hr
  have hm1 := vput_max (n := (8 * n + w).toNat) (by omega)
  refine PureO.of_tri Try.func62 rfl rfl (ltb rfl) rfl fun H => ?_
  refine Tri.seq ?_
  refine Tri.region ?_
  refine TriL.c1 rfl (op_as (ltb rfl) rfl) ?_
  refine TriL.nil ?_
  refine Tri.seq ?_
  refine Tri.region ?_
  refine TriL.c1 rfl (op_mv (ltb rfl) rfl) ?_
  refine TriL.c1 rfl (op_mv (ltb rfl) rfl) ?_
  refine TriL.c2 rfl (op_callo (ltb rfl) fn65 rfl (rtag_pureO n w hr) rfl) ?_
  refine TriL.c1 rfl (op_as (ltb rfl) rfl) ?_
  refine TriL.nil ?_
  refine Tri.seq ?_
  refine Tri.seq ?_
  refine Tri.region ?_
  refine TriL.c1 rfl (op_mv (ltb rfl) rfl) ?_
  refine TriL.nil ?_
  refine Tri.blk ?_
  refine Tri.seq ?_
  refine Tri.region ?_
  refine TriL.c1 rfl (op_bin (ltb rfl) rfl rfl rfl) ?_
  refine TriL.c1 rfl (op_as (ltb rfl) rfl) ?_
  refine TriL.nil ?_
  refine Tri.condF rfl (by rw [hw]; rfl) ?_
  refine Tri.seq ?_
  refine Tri.region ?_
  refine TriL.c1 rfl (op_bin (ltb rfl) rfl rfl rfl) ?_
  refine TriL.c1 rfl (op_as (ltb rfl) rfl) ?_
  refine TriL.nil ?_
  refine Tri.condF rfl (by rw [hw]; rfl) ?_
  refine Tri.seq ?_
  refine Tri.region ?_
  refine TriL.c1 rfl (op_bin (ltb rfl) rfl rfl rfl) ?_
  refine TriL.c1 rfl (op_as (ltb rfl) rfl) ?_
  refine TriL.nil ?_
  refine Tri.condT rfl (by rw [hw]; rfl) ?_
  refine Tri.seq ?_
  refine Tri.region ?_
  refine TriL.c1 rfl (op_mv (ltb rfl) rfl) ?_
  refine TriL.c1 rfl (op_mv (ltb rfl) rfl) ?_
  refine TriL.c2 rfl (op_callo (ltb rfl) fn67 rfl (rfix_pureO x 4 hx (by decide)) rfl) ?_
  refine TriL.c3 rfl (op_app (ltb rfl) se22 rfl rfl rfl (okEls_bsl _) rfl (by have := fput_len x 4; rw [bsl_len, bsl_len]; omega) (by have := fput_len x 4; rw [bsl_len, bsl_len]; omega)) ?_
  refine TriL.c1 rfl (op_as (ltb rfl) rfl) ?_
  refine TriL.nil ?_
  refine Tri.ret ?_
  rw [bsl_app]
  exact ⟨.inr rfl, ⟨31, rfl, rfl⟩, rfl⟩
theorem rbytes2 (n w : Int) (x : Nat) (l : List UInt8) (hr : rightok n w = true) (hw : w = 2) (hl : l.length ≤ 1073741824) : PureO Try.prog 62 [.int .i64 n, .int .i64 w, .int .u64 (x : Int), .str l] 5 1 (bsl (vput (8 * n + w).toNat ++ (vput l.length ++ l))) := by
  have hq := of_decide_eq_true hr
  have hm1 := vput_max (n := (8 * n + w).toNat) (by omega)
  refine PureO.of_tri Try.func62 rfl rfl (ltb rfl) rfl fun H => ?_
  refine Tri.seq ?_
  refine Tri.region ?_
  refine TriL.c1 rfl (op_as (ltb rfl) rfl) ?_
  refine TriL.nil ?_
  refine Tri.seq ?_
  refine Tri.region ?_
  refine TriL.c1 rfl (op_mv (ltb rfl) rfl) ?_
  refine TriL.c1 rfl (op_mv (ltb rfl) rfl) ?_
  refine TriL.c2 rfl (op_callo (ltb rfl) fn65 rfl (rtag_pureO n w hr) rfl) ?_
  refine TriL.c1 rfl (op_as (ltb rfl) rfl) ?_
  refine TriL.nil ?_
  refine Tri.seq ?_
  refine Tri.seq ?_
  refine Tri.region ?_
  refine TriL.c1 rfl (op_mv (ltb rfl) rfl) ?_
  refine TriL.nil ?_
  refine Tri.blk ?_
  refine Tri.seq ?_
  refine Tri.region ?_
  refine TriL.c1 rfl (op_bin (ltb rfl) rfl rfl rfl) ?_
  refine TriL.c1 rfl (op_as (ltb rfl) rfl) ?_
  refine TriL.nil ?_
  refine Tri.condF rfl (by rw [hw]; rfl) ?_
  refine Tri.seq ?_
  refine Tri.region ?_
  refine TriL.c1 rfl (op_bin (ltb rfl) rfl rfl rfl) ?_
  refine TriL.c1 rfl (op_as (ltb rfl) rfl) ?_
  refine TriL.nil ?_
  refine Tri.condF rfl (by rw [hw]; rfl) ?_
  refine Tri.seq ?_
  refine Tri.region ?_
  refine TriL.c1 rfl (op_bin (ltb rfl) rfl rfl rfl) ?_
  refine TriL.c1 rfl (op_as (ltb rfl) rfl) ?_
  refine TriL.nil ?_
  refine Tri.condF rfl (by rw [hw]; rfl) ?_
  refine Tri.skip ?_
  refine Tri.seq ?_
  refine Tri.region ?_
  refine TriL.c1 rfl (op_mv (ltb rfl) rfl) ?_
  refine TriL.c1 rfl (op_mv (ltb rfl) rfl) ?_
  refine TriL.c1 rfl (op_lens (ltb rfl) un9 rfl) ?_
  refine TriL.c1 rfl (op_cvi (ltb rfl) un3 un50 rfl) ?_
  refine TriL.c2 rfl (op_callo (ltb rfl) fn66 rfl (rput_pureO' (n := l.length) (wru64 (by omega) (by omega)) (by omega)) rfl) ?_
  refine TriL.c3 rfl (op_app (ltb rfl) se22 rfl rfl rfl (okEls_bsl _) rfl (by have := vput_max (n := l.length) (by omega); rw [bsl_len, bsl_len]; omega) (by have := vput_max (n := l.length) (by omega); rw [bsl_len, bsl_len]; omega)) ?_
  refine TriL.c1 rfl (op_mv (ltb rfl) rfl) ?_
  refine TriL.c3 rfl (op_aps (ltb rfl) se22 un9 rfl rfl rfl rfl (by have := vput_max (n := l.length) (by omega); rw [List.length_append, bsl_len, bsl_len]; omega) (by have := vput_max (n := l.length) (by omega); rw [List.length_append, bsl_len, bsl_len]; omega)) ?_
  refine TriL.c1 rfl (op_as (ltb rfl) rfl) ?_
  refine TriL.nil ?_
  refine Tri.ret ?_
  rw [bsl_app, bsl_app, ← List.append_assoc]
  exact ⟨.inr rfl, ⟨39, rfl, rfl⟩, rfl⟩
end Go.Proofs.Ytecjdohpfijmpaa.X
/- The reference's writer. -/
set_option linter.unusedVariables false
set_option linter.unusedSimpArgs false
namespace Go.Proofs.Ytecjdohpfijmpaa.X
open Go Go.RowKit Go.Proofs
theorem fn55 : isFn Try.prog 55 = true := by kernel_rfl
theorem fn62 : isFn Try.prog 62 = true := by kernel_rfl
theorem fo56_0 : fo Try.prog 56 0 = some 0 := by kernel_rfl
theorem fo56_1 : fo Try.prog 56 1 = some 1 := by kernel_rfl
theorem lk54 : lk Try.prog 54 = some (false, 1) := by kernel_rfl
theorem spl56 : spl Try.prog 56 = some [(0, 1), (1, 1)] := by kernel_rfl
theorem zN56 : zeroN Try.prog 56 = some [.nsl, .nsl] := by kernel_rfl
def nil_ (ns : List Int) : List AV := ns.map (.int .i64)
/-- the reference's writer: the parts, the numbers -/
def refw (ps : List (List UInt8)) (ns : List Int) : List Hc := [.row 22 1 (sls ps), .row 3 1 (nil_ ns)]
theorem sls_len (ps : List (List UInt8)) : (sls ps).length = ps.length := by simp [sls]
theorem sls_app (ps qs : List (List UInt8)) : sls (ps ++ qs) = sls ps ++ sls qs := by simp [sls]
theorem nil_len (ns : List Int) : (nil_ ns).length = ns.length := by simp [nil_]
theorem nil_app (ns ms : List Int) : nil_ (ns ++ ms) = nil_ ns ++ nil_ ms := by simp [nil_]
theorem sls_fm (ps : List (List UInt8)) : (sls ps).flatMap AV.cells = sls ps := by
  induction ps with
  | nil => rfl
  | cons a l ih => simp only [sls, List.map_cons, List.flatMap_cons] at ih ⊢; rw [ih]; rfl
theorem nil_fm (ns : List Int) : (nil_ ns).flatMap AV.cells = nil_ ns := by
  induction ns with
  | nil => rfl
  | cons a l ih => simp only [nil_, List.map_cons, List.flatMap_cons] at ih ⊢; rw [ih]; rfl
theorem sls_last (qs : List (List UInt8)) (p : List UInt8) : ((sls (qs ++ [p])).flatMap AV.cells).drop (qs.length * 1) = [.sl (bsl p)] := by
  rw [sls_fm, sls_app, Nat.mul_one, List.drop_append_of_le_length (by rw [sls_len]; omega), List.drop_of_length_le (by rw [sls_len]; exact Nat.le_refl _)]; rfl
theorem nil_last (ms : List Int) (n : Int) : ((nil_ (ms ++ [n])).flatMap AV.cells).drop (ms.length * 1) = [.int .i64 n] := by
  rw [nil_fm, nil_app, Nat.mul_one, List.drop_append_of_le_length (by rw [nil_len]; omega), List.drop_of_length_le (by rw [nil_len]; exact Nat.le_refl _)]; rfl
theorem sls_splice (qs : List (List UInt8)) (p x : List UInt8) : splice (sls (qs ++ [p])) (qs.length * 1) [.sl (bsl x)] = sls (qs ++ [x]) := by
  have h := sls_len qs
  rw [sls_app, sls_app, Nat.mul_one, splice, List.take_append_of_le_length (by omega), List.take_of_length_le (by omega), List.drop_of_length_le (by simp [sls_len]), List.append_nil]; rfl
theorem mnew_run (H : Hp) : Run Try.prog 27 [] H (.op H.next 0) (H.add (refw [[]] [])) := by
  refine Run.of_tri Try.func27 rfl rfl (Nat.zero_le _) ?_
  refine Tri.seq ?_
  refine Tri.region ?_
  refine TriL.c1 rfl (op_as (ltb rfl) rfl) ?_
  refine TriL.nil ?_
  refine Tri.seq ?_
  refine Tri.region ?_
  refine TriL.c1 rfl (op_lit («as» := []) (ltb rfl) se22 zAe22 rfl rfl rfl (leb rfl)) ?_
  refine TriL.c2 rfl (op_littm («as» := [_]) (ltb rfl) se54 zAe54 rfl rfl rfl (leb rfl) rfl) ?_
  refine TriL.bldbox (ltb rfl) (ltb rfl) spl56 zN56 rfl rfl rfl ?_
  refine TriL.c1 rfl (op_as (ltb rfl) rfl) ?_
  refine TriL.kept (Kept.nilcell 4 1 101 3 1 rfl rfl rfl rfl (ltb rfl) (Kept.pub 4 rfl rfl (Kept.op 0 rfl rfl (Kept.cls 4 rfl rfl rfl rfl (Kept.now ?_)))))
  refine Tri.ret ?_
  exact ⟨.inr rfl, (ResOK.r1 rfl (.tmp rfl .nil)), rfl⟩
theorem mplain_run (H : Hp) (id : Nat) (qs : List (List UInt8)) (p x : List UInt8) (ns : List Int) (ho : H.obj id = some (refw (qs ++ [p]) ns)) (hq : qs.length ≤ 1048576) (hl : p.length + x.length ≤ 1073741824) : Run Try.prog 55 [.op id 0, .sl (bsl x)] H (.tup []) (H.set id (refw (qs ++ [p ++ x]) ns)) := by
  have hln : (sls (qs ++ [p])).length = qs.length + 1 := by rw [sls_len]; simp
  have hn : IntKind.i64.wrap (((sls (qs ++ [p])).length : Int) - 1) = (qs.length : Int) := by rw [hln, wr64] <;> omega
  have hnn : ((qs.length : Nat) : Int).toNat = qs.length := rfl
  refine Run.of_tri Try.func55 rfl rfl (ltb rfl) ?_
  refine Tri.seq ?_
  refine Tri.region ?_
  refine TriL.c1 rfl (op_mv (ltb rfl) rfl) ?_
  refine TriL.c1 rfl (op_nckc (ltb rfl) rfl) ?_
  refine TriL.c1 rfl (op_fac (ltb rfl) fo56_0 rfl) ?_
  refine TriL.c1 rfl (op_ldc (ltb rfl) lk54 rfl rfl ho rfl) ?_
  refine TriL.c1 rfl (op_lensl (ltb rfl) un54 rfl) ?_
  refine TriL.c1 rfl (op_bin (ltb rfl) rfl rfl rfl) ?_
  refine TriL.c1 rfl (op_as (ltb rfl) rfl) ?_
  refine TriL.nil ?_
  refine Tri.ofKept (Kept.opn 100 id 100 rfl ho rfl rfl (Kept.lp 0 100 rfl rfl (Kept.now ?_)))
  refine Tri.drawn mixed rfl ?_
  refine TriD.c1 rfl (op_mv (ltb rfl) rfl) ?_
  refine TriD.c1 rfl (op_nckl (ltb rfl) rfl) ?_
  refine TriD.c1 rfl (op_fal (ltb rfl) fo56_0 rfl) ?_
  refine TriD.c1 rfl (op_ldo (ltb rfl) lk54 rfl rfl rfl) ?_
  refine TriD.c1 rfl (op_mv (ltb rfl) rfl) ?_
  refine TriD.c2 rfl (op_litt («as» := []) (ltb rfl) se22 zAe22 rfl rfl rfl (leb rfl) rfl) ?_
  refine TriD.c1 rfl (op_mv (ltb rfl) rfl) ?_
  refine TriD.c1 rfl (op_nckl (ltb rfl) rfl) ?_
  refine TriD.c1 rfl (op_fal (ltb rfl) fo56_0 rfl) ?_
  refine TriD.c1 rfl (op_ldo (ltb rfl) lk54 rfl rfl rfl) ?_
  refine TriD.c1 rfl (op_mv (ltb rfl) rfl) ?_
  refine TriD.c1 rfl (op_iam (ltb rfl) ie54 rfl rfl rfl (by rw [hn]; omega) (by rw [hn, hln]; omega)) ?_
  refine TriD.c1 rfl (op_ldt (ltb rfl) lk22 rfl rfl (by rw [hn, hnn, sls_last]; rfl)) ?_
  refine TriD.c3 rfl (op_app (ltb rfl) se22 rfl rfl rfl (okEls_bsl p) rfl (by rw [bsl_len]; simp; omega) (by rw [bsl_len]; simp; omega)) ?_
  refine TriD.c1 rfl (op_mv (ltb rfl) rfl) ?_
  refine TriD.c3 rfl (op_app (ltb rfl) se22 rfl rfl rfl (okEls_bsl x) rfl (by rw [List.length_append, bsl_len, bsl_len]; simp; omega) (by rw [List.length_append, bsl_len, bsl_len]; simp; omega)) ?_
  refine TriD.c1 rfl (op_iam (ltb rfl) ie54 rfl rfl rfl (by rw [hn]; omega) (by rw [hn, hln]; omega)) ?_
  refine TriD.c1 rfl (op_stt lk22 rfl rfl rfl rfl (by rw [hn, hnn, hln]; omega)) ?_
  refine TriD.nil (by kernel_rfl) (Kept.op 0 rfl rfl (Kept.cls 100 rfl rfl rfl rfl (Kept.now ?_)))
  refine ⟨.inl rfl, ResOK.r0 rfl, ?_⟩
  have e : (H.del id).set id [.row 22 1 (splice (sls (qs ++ [p])) ((IntKind.i64.wrap (((sls (qs ++ [p])).length : Int) - 1)).toNat * 1) [.sl ([] ++ bsl p ++ bsl x)]), .row 3 1 (nil_ ns)] = H.set id (refw (qs ++ [p ++ x]) ns) := by
    rw [Hp.del_set, hn, hnn, List.nil_append, ← bsl_app, sls_splice]; rfl
  exact congrArg (fun h => some (CV.hp h)) e
theorem mfield_bad (H : Hp) (id : Nat) (n w : Int) (x : Nat) (l : List UInt8) (hr : rightok n w = false) : Run Try.prog 52 [.op id 0, .int .i64 n, .int .i64 w, .int .u64 (x : Int), .str l] H (.bool false) H := by
  refine Run.of_tri Try.func52 rfl rfl (ltb rfl) ?_
  refine Tri.seq ?_
  refine Tri.region ?_
  refine TriL.c1 rfl (op_as (ltb rfl) rfl) ?_
  refine TriL.nil ?_
  refine Tri.seq ?_
  refine Tri.seq ?_
  refine Tri.region ?_
  refine TriL.c1 rfl (op_mv (ltb rfl) rfl) ?_
  refine TriL.c1 rfl (op_mv (ltb rfl) rfl) ?_
  refine TriL.c1 rfl (op_call (ltb rfl) fn60 rfl (hr ▸ right4_pure n w)) ?_
  refine TriL.c1 rfl (op_un (ltb rfl) rfl rfl) ?_
  refine TriL.nil ?_
  refine Tri.condT rfl rfl ?_
  refine Tri.seq ?_
  refine Tri.region ?_
  refine TriL.c1 rfl (op_as (ltb rfl) rfl) ?_
  refine TriL.nil ?_
  refine Tri.ret ?_
  exact ⟨.inr rfl, (ResOK.r1 rfl (.tmp rfl .nil)), rfl⟩
theorem mfield_run (H : Hp) (id : Nat) (n w : Int) (x : Nat) (l : List UInt8) (qs : List (List UInt8)) (p y : List UInt8) (ns : List Int) (ho : H.obj id = some (refw (qs ++ [p]) ns)) (hr : rightok n w = true) (hb : PureO Try.prog 62 [.int .i64 n, .int .i64 w, .int .u64 (x : Int), .str l] 5 1 (bsl y)) (hq : qs.length ≤ 1048576) (hl : p.length + y.length ≤ 1073741824) : Run Try.prog 52 [.op id 0, .int .i64 n, .int .i64 w, .int .u64 (x : Int), .str l] H (.bool true) (H.set id (refw (qs ++ [p ++ y]) ns)) := by
  refine Run.of_tri Try.func52 rfl rfl (ltb rfl) ?_
  refine Tri.seq ?_
  refine Tri.region ?_
  refine TriL.c1 rfl (op_as (ltb rfl) rfl) ?_
  refine TriL.nil ?_
  refine Tri.seq ?_
  refine Tri.seq ?_
  refine Tri.region ?_
  refine TriL.c1 rfl (op_mv (ltb rfl) rfl) ?_
  refine TriL.c1 rfl (op_mv (ltb rfl) rfl) ?_
  refine TriL.c1 rfl (op_call (ltb rfl) fn60 rfl (hr ▸ right4_pure n w)) ?_
  refine TriL.c1 rfl (op_un (ltb rfl) rfl rfl) ?_
  refine TriL.nil ?_
  refine Tri.condF rfl rfl ?_
  refine Tri.skip ?_
  refine Tri.seq ?_
  refine Tri.region ?_
  refine TriL.c1 rfl (op_mv (ltb rfl) rfl) ?_
  refine TriL.c1 rfl (op_mv (ltb rfl) rfl) ?_
  refine TriL.c1 rfl (op_mv (ltb rfl) rfl) ?_
  refine TriL.c1 rfl (op_mv (ltb rfl) rfl) ?_
  refine TriL.c1 rfl (op_mv (ltb rfl) rfl) ?_
  refine TriL.c2 rfl (op_callo (ltb rfl) fn62 rfl hb rfl) ?_
  refine TriL.c2 rfl (op_callh (ltb rfl) fn55 rfl rfl (mplain_run H id qs p y ns ho hq hl)) ?_
  refine TriL.nil ?_
  refine Tri.seq ?_
  refine Tri.region ?_
  refine TriL.c1 rfl (op_as (ltb rfl) rfl) ?_
  refine TriL.nil ?_
  refine Tri.ret ?_
  exact ⟨.inr rfl, (ResOK.r1 rfl (.tmp rfl .nil)), rfl⟩
theorem mopen_bad (H : Hp) (id : Nat) (n : Int) (hr : rightok n 2 = false) : Run Try.prog 53 [.op id 0, .int .i64 n] H (.bool false) H := by
  refine Run.of_tri Try.func53 rfl rfl (ltb rfl) ?_
  refine Tri.seq ?_
  refine Tri.region ?_
  refine TriL.c1 rfl (op_as (ltb rfl) rfl) ?_
  refine TriL.nil ?_
  refine Tri.seq ?_
  refine Tri.seq ?_
  refine Tri.region ?_
  refine TriL.c1 rfl (op_mv (ltb rfl) rfl) ?_
  refine TriL.c1 rfl (op_call (ltb rfl) fn60 rfl (hr ▸ right4_pure n 2)) ?_
  refine TriL.c1 rfl (op_un (ltb rfl) rfl rfl) ?_
  refine TriL.nil ?_
  refine Tri.condT rfl rfl ?_
  refine Tri.seq ?_
  refine Tri.region ?_
  refine TriL.c1 rfl (op_as (ltb rfl) rfl) ?_
  refine TriL.nil ?_
  refine Tri.ret ?_
  exact ⟨.inr rfl, (ResOK.r1 rfl (.tmp rfl .nil)), rfl⟩
theorem mopen_run (H : Hp) (id : Nat) (n : Int) (ps : List (List UInt8)) (ns : List Int) (ho : H.obj id = some (refw ps ns)) (hr : rightok n 2 = true) (h1 : ps.length ≤ 1048576) (h2 : ns.length ≤ 1048576) : Run Try.prog 53 [.op id 0, .int .i64 n] H (.bool true) (H.set id (refw (ps ++ [[]]) (ns ++ [n]))) := by
  refine Run.of_tri Try.func53 rfl rfl (ltb rfl) ?_
  refine Tri.seq ?_
  refine Tri.region ?_
  refine TriL.c1 rfl (op_as (ltb rfl) rfl) ?_
  refine TriL.nil ?_
  refine Tri.seq ?_
  refine Tri.seq ?_
  refine Tri.region ?_
  refine TriL.c1 rfl (op_mv (ltb rfl) rfl) ?_
  refine TriL.c1 rfl (op_call (ltb rfl) fn60 rfl (hr ▸ right4_pure n 2)) ?_
  refine TriL.c1 rfl (op_un (ltb rfl) rfl rfl) ?_
  refine TriL.nil ?_
  refine Tri.condF rfl rfl ?_
  refine Tri.skip ?_
  refine Tri.seq ?_
  refine Tri.ofKept (Kept.opn 100 id 100 rfl ho rfl rfl (Kept.lp 0 100 rfl rfl (Kept.now ?_)))
  refine Tri.region ?_
  refine TriL.c1 rfl (op_mv (ltb rfl) rfl) ?_
  refine TriL.c1 rfl (op_mv (ltb rfl) rfl) ?_
  refine TriL.c1 rfl (op_nckl (ltb rfl) rfl) ?_
  refine TriL.c1 rfl (op_fal (ltb rfl) fo56_0 rfl) ?_
  refine TriL.c1 rfl (op_ldo (ltb rfl) lk54 rfl rfl rfl) ?_
  refine TriL.c1 rfl (op_lit («as» := []) (ltb rfl) se22 zAe22 rfl rfl rfl (leb rfl)) ?_
  refine TriL.c1 rfl (op_lit («as» := [_]) (ltb rfl) se54 zAe54 rfl rfl rfl (leb rfl)) ?_
  refine TriL.c3 rfl (op_apm (ltb rfl) se54 rfl rfl rfl rfl rfl rfl (by rw [sls_len]; simp only [List.length_cons, List.length_nil]; omega) (by rw [sls_len]; simp only [List.length_cons, List.length_nil]; omega)) ?_
  refine TriL.c1 rfl (op_nckl (ltb rfl) rfl) ?_
  refine TriL.c1 rfl (op_fal (ltb rfl) fo56_0 rfl) ?_
  refine TriL.c1 rfl (op_sto lk54 rfl rfl rfl rfl rfl (leb rfl)) ?_
  refine TriL.nil ?_
  refine Tri.seq ?_
  refine Tri.region ?_
  refine TriL.c1 rfl (op_mv (ltb rfl) rfl) ?_
  refine TriL.c1 rfl (op_mv (ltb rfl) rfl) ?_
  refine TriL.c1 rfl (op_nckl (ltb rfl) rfl) ?_
  refine TriL.c1 rfl (op_fal (ltb rfl) fo56_1 rfl) ?_
  refine TriL.c1 rfl (op_ldo (ltb rfl) lk41 rfl rfl rfl) ?_
  refine TriL.c1 rfl (op_mv (ltb rfl) rfl) ?_
  refine TriL.c1 rfl (op_lit («as» := [_]) (ltb rfl) se41 zAe41 rfl rfl rfl (leb rfl)) ?_
  refine TriL.c3 rfl (op_apm (ltb rfl) se41 rfl rfl rfl rfl rfl rfl (by rw [nil_len]; simp only [List.length_cons, List.length_nil]; omega) (by rw [nil_len]; simp only [List.length_cons, List.length_nil]; omega)) ?_
  refine TriL.c1 rfl (op_nckl (ltb rfl) rfl) ?_
  refine TriL.c1 rfl (op_fal (ltb rfl) fo56_1 rfl) ?_
  refine TriL.c1 rfl (op_sto lk41 rfl rfl rfl rfl rfl (leb rfl)) ?_
  refine TriL.kept (Kept.op 0 rfl rfl (Kept.cls 100 rfl rfl rfl rfl (Kept.now ?_)))
  refine Tri.seq ?_
  refine Tri.region ?_
  refine TriL.c1 rfl (op_as (ltb rfl) rfl) ?_
  refine TriL.nil ?_
  refine Tri.ret ?_
  refine ⟨.inr rfl, ResOK.r1 rfl (.tmp rfl .nil), ?_⟩
  have e : (H.del id).set id [.row 22 1 (sls ps ++ [.sl []]), .row 3 1 (nil_ ns ++ [.int .i64 n])] = H.set id (refw (ps ++ [[]]) (ns ++ [n])) := by
    rw [Hp.del_set, refw, sls_app, nil_app]; rfl
  exact congrArg (fun h => some (CV.hp h)) e
theorem mclose_bad (H : Hp) (id : Nat) (ps : List (List UInt8)) (ho : H.obj id = some (refw ps [])) : Run Try.prog 54 [.op id 0] H (.bool false) H := by
  refine Run.of_tri Try.func54 rfl rfl (ltb rfl) ?_
  refine Tri.seq ?_
  refine Tri.region ?_
  refine TriL.c1 rfl (op_as (ltb rfl) rfl) ?_
  refine TriL.nil ?_
  refine Tri.seq ?_
  refine Tri.region ?_
  refine TriL.c1 rfl (op_mv (ltb rfl) rfl) ?_
  refine TriL.c1 rfl (op_nckc (ltb rfl) rfl) ?_
  refine TriL.c1 rfl (op_fac (ltb rfl) fo56_1 rfl) ?_
  refine TriL.c1 rfl (op_ldc (ltb rfl) lk41 rfl rfl ho rfl) ?_
  refine TriL.c1 rfl (op_lensl (ltb rfl) un41 rfl) ?_
  refine TriL.c1 rfl (op_as (ltb rfl) rfl) ?_
  refine TriL.nil ?_
  refine Tri.seq ?_
  refine Tri.seq ?_
  refine Tri.region ?_
  refine TriL.c1 rfl (op_mv (ltb rfl) rfl) ?_
  refine TriL.c1 rfl (op_bin (ltb rfl) rfl rfl rfl) ?_
  refine TriL.nil ?_
  refine Tri.condT rfl rfl ?_
  refine Tri.seq ?_
  refine Tri.region ?_
  refine TriL.c1 rfl (op_as (ltb rfl) rfl) ?_
  refine TriL.nil ?_
  refine Tri.ret ?_
  exact ⟨.inr rfl, (ResOK.r1 rfl (.tmp rfl .nil)), rfl⟩
theorem mclose_run (H : Hp) (id : Nat) (qs : List (List UInt8)) (p b : List UInt8) (ms : List Int) (n : Int) (ho : H.obj id = some (refw (qs ++ [p] ++ [b]) (ms ++ [n]))) (hr : rightok n 2 = true) (hm : ms.length = qs.length) (hq : qs.length ≤ 1048576) (hl : p.length + b.length ≤ 1073741000) : Run Try.prog 54 [.op id 0] H (.bool true) (H.set id (refw (qs ++ [p ++ (vput (8 * n + 2).toNat ++ (vput b.length ++ b))]) ms)) := by
  have hqq := of_decide_eq_true hr
  have hm1 := vput_max (n := (8 * n + 2).toNat) (by omega)
  have hm2 := vput_max (n := b.length) (by omega)
  have hsl : (sls (qs ++ [p] ++ [b])).length = qs.length + 2 := by rw [sls_len]; simp
  have hnl : (nil_ (ms ++ [n])).length = ms.length + 1 := by rw [nil_len]; simp
  have hk0 : IntKind.i64.wrap (((nil_ (ms ++ [n])).length : Int) - 1) = (ms.length : Int) := by rw [hnl, wr64] <;> omega
  have hk1 : (((ms.length + 1 : Nat) : Nat) : Int).toNat = ms.length + 1 := rfl
  have hmm : ((ms.length : Nat) : Int).toNat = ms.length := rfl
  have hql : (ms.length + 1) * 1 = (qs ++ [p]).length * 1 := by simp; omega
  have hf1 : List.take ((((nil_ (ms ++ [n])).length : Nat) : Int)).toNat (sls (qs ++ [p] ++ [b])) = sls (qs ++ [p]) := by
    rw [hnl, hk1, sls_app (qs ++ [p]), List.take_append_of_le_length (by rw [sls_len]; simp; omega), List.take_of_length_le (by rw [sls_len]; simp; omega)]
  have hf2 : List.take (IntKind.i64.wrap (((nil_ (ms ++ [n])).length : Int) - 1)).toNat (nil_ (ms ++ [n])) = nil_ ms := by
    rw [hk0, hmm, nil_app, List.take_append_of_le_length (by rw [nil_len]; omega), List.take_of_length_le (by rw [nil_len]; omega)]
  refine Run.of_tri Try.func54 rfl rfl (ltb rfl) ?_
  refine Tri.seq ?_
  refine Tri.region ?_
  refine TriL.c1 rfl (op_as (ltb rfl) rfl) ?_
  refine TriL.nil ?_
  refine Tri.seq ?_
  refine Tri.region ?_
  refine TriL.c1 rfl (op_mv (ltb rfl) rfl) ?_
  refine TriL.c1 rfl (op_nckc (ltb rfl) rfl) ?_
  refine TriL.c1 rfl (op_fac (ltb rfl) fo56_1 rfl) ?_
  refine TriL.c1 rfl (op_ldc (ltb rfl) lk41 rfl rfl ho rfl) ?_
  refine TriL.c1 rfl (op_lensl (ltb rfl) un41 rfl) ?_
  refine TriL.c1 rfl (op_as (ltb rfl) rfl) ?_
  refine TriL.nil ?_
  refine Tri.seq ?_
  refine Tri.seq ?_
  refine Tri.region ?_
  refine TriL.c1 rfl (op_mv (ltb rfl) rfl) ?_
  refine TriL.c1 rfl (op_bin (ltb rfl) rfl rfl rfl) ?_
  refine TriL.nil ?_
  refine Tri.condF rfl (by rw [hnl]; simp; omega) ?_
  refine Tri.skip ?_
  refine Tri.seq ?_
  refine Tri.ofKept (Kept.opn 100 id 100 rfl ho rfl rfl (Kept.lp 0 100 rfl rfl (Kept.now ?_)))
  refine Tri.drawn mixed rfl ?_
  refine TriD.c1 rfl (op_mv (ltb rfl) rfl) ?_
  refine TriD.c1 rfl (op_nckl (ltb rfl) rfl) ?_
  refine TriD.c1 rfl (op_fal (ltb rfl) fo56_0 rfl) ?_
  refine TriD.c1 rfl (op_ldo (ltb rfl) lk54 rfl rfl rfl) ?_
  refine TriD.c1 rfl (op_mv (ltb rfl) rfl) ?_
  refine TriD.c1 rfl (op_iam (ltb rfl) ie54 rfl rfl rfl (by rw [hnl]; omega) (by rw [hnl, hsl]; omega)) ?_
  refine TriD.c1 rfl (op_ldt (ltb rfl) lk22 rfl rfl (by rw [hnl, hk1, hql, sls_last]; rfl)) ?_
  refine TriD.c1 rfl (op_mv (ltb rfl) rfl) ?_
  refine TriD.c1 rfl (op_nckl (ltb rfl) rfl) ?_
  refine TriD.c1 rfl (op_fal (ltb rfl) fo56_1 rfl) ?_
  refine TriD.c1 rfl (op_ldo (ltb rfl) lk41 rfl rfl rfl) ?_
  refine TriD.c1 rfl (op_mv (ltb rfl) rfl) ?_
  refine TriD.c1 rfl (op_bin (ltb rfl) rfl rfl rfl) ?_
  refine TriD.c1 rfl (op_iam (ltb rfl) ie41 rfl rfl rfl (by rw [hk0]; omega) (by rw [hk0, hnl]; omega)) ?_
  refine TriD.c1 rfl (op_ldt (ltb rfl) lk3 rfl rfl (by rw [hk0, hmm, nil_last]; rfl)) ?_
  refine TriD.c1 rfl (op_as (ltb rfl) rfl) ?_
  refine TriD.c1 rfl (op_as (ltb rfl) rfl) ?_
  refine TriD.nil (by kernel_rfl) (Kept.now ?_)
  refine Tri.seq ?_
  refine Tri.region ?_
  refine TriL.c1 rfl (op_mv (ltb rfl) rfl) ?_
  refine TriL.c1 rfl (op_mv (ltb rfl) rfl) ?_
  refine TriL.c1 rfl (op_nckl (ltb rfl) rfl) ?_
  refine TriL.c1 rfl (op_fal (ltb rfl) fo56_0 rfl) ?_
  refine TriL.c1 rfl (op_ldo (ltb rfl) lk54 rfl rfl rfl) ?_
  refine TriL.c1 rfl (op_mv (ltb rfl) rfl) ?_
  refine TriL.c3 rfl (op_cutom (ltb rfl) ie54 rfl rfl rfl rfl (by rw [hnl]; omega) (by rw [hnl, hsl]; omega) rfl) ?_
  refine TriL.c1 rfl (op_nckl (ltb rfl) rfl) ?_
  refine TriL.c1 rfl (op_fal (ltb rfl) fo56_0 rfl) ?_
  refine TriL.c1 rfl (op_sto lk54 rfl rfl rfl rfl rfl (leb rfl)) ?_
  refine TriL.nil ?_
  refine Tri.seq ?_
  refine Tri.region ?_
  refine TriL.c1 rfl (op_mv (ltb rfl) rfl) ?_
  refine TriL.c1 rfl (op_mv (ltb rfl) rfl) ?_
  refine TriL.c1 rfl (op_nckl (ltb rfl) rfl) ?_
  refine TriL.c1 rfl (op_fal (ltb rfl) fo56_1 rfl) ?_
  refine TriL.c1 rfl (op_ldo (ltb rfl) lk41 rfl rfl rfl) ?_
  refine TriL.c1 rfl (op_mv (ltb rfl) rfl) ?_
  refine TriL.c1 rfl (op_bin (ltb rfl) rfl rfl rfl) ?_
  refine TriL.c3 rfl (op_cutom (ltb rfl) ie41 rfl rfl rfl rfl (by rw [hk0]; omega) (by rw [hk0, hnl]; omega) rfl) ?_
  refine TriL.c1 rfl (op_nckl (ltb rfl) rfl) ?_
  refine TriL.c1 rfl (op_fal (ltb rfl) fo56_1 rfl) ?_
  refine TriL.c1 rfl (op_sto lk41 rfl rfl rfl rfl rfl (leb rfl)) ?_
  refine TriL.kept (Kept.op 0 rfl rfl (Kept.cls 100 rfl rfl rfl rfl (Kept.now ?_)))
  rw [hf1, hf2, Hp.del_set]
  refine Tri.seq ?_  -- region 7 ref.go:71
  refine Tri.region ?_
  refine TriL.c1 rfl (op_mv (ltb rfl) rfl) ?_
  refine TriL.c1 rfl (op_mv (ltb rfl) rfl) ?_
  refine TriL.c1 rfl (op_mv (ltb rfl) rfl) ?_
  refine TriL.c1 rfl (op_b2s (ltb rfl) un22 unel22 un9 rfl (bytesOf_bsl _)) ?_
  refine TriL.c2 rfl (op_callo (ltb rfl) fn62 rfl (rbytes2 n 2 0 b hr rfl (by omega)) rfl) ?_
  refine TriL.c2 rfl (op_callh (ltb rfl) fn55 rfl rfl (mplain_run _ id qs p (vput (8 * n + 2).toNat ++ (vput b.length ++ b)) ms Hp.set_obj hq (by simp only [List.length_append]; omega))) ?_
  refine TriL.nil ?_
  refine Tri.seq ?_
  refine Tri.region ?_
  refine TriL.c1 rfl (op_as (ltb rfl) rfl) ?_
  refine TriL.nil ?_
  refine Tri.ret ?_
  refine ⟨.inr rfl, ResOK.r1 rfl (.tmp rfl .nil), ?_⟩
  exact congrArg (fun h => some (CV.hp h)) Hp.set_set
def StML (H : Hp) (id : Nat) (ps : List (List UInt8)) (ns : List Int) (a j : Int) : St := [(.h, .hp (H.del id)), (.s 0, .sv (.lp 100 0)), (.s 3, .sv (.v (.int .i64 a))), (.s 4, .sv (.v (.int .i64 j))), (.b 100, .ob id [.om 100 (sls ps).length, .om 101 (nil_ ns).length]), (.t 100, .tk true 22 1 (sls ps)), (.t 101, .tk true 3 1 (nil_ ns))]
theorem flat_take {ps : List (List UInt8)} {i : Nat} {p : List UInt8} (h : ps[i]? = some p) : (ps.take (i + 1)).flatten.length = (ps.take i).flatten.length + p.length := by rw [List.take_add_one, h]; simp
theorem flat_le (ps : List (List UInt8)) (i : Nat) : (ps.take i).flatten.length ≤ ps.flatten.length := by
  have := congrArg List.length (congrArg List.flatten (List.take_append_drop i ps))
  rw [List.flatten_append, List.length_append] at this; omega
theorem sls_at {ps : List (List UInt8)} {i : Nat} {p : List UInt8} (h : ps[i]? = some p) : ((sls ps).flatMap AV.cells).drop (i * 1) = .sl (bsl p) :: (sls ps).drop (i + 1) := by
  have hi : i < (sls ps).length := by rw [sls_len]; exact (List.getElem?_eq_some_iff.1 h).1
  rw [sls_fm, Nat.mul_one, List.drop_eq_getElem_cons hi]
  congr 1
  have : (sls ps)[i]? = some (.sl (bsl p)) := by simp [sls, h]
  rw [List.getElem?_eq_getElem hi] at this; exact Option.some.inj this
theorem mlen_run (H : Hp) (id : Nat) (ps : List (List UInt8)) (ns : List Int) (ho : H.obj id = some (refw ps ns)) (h1 : ps.length ≤ 1048576) (h2 : ps.flatten.length ≤ 1073741824) : Run Try.prog 30 [.op id 0] H (.int .i64 (ps.flatten.length : Nat)) H := by
  refine Run.of_tri Try.func30 rfl rfl (ltb rfl) ?_
  refine Tri.seq ?_
  refine Tri.region ?_
  refine TriL.c1 rfl (op_as (ltb rfl) rfl) ?_
  refine TriL.nil ?_
  refine Tri.seq ?_
  refine Tri.region ?_
  refine TriL.c1 rfl (op_as (ltb rfl) rfl) ?_
  refine TriL.nil ?_
  refine Tri.seq ?_
  refine Tri.seq ?_
  refine Tri.ofKept (Kept.opn 100 id 100 rfl ho rfl rfl (Kept.lp 0 100 rfl rfl (Kept.now ?_)))
  refine Tri.region ?_
  refine TriL.c1 rfl (op_as (ltb rfl) rfl) ?_
  refine TriL.kept (Kept.keep [.h, .s 0, .s 3, .s 4, .b 100, .t 100, .t 101] rfl (by decide) (Kept.now ?_))
  refine Tri.blk ?_
  -- LOOP 1: KEEP
  refine Tri.loop (fun q s => ∃ (i : Nat) (a j : Int), s = StML H id ps ns a j ∧ j = i ∧ a = ((ps.take i).flatten.length : Nat) ∧ i ≤ ps.length ∧ q = ps.length - i) ?_ (n := ps.length) ⟨0, 0, 0, rfl, rfl, rfl, by omega, rfl⟩
  rintro q s ⟨i, a, j, rfl, hj, ha, hi, rfl⟩
  have hsl := sls_len ps
  refine Tri.seq ?_
  refine Tri.seq ?_
  refine Tri.region ?_
  refine TriL.c1 rfl (op_mv (ltb rfl) rfl) ?_
  refine TriL.c1 rfl (op_mv (ltb rfl) rfl) ?_
  refine TriL.c1 rfl (op_nckl (ltb rfl) rfl) ?_
  refine TriL.c1 rfl (op_fal (ltb rfl) fo56_0 rfl) ?_
  refine TriL.c1 rfl (op_ldo (ltb rfl) lk54 rfl rfl rfl) ?_
  refine TriL.c1 rfl (op_lenom (ltb rfl) un54 rfl) ?_
  refine TriL.c1 rfl (op_bin (ltb rfl) rfl rfl rfl) ?_
  refine TriL.nil ?_
  refine Tri.cond rfl (fun hc1 => ?_) (fun hc1 => ?_)
  · have hlt : i < ps.length := by have := of_decide_eq_true hc1; omega
    obtain ⟨p, hp⟩ : ∃ p, ps[i]? = some p := ⟨ps[i], List.getElem?_eq_getElem hlt⟩
    have hfl := flat_take hp
    have hfe := flat_le ps (i + 1)
    have hbl := bsl_len p
    subst hj
    refine Tri.skip ?_
    refine Tri.seq ?_
    refine Tri.blk ?_
    refine Tri.region ?_
    refine TriL.c1 rfl (op_mv (ltb rfl) rfl) ?_
    refine TriL.c1 rfl (op_mv (ltb rfl) rfl) ?_
    refine TriL.c1 rfl (op_nckl (ltb rfl) rfl) ?_
    refine TriL.c1 rfl (op_fal (ltb rfl) fo56_0 rfl) ?_
    refine TriL.c1 rfl (op_ldo (ltb rfl) lk54 rfl rfl rfl) ?_
    refine TriL.c1 rfl (op_mv (ltb rfl) rfl) ?_
    refine TriL.c1 rfl (op_iam (ltb rfl) ie54 rfl rfl rfl (by omega) (by omega)) ?_
    refine TriL.c1 rfl (op_ldt (ltb rfl) lk22 rfl rfl (by rw [Int.toNat_natCast, sls_at hp]; rfl)) ?_
    refine TriL.c1 rfl (op_lenl (ltb rfl) un22 rfl) ?_
    refine TriL.c1 rfl (op_bin (ltb rfl) rfl rfl rfl) ?_
    refine TriL.c1 rfl (op_as (ltb rfl) rfl) ?_
    refine TriL.nil ?_
    refine Tri.region ?_
    refine TriL.c1 rfl (op_mv (ltb rfl) rfl) ?_
    refine TriL.c1 rfl (op_bin (ltb rfl) rfl rfl rfl) ?_
    refine TriL.c1 rfl (op_as (ltb rfl) rfl) ?_
    refine TriL.kept (Kept.keep [.h, .s 0, .s 3, .s 4, .b 100, .t 100, .t 101] rfl (by decide) (Kept.now ?_))
    refine ⟨ps.length - (i + 1), by omega, i + 1, IntKind.i64.wrap (a + ((bsl p).length : Int)), IntKind.i64.wrap ((i : Int) + 1), rfl, by rw [wr64] <;> omega, by rw [wr64] <;> omega, by omega, rfl⟩
  · have hge : i = ps.length := by have := of_decide_eq_false hc1; omega
    rw [hge, List.take_length] at ha
    subst ha
    refine Tri.exit ?_
    refine Tri.seq ?_
    refine Tri.region ?_
    refine TriL.c1 rfl (op_mv (ltb rfl) rfl) ?_
    refine TriL.c1 rfl (op_as (ltb rfl) rfl) ?_
    refine TriL.kept (Kept.op 0 rfl rfl (Kept.cls 100 rfl rfl rfl rfl (Kept.now ?_)))
    refine Tri.ret ?_
    refine ⟨.inr rfl, ResOK.r1 rfl (.tmp rfl .nil), ?_⟩
    have e : (H.del id).set id (refw ps ns) = H := by rw [Hp.del_set, Hp.set_same ho]
    exact congrArg (fun h => some (CV.hp h)) e
end Go.Proofs.Ytecjdohpfijmpaa.X
