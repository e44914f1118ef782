/- EmitReads: what is written in frames, and texts, is read back. -/
import Derived.Test.YtecjdohpfijmpaaE17
import Derived.Test.YtecjdohpfijmpaaXN
set_option linter.unusedVariables false
set_option linter.unusedSimpArgs false
namespace Go.Proofs.Ytecjdohpfijmpaa.X
open Go Go.RowKit Go.Proofs
theorem fn20 : isFn Try.prog 20 = true := by kernel_rfl
theorem fn22 : isFn Try.prog 22 = true := by kernel_rfl
theorem fn23 : isFn Try.prog 23 = true := by kernel_rfl
theorem fn24 : isFn Try.prog 24 = true := by kernel_rfl
theorem fn25 : isFn Try.prog 25 = true := by kernel_rfl
theorem ie30 : ie Try.prog 30 = some 1 := by kernel_rfl
theorem lk9 : lk Try.prog 9 = some (false, 1) := by kernel_rfl
theorem un30 : Try.prog.underlying 30 = some (TypeDesc.slice 9) := Try.underlying30
/-- the frames that are open, of the first numbers, all at the start -/
def frs (i : Nat) : List AV := (List.range i).map fun k => frm ((k + 1 : Nat) : Int) ((0 : Nat) : Int)
theorem frs_succ (i : Nat) : frs (i + 1) = frs i ++ [frm ((i + 1 : Nat) : Int) ((0 : Nat) : Int)] := by simp [frs, List.range_succ]
theorem frs_len (i : Nat) : (frs i).length = i := by simp [frs]
theorem frs_ok (i : Nat) : ∀ f ∈ frs i, ∃ a b, f = frm a b := by
  intro f hf; simp only [frs, List.mem_map] at hf; obtain ⟨k, _, rfl⟩ := hf; exact ⟨_, _, rfl⟩
/-- texts of the field 7 -/
def txt (l : List (List UInt8)) : List UInt8 := l.flatMap fun x => vput 58 ++ (vput x.length ++ x)
theorem txt_cons (x : List UInt8) (l : List (List UInt8)) : txt (x :: l) = vput 58 ++ (vput x.length ++ (x ++ txt l)) := by simp [txt]
theorem txt_take {l : List (List UInt8)} {i : Nat} {x : List UInt8} (h : l[i]? = some x) : txt (l.take (i + 1)) = txt (l.take i) ++ vput 58 ++ [vput x.length, x].flatten := by
  rw [List.take_add_one, h]; simp [txt]
theorem txt_len {l : List (List UInt8)} (h : ∀ x ∈ l, x.length ≤ 300) : (txt l).length ≤ 320 * l.length := by
  induction l with
  | nil => simp [txt]
  | cons x l ih =>
    have h1 := h x (by simp)
    have h2 := ih (fun y hy => h y (by simp [hy]))
    have h3 := vput_max (n := 58) (by decide)
    have h4 := vput_max (n := x.length) (by omega)
    rw [txt_cons]; simp only [List.length_append, List.length_cons]; omega
/-- what is there when j of n frames are shut -/
def lay (t : List UInt8) (n : Nat) : Nat → List UInt8
  | 0 => t
  | j + 1 => vput (8 * (n - j) + 2) ++ (vput (lay t n j).length ++ lay t n j)
theorem lay_len (t : List UInt8) (n : Nat) (hn : n ≤ 9) (ht : t.length ≤ 6400) : ∀ j, j ≤ 9 → (lay t n j).length ≤ 6400 + 20 * j
  | 0, _ => by simp [lay]; exact ht
  | j + 1, h => by
    have h1 := lay_len t n hn ht j (by omega)
    have h2 := vput_max (n := 8 * (n - j) + 2) (by omega)
    have h3 := vput_max (n := (lay t n j).length) (by omega)
    simp only [lay, List.length_append]; omega
theorem shut_lay (t : List UInt8) (n j : Nat) : shut (lay t n j) ((n - j : Nat) : Int) 0 = lay t n (j + 1) := by
  simp only [shut, lay, List.take_zero, List.nil_append, List.drop_zero, Nat.sub_zero, List.append_assoc]
  congr 2
theorem rightok_num (i : Nat) (h : i ≤ 8) : rightok ((i + 1 : Nat) : Int) 2 = true := decide_eq_true (by omega)
def StR (H : Hp) (id : Nat) (l : List (List UInt8)) (n : Nat) (k : Nat) (j : Int) : St := [(.h, .hp H), (.s 0, .sv (.v (.sl (l.map .str)))), (.s 5, .sv (.v (.op id 0))), (.s 6, .sv (.v (.int .i64 (n : Int)))), (.s k, .sv (.v (.int .i64 j)))]
def StC (H : Hp) (id : Nat) (l : List (List UInt8)) (n : Nat) (k : Nat) (j : Int) : St := [(.h, .hp H), (.s 0, .sv (.v (.sl (l.map .str)))), (.s 6, .sv (.v (.int .i64 (n : Int)))), (.s 10, .sv (.v (.op id 0))), (.s k, .sv (.v (.int .i64 j)))]
theorem drop_len {α : Type} {B X : List α} {p : Nat} (h : B.drop p = X) (hp : p ≤ B.length) : p + X.length = B.length := by rw [← h, List.length_drop]; omega
theorem drop_more {α : Type} {B X Y : List α} {p k : Nat} (h : B.drop p = X ++ Y) (hk : k = X.length) : B.drop (p + k) = Y := by
  subst hk; rw [← List.drop_drop, h, List.drop_left]
theorem vget_in {B : List UInt8} {p x : Nat} {r : List UInt8} (h : B.drop p = vput x ++ r) (hx : x < 18446744073709551616) (hp : p ≤ B.length) : vget ((B.drop p).take (B.length - p)) = (x, (vput x).length) := by
  rw [List.take_of_length_le (by rw [List.length_drop]; exact Nat.le_refl _), h]; exact vget_put x r hx
theorem rep_succ {α : Type} (i : Nat) (x : α) : List.replicate i x ++ [x] ++ [x] = List.replicate (i + 1) x ++ [x] := by rw [List.replicate_succ']
theorem open_run' (H : Hp) (id : Nat) (n : Int) (b : List UInt8) (fs : List AV) (m : Nat) (ho : H.obj id = some (wr (bsl b) fs)) (hr : rightok n 2 = true) (hl : fs.length ≤ 1048576) (e : b.length = m) : Run Try.prog 17 [.op id 0, .int .i64 n] H (.bool true) (H.set id (wr (bsl b) (fs ++ [frm n ((m : Nat) : Int)]))) := by
  have := open_run H id n b fs ho hr hl
  rw [bsl_len, e] at this; exact this
theorem reads_run (H : Hp) (l : List (List UInt8)) (d : Nat) (hd0 : d < 256) : RunX Try.prog 6 [.sl (l.map .str), .int .u8 (d : Int)] H (.bool true) := by
  have hdm : IntKind.i64.wrap (((d : Int)).tmod 10) = ((d % 10 : Nat) : Int) := by rw [Int.tmod_eq_emod_of_nonneg (by omega), wr64 (by omega) (by omega)]; omega
  have hml0 : (l.map AV.str).length = l.length := by simp
  refine RunX.of_tri Try.func6 rfl rfl (ltb rfl) ?_
  refine Tri.seq ?_
  refine Tri.region ?_
  refine TriL.c1 rfl (op_as (ltb rfl) rfl) ?_
  refine TriL.nil ?_
  refine Tri.seq ?_
  refine Tri.seq ?_
  refine Tri.region ?_
  refine TriL.c1 rfl (op_mv (ltb rfl) rfl) ?_
  refine TriL.c1 rfl (op_lenl (ltb rfl) un30 rfl) ?_
  refine TriL.c1 rfl (op_bin (ltb rfl) rfl rfl rfl) ?_
  refine TriL.nil ?_
  refine Tri.cond rfl (fun hc1 => ?_) (fun hc1 => ?_)
  · refine Tri.seq ?_
    refine Tri.region ?_
    refine TriL.c2 rfl (op_callh (ltb rfl) fn15 rfl rfl (live_run _)) ?_
    refine TriL.c1 rfl (op_as (ltb rfl) rfl) ?_
    refine TriL.nil ?_
    refine Tri.ret ?_
    exact ⟨.inr rfl, (ResOK.r1 rfl (.tmp rfl .nil))⟩
  · have h20 : l.length ≤ 20 := by have := of_decide_eq_false hc1; omega
    have hd : d % 10 ≤ 9 := by omega
    refine Tri.skip ?_
    refine Tri.seq ?_
    refine Tri.region ?_
    refine TriL.c2 rfl (op_callh (ltb rfl) fn16 rfl rfl (new_add H)) ?_
    refine TriL.c1 rfl (op_as (ltb rfl) rfl) ?_
    refine TriL.nil ?_
    refine Tri.seq ?_
    refine Tri.region ?_
    refine TriL.c1 rfl (op_mv (ltb rfl) rfl) ?_
    refine TriL.c1 rfl (op_bin (ltb rfl) rfl rfl rfl) ?_
    refine TriL.c1 rfl (op_cvi (ltb rfl) un5 un3 rfl) ?_
    refine TriL.c1 rfl (op_as (ltb rfl) rfl) ?_
    refine TriL.nil ?_
    refine Tri.seq ?_
    refine Tri.seq ?_
    refine Tri.region ?_
    refine TriL.c1 rfl (op_as (ltb rfl) rfl) ?_
    rw [hdm]
    refine TriL.kept (Kept.keep [.h, .s 0, .s 5, .s 6, .s 7] rfl (by decide) (Kept.now ?_))
    refine Tri.blk ?_
    -- LOOP 1: KEEP
    refine Tri.loop (fun q s => ∃ (i : Nat) (HH : Hp) (j : Int), s = StR HH H.next l (d % 10) 7 j ∧ j = i ∧ HH.obj H.next = some (wr (bsl []) (frs i)) ∧ i ≤ d % 10 ∧ q = d % 10 - i) ?_ (n := d % 10) ⟨0, _, 0, rfl, rfl, Hp.add_obj, by omega, rfl⟩
    rintro q s ⟨i, HH, j, rfl, hj, ho, hi, rfl⟩
    refine Tri.seq ?_
    refine Tri.seq ?_
    refine Tri.region ?_
    refine TriL.c1 rfl (op_mv (ltb rfl) rfl) ?_
    refine TriL.c1 rfl (op_mv (ltb rfl) rfl) ?_
    refine TriL.c1 rfl (op_bin (ltb rfl) rfl rfl rfl) ?_
    refine TriL.nil ?_
    refine Tri.cond rfl (fun hc2 => ?_) (fun hc2 => ?_)
    · have hlt : i < d % 10 := by have := of_decide_eq_true hc2; omega
      refine Tri.skip ?_
      refine Tri.seq ?_
      refine Tri.blk ?_
      refine Tri.seq ?_
      refine Tri.region ?_
      refine TriL.c1 rfl (op_mv (ltb rfl) rfl) ?_
      refine TriL.c1 rfl (op_mv (ltb rfl) rfl) ?_
      refine TriL.c1 rfl (op_bin (ltb rfl) rfl rfl rfl) ?_
      refine TriL.c2 rfl (op_callh (ltb rfl) fn17 rfl rfl (open_run' HH H.next _ [] (frs i) 0 ho (by rw [hj, wr64 (by omega) (by omega)]; exact rightok_num i (by omega)) (by rw [frs_len]; omega) rfl)) ?_
      refine TriL.c1 rfl (op_un (ltb rfl) rfl rfl) ?_
      refine TriL.nil ?_
      refine Tri.condF rfl rfl ?_
      refine Tri.skip ?_
      refine Tri.region ?_
      refine TriL.c1 rfl (op_mv (ltb rfl) rfl) ?_
      refine TriL.c1 rfl (op_bin (ltb rfl) rfl rfl rfl) ?_
      refine TriL.c1 rfl (op_as (ltb rfl) rfl) ?_
      refine TriL.kept (Kept.keep [.h, .s 0, .s 5, .s 6, .s 7] rfl (by decide) (Kept.now ?_))
      refine ⟨d % 10 - (i + 1), by omega, i + 1, _, IntKind.i64.wrap (j + 1), rfl, by rw [hj, wr64] <;> omega, ?_, by omega, rfl⟩
      rw [show IntKind.i64.wrap (j + 1) = ((i + 1 : Nat) : Int) by rw [hj, wr64 (by omega) (by omega)]; omega, frs_succ]; exact Hp.set_obj
    · have hge : i = d % 10 := by have := of_decide_eq_false hc2; omega
      subst hge
      refine Tri.exit ?_
      refine Tri.seq ?_
      refine Tri.seq ?_
      refine Tri.region ?_
      refine TriL.c1 rfl (op_as (ltb rfl) rfl) ?_
      refine TriL.kept (Kept.keep [.h, .s 0, .s 5, .s 6, .s 8] rfl (by decide) (Kept.now ?_))
      refine Tri.blk ?_
      -- LOOP 2: KEEP
      refine Tri.loop (fun q s => ∃ (i : Nat) (HH : Hp) (j : Int), s = StR HH H.next l (d % 10) 8 j ∧ j = i ∧ HH.obj H.next = some (wr (bsl (txt (l.take i))) (frs (d % 10))) ∧ (∀ x ∈ l.take i, x.length ≤ 300) ∧ i ≤ l.length ∧ q = l.length - i) ?_ (n := l.length) ⟨0, _, 0, rfl, rfl, ho, by simp, by omega, rfl⟩
      clear ho
      clear hj
      clear hi
      clear HH
      rintro q s ⟨i, HH, j, rfl, hj, ho, hall, hi, rfl⟩
      have hml : (l.map AV.str).length = l.length := by simp
      refine Tri.seq ?_
      refine Tri.seq ?_
      refine Tri.region ?_
      refine TriL.c1 rfl (op_mv (ltb rfl) rfl) ?_
      refine TriL.c1 rfl (op_mv (ltb rfl) rfl) ?_
      refine TriL.c1 rfl (op_lenl (ltb rfl) un30 rfl) ?_
      refine TriL.c1 rfl (op_bin (ltb rfl) rfl rfl rfl) ?_
      refine TriL.nil ?_
      refine Tri.cond rfl (fun hc3 => ?_) (fun hc3 => ?_)
      · have hlt : i < l.length := by have := of_decide_eq_true hc3; omega
        obtain ⟨x, hx⟩ : ∃ x, l[i]? = some x := ⟨l[i], List.getElem?_eq_getElem hlt⟩
        have hxs : (l.map AV.str)[j.toNat]? = some (.str x) := by subst hj; simp [hx]
        have htl := txt_len hall
        rw [List.length_take, Nat.min_eq_left (by omega)] at htl
        refine Tri.skip ?_
        refine Tri.seq ?_
        refine Tri.blk ?_
        refine Tri.seq ?_
        refine Tri.region ?_
        refine TriL.c1 rfl (op_mv (ltb rfl) rfl) ?_
        refine TriL.c1 rfl (op_mv (ltb rfl) rfl) ?_
        refine TriL.c1 rfl (op_iak (ltb rfl) ie30 rfl rfl (by omega) hxs rfl) ?_
        refine TriL.c1 rfl (op_ldk (ltb rfl) lk9 rfl rfl) ?_
        refine TriL.c1 rfl (op_lens (ltb rfl) un9 rfl) ?_
        refine TriL.c1 rfl (op_bin (ltb rfl) rfl rfl rfl) ?_
        refine TriL.c1 rfl (op_mv (ltb rfl) rfl) ?_
        have hvx := vput_max (n := x.length % 18446744073709551616) (by omega)
        have h58 := vput_max (n := 58) (by decide)
        refine TriL.split (d := 47) rfl (fun hg4 => ?_) (fun hg4 => ?_)
        · refine TriL.skipu rfl rfl (ltb rfl) (ltb rfl) rfl hg4 ?_
          refine TriL.skipu rfl rfl (ltb rfl) (ltb rfl) rfl hg4 ?_
          refine TriL.skipu rfl rfl (ltb rfl) (ltb rfl) rfl hg4 ?_
          refine TriL.skipu rfl rfl (ltb rfl) (ltb rfl) rfl hg4 ?_
          refine TriL.skipu rfl rfl (ltb rfl) (ltb rfl) rfl hg4 ?_
          refine TriL.skipu rfl rfl (ltb rfl) (ltb rfl) rfl hg4 ?_
          refine TriL.skipu rfl rfl (ltb rfl) (ltb rfl) rfl hg4 ?_
          refine TriL.c1 rfl (op_pickt (ltb rfl) rfl hg4 rfl) ?_
          refine TriL.nil ?_
          refine Tri.condT rfl rfl ?_
          refine Tri.seq ?_
          refine Tri.region ?_
          refine TriL.c1 rfl (op_mv (ltb rfl) rfl) ?_
          refine TriL.c1 rfl (op_mv (ltb rfl) rfl) ?_
          refine TriL.c1 rfl (op_iak (ltb rfl) ie30 rfl rfl (by omega) hxs rfl) ?_
          refine TriL.c1 rfl (op_ldk (ltb rfl) lk9 rfl rfl) ?_
          refine TriL.c1 rfl (op_lens (ltb rfl) un9 rfl) ?_
          refine TriL.c1 rfl (op_bin (ltb rfl) rfl rfl rfl) ?_
          refine TriL.c1 rfl (op_mv (ltb rfl) rfl) ?_
          refine TriL.g2 rfl (ltb rfl) rfl hg4 (op_callh (ltb rfl) fn15 rfl rfl (live_run _)) ?_
          refine TriL.c1 rfl (op_pickt (ltb rfl) rfl hg4 rfl) ?_
          refine TriL.c1 rfl (op_as (ltb rfl) rfl) ?_
          refine TriL.nil ?_
          refine Tri.ret ?_
          exact ⟨.inr rfl, (ResOK.r1 rfl (.tmp rfl .nil))⟩
        · have hx3 : x.length ≤ 300 := by have := of_decide_eq_false hg4; omega
          have hvx2 := vput_max (n := x.length) (by omega)
          refine TriL.g1 rfl (ltb rfl) rfl hg4 (op_mv (ltb rfl) rfl) ?_
          refine TriL.g1 rfl (ltb rfl) rfl hg4 (op_mv (ltb rfl) rfl) ?_
          refine TriL.g1 rfl (ltb rfl) rfl hg4 (op_mv (ltb rfl) rfl) ?_
          refine TriL.g1 rfl (ltb rfl) rfl hg4 (op_iak (ltb rfl) ie30 rfl rfl (by omega) hxs rfl) ?_
          refine TriL.g1 rfl (ltb rfl) rfl hg4 (op_ldk (ltb rfl) lk9 rfl rfl) ?_
          refine TriL.g2 rfl (ltb rfl) rfl hg4 (op_callh (ltb rfl) fn18 rfl rfl (text_wrap' _ _ _ 7 x true (by have hf := field_run HH H.next (txt (l.take i)) (frs (d % 10)) 7 2 [vput x.length, x] ho rfl (by simp only [List.flatten_cons, List.flatten_nil, List.append_nil, List.length_append]; omega) (by simp); rw [Nat.mod_eq_of_lt (show x.length < 18446744073709551616 by omega)]; exact hf))) ?_
          refine TriL.g1 rfl (ltb rfl) rfl hg4 (op_un (ltb rfl) rfl rfl) ?_
          refine TriL.c1 rfl (op_pickf (ltb rfl) rfl hg4 rfl) ?_
          refine TriL.nil ?_
          refine Tri.condF rfl rfl ?_
          refine Tri.skip ?_
          refine Tri.region ?_
          refine TriL.c1 rfl (op_mv (ltb rfl) rfl) ?_
          refine TriL.c1 rfl (op_bin (ltb rfl) rfl rfl rfl) ?_
          refine TriL.c1 rfl (op_as (ltb rfl) rfl) ?_
          refine TriL.kept (Kept.keep [.h, .s 0, .s 5, .s 6, .s 8] rfl (by decide) (Kept.now ?_))
          refine ⟨l.length - (i + 1), by omega, i + 1, _, IntKind.i64.wrap (j + 1), rfl, by rw [hj, wr64] <;> omega, by rw [txt_take hx]; exact Hp.set_obj, ?_, by omega, rfl⟩
          intro y hy
          rw [List.take_add_one, hx] at hy
          rcases List.mem_append.1 hy with h | h
          · exact hall y h
          · simp at h; subst h; exact hx3
      · have hge : i = l.length := by have := of_decide_eq_false hc3; omega
        subst hge
        rw [List.take_length] at ho hall
        have htl := txt_len hall
        refine Tri.exit ?_
        refine Tri.seq ?_
        refine Tri.seq ?_
        refine Tri.region ?_
        refine TriL.c1 rfl (op_as (ltb rfl) rfl) ?_
        refine TriL.kept (Kept.keep [.h, .s 0, .s 5, .s 6, .s 9] rfl (by decide) (Kept.now ?_))
        refine Tri.blk ?_
        -- LOOP 3: KEEP
        refine Tri.loop (fun q s => ∃ (i : Nat) (HH : Hp) (j : Int), s = StR HH H.next l (d % 10) 9 j ∧ j = i ∧ HH.obj H.next = some (wr (bsl (lay (txt l) (d % 10) i)) (frs (d % 10 - i))) ∧ i ≤ d % 10 ∧ q = d % 10 - i) ?_ (n := d % 10) ⟨0, _, 0, rfl, rfl, ho, by omega, rfl⟩
        clear ho
        clear hj
        clear HH
        rintro q s ⟨i, HH, j, rfl, hj, ho, hi, rfl⟩
        have hll := lay_len (txt l) (d % 10) hd (by omega) i (by omega)
        refine Tri.seq ?_
        refine Tri.seq ?_
        refine Tri.region ?_
        refine TriL.c1 rfl (op_mv (ltb rfl) rfl) ?_
        refine TriL.c1 rfl (op_mv (ltb rfl) rfl) ?_
        refine TriL.c1 rfl (op_bin (ltb rfl) rfl rfl rfl) ?_
        refine TriL.nil ?_
        refine Tri.cond rfl (fun hc5 => ?_) (fun hc5 => ?_)
        · have hlt : i < d % 10 := by have := of_decide_eq_true hc5; omega
          have hfr : frs (d % 10 - i) = frs (d % 10 - (i + 1)) ++ [frm ((d % 10 - i : Nat) : Int) ((0 : Nat) : Int)] := by
            rw [show d % 10 - i = d % 10 - (i + 1) + 1 by omega, frs_succ]
          refine Tri.skip ?_
          refine Tri.seq ?_
          refine Tri.blk ?_
          refine Tri.seq ?_
          refine Tri.region ?_
          refine TriL.c1 rfl (op_mv (ltb rfl) rfl) ?_
          refine TriL.c2 rfl (op_callh (ltb rfl) fn19 rfl rfl (close_run HH H.next (lay (txt l) (d % 10) i) (frs (d % 10 - (i + 1))) ((d % 10 - i : Nat) : Int) 0 (by rw [ho, hfr]) (frs_ok _) (decide_eq_true (by omega)) (by omega) (by omega) (by rw [frs_len]; omega))) ?_
          refine TriL.c1 rfl (op_un (ltb rfl) rfl rfl) ?_
          refine TriL.nil ?_
          refine Tri.condF rfl rfl ?_
          refine Tri.skip ?_
          refine Tri.region ?_
          refine TriL.c1 rfl (op_mv (ltb rfl) rfl) ?_
          refine TriL.c1 rfl (op_bin (ltb rfl) rfl rfl rfl) ?_
          refine TriL.c1 rfl (op_as (ltb rfl) rfl) ?_
          refine TriL.kept (Kept.keep [.h, .s 0, .s 5, .s 6, .s 9] rfl (by decide) (Kept.now ?_))
          refine ⟨d % 10 - (i + 1), by omega, i + 1, _, IntKind.i64.wrap (j + 1), rfl, by rw [hj, wr64] <;> omega, by rw [shut_lay]; exact Hp.set_obj, by omega, rfl⟩
        · have hge : i = d % 10 := by have := of_decide_eq_false hc5; omega
          rw [hge] at ho hll
          rw [show frs (d % 10 - d % 10) = [] by rw [Nat.sub_self]; rfl] at ho
          generalize hBe : lay (txt l) (d % 10) (d % 10) = B at ho hll
          refine Tri.exit ?_
          refine Tri.seq ?_
          refine Tri.region ?_
          refine TriL.c1 rfl (op_mv (ltb rfl) rfl) ?_
          refine TriL.c1 rfl (op_callk (ltb rfl) fn21 rfl rfl (bytes_run HH H.next B ho (by omega))) ?_
          refine TriL.c2 rfl (op_callh (ltb rfl) fn20 rfl rfl (from_run HH B)) ?_
          refine TriL.c1 rfl (op_as (ltb rfl) rfl) ?_
          refine TriL.nil ?_
          refine Tri.seq ?_
          refine Tri.seq ?_
          refine Tri.region ?_
          refine TriL.c1 rfl (op_as (ltb rfl) rfl) ?_
          refine TriL.kept (Kept.keep [.h, .s 0, .s 6, .s 10, .s 11] rfl (by decide) (Kept.now ?_))
          refine Tri.blk ?_
          -- LOOP 4: KEEP
          refine Tri.loop (fun q s => ∃ (i : Nat) (H2 : Hp) (j : Int) (p : Nat), s = StC H2 HH.next l (d % 10) 11 j ∧ j = i ∧ H2.obj HH.next = some (curs B p (List.replicate i B.length ++ [B.length]) false) ∧ B.drop p = lay (txt l) (d % 10) (d % 10 - i) ∧ p ≤ B.length ∧ i ≤ d % 10 ∧ q = d % 10 - i) ?_ (n := d % 10) ⟨0, _, 0, 0, rfl, rfl, Hp.add_obj, by rw [List.drop_zero, ← hBe, Nat.sub_zero], by omega, by omega, rfl⟩
          clear ho
          clear hj
          clear hi
          clear hge
          clear hc5
          rintro q s ⟨i2, H2, j2, p, rfl, hj, ho, hB, hp, hi, rfl⟩
          refine Tri.seq ?_
          refine Tri.seq ?_
          refine Tri.region ?_
          refine TriL.c1 rfl (op_mv (ltb rfl) rfl) ?_
          refine TriL.c1 rfl (op_mv (ltb rfl) rfl) ?_
          refine TriL.c1 rfl (op_bin (ltb rfl) rfl rfl rfl) ?_
          refine TriL.nil ?_
          refine Tri.cond rfl (fun hc6 => ?_) (fun hc6 => ?_)
          · have hlt : i2 < d % 10 := by have := of_decide_eq_true hc6; omega
            have hB1 : B.drop p = vput (8 * (i2 + 1) + 2) ++ (vput (lay (txt l) (d % 10) (d % 10 - (i2 + 1))).length ++ lay (txt l) (d % 10) (d % 10 - (i2 + 1))) := by
              rw [hB, show d % 10 - i2 = d % 10 - (i2 + 1) + 1 by omega, lay, show d % 10 - (d % 10 - (i2 + 1)) = i2 + 1 by omega]
            generalize hL : lay (txt l) (d % 10) (d % 10 - (i2 + 1)) = L at hB1
            have hlen := drop_len hB1 hp
            simp only [List.length_append] at hlen
            have hg1 := vget_in hB1 (by omega) hp
            have hB2 := drop_more hB1 rfl
            have hg2 := vget_in hB2 (by omega) (by omega)
            have hB3 := drop_more hB2 rfl
            have hf1 : (!((((8 * (i2 + 1) + 2) / 8 : Nat) : Int) == IntKind.i64.wrap (j2 + 1))) = false := by rw [hj, wr64 (by omega) (by omega), show (8 * (i2 + 1) + 2) / 8 = i2 + 1 by omega]; simp
            have hf2 : (!((((8 * (i2 + 1) + 2) % 8 : Nat) : Int) == 2)) = false := by rw [show (8 * (i2 + 1) + 2) % 8 = 2 by omega]; rfl
            refine Tri.skip ?_
            refine Tri.seq ?_
            refine Tri.blk ?_
            refine Tri.seq ?_
            refine Tri.region ?_
            refine TriL.c1 rfl (op_mv (ltb rfl) rfl) ?_
            refine TriL.c2 rfl (op_callh (ltb rfl) fn22 rfl rfl (ctag_run H2 HH.next B p (List.replicate i2 B.length) B.length (8 * (i2 + 1) + 2) (vput (8 * (i2 + 1) + 2)).length ho (by simp; omega) hg1 (vput_pos _) (by omega) (Nat.le_refl _) (by omega) (decide_eq_true (by omega)))) ?_
            refine TriL.c1 rfl (op_mv (ltb rfl) rfl) ?_
            refine TriL.c1 rfl (op_ext (ltb rfl) rfl rfl) ?_
            refine TriL.c1 rfl (op_ext (ltb rfl) rfl rfl) ?_
            refine TriL.c1 rfl (op_as (ltb rfl) rfl) ?_
            refine TriL.c1 rfl (op_as (ltb rfl) rfl) ?_
            refine TriL.nil ?_
            refine Tri.seq ?_
            refine Tri.region ?_
            refine TriL.c1 rfl (op_mv (ltb rfl) rfl) ?_
            refine TriL.c1 rfl (op_mv (ltb rfl) rfl) ?_
            refine TriL.c1 rfl (op_bin (ltb rfl) rfl rfl rfl) ?_
            refine TriL.c1 rfl (op_bin (ltb rfl) rfl rfl rfl) ?_
            refine TriL.c1 rfl (op_mv (ltb rfl) rfl) ?_
            refine TriL.g1 rfl (ltb rfl) rfl hf1 (op_mv (ltb rfl) rfl) ?_
            refine TriL.g1 rfl (ltb rfl) rfl hf1 (op_bin (ltb rfl) rfl rfl rfl) ?_
            refine TriL.c1 rfl (op_pickf (ltb rfl) rfl hf1 rfl) ?_
            refine TriL.c1 rfl (op_mv (ltb rfl) rfl) ?_
            refine TriL.g1 rfl (ltb rfl) rfl hf2 (op_mv (ltb rfl) rfl) ?_
            refine TriL.g2 rfl (ltb rfl) rfl hf2 (op_callh (ltb rfl) fn23 rfl rfl (copen_run _ HH.next B (p + (vput (8 * (i2 + 1) + 2)).length) (List.replicate i2 B.length) B.length L.length (vput L.length).length Hp.set_obj (by simp; omega) hg2 (vput_pos _) (by omega) (Nat.le_refl _) (by omega) (by omega))) ?_
            refine TriL.g1 rfl (ltb rfl) rfl hf2 (op_un (ltb rfl) rfl rfl) ?_
            refine TriL.c1 rfl (op_pickf (ltb rfl) rfl hf2 rfl) ?_
            refine TriL.nil ?_
            refine Tri.condF rfl rfl ?_
            refine Tri.skip ?_
            refine Tri.region ?_
            refine TriL.c1 rfl (op_mv (ltb rfl) rfl) ?_
            refine TriL.c1 rfl (op_bin (ltb rfl) rfl rfl rfl) ?_
            refine TriL.c1 rfl (op_as (ltb rfl) rfl) ?_
            refine TriL.kept (Kept.keep [.h, .s 0, .s 6, .s 10, .s 11] rfl (by decide) (Kept.now ?_))
            refine ⟨d % 10 - (i2 + 1), by omega, i2 + 1, _, IntKind.i64.wrap (j2 + 1), p + (vput (8 * (i2 + 1) + 2)).length + (vput L.length).length, rfl, by rw [hj, wr64] <;> omega, ?_, by rw [hB3, hL], by omega, by omega, rfl⟩
            rw [show p + (vput (8 * (i2 + 1) + 2)).length + (vput L.length).length + L.length = B.length by omega, rep_succ]
            exact Hp.set_obj
          · have hge : i2 = d % 10 := by have := of_decide_eq_false hc6; omega
            subst hge
            rw [Nat.sub_self, lay] at hB
            refine Tri.exit ?_
            refine Tri.seq ?_
            refine Tri.seq ?_
            refine Tri.region ?_
            refine TriL.c1 rfl (op_as (ltb rfl) rfl) ?_
            refine TriL.kept (Kept.keep [.h, .s 0, .s 6, .s 10, .s 14] rfl (by decide) (Kept.now ?_))
            refine Tri.blk ?_
            -- LOOP 5: KEEP
            refine Tri.loop (fun q s => ∃ (i : Nat) (H2 : Hp) (j : Int) (p : Nat), s = StC H2 HH.next l (d % 10) 14 j ∧ j = i ∧ H2.obj HH.next = some (curs B p (List.replicate (d % 10) B.length ++ [B.length]) false) ∧ B.drop p = txt (l.drop i) ∧ p ≤ B.length ∧ i ≤ l.length ∧ q = l.length - i) ?_ (n := l.length) ⟨0, _, 0, p, rfl, rfl, ho, by rw [hB, List.drop_zero], hp, by omega, rfl⟩
            clear ho
            clear hj
            clear hi
            clear hp
            clear hB
            rintro q s ⟨i3, H3, j3, p3, rfl, hj, ho, hB, hp, hi, rfl⟩
            have hml : (l.map AV.str).length = l.length := by simp
            refine Tri.seq ?_
            refine Tri.seq ?_
            refine Tri.region ?_
            refine TriL.c1 rfl (op_mv (ltb rfl) rfl) ?_
            refine TriL.c1 rfl (op_mv (ltb rfl) rfl) ?_
            refine TriL.c1 rfl (op_lenl (ltb rfl) un30 rfl) ?_
            refine TriL.c1 rfl (op_bin (ltb rfl) rfl rfl rfl) ?_
            refine TriL.nil ?_
            refine Tri.cond rfl (fun hc7 => ?_) (fun hc7 => ?_)
            · have hlt : i3 < l.length := by have := of_decide_eq_true hc7; omega
              obtain ⟨x, hx⟩ : ∃ x, l[i3]? = some x := ⟨l[i3], List.getElem?_eq_getElem hlt⟩
              have hx3 := hall x (List.mem_of_getElem? hx)
              have hxs : (l.map AV.str)[j3.toNat]? = some (.str x) := by subst hj; simp [hx]
              have hB1 : B.drop p3 = vput 58 ++ (vput x.length ++ (x ++ txt (l.drop (i3 + 1)))) := by
                rw [hB, ← txt_cons]; congr 1; rw [List.drop_eq_getElem_cons hlt]; congr 1; rw [List.getElem?_eq_getElem hlt] at hx; cases hx; rfl
              have hlen := drop_len hB1 hp
              simp only [List.length_append] at hlen
              have hg1 := vget_in hB1 (by omega) hp
              have hB2 := drop_more hB1 rfl
              have hg2 := vget_in hB2 (by omega) (by omega)
              have hB3 := drop_more hB2 rfl
              have hB4 := drop_more hB3 rfl
              have hf3 : (!((((58 / 8 : Nat) : Nat) : Int) == 7)) = false := rfl
              have hf4 : (!((((58 % 8 : Nat) : Nat) : Int) == 2)) = false := rfl
              have hf5 : (!((B.drop (p3 + (vput 58).length + (vput x.length).length)).take x.length == x)) = false := by rw [hB3, List.take_left]; simp
              refine Tri.skip ?_
              refine Tri.seq ?_
              refine Tri.blk ?_
              refine Tri.seq ?_
              refine Tri.region ?_
              refine TriL.c1 rfl (op_mv (ltb rfl) rfl) ?_
              refine TriL.c2 rfl (op_callh (ltb rfl) fn22 rfl rfl (ctag_run H3 HH.next B p3 (List.replicate (d % 10) B.length) B.length 58 (vput 58).length ho (by simp; omega) hg1 (vput_pos _) (by omega) (Nat.le_refl _) (by omega) (decide_eq_true (by decide)))) ?_
              refine TriL.c1 rfl (op_mv (ltb rfl) rfl) ?_
              refine TriL.c1 rfl (op_ext (ltb rfl) rfl rfl) ?_
              refine TriL.c1 rfl (op_ext (ltb rfl) rfl rfl) ?_
              refine TriL.c1 rfl (op_as (ltb rfl) rfl) ?_
              refine TriL.c1 rfl (op_as (ltb rfl) rfl) ?_
              refine TriL.nil ?_
              refine Tri.seq ?_
              refine Tri.drawn mixed rfl ?_
              refine TriD.c1 rfl (op_mv (ltb rfl) rfl) ?_
              refine TriD.c1 rfl (op_bin (ltb rfl) rfl rfl rfl) ?_
              refine TriD.c1 rfl (op_mv (ltb rfl) rfl) ?_
              refine TriD.g1 rfl (ltb rfl) rfl hf3 (op_mv (ltb rfl) rfl) ?_
              refine TriD.g1 rfl (ltb rfl) rfl hf3 (op_bin (ltb rfl) rfl rfl rfl) ?_
              refine TriD.c1 rfl (op_pickf (ltb rfl) rfl hf3 rfl) ?_
              refine TriD.c1 rfl (op_mv (ltb rfl) rfl) ?_
              refine TriD.g1 rfl (ltb rfl) rfl hf4 (op_mv (ltb rfl) rfl) ?_
              refine TriD.g2 rfl (ltb rfl) rfl hf4 (op_callh (ltb rfl) fn24 rfl rfl (ctext_run _ HH.next B (p3 + (vput 58).length) (List.replicate (d % 10) B.length) B.length x.length (vput x.length).length Hp.set_obj (by simp; omega) hg2 (vput_pos _) (by omega) (Nat.le_refl _) (by omega) (by omega))) ?_
              refine TriD.g1 rfl (ltb rfl) rfl hf4 (op_mv (ltb rfl) rfl) ?_
              refine TriD.g1 rfl (ltb rfl) rfl hf4 (op_mv (ltb rfl) rfl) ?_
              refine TriD.g1 rfl (ltb rfl) rfl hf4 (op_iak (ltb rfl) ie30 rfl rfl (by omega) hxs rfl) ?_
              refine TriD.g1 rfl (ltb rfl) rfl hf4 (op_ldk (ltb rfl) lk9 rfl rfl) ?_
              refine TriD.g1 rfl (ltb rfl) rfl hf4 (op_bin (ltb rfl) rfl rfl rfl) ?_
              refine TriD.c1 rfl (op_pickf (ltb rfl) rfl hf4 rfl) ?_
              refine TriD.nil (by kernel_rfl) (Kept.now ?_)
              refine Tri.condF rfl hf5 ?_
              refine Tri.skip ?_
              refine Tri.region ?_
              refine TriL.c1 rfl (op_mv (ltb rfl) rfl) ?_
              refine TriL.c1 rfl (op_bin (ltb rfl) rfl rfl rfl) ?_
              refine TriL.c1 rfl (op_as (ltb rfl) rfl) ?_
              refine TriL.kept (Kept.keep [.h, .s 0, .s 6, .s 10, .s 14] rfl (by decide) (Kept.now ?_))
              refine ⟨l.length - (i3 + 1), by omega, i3 + 1, _, IntKind.i64.wrap (j3 + 1), p3 + (vput 58).length + (vput x.length).length + x.length, rfl, by rw [hj, wr64] <;> omega, Hp.set_obj, hB4, by omega, by omega, rfl⟩
            · have hge : i3 = l.length := by have := of_decide_eq_false hc7; omega
              rw [hge, List.drop_length] at hB
              have hpe : p3 = B.length := by have := drop_len hB hp; simpa [txt] using this
              have hf6 : (!(decide ((p3 : Int) < (B.length : Int)))) = true := by rw [hpe]; simp
              refine Tri.exit ?_
              refine Tri.seq ?_
              refine Tri.region ?_
              refine TriL.c1 rfl (op_mv (ltb rfl) rfl) ?_
              refine TriL.c1 rfl (op_callk (ltb rfl) fn25 rfl rfl (cmore_run H3 HH.next B p3 (List.replicate (d % 10) B.length) B.length ho (by simp; omega))) ?_
              refine TriL.c1 rfl (op_un (ltb rfl) rfl rfl) ?_
              refine TriL.c1 rfl (op_mv (ltb rfl) rfl) ?_
              refine TriL.g1 rfl (ltb rfl) rfl hf6 (op_mv (ltb rfl) rfl) ?_
              refine TriL.g1 rfl (ltb rfl) rfl hf6 (op_nckc (ltb rfl) rfl) ?_
              refine TriL.g1 rfl (ltb rfl) rfl hf6 (op_fac (ltb rfl) fo43_3 rfl) ?_
              refine TriL.g1 rfl (ltb rfl) rfl hf6 (op_ldc (ltb rfl) lk4 rfl rfl ho rfl) ?_
              refine TriL.g1 rfl (ltb rfl) rfl hf6 (op_un (ltb rfl) rfl rfl) ?_
              refine TriL.c1 rfl (op_pickt (ltb rfl) rfl hf6 rfl) ?_
              refine TriL.c1 rfl (op_mv (ltb rfl) rfl) ?_
              refine TriL.g2 rfl (ltb rfl) rfl rfl (op_callh (ltb rfl) fn15 rfl rfl (live_run _)) ?_
              refine TriL.c1 rfl (op_pickt (ltb rfl) rfl rfl rfl) ?_
              refine TriL.c1 rfl (op_as (ltb rfl) rfl) ?_
              refine TriL.nil ?_
              refine Tri.ret ?_
              exact ⟨.inr rfl, (ResOK.r1 rfl (.tmp rfl .nil))⟩
end Go.Proofs.Ytecjdohpfijmpaa.X
