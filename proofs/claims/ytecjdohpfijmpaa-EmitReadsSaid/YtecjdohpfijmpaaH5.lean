/- hex.Get: a text's bytes, rune by rune. -/
import Derived.Test.YtecjdohpfijmpaaH4
set_option linter.unusedVariables false
set_option linter.unusedSimpArgs false
namespace Go.Proofs.Ytecjdohpfijmpaa.X
open Go Go.RowKit Go.Proofs

/-! ### Runes -/
theorem get_at {l : List UInt8} {p : Nat} {c : UInt8} (h : l[p]? = some c) : (⟨l.toArray⟩ : ByteArray).get! (p + 0) = c := by
  show (l.toArray)[p + 0]! = c
  rw [Nat.add_zero, getElem!_def]
  simp [h]
theorem dec_lo {l : List UInt8} {p : Nat} {c : UInt8} (h : l[p]? = some c) (hc : c.toNat < 128) : dec l p = (c.toNat, 1) := by
  unfold dec Utf8.decode
  simp only [get_at h]
  rw [if_pos hc]
theorem dec_hi {l : List UInt8} {p : Nat} {c : UInt8} (h : l[p]? = some c) (hc : ¬ c.toNat < 128) : 128 ≤ (dec l p).1 ∧ (dec l p).1 < 2147483648 := by
  unfold dec Utf8.decode
  simp only [get_at h]
  rw [if_neg hc]
  have hv := c.toNat_lt
  (repeat' split) <;> simp only [Utf8.runeError, Bool.and_eq_true, decide_eq_true_eq, ge_iff_le] at * <;> omega

/-! ### Boxes whose cells no test sees -/
theorem keepSvs_v {cs : List Comp} : ∀ (l : List AV), keepSvs cs (l.map .v) = some (l.map .v)
  | [] => rfl
  | a :: l => by simp only [List.map_cons, keepSvs, keepSv, keepSvs_v l]
def rebox (k : Nat) (cells : List Sv) : St → St
  | [] => []
  | (c, v) :: s => (c, if c = .b k then .bx cells else v) :: rebox k cells s
theorem keep_box {cs : List Comp} {s : St} {k : Nat} {cells : List Sv} (hb : get s (.b k) = some (.bx cells)) (hc : keepSvs cs cells = some cells) : ∀ {l : List Comp} {r : St}, keep cs ((.b k, .bx []) :: s) l = some r → keep cs s l = some (rebox k cells r)
  | [], r, h => by cases h; rfl
  | c :: l, r, h => by
    simp only [keep] at h
    split at h
    · rename_i v hv
      split at h
      · rename_i v' r' hv' hr'
        cases h
        have ih := keep_box hb hc hr'
        by_cases e : c = .b k
        · subst e
          simp only [keep, hb, keepCV, hc, ih, rebox, if_true, Option.map_some]
        · have hv2 : get s c = some v := by
            simp only [get] at hv
            rw [if_neg (fun e' => e e'.symm)] at hv; exact hv
          simp only [keep, hv2, hv', ih, rebox, if_neg e]
      · cases h
    · cases h
theorem Kept.keepb {s r : St} {Q : St → Prop} (cs : List Comp) (k : Nat) {cells : List Sv} (hb : get s (.b k) = some (.bx cells)) (hc : keepSvs cs cells = some cells) (hk : X.keep cs ((.b k, .bx []) :: s) cs = some r) (hh : Comp.h ∈ cs) (h : Kept (rebox k cells r) Q) : Kept s Q :=
  Kept.keep cs (keep_box hb hc hk) hh h
theorem getD_mid {a r : List Int} {x : Int} {m : Nat} (h : a.length = m) : (a ++ x :: r).getD m 0 = x := by subst h; simp [List.getD_eq_getElem?_getD]
theorem set_mid {a r : List Int} {x y : Int} {m : Nat} (h : a.length = m) : (a ++ x :: r).set m y = a ++ y :: r := by subst h; simp
theorem rep_flat {α : Type} (x : α) : ∀ n, (List.replicate n [x]).flatten = List.replicate n x
  | 0 => rfl
  | n + 1 => by simp [List.replicate_succ, rep_flat x n]

/-! ### The bytes, as they are made -/
theorem setAt_one {cs : List Sv} {o : Nat} {y : Sv} (h : o < cs.length) : setAt cs o [y] = cs.set o y := by
  unfold setAt
  rw [List.set_eq_take_append_cons_drop, if_pos h]; simp
def put1 (cs : List Int) (p : Nat) (v : Int) : List Int := cs.set (p / 2) (IntKind.u8.wrap (IntKind.u8.wrap (cs.getD (p / 2) 0 * 16) + v))
def outS (l : List UInt8) : Nat → List Int
  | 0 => List.replicate (l.length / 2) 0
  | p + 1 => put1 (outS l p) p (vb (l.getD p 0))
theorem outS_len (l : List UInt8) : ∀ p, (outS l p).length = l.length / 2
  | 0 => by simp [outS]
  | p + 1 => by simp [outS, put1, outS_len l p]
theorem pairs_len : ∀ (m : Nat) (l : List UInt8), 2 * m ≤ l.length → (pairs (l.take (2 * m))).length = m
  | 0, l, _ => by simp [pairs]
  | m + 1, l, h => by
    match l, h with
    | x :: y :: l, h =>
      simp only [show 2 * (m + 1) = 2 * m + 1 + 1 by omega, List.take_succ_cons, pairs, List.length_cons]
      rw [pairs_len m l (by simp at h; omega)]
    | [x], h => simp at h; omega
    | [], h => simp at h
theorem outS_pairs (l : List UInt8) : ∀ m, 2 * m ≤ l.length → outS l (2 * m) = pairs (l.take (2 * m)) ++ List.replicate (l.length / 2 - m) 0
  | 0, _ => by simp [outS, pairs]
  | m + 1, h => by
    have ih := outS_pairs l m (by omega)
    have hpl := pairs_len m l (by omega)
    have ha : l[2 * m]? = some l[2 * m] := List.getElem?_eq_getElem (by omega)
    have hb : l[2 * m + 1]? = some l[2 * m + 1] := List.getElem?_eq_getElem (by omega)
    have hva := vb_lt l[2 * m]
    have hvb := vb_lt l[2 * m + 1]
    have da : l.getD (2 * m) 0 = l[2 * m] := by rw [List.getD_eq_getElem?_getD, ha]; rfl
    have db : l.getD (2 * m + 1) 0 = l[2 * m + 1] := by rw [List.getD_eq_getElem?_getD, hb]; rfl
    obtain ⟨k, hk⟩ : ∃ k, l.length / 2 - m = k + 1 := ⟨l.length / 2 - m - 1, by omega⟩
    have w0 : IntKind.u8.wrap (IntKind.u8.wrap (0 * 16) + vb l[2 * m]) = vb l[2 * m] := by rw [wr8 (n := 0 * 16), wr8] <;> omega
    have w1 : IntKind.u8.wrap (IntKind.u8.wrap (vb l[2 * m] * 16) + vb l[2 * m + 1]) = 16 * vb l[2 * m] + vb l[2 * m + 1] := by
      rw [wr8 (n := vb l[2 * m] * 16) (by omega) (by omega), wr8] <;> omega
    have s1 : outS l (2 * m + 1) = pairs (l.take (2 * m)) ++ vb l[2 * m] :: List.replicate k 0 := by
      show put1 (outS l (2 * m)) (2 * m) (vb (l.getD (2 * m) 0)) = _
      rw [ih, da, hk, List.replicate_succ, put1, show 2 * m / 2 = m by omega, getD_mid hpl, w0, set_mid hpl]
    show put1 (outS l (2 * m + 1)) (2 * m + 1) (vb (l.getD (2 * m + 1) 0)) = _
    rw [s1, db, put1, show (2 * m + 1) / 2 = m by omega, getD_mid hpl, w1, set_mid hpl,
      show 2 * (m + 1) = 2 * m + 2 by omega, pairs_take m ha hb, show l.length / 2 - (m + 1) = k by omega, List.append_assoc]
    rfl
theorem outS_all {l : List UInt8} (he : l.length % 2 = 0) : outS l l.length = pairs l := by
  have := outS_pairs l (l.length / 2) (by omega)
  rw [show 2 * (l.length / 2) = l.length by omega, List.take_length, Nat.sub_self] at this
  simpa using this
theorem usl_flat (cs : List Int) : (usl cs).flatMap AV.cells = usl cs := by
  induction cs with
  | nil => rfl
  | cons c cs ih => simp only [usl, List.map_cons, List.flatMap_cons] at ih ⊢; rw [ih]; rfl
/-- No slot but such a one, and no box, has the slice over box k. -/
def frzP (k n : Nat) : St → Prop
  | [] => True
  | (_, v) :: s => (∀ m, v = .sv (.mv k m) → m = n) ∧ (∀ l, v = .bx l → ∀ m, Sv.mv k m ∉ l) ∧ frzP k n s
theorem frzP_get {k n : Nat} : ∀ {s : St}, frzP k n s → ∀ c v, get s c = some v → (∀ m, v = .sv (.mv k m) → m = n) ∧ (∀ l, v = .bx l → ∀ m, Sv.mv k m ∉ l)
  | [], _, c, v, h => by cases h
  | (d, u) :: s, hp, c, v, h => by
    simp only [get] at h
    split at h
    · cases h; exact ⟨hp.1, hp.2.1⟩
    · exact frzP_get hp.2.2 c v h
theorem Kept.frzp {s : St} {Q : St → Prop} (k : Nat) (xs : List AV) (esz : Nat) (hk : get s (.b k) = some (.bx ((xs.flatMap AV.cells).map .v))) (hes : ∀ e ∈ xs, e.cells.length = esz) (hp : frzP k xs.length s) (h : Kept (X.frz k xs s) Q) : Kept s Q :=
  Kept.frz k xs esz hk hes (fun n x e m he => (frzP_get hp _ _ e).1 m (by rw [he])) (fun j l e m => (frzP_get hp _ _ e).2 l rfl m) h

def St11 (H : Hp) (l : List UInt8) (n : Nat) (cells : List Sv) (p : Nat) : St := [(.h, .hp H), (.s 4, .sv (.mv 16 n)), (.s 18, .sv (.lp 18 0)), (.b 16, .bx cells), (.b 18, .it l p)]
theorem get_pure (l : List UInt8) (hl : l.length ≤ 1073741824) : Pure Try.prog 11 [.str l] (.tup [.sl (usl (gets l).1), .bool (gets l).2]) := by
  refine Pure.of_tri Try.func11 rfl rfl (ltb rfl) fun H => ?_
  refine Tri.seq ?_
  refine Tri.region ?_
  refine TriL.c1 rfl (op_as (ltb rfl) rfl) ?_
  refine TriL.c1 rfl (op_as (ltb rfl) rfl) ?_
  refine TriL.nil ?_
  refine Tri.seq ?_
  refine Tri.seq ?_
  refine Tri.region ?_
  refine TriL.c1 rfl (op_mv (ltb rfl) rfl) ?_
  refine TriL.c1 rfl (op_lens (ltb rfl) un9 rfl) ?_
  refine TriL.c1 rfl (op_bin (ltb rfl) rfl rfl rfl) ?_
  refine TriL.c1 rfl (op_bin (ltb rfl) rfl rfl rfl) ?_
  refine TriL.nil ?_
  have et : (l.length : Int).tmod 2 = ((l.length % 2 : Nat) : Int) := by rw [Int.tmod_eq_emod_of_nonneg (by omega)]; omega
  refine Tri.cond rfl (fun hc1 => ?_) (fun hc1 => ?_)
  · refine Tri.seq ?_
    refine Tri.region ?_
    refine TriL.c1 rfl (op_as (ltb rfl) rfl) ?_
    refine TriL.c1 rfl (op_as (ltb rfl) rfl) ?_
    refine TriL.nil ?_
    refine Tri.ret ?_
    have ho : gets l = ([], false) := gets_odd (by
      rw [et] at hc1
      have h2 : (((l.length % 2 : Nat) : Int) == 0) = false := by simpa using hc1
      have := ne_of_beq_false h2; omega)
    exact ⟨.inr rfl, (ResOK.r2 rfl (.tmp rfl (.tmp rfl .nil))).cast (by rw [ho]; rfl), rfl⟩
  have he : l.length % 2 = 0 := by
    rw [et] at hc1
    have h2 : (((l.length % 2 : Nat) : Int) == 0) = true := by simpa using hc1
    have := eq_of_beq h2; omega
  refine Tri.skip ?_
  refine Tri.seq ?_
  refine Tri.region ?_
  refine TriL.c1 rfl (op_mv (ltb rfl) rfl) ?_
  refine TriL.c1 rfl (op_lens (ltb rfl) un9 rfl) ?_
  refine TriL.c1 rfl (op_bin (ltb rfl) rfl rfl rfl) ?_
  have eq2 : IntKind.i64.wrap ((l.length : Int).tdiv 2) = ((l.length / 2 : Nat) : Int) := by rw [Int.tdiv_eq_ediv_of_nonneg (by omega), wr64] <;> omega
  refine TriL.c2 rfl (op_mkv (ltb rfl) se22 zAe22 rfl rfl (by omega) (by omega) (by simp only [maxLen]; omega) rfl) ?_
  refine TriL.c1 rfl (op_as (ltb rfl) rfl) ?_
  refine TriL.nil ?_
  refine Tri.seq ?_
  refine Tri.seq ?_
  refine Tri.region ?_
  refine TriL.c1 rfl (op_mv (ltb rfl) rfl) ?_
  refine TriL.c2 rfl (op_rng (ltb rfl) un9 rfl rfl) ?_
  refine TriL.kept (Kept.keepb [.h, .s 4, .s 18, .b 16, .b 18] 16 rfl (keepSvs_v _) rfl (by decide) (Kept.now ?_))
  refine Tri.blk ?_
  refine Tri.loop (fun n s => ∃ (p : Nat) (cells : List Sv) (k : Nat), s = St11 H l k cells p ∧ k = l.length / 2 ∧ cells = (usl (outS l p)).map .v ∧ (l.take p).all okb = true ∧ p ≤ l.length ∧ n = l.length - p) ?_ (n := l.length) ⟨0, _, _, rfl, ?_, ?_, rfl, by omega, rfl⟩
  case refine_2 => rw [eq2]; rfl
  case refine_3 =>
    rw [eq2, Int.toNat_natCast]
    simp only [outS, usl, List.map_replicate]
    rw [rep_flat, List.map_replicate]
  rintro n s ⟨p, cells, k, rfl, hk, hcells, hok, hp, rfl⟩
  have hol := outS_len l p
  have hcl : cells.length = l.length / 2 := by rw [hcells]; simp [usl, hol]
  by_cases hlt : p < l.length
  · obtain ⟨c, hc⟩ : ∃ c, l[p]? = some c := ⟨l[p], List.getElem?_eq_getElem hlt⟩
    have hcb := c.toNat_lt
    have hr : 0 ≤ ((dec l p).1 : Int) ∧ ((dec l p).1 : Int) < 2147483648 := by
      by_cases h8 : c.toNat < 128
      · rw [dec_lo hc h8]; simp only; omega
      · have := dec_hi hc h8; omega
    have hrok : hexok ((dec l p).1 : Int) = okb c := by
      by_cases h8 : c.toNat < 128
      · rw [dec_lo hc h8]; rfl
      · have := dec_hi hc h8
        unfold okb hexok
        rw [decide_eq_false (by omega), decide_eq_false (by omega)]
    refine Tri.seq ?_
    refine Tri.region ?_
    refine TriL.c2 rfl (op_nxt1 (ltb rfl) rfl rfl hlt) ?_
    refine TriL.c1 rfl (op_ext (ltb rfl) rfl rfl) ?_
    refine TriL.nil ?_
    refine Tri.seq ?_
    refine Tri.condT rfl rfl ?_
    refine Tri.skip ?_
    refine Tri.blk ?_
    refine Tri.seq ?_
    refine Tri.region ?_
    refine TriL.c1 rfl (op_ext (ltb rfl) rfl rfl) ?_
    refine TriL.c1 rfl (op_ext (ltb rfl) rfl rfl) ?_
    refine TriL.c1 rfl (op_as (ltb rfl) rfl) ?_
    refine TriL.c1 rfl (op_as (ltb rfl) rfl) ?_
    refine TriL.nil ?_
    refine Tri.seq ?_
    refine Tri.region ?_
    refine TriL.c1 rfl (op_mv (ltb rfl) rfl) ?_
    refine TriL.c1 rfl (op_call (ltb rfl) fn37 rfl (value_pure _ hr.1 hr.2)) ?_
    refine TriL.c1 rfl (op_mv (ltb rfl) rfl) ?_
    refine TriL.c1 rfl (op_ext (ltb rfl) rfl rfl) ?_
    refine TriL.c1 rfl (op_ext (ltb rfl) rfl rfl) ?_
    refine TriL.c1 rfl (op_as (ltb rfl) rfl) ?_
    refine TriL.c1 rfl (op_as (ltb rfl) rfl) ?_
    refine TriL.nil ?_
    refine Tri.seq ?_
    refine Tri.seq ?_
    refine Tri.region ?_
    refine TriL.c1 rfl (op_mv (ltb rfl) rfl) ?_
    refine TriL.c1 rfl (op_un (ltb rfl) rfl rfl) ?_
    refine TriL.nil ?_
    refine Tri.cond rfl (fun hc3 => ?_) (fun hc3 => ?_)
    · refine Tri.seq ?_
      refine Tri.region ?_
      refine TriL.c1 rfl (op_as (ltb rfl) rfl) ?_
      refine TriL.c1 rfl (op_as (ltb rfl) rfl) ?_
      refine TriL.nil ?_
      refine Tri.ret ?_
      have hno : okb c = false := by rw [hrok] at hc3; simpa using hc3
      exact ⟨.inr rfl, (ResOK.r2 rfl (.tmp rfl (.tmp rfl .nil))).cast (by rw [gets_no hc hno]; rfl), rfl⟩
    · have hyes : okb c = true := by rw [hrok] at hc3; simpa using hc3
      have h8 : c.toNat < 128 := by have := of_decide_eq_true hyes; omega
      have hdec := dec_lo hc h8
      have eqp : IntKind.i64.wrap ((p : Int).tdiv 2) = ((p / 2 : Nat) : Int) := by rw [Int.tdiv_eq_ediv_of_nonneg (by omega), wr64] <;> omega
      have hp2 : p / 2 < l.length / 2 := by omega
      have hget : cells[p / 2]? = some (.v (.int .u8 ((outS l p).getD (p / 2) 0))) := by
        rw [hcells]; simp only [usl, List.getElem?_map, List.getElem?_eq_getElem (show p / 2 < (outS l p).length by omega), List.getD_eq_getElem?_getD]; rfl
      refine Tri.skip ?_
      refine Tri.region ?_
      refine TriL.c1 rfl (op_mv (ltb rfl) rfl) ?_
      refine TriL.c1 rfl (op_mv (ltb rfl) rfl) ?_
      refine TriL.c1 rfl (op_bin (ltb rfl) rfl rfl rfl) ?_
      refine TriL.c1 rfl (op_mv (ltb rfl) rfl) ?_
      refine TriL.c1 rfl (op_mv (ltb rfl) rfl) ?_
      refine TriL.c1 rfl (op_bin (ltb rfl) rfl rfl rfl) ?_
      refine TriL.c1 rfl (op_ial (ltb rfl) ie22 rfl rfl (by omega) (by omega)) ?_
      refine TriL.c1 rfl (op_ldl (z := .v (.int .u8 ((outS l p).getD (p / 2) 0))) (ltb rfl) lk5 rfl rfl (by simp only [ldc, eqp, Int.toNat_natCast, Nat.mul_one, List.getElem?_drop, Nat.add_zero]; exact hget)) ?_
      refine TriL.c1 rfl (op_bin (ltb rfl) rfl rfl rfl) ?_
      refine TriL.c1 rfl (op_mv (ltb rfl) rfl) ?_
      refine TriL.c1 rfl (op_bin (ltb rfl) rfl rfl rfl) ?_
      refine TriL.c1 rfl (op_ial (ltb rfl) ie22 rfl rfl (by omega) (by omega)) ?_
      refine TriL.c1 rfl (op_stl lk5 rfl rfl rfl rfl rfl (by omega)) ?_
      have hset : setAt cells ((IntKind.i64.wrap ((p : Int).tdiv 2)).toNat * 1) [.v (.int .u8 (IntKind.u8.wrap (IntKind.u8.wrap ((outS l p).getD (p / 2) 0 * 16) + hexval ((dec l p).1 : Int))))] = (usl (outS l (p + 1))).map Sv.v := by
        rw [eqp, Int.toNat_natCast, Nat.mul_one, setAt_one (by omega), hcells, hdec]
        show _ = (usl (put1 (outS l p) p (vb (l.getD p 0)))).map Sv.v
        rw [List.getD_eq_getElem?_getD (l := l), hc]
        simp only [put1, usl, List.map_set, Option.getD_some]
        rfl
      refine TriL.kept (Kept.keepb [.h, .s 4, .s 18, .b 16, .b 18] 16 rfl (hset.symm ▸ keepSvs_v _) rfl (by decide) (Kept.now ?_))
      refine ⟨l.length - (p + 1), by omega, p + 1, _, _, (?_ : _ = St11 H l k _ (p + 1)), hk, hset, ?_, by omega, rfl⟩
      · have hd2 : (dec l p).2 = 1 := by rw [hdec]
        rw [← hd2]; rfl
      · rw [List.take_add_one, hc]; simp [hok, hyes]
  · have hge : p = l.length := by omega
    refine Tri.seq ?_
    refine Tri.region ?_
    refine TriL.c1 rfl (op_nxt0 (ltb rfl) rfl rfl (by omega)) ?_
    refine TriL.c1 rfl (op_ext (ltb rfl) rfl rfl) ?_
    refine TriL.nil ?_
    refine Tri.seq ?_
    refine Tri.condF rfl rfl ?_
    refine Tri.exit ?_
    refine Tri.seq ?_
    refine Tri.region ?_
    refine TriL.c1 rfl (op_mv (ltb rfl) rfl) ?_
    refine TriL.c1 rfl (op_as (ltb rfl) rfl) ?_
    refine TriL.c1 rfl (op_as (ltb rfl) rfl) ?_
    refine TriL.kept (Kept.keepb [.h, .s 2, .s 3, .b 16] 16 rfl (hcells.symm ▸ keepSvs_v _) rfl (by decide) (Kept.frzp 16 (usl (outS l p)) 1 ?_ ?_ ?_ (Kept.now ?_)))
    · rw [usl_flat, ← hcells]; rfl
    · intro e hx; simp only [usl, List.mem_map] at hx; obtain ⟨_, _, rfl⟩ := hx; rfl
    · show frzP 16 _ [(.h, .hp H), (.s 2, .sv (.mv 16 k)), (.s 3, .sv (.v (.bool true))), (.b 16, .bx cells)]
      refine And.intro (fun m e => by cases e) (And.intro (fun l e => by cases e) (And.intro (fun m e => ?_) (And.intro (fun l e => by cases e) (And.intro (fun m e => by cases e) (And.intro (fun l e => by cases e) (And.intro (fun m e => by cases e) (And.intro (fun l e m hm => ?_) trivial)))))))
      · cases e; rw [hk]; simp [usl, hol]
      · cases e; rw [hcells] at hm; simp at hm
    refine Tri.ret ?_
    rw [hge, List.take_length] at hok
    refine ⟨.inr rfl, (ResOK.r2 rfl (.tmp rfl (.tmp rfl .nil))).cast ?_, rfl⟩
    unfold gets; rw [if_pos ⟨he, hok⟩, hge, outS_all he]
end Go.Proofs.Ytecjdohpfijmpaa.X
