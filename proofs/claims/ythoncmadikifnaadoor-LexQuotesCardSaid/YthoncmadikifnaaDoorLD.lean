/- lex: all tokens, in the program and in the document. -/
import Derived.Test.YthoncmadikifnaaDoorLC
set_option linter.unusedVariables false
set_option linter.unusedSimpArgs false
set_option linter.unusedSectionVars false
set_option maxRecDepth 100000
namespace Go.Proofs.YthoncmadikifnaaDoor.X
open Go Go.RowKit Go.Proofs
theorem fn18 : isFn Tryd.prog 18 = true := by kernel_rfl
theorem fn19 : isFn Tryd.prog 19 = true := by kernel_rfl
theorem fn20 : isFn Tryd.prog 20 = true := by kernel_rfl
theorem fo35_4 : fo Tryd.prog 35 4 = some 4 := by kernel_rfl
theorem fo46_4 : fo Tryd.prog 46 4 = some 4 := by kernel_rfl
theorem lk3 : lk Tryd.prog 3 = some (false, 1) := by kernel_rfl
theorem se23 : se Tryd.prog 23 = some (35, 5, 48) := by kernel_rfl
theorem se27 : se Tryd.prog 27 = some (46, 5, 48) := by kernel_rfl
theorem zAe23 : zeroA Tryd.prog 35 = some [AV.int IntKind.i64 (0), AV.str [], AV.int IntKind.u64 (0), AV.bool false, AV.int IntKind.i64 (0)] := by kernel_rfl
theorem zAe27 : zeroA Tryd.prog 46 = some [AV.int IntKind.i64 (0), AV.str [], AV.int IntKind.u64 (0), AV.bool false, AV.int IntKind.i64 (0)] := by kernel_rfl
theorem next' {s : List UInt8} {j : Int} {a : Nat} (hj : j = a) (hs : s.length ≤ 1073741824) : Pure Tryd.prog 18 [.str ((s.drop j.toNat).take ((s.length : Int).toNat - j.toNat))] (tkn (nxtT (s.drop a))) := by
  rw [cutL hj]; exact next_pure _ (by rw [List.length_drop]; omega)
theorem one' {s : List UInt8} {j : Int} {a : Nat} (hj : j = a) (hs : s.length ≤ 1073741824) : Pure Tryd.prog 20 [.str ((s.drop j.toNat).take ((s.length : Int).toNat - j.toNat))] (tkn (nxtT (s.drop a))) := by
  rw [cutL hj]; exact one_pure _ (by rw [List.length_drop]; omega)
theorem spn' {s : List UInt8} {j : Int} {a : Nat} (hj : j = a) (hs : s.length ≤ 1073741824) : Pure Tryd.prog 16 [.str ((s.drop j.toNat).take ((s.length : Int).toNat - j.toNat)), .fn 17 []] (.int .i64 (spn noNl (s.drop a) : Nat)) := by
  rw [cutL hj]; exact span_pure _ _ noNl nonl_pure (by kernel_rfl) (by rw [List.length_drop]; omega)
theorem pass' {s : List UInt8} {j : Int} {a : Nat} (hj : j = a) (hs : s.length ≤ 1073741824) (ha : a ≤ s.length) : Pure Tryd.prog 19 [.str s, .int .i64 j] (.int .i64 (a + skp (s.drop a) : Nat)) := hj ▸ pass_pure s a hs ha
/-- so far: these tokens, and those of the rest -/
def LI (s : List UInt8) (ts : List Tk) (a : Nat) : Prop := lexGo s 0 = (ts ++ (lexGo (s.drop a) a).1, (lexGo (s.drop a) a).2)
theorem LI.skip {s : List UInt8} {ts : List Tk} {a b : Nat} (h : LI s ts a) (e : lexGo (s.drop a) a = lexGo (s.drop b) b) : LI s ts b := by
  unfold LI at *; rw [h, e]
theorem LI.tok {s : List UInt8} {ts : List Tk} {a : Nat} {t : Tk} {b : Nat} (h : LI s ts a) (e : lexGo (s.drop a) a = (t :: (lexGo (s.drop b) b).1, (lexGo (s.drop b) b).2)) : LI s (ts ++ [t]) b := by
  unfold LI at *; rw [h, e]; simp
theorem LI.stop {s : List UInt8} {ts : List Tk} {a : Nat} (h : LI s ts a) (e : s.drop a = []) : lexGo s 0 = (ts, none) := by
  unfold LI at h; rw [h, e, lexGo_nil]; simp
theorem LI.bad {s : List UInt8} {ts : List Tk} {a p : Nat} (h : LI s ts a) (e : lexGo (s.drop a) a = ([], some p)) : lexGo s 0 = (ts, some p) := by
  unfold LI at h; rw [h, e]; simp
theorem tok_step {s : List UInt8} {a : Nat} {c : UInt8} {r : List UInt8} (hd : s.drop a = c :: r) (hb : isBl c = false) (hr : isRem (s.drop a) = false) :
    ((nxtT (s.drop a)).2 = 0 → lexGo (s.drop a) a = ([], some a)) ∧ ((nxtT (s.drop a)).2 ≠ 0 → lexGo (s.drop a) a = ((nxtT (s.drop a)).1.at a :: (lexGo (s.drop (a + (nxtT (s.drop a)).2)) (a + (nxtT (s.drop a)).2)).1, (lexGo (s.drop (a + (nxtT (s.drop a)).2)) (a + (nxtT (s.drop a)).2)).2)) := by
  refine ⟨fun h => ?_, fun h => ?_⟩
  · rw [hd] at hr h ⊢; exact lexGo_no hb hr h
  · have e : lexGo (s.drop a) a = ((nxtT (s.drop a)).1.at a :: (lexGo ((s.drop a).drop (nxtT (s.drop a)).2) (a + (nxtT (s.drop a)).2)).1, (lexGo ((s.drop a).drop (nxtT (s.drop a)).2) (a + (nxtT (s.drop a)).2)).2) := by
      rw [hd] at hr h ⊢; exact lexGo_tok hb hr h
    rw [List.drop_drop] at e; exact e
def StAl (H : Hp) (s : List UInt8) (ts : List Tk) (j : Int) : St := [(.h, .hp H), (.s 0, .sv (.v (.str s))), (.s 7, .sv (.ow 7 (ts.map Tk.av))), (.t 7, .tk false 35 5 (ts.map Tk.av)), (.s 8, .sv (.v (.int .i64 j)))]
def StRa (H : Hp) (s : List UInt8) (ts : List Tk) (j : Int) : St := [(.h, .hp H), (.s 0, .sv (.v (.str s))), (.s 7, .sv (.ow 15 (ts.map Tk.av))), (.t 15, .tk false 46 5 (ts.map Tk.av)), (.s 8, .sv (.v (.int .i64 j)))]
theorem map_tok (ts : List Tk) (t : Tk) (a : Nat) (j : Int) (hj : j = a) : (ts ++ [t.at a]).map Tk.av = ts.map Tk.av ++ [.agg [.int .i64 t.k, .str t.s, .int .u64 t.n, .bool t.neg, .int .i64 j]] := by
  subst hj; rw [List.map_append]; rfl
theorem map_end (ts : List Tk) (n : Nat) : (ts ++ [(⟨0, [], 0, false, n⟩ : Tk)]).map Tk.av = ts.map Tk.av ++ [.agg [.int .i64 0, .str [], .int .u64 0, .bool false, .int .i64 n]] := by
  rw [List.map_append]; rfl
theorem all_pure (s : List UInt8) (most : Int) (hs : s.length ≤ 1073741824) : Pure Tryd.prog 7 [.str s, .int .i64 most] (allV s most) := by
  refine Pure.of_tri Tryd.func7 rfl rfl (ltb rfl) fun H => ?_
  refine Tri.seq ?_
  refine Tri.region ?_
  refine TriL.c1 rfl (op_as (ltb rfl) rfl) ?_
  refine TriL.c1 rfl (op_as (ltb rfl) rfl) ?_
  refine TriL.c1 rfl (op_as (ltb rfl) rfl) ?_
  refine TriL.nil ?_
  refine Tri.scope ?_
  refine Tri.seq ?_
  refine Tri.seq ?_
  refine Tri.region ?_
  refine TriL.c1 rfl (op_mv (ltb rfl) rfl) ?_
  refine TriL.c1 rfl (op_lens (ltb rfl) un9 rfl) ?_
  refine TriL.c1 rfl (op_mv (ltb rfl) rfl) ?_
  refine TriL.c1 rfl (op_bin (ltb rfl) rfl rfl rfl) ?_
  refine TriL.nil ?_
  refine Tri.cond rfl (fun hc1 => ?_) (fun hc1 => ?_)
  · refine Tri.seq ?_
    refine Tri.region ?_
    refine TriL.c1 rfl (op_as (ltb rfl) rfl) ?_
    refine TriL.c1 rfl (op_as (ltb rfl) rfl) ?_
    refine TriL.c1 rfl (op_as (ltb rfl) rfl) ?_
    refine TriL.nil ?_
    refine Tri.ret ?_
    exact ⟨.inr rfl, (ResOK.r3 rfl (.tmp rfl (.tmp rfl (.tmp rfl .nil)))).cast (by rw [allV_long (of_decide_eq_true hc1)]), rfl⟩
  · refine Tri.skip ?_
    refine Tri.seq ?_
    refine Tri.region ?_
    refine TriL.c2 rfl (op_nilt (k := 7) (el := 35) (esz := 5) (c := 0) (ltb rfl) rfl (by decide)) ?_
    refine TriL.nil ?_
    refine Tri.seq ?_
    refine Tri.region ?_
    refine TriL.c1 rfl (op_as (ltb rfl) rfl) ?_
    refine TriL.kept (Kept.keep [.h, .s 0, .s 7, .t 7, .s 8] rfl (by decide) (Kept.now ?_))
    refine Tri.seq ?_
    refine Tri.label ?_
    refine Tri.seq ?_
    refine Tri.blk ?_
    -- LOOP 1: KEEP
    refine Tri.loop (fun q w => ∃ (a : Nat) (ts : List Tk) (j : Int), w = StAl H s ts j ∧ j = a ∧ a ≤ s.length ∧ ts.length ≤ a ∧ LI s ts a ∧ q = s.length - a) ?_ (n := s.length) ⟨0, [], 0, rfl, rfl, Nat.zero_le _, Nat.le_refl _, by unfold LI; simp, rfl⟩
    rintro q w ⟨a, ts, j, rfl, hj, ha, ho, hI, rfl⟩
    refine Tri.seq ?_
    refine Tri.seq ?_
    refine Tri.region ?_
    refine TriL.c1 rfl (op_mv (ltb rfl) rfl) ?_
    refine TriL.c1 rfl (op_mv (ltb rfl) rfl) ?_
    refine TriL.c1 rfl (op_lens (ltb rfl) un9 rfl) ?_
    refine TriL.c1 rfl (op_bin (ltb rfl) rfl rfl rfl) ?_
    refine TriL.nil ?_
    refine Tri.cond rfl (fun hc2 => ?_) (fun hc2 => ?_)
    · have hlt : a < s.length := by have := of_decide_eq_true hc2; omega
      obtain ⟨c, hc⟩ : ∃ c, s[a]? = some c := ⟨s[a], List.getElem?_eq_getElem hlt⟩
      have hda := drop_at hc
      refine Tri.skip ?_
      refine Tri.blk ?_
      refine Tri.join (fun w => w = StAl H s ts j ∧ isBl c = false ∧ isRem (s.drop a) = false) ?_ ?_
      · refine Tri.blk ?_
        refine Tri.seq ?_
        refine Tri.region ?_
        refine TriL.c1 rfl (op_mv (ltb rfl) rfl) ?_
        refine TriL.c1 rfl (op_mv (ltb rfl) rfl) ?_
        refine TriL.c1 rfl (op_ixs (ltb rfl) un9 rfl rfl (by omega) (ixc hj hc)) ?_
        refine TriL.c1 rfl (op_bin (ltb rfl) rfl rfl rfl) ?_
        refine TriL.c1 rfl (op_mv (ltb rfl) rfl) ?_
        refine TriL.split (d := 24) rfl (fun hg3 => ?_) (fun hg3 => ?_)
        · refine TriL.skipu rfl rfl (ltb rfl) (ltb rfl) rfl hg3 ?_
          refine TriL.skipu rfl rfl (ltb rfl) (ltb rfl) rfl hg3 ?_
          refine TriL.skipu rfl rfl (ltb rfl) (ltb rfl) rfl hg3 ?_
          refine TriL.skipu rfl rfl (ltb rfl) (ltb rfl) rfl hg3 ?_
          refine TriL.c1 rfl (op_pickt (ltb rfl) rfl hg3 rfl) ?_
          refine TriL.c1 rfl (op_mv (ltb rfl) rfl) ?_
          refine TriL.skipu rfl rfl (ltb rfl) (ltb rfl) rfl rfl ?_
          refine TriL.skipu rfl rfl (ltb rfl) (ltb rfl) rfl rfl ?_
          refine TriL.skipu rfl rfl (ltb rfl) (ltb rfl) rfl rfl ?_
          refine TriL.skipu rfl rfl (ltb rfl) (ltb rfl) rfl rfl ?_
          refine TriL.c1 rfl (op_pickt (ltb rfl) rfl rfl rfl) ?_
          refine TriL.c1 rfl (op_as (ltb rfl) rfl) ?_
          refine TriL.nil ?_
          refine Tri.condT rfl rfl ?_
          refine Tri.seq ?_
          refine Tri.region ?_
          refine TriL.c1 rfl (op_mv (ltb rfl) rfl) ?_
          refine TriL.c1 rfl (op_bin (ltb rfl) rfl rfl rfl) ?_
          refine TriL.c1 rfl (op_as (ltb rfl) rfl) ?_
          refine TriL.kept (Kept.keep [.h, .s 0, .s 7, .t 7, .s 8] rfl (by decide) (Kept.now ?_))
          refine Tri.exit ?_
          exact ⟨s.length - (a + 1), by omega, a + 1, ts, IntKind.i64.wrap (j + 1), rfl, by rw [hj, wr64] <;> omega, by omega, by omega, hI.skip (by rw [hda, lexGo_bl (bl_1 hg3)]), rfl⟩
        · refine TriL.g1 rfl (ltb rfl) rfl hg3 (op_mv (ltb rfl) rfl) ?_
          refine TriL.g1 rfl (ltb rfl) rfl hg3 (op_mv (ltb rfl) rfl) ?_
          refine TriL.g1 rfl (ltb rfl) rfl hg3 (op_ixs (ltb rfl) un9 rfl rfl (by omega) (ixc hj hc)) ?_
          refine TriL.g1 rfl (ltb rfl) rfl hg3 (op_bin (ltb rfl) rfl rfl rfl) ?_
          refine TriL.c1 rfl (op_pickf (ltb rfl) rfl hg3 rfl) ?_
          refine TriL.c1 rfl (op_mv (ltb rfl) rfl) ?_
          refine TriL.split (d := 30) rfl (fun hg4 => ?_) (fun hg4 => ?_)
          · refine TriL.skipu rfl rfl (ltb rfl) (ltb rfl) rfl hg4 ?_
            refine TriL.skipu rfl rfl (ltb rfl) (ltb rfl) rfl hg4 ?_
            refine TriL.skipu rfl rfl (ltb rfl) (ltb rfl) rfl hg4 ?_
            refine TriL.skipu rfl rfl (ltb rfl) (ltb rfl) rfl hg4 ?_
            refine TriL.c1 rfl (op_pickt (ltb rfl) rfl hg4 rfl) ?_
            refine TriL.c1 rfl (op_as (ltb rfl) rfl) ?_
            refine TriL.nil ?_
            refine Tri.condT rfl rfl ?_
            refine Tri.seq ?_
            refine Tri.region ?_
            refine TriL.c1 rfl (op_mv (ltb rfl) rfl) ?_
            refine TriL.c1 rfl (op_bin (ltb rfl) rfl rfl rfl) ?_
            refine TriL.c1 rfl (op_as (ltb rfl) rfl) ?_
            refine TriL.kept (Kept.keep [.h, .s 0, .s 7, .t 7, .s 8] rfl (by decide) (Kept.now ?_))
            refine Tri.exit ?_
            exact ⟨s.length - (a + 1), by omega, a + 1, ts, IntKind.i64.wrap (j + 1), rfl, by rw [hj, wr64] <;> omega, by omega, by omega, hI.skip (by rw [hda, lexGo_bl (bl_2 hg4)]), rfl⟩
          · refine TriL.g1 rfl (ltb rfl) rfl hg4 (op_mv (ltb rfl) rfl) ?_
            refine TriL.g1 rfl (ltb rfl) rfl hg4 (op_mv (ltb rfl) rfl) ?_
            refine TriL.g1 rfl (ltb rfl) rfl hg4 (op_ixs (ltb rfl) un9 rfl rfl (by omega) (ixc hj hc)) ?_
            refine TriL.g1 rfl (ltb rfl) rfl hg4 (op_bin (ltb rfl) rfl rfl rfl) ?_
            refine TriL.c1 rfl (op_pickf (ltb rfl) rfl hg4 rfl) ?_
            refine TriL.c1 rfl (op_as (ltb rfl) rfl) ?_
            refine TriL.nil ?_
            refine Tri.cond rfl (fun hc5 => ?_) (fun hc5 => ?_)
            · refine Tri.seq ?_
              refine Tri.region ?_
              refine TriL.c1 rfl (op_mv (ltb rfl) rfl) ?_
              refine TriL.c1 rfl (op_bin (ltb rfl) rfl rfl rfl) ?_
              refine TriL.c1 rfl (op_as (ltb rfl) rfl) ?_
              refine TriL.kept (Kept.keep [.h, .s 0, .s 7, .t 7, .s 8] rfl (by decide) (Kept.now ?_))
              refine Tri.exit ?_
              exact ⟨s.length - (a + 1), by omega, a + 1, ts, IntKind.i64.wrap (j + 1), rfl, by rw [hj, wr64] <;> omega, by omega, by omega, hI.skip (by rw [hda, lexGo_bl (bl_3 hc5)]), rfl⟩
            · refine Tri.seq ?_
              refine Tri.region ?_
              refine TriL.c1 rfl (op_mv (ltb rfl) rfl) ?_
              refine TriL.c1 rfl (op_mv (ltb rfl) rfl) ?_
              refine TriL.c1 rfl (op_cuts (ltb rfl) un9 rfl rfl rfl (by omega) (by omega) (by omega)) ?_
              refine TriL.c1 rfl (op_call (ltb rfl) fn15 rfl (has' [47, 47] hj)) ?_
              refine TriL.c1 rfl (op_as (ltb rfl) rfl) ?_
              refine TriL.nil ?_
              refine Tri.cond rfl (fun hc6 => ?_) (fun hc6 => ?_)
              · refine Tri.seq ?_
                refine Tri.region ?_
                refine TriL.c1 rfl (op_mv (ltb rfl) rfl) ?_
                refine TriL.c1 rfl (op_mv (ltb rfl) rfl) ?_
                refine TriL.c1 rfl (op_mv (ltb rfl) rfl) ?_
                refine TriL.c1 rfl (op_cuts (ltb rfl) un9 rfl rfl rfl (by omega) (by omega) (by omega)) ?_
                refine TriL.c1 rfl (op_call (ltb rfl) fn16 rfl (spn' hj hs)) ?_
                refine TriL.c1 rfl (op_bin (ltb rfl) rfl rfl rfl) ?_
                refine TriL.c1 rfl (op_as (ltb rfl) rfl) ?_
                refine TriL.kept (Kept.keep [.h, .s 0, .s 7, .t 7, .s 8] rfl (by decide) (Kept.now ?_))
                refine Tri.exit ?_
                have hr : isRem (s.drop a) = true := hc6
                have hb := bl_no hg3 hg4 hc5
                have hsp := spn_rem hr
                have hsl := spn_le noNl (s.drop a)
                rw [List.length_drop] at hsl
                have e : lexGo (s.drop a) a = lexGo (s.drop (a + spn noNl (s.drop a))) (a + spn noNl (s.drop a)) := by
                  have h5 : lexGo (s.drop a) a = lexGo ((s.drop a).drop (spn noNl (s.drop a))) (a + spn noNl (s.drop a)) := by
                    rw [hda] at hr ⊢; exact lexGo_rem hb hr
                  rw [h5, List.drop_drop]
                exact ⟨s.length - (a + spn noNl (s.drop a)), by omega, a + spn noNl (s.drop a), ts, IntKind.i64.wrap (j + (spn noNl (s.drop a) : Int)), rfl, by rw [hj, wr64] <;> omega, by omega, by omega, hI.skip e, rfl⟩
              · refine Tri.ofKept (Kept.keep [.h, .s 0, .s 7, .t 7, .s 8] rfl (by decide) (Kept.now ?_))
                refine Tri.skip ?_
                exact ⟨rfl, bl_no hg3 hg4 hc5, hc6⟩
      · rintro w ⟨rfl, hb, hr⟩
        obtain ⟨hk0, hkn⟩ := tok_step hda hb hr
        refine Tri.seq ?_
        refine Tri.region ?_
        refine TriL.c1 rfl (op_mv (ltb rfl) rfl) ?_
        refine TriL.c1 rfl (op_mv (ltb rfl) rfl) ?_
        refine TriL.c1 rfl (op_cuts (ltb rfl) un9 rfl rfl rfl (by omega) (by omega) (by omega)) ?_
        refine TriL.c1 rfl (op_call (ltb rfl) fn18 rfl (next' hj hs)) ?_
        refine TriL.c1 rfl (op_mv (ltb rfl) rfl) ?_
        refine TriL.c1 rfl (op_ext (ltb rfl) rfl rfl) ?_
        refine TriL.c1 rfl (op_ext (ltb rfl) rfl rfl) ?_
        refine TriL.c2 rfl (op_all (ltb rfl) zA35 rfl) ?_
        refine TriL.c1 rfl (op_stl lk35 rfl rfl rfl rfl rfl (leb rfl)) ?_
        refine TriL.c1 rfl (op_as (ltb rfl) rfl) ?_
        refine TriL.nil ?_
        refine Tri.seq ?_
        refine Tri.seq ?_
        refine Tri.region ?_
        refine TriL.c1 rfl (op_mv (ltb rfl) rfl) ?_
        refine TriL.c1 rfl (op_bin (ltb rfl) rfl rfl rfl) ?_
        refine TriL.nil ?_
        refine Tri.cond rfl (fun hc7 => ?_) (fun hc7 => ?_)
        · refine Tri.seq ?_
          refine Tri.region ?_
          refine TriL.c1 rfl (op_mv (ltb rfl) rfl) ?_
          refine TriL.c1 rfl (op_as (ltb rfl) rfl) ?_
          refine TriL.c1 rfl (op_as (ltb rfl) rfl) ?_
          refine TriL.c1 rfl (op_as (ltb rfl) rfl) ?_
          refine TriL.nil ?_
          refine Tri.ret ?_
          exact ⟨.inr rfl, (ResOK.r3 rfl (.tmp rfl (.tmp rfl (.tmp rfl .nil)))).cast (by rw [allV_bad (by have := of_decide_eq_false hc1; omega) (hI.bad (hk0 (by have := eq_of_beq hc7; omega))), hj]), rfl⟩
        · have hk1 : (nxtT (s.drop a)).2 ≠ 0 := by have := beq_eq_false_iff_ne.1 hc7; omega
          have hk2 : a + (nxtT (s.drop a)).2 ≤ s.length := by have := nxt_le (s.drop a); rw [List.length_drop] at this; omega
          have hw : IntKind.i64.wrap (j + ((nxtT (s.drop a)).2 : Int)) = ((a + (nxtT (s.drop a)).2 : Nat) : Int) := by rw [hj, wr64] <;> omega
          refine Tri.skip ?_
          refine Tri.seq ?_
          refine Tri.region ?_
          refine TriL.c1 rfl (op_mv (ltb rfl) rfl) ?_
          refine TriL.c1 rfl (op_fal (ltb rfl) fo35_4 rfl) ?_
          refine TriL.c1 rfl (op_stl lk3 rfl rfl rfl rfl rfl (leb rfl)) ?_
          refine TriL.nil ?_
          refine Tri.seq ?_
          refine Tri.region ?_
          refine TriL.c1 rfl (op_mv (ltb rfl) rfl) ?_
          refine TriL.c1 rfl (op_ldl (ltb rfl) lk35 rfl rfl rfl) ?_
          refine TriL.c1 rfl (op_lit («as» := [_]) (ltb rfl) se23 zAe23 rfl rfl rfl (leb rfl)) ?_
          refine TriL.c3 rfl (op_app (ltb rfl) se23 rfl rfl rfl rfl rfl (by simp; omega) (by simp; omega)) ?_
          refine TriL.c1 rfl (op_as (ltb rfl) rfl) ?_
          refine TriL.nil ?_
          refine Tri.region ?_
          refine TriL.c1 rfl (op_mv (ltb rfl) rfl) ?_
          refine TriL.c1 rfl (op_mv (ltb rfl) rfl) ?_
          refine TriL.c1 rfl (op_bin (ltb rfl) rfl rfl rfl) ?_
          refine TriL.c1 rfl (op_as (ltb rfl) rfl) ?_
          refine TriL.kept (Kept.keep [.h, .s 0, .s 7, .t 64, .s 8] rfl (by decide) (Kept.ren 64 7 (by decide) rfl (Kept.now ?_)))
          exact ⟨s.length - (a + (nxtT (s.drop a)).2), by omega, a + (nxtT (s.drop a)).2, ts ++ [(nxtT (s.drop a)).1.at a], IntKind.i64.wrap (j + ((nxtT (s.drop a)).2 : Int)), by unfold StAl; rw [map_tok ts _ a j hj]; rfl, hw, hk2, by simp; omega, hI.tok (hkn hk1), rfl⟩
    · refine Tri.exit ?_
      refine Tri.seq ?_
      refine Tri.region ?_
      refine TriL.c1 rfl (op_mv (ltb rfl) rfl) ?_
      refine TriL.c1 rfl (op_mv (ltb rfl) rfl) ?_
      refine TriL.c1 rfl (op_lens (ltb rfl) un9 rfl) ?_
      refine TriL.c1 rfl (op_bld (ltb rfl) spl35 zA35 rfl rfl) ?_
      refine TriL.c1 rfl (op_lit («as» := [_]) (ltb rfl) se23 zAe23 rfl rfl rfl (leb rfl)) ?_
      refine TriL.c3 rfl (op_app (ltb rfl) se23 rfl rfl rfl rfl rfl (by simp; omega) (by simp; omega)) ?_
      refine TriL.c1 rfl (op_mv (ltb rfl) rfl) ?_
      refine TriL.c1 rfl (op_lens (ltb rfl) un9 rfl) ?_
      refine TriL.c1 rfl (op_as (ltb rfl) rfl) ?_
      refine TriL.c1 rfl (op_as (ltb rfl) rfl) ?_
      refine TriL.c1 rfl (op_as (ltb rfl) rfl) ?_
      refine TriL.nil ?_
      refine Tri.ret ?_
      exact ⟨.inr rfl, (ResOK.r3 rfl (.tmp rfl (.tmp rfl (.tmp rfl .nil)))).cast (by rw [allV_ok (by have := of_decide_eq_false hc1; omega) (hI.stop (List.drop_of_length_le (by have := of_decide_eq_false hc2; omega))), map_end]; rfl), rfl⟩
theorem rall_pure (s : List UInt8) (most : Int) (hs : s.length ≤ 1073741824) : Pure Tryd.prog 8 [.str s, .int .i64 most] (allV s most) := by
  refine Pure.of_tri Tryd.func8 rfl rfl (ltb rfl) fun H => ?_
  refine Tri.seq ?_
  refine Tri.region ?_
  refine TriL.c1 rfl (op_as (ltb rfl) rfl) ?_
  refine TriL.c1 rfl (op_as (ltb rfl) rfl) ?_
  refine TriL.c1 rfl (op_as (ltb rfl) rfl) ?_
  refine TriL.nil ?_
  refine Tri.seq ?_
  refine Tri.seq ?_
  refine Tri.region ?_
  refine TriL.c1 rfl (op_mv (ltb rfl) rfl) ?_
  refine TriL.c1 rfl (op_lens (ltb rfl) un9 rfl) ?_
  refine TriL.c1 rfl (op_mv (ltb rfl) rfl) ?_
  refine TriL.c1 rfl (op_bin (ltb rfl) rfl rfl rfl) ?_
  refine TriL.nil ?_
  refine Tri.cond rfl (fun hc1 => ?_) (fun hc1 => ?_)
  · refine Tri.seq ?_
    refine Tri.region ?_
    refine TriL.c1 rfl (op_as (ltb rfl) rfl) ?_
    refine TriL.c1 rfl (op_as (ltb rfl) rfl) ?_
    refine TriL.c1 rfl (op_as (ltb rfl) rfl) ?_
    refine TriL.nil ?_
    refine Tri.ret ?_
    exact ⟨.inr rfl, (ResOK.r3 rfl (.tmp rfl (.tmp rfl (.tmp rfl .nil)))).cast (by rw [allV_long (of_decide_eq_true hc1)]), rfl⟩
  · refine Tri.skip ?_
    refine Tri.seq ?_
    refine Tri.region ?_
    refine TriL.c2 rfl (op_litt («as» := []) (ltb rfl) se27 zAe27 rfl rfl rfl (leb rfl) rfl) ?_
    refine TriL.c1 rfl (op_as (ltb rfl) rfl) ?_
    refine TriL.nil ?_
    refine Tri.seq ?_
    refine Tri.region ?_
    refine TriL.c1 rfl (op_mv (ltb rfl) rfl) ?_
    refine TriL.c1 rfl (op_call (ltb rfl) fn19 rfl (pass' (a := 0) rfl hs (Nat.zero_le _))) ?_
    refine TriL.c1 rfl (op_as (ltb rfl) rfl) ?_
    refine TriL.kept (Kept.keep [.h, .s 0, .s 7, .t 15, .s 8] rfl (by decide) (Kept.now ?_))
    obtain ⟨z1, z2, z3⟩ := skp_all s.length s (Nat.le_refl _)
    refine Tri.seq ?_
    refine Tri.blk ?_
    -- LOOP 1: KEEP
    refine Tri.loop (fun q w => ∃ (a : Nat) (ts : List Tk) (j : Int), w = StRa H s ts j ∧ j = a ∧ a ≤ s.length ∧ ts.length ≤ a ∧ LI s ts a ∧ skp (s.drop a) = 0 ∧ q = s.length - a) ?_ (n := s.length - (0 + skp (s.drop 0))) ⟨0 + skp (s.drop 0), [], _, rfl, rfl, by simpa using z1, Nat.zero_le _, by unfold LI; rw [List.drop_zero, Nat.zero_add, z2 0, Nat.zero_add]; simp, by rw [List.drop_zero, Nat.zero_add]; exact z3, rfl⟩
    rintro q w ⟨a, ts, j, rfl, hj, ha, ho, hI, hz, rfl⟩
    refine Tri.seq ?_
    refine Tri.seq ?_
    refine Tri.region ?_
    refine TriL.c1 rfl (op_mv (ltb rfl) rfl) ?_
    refine TriL.c1 rfl (op_mv (ltb rfl) rfl) ?_
    refine TriL.c1 rfl (op_lens (ltb rfl) un9 rfl) ?_
    refine TriL.c1 rfl (op_bin (ltb rfl) rfl rfl rfl) ?_
    refine TriL.nil ?_
    refine Tri.cond rfl (fun hc2 => ?_) (fun hc2 => ?_)
    · have hlt : a < s.length := by have := of_decide_eq_true hc2; omega
      obtain ⟨c, hc⟩ : ∃ c, s[a]? = some c := ⟨s[a], List.getElem?_eq_getElem hlt⟩
      have hda := drop_at hc
      obtain ⟨hb, hr⟩ := skp_zero (c := c) (r := s.drop (a + 1)) (by rw [← hda]; exact hz)
      rw [← hda] at hr
      obtain ⟨hk0, hkn⟩ := tok_step hda hb hr
      refine Tri.skip ?_
      refine Tri.blk ?_
      refine Tri.seq ?_
      refine Tri.region ?_
      refine TriL.c1 rfl (op_mv (ltb rfl) rfl) ?_
      refine TriL.c1 rfl (op_mv (ltb rfl) rfl) ?_
      refine TriL.c1 rfl (op_cuts (ltb rfl) un9 rfl rfl rfl (by omega) (by omega) (by omega)) ?_
      refine TriL.c1 rfl (op_call (ltb rfl) fn20 rfl (one' hj hs)) ?_
      refine TriL.c1 rfl (op_mv (ltb rfl) rfl) ?_
      refine TriL.c1 rfl (op_ext (ltb rfl) rfl rfl) ?_
      refine TriL.c1 rfl (op_ext (ltb rfl) rfl rfl) ?_
      refine TriL.c2 rfl (op_all (ltb rfl) zA46 rfl) ?_
      refine TriL.c1 rfl (op_stl lk46 rfl rfl rfl rfl rfl (leb rfl)) ?_
      refine TriL.c1 rfl (op_as (ltb rfl) rfl) ?_
      refine TriL.nil ?_
      refine Tri.seq ?_
      refine Tri.seq ?_
      refine Tri.region ?_
      refine TriL.c1 rfl (op_mv (ltb rfl) rfl) ?_
      refine TriL.c1 rfl (op_bin (ltb rfl) rfl rfl rfl) ?_
      refine TriL.nil ?_
      refine Tri.cond rfl (fun hc3 => ?_) (fun hc3 => ?_)
      · refine Tri.seq ?_
        refine Tri.region ?_
        refine TriL.c1 rfl (op_mv (ltb rfl) rfl) ?_
        refine TriL.c1 rfl (op_as (ltb rfl) rfl) ?_
        refine TriL.c1 rfl (op_as (ltb rfl) rfl) ?_
        refine TriL.c1 rfl (op_as (ltb rfl) rfl) ?_
        refine TriL.nil ?_
        refine Tri.ret ?_
        exact ⟨.inr rfl, (ResOK.r3 rfl (.tmp rfl (.tmp rfl (.tmp rfl .nil)))).cast (by rw [allV_bad (by have := of_decide_eq_false hc1; omega) (hI.bad (hk0 (by have := eq_of_beq hc3; omega))), hj]), rfl⟩
      · have hk1 : (nxtT (s.drop a)).2 ≠ 0 := by have := beq_eq_false_iff_ne.1 hc3; omega
        have hk2 : a + (nxtT (s.drop a)).2 ≤ s.length := by have := nxt_le (s.drop a); rw [List.length_drop] at this; omega
        have hw : IntKind.i64.wrap (j + ((nxtT (s.drop a)).2 : Int)) = ((a + (nxtT (s.drop a)).2 : Nat) : Int) := by rw [hj, wr64] <;> omega
        refine Tri.skip ?_
        refine Tri.seq ?_
        refine Tri.region ?_
        refine TriL.c1 rfl (op_mv (ltb rfl) rfl) ?_
        refine TriL.c1 rfl (op_fal (ltb rfl) fo46_4 rfl) ?_
        refine TriL.c1 rfl (op_stl lk3 rfl rfl rfl rfl rfl (leb rfl)) ?_
        refine TriL.nil ?_
        refine Tri.seq ?_
        refine Tri.region ?_
        refine TriL.c1 rfl (op_mv (ltb rfl) rfl) ?_
        refine TriL.c1 rfl (op_ldl (ltb rfl) lk46 rfl rfl rfl) ?_
        refine TriL.c1 rfl (op_lit («as» := [_]) (ltb rfl) se27 zAe27 rfl rfl rfl (leb rfl)) ?_
        refine TriL.c3 rfl (op_app (ltb rfl) se27 rfl rfl rfl rfl rfl (by simp; omega) (by simp; omega)) ?_
        refine TriL.c1 rfl (op_as (ltb rfl) rfl) ?_
        refine TriL.nil ?_
        refine Tri.region ?_
        refine TriL.c1 rfl (op_mv (ltb rfl) rfl) ?_
        refine TriL.c1 rfl (op_mv (ltb rfl) rfl) ?_
        refine TriL.c1 rfl (op_mv (ltb rfl) rfl) ?_
        refine TriL.c1 rfl (op_bin (ltb rfl) rfl rfl rfl) ?_
        refine TriL.c1 rfl (op_call (ltb rfl) fn19 rfl (pass' hw hs hk2)) ?_
        refine TriL.c1 rfl (op_as (ltb rfl) rfl) ?_
        refine TriL.kept (Kept.keep [.h, .s 0, .s 7, .t 37, .s 8] rfl (by decide) (Kept.ren 37 15 (by decide) rfl (Kept.now ?_)))
        obtain ⟨z1, z2, z3⟩ := skp_all _ (s.drop (a + (nxtT (s.drop a)).2)) (Nat.le_refl _)
        rw [List.drop_drop] at z2 z3
        rw [List.length_drop] at z1
        exact ⟨s.length - (a + (nxtT (s.drop a)).2 + skp (s.drop (a + (nxtT (s.drop a)).2))), by omega, a + (nxtT (s.drop a)).2 + skp (s.drop (a + (nxtT (s.drop a)).2)), ts ++ [(nxtT (s.drop a)).1.at a], _, by unfold StRa; rw [map_tok ts _ a j hj]; rfl, rfl, by omega, by simp; omega, (hI.tok (hkn hk1)).skip (z2 _), z3, rfl⟩
    · refine Tri.exit ?_
      refine Tri.seq ?_
      refine Tri.region ?_
      refine TriL.c1 rfl (op_mv (ltb rfl) rfl) ?_
      refine TriL.c1 rfl (op_mv (ltb rfl) rfl) ?_
      refine TriL.c1 rfl (op_lens (ltb rfl) un9 rfl) ?_
      refine TriL.c1 rfl (op_bld (ltb rfl) spl46 zA46 rfl rfl) ?_
      refine TriL.c1 rfl (op_lit («as» := [_]) (ltb rfl) se27 zAe27 rfl rfl rfl (leb rfl)) ?_
      refine TriL.c3 rfl (op_app (ltb rfl) se27 rfl rfl rfl rfl rfl (by simp; omega) (by simp; omega)) ?_
      refine TriL.c1 rfl (op_mv (ltb rfl) rfl) ?_
      refine TriL.c1 rfl (op_lens (ltb rfl) un9 rfl) ?_
      refine TriL.c1 rfl (op_as (ltb rfl) rfl) ?_
      refine TriL.c1 rfl (op_as (ltb rfl) rfl) ?_
      refine TriL.c1 rfl (op_as (ltb rfl) rfl) ?_
      refine TriL.nil ?_
      refine Tri.ret ?_
      exact ⟨.inr rfl, (ResOK.r3 rfl (.tmp rfl (.tmp rfl (.tmp rfl .nil)))).cast (by rw [allV_ok (by have := of_decide_eq_false hc1; omega) (hI.stop (List.drop_of_length_le (by have := of_decide_eq_false hc2; omega))), map_end]; rfl), rfl⟩
end Go.Proofs.YthoncmadikifnaaDoor.X
