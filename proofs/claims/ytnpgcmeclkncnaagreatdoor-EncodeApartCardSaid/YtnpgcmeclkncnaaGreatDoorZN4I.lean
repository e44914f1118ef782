/- encode, in the program: slots, trees, Put. -/
import Derived.Test.YtnpgcmeclkncnaaGreatDoorZN4H
import Derived.Test.YtnpgcmeclkncnaaGreatDoorZN4C
import Derived.ProofKit
import Derived.LaidMore
import Derived.OpenShut
import Derived.HandedShaped
import Derived.LaidLaws
import Derived.Lib.LaidU8T
set_option linter.unusedVariables false
set_option linter.unusedSimpArgs false
set_option linter.unusedSectionVars false
set_option maxRecDepth 100000
namespace Go.Proofs.YtnpgcmeclkncnaaGreatDoor.X
open Go Go.RowKit Go.Proofs
theorem fn128_ME : isFn Tryz.prog 128 = true := by kernel_rfl
theorem fn129_ME : isFn Tryz.prog 129 = true := by kernel_rfl
theorem fn130_ME : isFn Tryz.prog 130 = true := by kernel_rfl
theorem fn131_ME : isFn Tryz.prog 131 = true := by kernel_rfl
theorem fn45_ME : isFn Tryz.prog 45 = true := by kernel_rfl
theorem fn46_ME : isFn Tryz.prog 46 = true := by kernel_rfl
theorem fn47_ME : isFn Tryz.prog 47 = true := by kernel_rfl
theorem fn48_ME : isFn Tryz.prog 48 = true := by kernel_rfl
theorem fn49_ME : isFn Tryz.prog 49 = true := by kernel_rfl
theorem fn50_ME : isFn Tryz.prog 50 = true := by kernel_rfl
theorem fn51_ME : isFn Tryz.prog 51 = true := by kernel_rfl
theorem fn83_ME : isFn Tryz.prog 83 = true := by kernel_rfl
theorem fn84_ME : isFn Tryz.prog 84 = true := by kernel_rfl
theorem fn85_ME : isFn Tryz.prog 85 = true := by kernel_rfl
theorem fn86_ME : isFn Tryz.prog 86 = true := by kernel_rfl
theorem fo105_0_ME : fo Tryz.prog 105 0 = some 0 := by kernel_rfl
theorem fo105_1_ME : fo Tryz.prog 105 1 = some 2 := by kernel_rfl
theorem fo25_1_ME : fo Tryz.prog 25 1 = some 1 := by kernel_rfl
theorem fo32_0_ME : fo Tryz.prog 32 0 = some 0 := by kernel_rfl
theorem fo32_1_ME : fo Tryz.prog 32 1 = some 1 := by kernel_rfl
theorem fo78_1_ME : fo Tryz.prog 78 1 = some 1 := by kernel_rfl
theorem fo83_0_ME : fo Tryz.prog 83 0 = some 0 := by kernel_rfl
theorem fo83_1_ME : fo Tryz.prog 83 1 = some 1 := by kernel_rfl
theorem fo86_0_ME : fo Tryz.prog 86 0 = some 0 := by kernel_rfl
theorem fo98_1_ME : fo Tryz.prog 98 1 = some 1 := by kernel_rfl
theorem ie23_ME : ie Tryz.prog 23 = some 3 := by kernel_rfl
theorem ie29_ME : ie Tryz.prog 29 = some 2 := by kernel_rfl
theorem ie76_ME : ie Tryz.prog 76 = some 7 := by kernel_rfl
theorem ie81_ME : ie Tryz.prog 81 = some 3 := by kernel_rfl
theorem lk102_ME : lk Tryz.prog 102 = some (false, 1) := by kernel_rfl
theorem lk105_ME : lk Tryz.prog 105 = some (true, 3) := by kernel_rfl
theorem lk23_ME : lk Tryz.prog 23 = some (false, 1) := by kernel_rfl
theorem lk25_ME : lk Tryz.prog 25 = some (true, 2) := by kernel_rfl
theorem lk29_ME : lk Tryz.prog 29 = some (false, 1) := by kernel_rfl
theorem lk3_ME : lk Tryz.prog 3 = some (false, 1) := by kernel_rfl
theorem lk30_ME : lk Tryz.prog 30 = some (false, 1) := by kernel_rfl
theorem lk32_ME : lk Tryz.prog 32 = some (true, 2) := by kernel_rfl
theorem lk76_ME : lk Tryz.prog 76 = some (false, 1) := by kernel_rfl
theorem lk78_ME : lk Tryz.prog 78 = some (true, 3) := by kernel_rfl
theorem lk81_ME : lk Tryz.prog 81 = some (false, 1) := by kernel_rfl
theorem lk83_ME : lk Tryz.prog 83 = some (true, 2) := by kernel_rfl
theorem lk84_ME : lk Tryz.prog 84 = some (false, 1) := by kernel_rfl
theorem lk86_ME : lk Tryz.prog 86 = some (true, 3) := by kernel_rfl
theorem lk98_ME : lk Tryz.prog 98 = some (true, 7) := by kernel_rfl
theorem se189_ME : se Tryz.prog 189 = some (84, 1, 8) := by kernel_rfl
theorem se194_ME : se Tryz.prog 194 = some (51, 1, 24) := by kernel_rfl
theorem spl105_ME : spl Tryz.prog 105 = some [(0, 2), (2, 1)] := by kernel_rfl
theorem un29_ME : Tryz.prog.underlying 29 = some (TypeDesc.slice 83) := Tryz.underlying29
theorem un81_ME : Tryz.prog.underlying 81 = some (TypeDesc.slice 86) := Tryz.underlying81
theorem zA105_ME : zeroA Tryz.prog 105 = some [AV.sl [], AV.sl [], AV.nilp] := by kernel_rfl
theorem zA78_ME : zeroA Tryz.prog 78 = some [AV.str [], AV.sl [], AV.sl []] := by kernel_rfl
theorem zA83_ME : zeroA Tryz.prog 83 = some [AV.int IntKind.i64 (0), AV.sl []] := by kernel_rfl
theorem zA86_ME : zeroA Tryz.prog 86 = some [AV.int IntKind.u64 (0), AV.str [], AV.sl []] := by kernel_rfl
theorem zAe189_ME : zeroA Tryz.prog 84 = some [AV.int IntKind.u64 (0)] := by kernel_rfl
theorem zAe194_ME : zeroA Tryz.prog 51 = some [AV.sl []] := by kernel_rfl
def encX (s : Sch) (f : Fld) (l : List Val) : Str := if f.packed then txt f.num (packB f.ty (l.map Val.n)) else encV s f l
theorem encX_yes {s : Sch} {f : Fld} {l : List Val} (h : f.packed = true) : encX s f l = txt f.num (packB f.ty (l.map Val.n)) := by simp [encX, h]
theorem encX_no {s : Sch} {f : Fld} {l : List Val} (h : f.packed = false) : encX s f l = encV s f l := by simp [encX, h]
theorem Slot.enc_at {s : Sch} {m : Msg} {x : Slot} (h : decide (m.at x.num < 0) = false) : x.enc s m = encX s (m.fields[m.ixN x.num]'(Msg.at_lt h)) x.vals := by rw [Slot.enc_eq, Msg.at_fix h]; rfl
theorem Slot.ok_ix {s : Sch} {m : Msg} {x : Slot} (h : x.ok s m = true) : ∃ ha : decide (m.at x.num < 0) = false, ∀ v ∈ x.vals, v.ok s (m.fields[m.ixN x.num]'(Msg.at_lt ha)) = true := by
  have ha := Slot.ok_at h
  refine ⟨ha, ?_⟩
  rw [Slot.ok_eq, Msg.at_fix ha] at h
  simp only [Bool.and_eq_true, valsOk_all, List.all_eq_true] at h
  exact h.1.2
theorem Tree.ok_ix {s : Sch} {name : Str} {t : Tree} (h : t.ok s name = true) : ∃ hix : decide (s.msgIx name < 0) = false, (∀ x ∈ t.slots, x.ok s (s.msgs[s.ixN name]'(Sch.ix_lt hix)) = true) ∧ (∀ r ∈ t.rest, r.right = true) ∧ t.enc s name = encS s (s.msgs[s.ixN name]'(Sch.ix_lt hix)) t.slots ++ t.rest.flatMap Rw.enc := by
  obtain ⟨m, h1, h2, h3, h4, h5⟩ := Tree.ok_slots h
  have h6 := Sch.ix_at h3
  rw [h1] at h6
  cases h6
  refine ⟨h3, h4, fun r hr => ?_, ?_⟩
  · have := List.all_eq_true.1 h5 r hr
    simp [restOK] at this; exact this.1
  · rw [Tree.enc_eq, h1]
theorem pay_pos (w : Int) (u : Nat) : 1 ≤ (pay w u).length := by
  unfold pay; split
  · simp [fput_len]
  · split
    · simp [fput_len]
    · exact vput_pos u
theorem packB_pos {t : Int} (h : numT t = true) : ∀ l : List Nat, l.length ≤ (packB t l).length
  | [] => by simp
  | n :: l => by
    have h1 := pay_pos (wireT t) (toT t n)
    have h2 := packB_pos h l
    simp only [packB, List.flatMap_cons, List.length_append, List.length_cons, pack1_yes h] at *
    omega
theorem packed_num {f : Fld} (h : f.packed = true) : numT f.ty = true := by simp [Fld.packed] at h; exact h.1.2
theorem encX_pos {s : Sch} {f : Fld} {l : List Val} (h : f.packed = true) : l.length ≤ (encX s f l).length := by
  rw [encX_yes h]
  have h1 := packB_pos (packed_num h) (l.map Val.n)
  have h2 := txt_ge f.num (packB f.ty (l.map Val.n))
  rw [List.length_map] at h1
  omega
theorem p_slot (s : Sch) (f : Fld) (l : List Val) (H : Hp) (id : Nat) (b : List UInt8) (fs : List AV) (hll : l.length ≤ 140737488355328) (hv : ∀ v ∈ l, v.ok s f = true) (hn : ∀ v ∈ l, v.n < 18446744073709551616) (hf : fnum f.num = true) (hfs : ∀ f ∈ fs, ∃ a b, f = frm a b) (hl : b.length + (encX s f l).length ≤ 1000000000) (hd : fs.length + deepV l ≤ 999) (ih : ∀ v ∈ l, ∀ u ∈ v.m, PenT s u) : Run Tryz.prog 83 [.agg (penC s id), f.av, .sl (l.map Val.av)] (H.wrote id b fs) (.tup []) (H.wrote id (b ++ encX s f l) fs) := by
  refine Run.of_tri Tryz.func83 rfl rfl (ltb rfl) ?_
  refine Tri.seq ?_
  refine Tri.region ?_
  refine TriL.c2 rfl (op_box (ltb rfl) rfl rfl rfl) ?_
  refine TriL.c2 rfl (op_box (ltb rfl) rfl rfl rfl) ?_
  refine TriL.nil ?_
  refine Tri.seq ?_
  refine Tri.seq ?_
  refine Tri.region ?_
  refine TriL.c1 rfl (op_ldl (ltb rfl) lk98_ME rfl rfl rfl) ?_
  refine TriL.c1 rfl (op_call (ltb rfl) fn128_ME rfl (p_packed _)) ?_
  refine TriL.c1 rfl (op_un (ltb rfl) rfl rfl) ?_
  refine TriL.nil ?_
  refine Tri.cond rfl (fun hc1 => ?_) (fun hc1 => ?_)
  · refine Tri.seq ?_
    refine Tri.seq ?_
    refine Tri.region ?_
    refine TriL.c1 rfl (op_mv (ltb rfl) rfl) ?_
    refine TriL.c1 rfl (op_lenl (ltb rfl) un81_ME rfl) ?_
    refine TriL.c1 rfl (op_mv (ltb rfl) rfl) ?_
    refine TriL.nil ?_
    refine Tri.blk ?_
    refine Tri.ofKept (Kept.keep [.s 16, .h, .s 3, .b 3, .s 4, .b 4, .s 14, .s 15] rfl (by decide) (Kept.now ?_))
    -- LOOP 1
    refine Tri.loopk (fun ((i, a) : Nat × List UInt8) => [(.s 16, .sv (.v (.int .i64 (i : Int)))), (.h, .hp (H.wrote id a fs))]) _ (fun ((i, a) : Nat × List UInt8) => a ++ encV s f (l.drop i) = b ++ encV s f l) (fun ((i, a) : Nat × List UInt8) => l.length - i) (0, b) rfl (by simp) ?_
    rintro ⟨i, a⟩ hI
    refine Tri.seq ?_
    refine Tri.region ?_
    refine TriL.c1 rfl (op_bin (ltb rfl) rfl rfl rfl) ?_
    refine TriL.nil ?_
    refine Tri.seq ?_
    refine Tri.cond rfl (fun hc2 => ?_) (fun hc2 => ?_)
    · have hi := ltm hc2
      have hS := @encV_step s f l i hi
      refine Tri.skip ?_
      refine Tri.seq ?_
      refine Tri.blk ?_
      refine Tri.seq ?_
      refine Tri.region ?_
      refine TriL.c1 rfl (op_iak (ltb rfl) ie81_ME rfl rfl (Int.natCast_nonneg _) (ixmE Val.av_eq hi) rfl) ?_
      refine TriL.c1 rfl (op_ldk (ltb rfl) lk86_ME rfl rfl) ?_
      refine TriL.c2 rfl (op_all (ltb rfl) zA86_ME rfl) ?_
      refine TriL.c1 rfl (op_stl lk86_ME rfl rfl rfl rfl rfl (leb rfl)) ?_
      refine TriL.nil ?_
      refine Tri.region ?_
      refine TriL.c1 rfl (op_ldl (ltb rfl) lk105_ME rfl rfl rfl) ?_
      refine TriL.c1 rfl (op_ldl (ltb rfl) lk98_ME rfl rfl rfl) ?_
      refine TriL.c1 rfl (op_ldl (ltb rfl) lk86_ME rfl rfl rfl) ?_
      refine TriL.c2 rfl (op_callh (ltb rfl) fn129_ME rfl rfl (p_value s f (l[i]'hi) H id a fs (hv _ (List.getElem_mem hi)) (hn _ (List.getElem_mem hi)) hf hfs (by have hq := congrArg List.length hI; rw [hS] at hq; rw [encX_no (ntr hc1)] at hl; simp only [List.length_append] at hq; omega) (by have := deepV_mem (List.getElem_mem hi); omega) (ih _ (List.getElem_mem hi)))) ?_
      refine TriL.nil ?_
      refine Tri.region ?_
      refine TriL.c1 rfl (op_bin (ltb rfl) rfl rfl rfl) ?_
      refine TriL.c1 rfl (op_mv (ltb rfl) rfl) ?_
      refine TriL.kept (Kept.seti 16 rfl (inc (by omega)) (Kept.keep [.s 16, .h, .s 3, .b 3, .s 4, .b 4, .s 14, .s 15] rfl (by decide) (Kept.now ?_)))
      exact ⟨(i + 1, _), (by dsimp only; omega), by dsimp only at hI ⊢; rw [List.append_assoc, ← hS]; exact hI, rfl⟩
    · have hi := gem hc2
      have hS := @encV_end s f l i hi
      refine Tri.exit ?_
      refine Tri.ret ?_
      exact ⟨.inr rfl, (ResOK.r0 rfl ).cast rfl, (congrArg (fun h => some (CV.hp h)) (by rw [encX_no (ntr hc1), show b ++ encV s f l = a by dsimp only at hI; rw [hS, List.append_nil] at hI; exact hI.symm]))⟩
  · refine Tri.skip ?_
    refine Tri.seq ?_
    refine Tri.region ?_
    refine TriL.c2 rfl (op_nilt (k := 8) (el := 84) (esz := 1) (c := 0) (ltb rfl) rfl (by decide)) ?_
    refine TriL.nil ?_
    refine Tri.seq ?_
    refine Tri.seq ?_
    refine Tri.region ?_
    refine TriL.c1 rfl (op_mv (ltb rfl) rfl) ?_
    refine TriL.c1 rfl (op_lenl (ltb rfl) un81_ME rfl) ?_
    refine TriL.c1 rfl (op_mv (ltb rfl) rfl) ?_
    refine TriL.nil ?_
    refine Tri.blk ?_
    refine Tri.ofKept (Kept.keep [.s 27, .s 8, .t 8, .h, .s 3, .b 3, .s 4, .b 4, .s 25, .s 26] rfl (by decide) (Kept.now ?_))
    -- LOOP 2
    refine Tri.loopk (fun ((i, a) : Nat × List AV) => [(.s 27, .sv (.v (.int .i64 (i : Int)))), (.s 8, .sv (.ow 8 a)), (.t 8, .tk false 84 1 a)]) _ (fun ((i, a) : Nat × List AV) => a = (l.take i).map (fun v : Val => AV.int .u64 (v.n : Int))) (fun ((i, a) : Nat × List AV) => l.length - i) (0, []) rfl rfl ?_
    rintro ⟨i, a⟩ ha
    refine Tri.seq ?_
    refine Tri.region ?_
    refine TriL.c1 rfl (op_bin (ltb rfl) rfl rfl rfl) ?_
    refine TriL.nil ?_
    refine Tri.seq ?_
    refine Tri.cond rfl (fun hc3 => ?_) (fun hc3 => ?_)
    · have hi := ltm hc3
      refine Tri.skip ?_
      refine Tri.seq ?_
      refine Tri.blk ?_
      refine Tri.seq ?_
      refine Tri.region ?_
      refine TriL.c1 rfl (op_iak (ltb rfl) ie81_ME rfl rfl (Int.natCast_nonneg _) (ixmE Val.av_eq hi) rfl) ?_
      refine TriL.c1 rfl (op_ldk (ltb rfl) lk86_ME rfl rfl) ?_
      refine TriL.c2 rfl (op_all (ltb rfl) zA86_ME rfl) ?_
      refine TriL.c1 rfl (op_stl lk86_ME rfl rfl rfl rfl rfl (leb rfl)) ?_
      refine TriL.nil ?_
      refine Tri.region ?_
      refine TriL.c1 rfl (op_mv (ltb rfl) rfl) ?_
      refine TriL.c1 rfl (op_fal (ltb rfl) fo86_0_ME rfl) ?_
      refine TriL.c1 rfl (op_ldl (ltb rfl) lk84_ME rfl rfl rfl) ?_
      refine TriL.c1 rfl (op_lit («as» := [_]) (ltb rfl) se189_ME zAe189_ME rfl rfl rfl (leb rfl)) ?_
      refine TriL.c3 rfl (op_app (ltb rfl) se189_ME rfl rfl rfl rfl rfl (by have := encX_pos (s := s) (l := l) (nfl hc1); rw [ha]; simp; omega) (by have := encX_pos (s := s) (l := l) (nfl hc1); rw [ha]; simp; omega)) ?_
      refine TriL.c1 rfl (op_as (ltb rfl) rfl) ?_
      refine TriL.nil ?_
      refine Tri.region ?_
      refine TriL.c1 rfl (op_bin (ltb rfl) rfl rfl rfl) ?_
      refine TriL.c1 rfl (op_mv (ltb rfl) rfl) ?_
      refine TriL.kept (Kept.seti 27 rfl (inc (by omega)) (Kept.keep [.s 27, .s 8, .t 35, .h, .s 3, .b 3, .s 4, .b 4, .s 25, .s 26] rfl (by decide) (Kept.ren 35 8 (by decide) rfl (Kept.now ?_))))
      exact ⟨(i + 1, _), (by dsimp only; omega), take_app hi ha, rfl⟩
    · have hi := gem hc3
      have hT := take_end hi
      have hA : a = (l.map Val.n).map (fun n : Nat => AV.int .u64 (n : Int)) := by rw [show a = (l.take i).map (fun v : Val => AV.int .u64 (v.n : Int)) from ha, hT, List.map_map]; rfl
      clear ha
      subst hA
      refine Tri.exit ?_
      refine Tri.drawn mixed rfl ?_
      refine TriD.c1 rfl (op_fal (ltb rfl) fo105_1_ME rfl) ?_
      refine TriD.c1 rfl (op_ldl (ltb rfl) lk102_ME rfl rfl rfl) ?_
      refine TriD.c1 rfl (op_fal (ltb rfl) fo98_1_ME rfl) ?_
      refine TriD.c1 rfl (op_ldl (ltb rfl) lk3_ME rfl rfl rfl) ?_
      refine TriD.c1 rfl (op_ldl (ltb rfl) lk98_ME rfl rfl rfl) ?_
      refine TriD.c1 rfl (op_mv (ltb rfl) rfl) ?_
      refine TriD.c1 rfl (op_call (ltb rfl) fn131_ME rfl (p_pack f (l.map Val.n) (by rw [List.length_map]; omega) (by intro n h2; obtain ⟨v, h3, rfl⟩ := List.mem_map.1 h2; exact hn v h3) (by rw [encX_yes (nfl hc1)] at hl; have := txt_ge f.num (packB f.ty (l.map Val.n)); omega))) ?_
      refine TriD.c2 rfl (op_callh (ltb rfl) fn130_ME rfl rfl (v_text H id b fs _ _ (fnum_right hf) (by rw [encX_yes (nfl hc1)] at hl; exact hl))) ?_
      refine TriD.nil (by kernel_rfl) (Kept.now ?_)
      exact ⟨.inl rfl, (ResOK.r0 rfl ).cast rfl, (congrArg (fun h => some (CV.hp h)) (by rw [encX_yes (nfl hc1)]))⟩
theorem p_ptree1 (s : Sch) (hs : s.good) (t : Tree) (hb : t.fits) (ih : ∀ x ∈ t.slots, ∀ v ∈ x.vals, ∀ u ∈ v.m, PenT s u) : PenT s t := by
  intro name H id b fs hok hfs hl hd
  obtain ⟨hix, hxs, hrs, hE⟩ := Tree.ok_ix hok
  have hsm := hs.m
  have hsl := hb.here.s
  refine Run.of_tri Tryz.func49 rfl rfl (ltb rfl) ?_
  refine Tri.seq ?_
  refine Tri.region ?_
  refine TriL.c2 rfl (op_box (ltb rfl) rfl rfl rfl) ?_
  refine TriL.c2 rfl (op_box (ltb rfl) rfl rfl rfl) ?_
  refine TriL.nil ?_
  refine Tri.seq ?_
  refine Tri.drawn mixed rfl ?_
  refine TriD.c1 rfl (op_fal (ltb rfl) fo105_0_ME rfl) ?_
  refine TriD.c1 rfl (op_fal (ltb rfl) fo25_1_ME rfl) ?_
  refine TriD.c1 rfl (op_ldl (ltb rfl) lk23_ME rfl rfl rfl) ?_
  refine TriD.c1 rfl (op_fal (ltb rfl) fo105_0_ME rfl) ?_
  refine TriD.c1 rfl (op_ldl (ltb rfl) lk25_ME rfl rfl rfl) ?_
  refine TriD.c1 rfl (op_mv (ltb rfl) rfl) ?_
  refine TriD.c1 rfl (op_call (ltb rfl) fn45_ME rfl (p_msgIx _ _ (by omega))) ?_
  refine TriD.c1 rfl (op_iak (ltb rfl) ie23_ME rfl rfl (Sch.ix_nn hix) (ixm1 (Sch.ix_eq hix) (Sch.ix_lt hix)) rfl) ?_
  refine TriD.c1 rfl (op_ldk (ltb rfl) lk78_ME rfl rfl) ?_
  refine TriD.c2 rfl (op_all (ltb rfl) zA78_ME rfl) ?_
  refine TriD.c1 rfl (op_stl lk78_ME rfl rfl rfl rfl rfl (leb rfl)) ?_
  refine TriD.nil (by kernel_rfl) (Kept.now ?_)
  refine Tri.seq ?_
  refine Tri.seq ?_
  refine Tri.region ?_
  refine TriL.c1 rfl (op_fal (ltb rfl) fo32_0_ME rfl) ?_
  refine TriL.c1 rfl (op_ldl (ltb rfl) lk29_ME rfl rfl rfl) ?_
  refine TriL.c1 rfl (op_lenl (ltb rfl) un29_ME rfl) ?_
  refine TriL.c1 rfl (op_mv (ltb rfl) rfl) ?_
  refine TriL.nil ?_
  refine Tri.blk ?_
  refine Tri.ofKept (Kept.keep [.s 23, .h, .s 3, .b 3, .s 5, .b 5, .s 6, .b 6, .s 21, .s 22] rfl (by decide) (Kept.now ?_))
  -- LOOP 1
  refine Tri.loopk (fun ((i, a) : Nat × List UInt8) => [(.s 23, .sv (.v (.int .i64 (i : Int)))), (.h, .hp (H.wrote id a fs))]) _ (fun ((i, a) : Nat × List UInt8) => a ++ encS s (s.msgs[s.ixN name]'(Sch.ix_lt hix)) (t.slots.drop i) = b ++ encS s (s.msgs[s.ixN name]'(Sch.ix_lt hix)) t.slots) (fun ((i, a) : Nat × List UInt8) => t.slots.length - i) (0, b) rfl (by simp) ?_
  rintro ⟨i, a⟩ hI
  refine Tri.seq ?_
  refine Tri.region ?_
  refine TriL.c1 rfl (op_bin (ltb rfl) rfl rfl rfl) ?_
  refine TriL.nil ?_
  refine Tri.seq ?_
  refine Tri.cond rfl (fun hc1 => ?_) (fun hc1 => ?_)
  · have hi := ltm hc1
    have hS := @encS_step s (s.msgs[s.ixN name]'(Sch.ix_lt hix)) t.slots i hi
    obtain ⟨hat, hvs⟩ := Slot.ok_ix (hxs _ (List.getElem_mem hi))
    have hX := Slot.enc_at (s := s) hat
    refine Tri.skip ?_
    refine Tri.seq ?_
    refine Tri.blk ?_
    refine Tri.seq ?_
    refine Tri.region ?_
    refine TriL.c1 rfl (op_iak (ltb rfl) ie29_ME rfl rfl (Int.natCast_nonneg _) (ixmE Slot.av_eq hi) rfl) ?_
    refine TriL.c1 rfl (op_ldk (ltb rfl) lk83_ME rfl rfl) ?_
    refine TriL.c2 rfl (op_all (ltb rfl) zA83_ME rfl) ?_
    refine TriL.c1 rfl (op_stl lk83_ME rfl rfl rfl rfl rfl (leb rfl)) ?_
    refine TriL.nil ?_
    refine Tri.drawn mixed rfl ?_
    refine TriD.c1 rfl (op_ldl (ltb rfl) lk105_ME rfl rfl rfl) ?_
    refine TriD.c1 rfl (op_fal (ltb rfl) fo78_1_ME rfl) ?_
    refine TriD.c1 rfl (op_ldl (ltb rfl) lk76_ME rfl rfl rfl) ?_
    refine TriD.c1 rfl (op_ldl (ltb rfl) lk78_ME rfl rfl rfl) ?_
    refine TriD.c1 rfl (op_fal (ltb rfl) fo83_0_ME rfl) ?_
    refine TriD.c1 rfl (op_ldl (ltb rfl) lk3_ME rfl rfl rfl) ?_
    refine TriD.c1 rfl (op_call (ltb rfl) fn84_ME rfl (p_number _ _ (hs.f _ (List.getElem_mem (Sch.ix_lt hix))))) ?_
    refine TriD.c1 rfl (op_iak (ltb rfl) ie76_ME rfl rfl (Msg.at_nn hat) (ixm1 (Msg.at_eq hat) (Msg.at_lt hat)) rfl) ?_
    refine TriD.c1 rfl (op_ldk (ltb rfl) lk98_ME rfl rfl) ?_
    refine TriD.c1 rfl (op_fal (ltb rfl) fo83_1_ME rfl) ?_
    refine TriD.c1 rfl (op_ldl (ltb rfl) lk81_ME rfl rfl rfl) ?_
    refine TriD.c2 rfl (op_callh (ltb rfl) fn83_ME rfl rfl (p_slot s _ (t.slots[i]'hi).vals H id a fs (hb.here.v _ (List.getElem_mem hi)) hvs (hb.here.vn _ (List.getElem_mem hi)) (hs.n _ (List.getElem_mem (Sch.ix_lt hix)) _ (List.getElem_mem (Msg.at_lt hat))) hfs (by have hq := congrArg List.length hI; rw [hS, hX] at hq; rw [hE] at hl; simp only [List.length_append] at hq hl; omega) (by have := deepS_mem (List.getElem_mem hi); have := (t.slots[i]'hi).deep_eq; have := t.deep_eq; omega) (ih _ (List.getElem_mem hi)))) ?_
    refine TriD.nil (by kernel_rfl) (Kept.now ?_)
    refine Tri.region ?_
    refine TriL.c1 rfl (op_bin (ltb rfl) rfl rfl rfl) ?_
    refine TriL.c1 rfl (op_mv (ltb rfl) rfl) ?_
    refine TriL.kept (Kept.seti 23 rfl (inc (by omega)) (Kept.keep [.s 23, .h, .s 3, .b 3, .s 5, .b 5, .s 6, .b 6, .s 21, .s 22] rfl (by decide) (Kept.now ?_)))
    exact ⟨(i + 1, _), (by dsimp only; omega), by dsimp only at hI ⊢; rw [List.append_assoc, ← hX, ← hS]; exact hI, rfl⟩
  · have hi := gem hc1
    have hS := @encS_end s (s.msgs[s.ixN name]'(Sch.ix_lt hix)) t.slots i hi
    refine Tri.exit ?_
    refine Tri.seq ?_
    refine Tri.region ?_
    refine TriL.c1 rfl (op_fal (ltb rfl) fo32_1_ME rfl) ?_
    refine TriL.c1 rfl (op_ldl (ltb rfl) lk30_ME rfl rfl rfl) ?_
    refine TriL.c1 rfl (op_call (ltb rfl) fn85_ME rfl (p_rawPut t.rest (Nat.le_trans hb.here.r (by omega)) hrs hb.here.rn (by rw [hE] at hl; simp only [List.length_append] at hl; omega))) ?_
    refine TriL.c1 rfl (op_mv (ltb rfl) rfl) ?_
    refine TriL.c1 rfl (op_ext (ltb rfl) rfl rfl) ?_
    refine TriL.c1 rfl (op_ext (ltb rfl) rfl rfl) ?_
    refine TriL.c1 rfl (op_as (ltb rfl) rfl) ?_
    refine TriL.c1 rfl (op_as (ltb rfl) rfl) ?_
    refine TriL.nil ?_
    refine Tri.region ?_
    refine TriL.c1 rfl (op_fal (ltb rfl) fo105_1_ME rfl) ?_
    refine TriL.c1 rfl (op_ldl (ltb rfl) lk102_ME rfl rfl rfl) ?_
    refine TriL.c1 rfl (op_mv (ltb rfl) rfl) ?_
    refine TriL.c1 rfl (op_lit («as» := [_]) (ltb rfl) se194_ME zAe194_ME rfl rfl rfl (leb rfl)) ?_
    refine TriL.c2 rfl (op_callh (ltb rfl) fn86_ME rfl rfl (v_plain H id a (t.rest.flatMap Rw.enc) fs (by have hq := congrArg List.length hI; rw [hE] at hl; simp only [List.length_append] at hq hl; omega))) ?_
    refine TriL.nil ?_
    exact ⟨.inl rfl, (ResOK.r0 rfl ).cast rfl, (congrArg (fun h => some (CV.hp h)) (by rw [hE, show b ++ (encS s (s.msgs[s.ixN name]'(Sch.ix_lt hix)) t.slots ++ t.rest.flatMap Rw.enc) = a ++ t.rest.flatMap Rw.enc by dsimp only at hI; rw [hS, List.append_nil] at hI; rw [← List.append_assoc, ← hI]]))⟩
theorem p_ptree (s : Sch) (hs : s.good) (t : Tree) (hb : t.fits) : PenT s t :=
  Tree.ind (Q := fun t => t.fits → PenT s t) (fun t ih hb => p_ptree1 s hs t hb (fun x hx v hv u hu => ih x hx v hv u hu (hb.sub hu hv hx))) t hb
theorem Hp.pen_wrote (H : Hp) (b c : List UInt8) : (H.pen b).wrote H.next c [] = H.pen c := Hp.pen_set H b c
theorem pen_tree {s : Sch} (hs : s.good) (H : Hp) {t : Tree} (hb : t.fits) {name : Str} (hok : t.ok s name = true) (hl : (t.enc s name).length ≤ 1000000000) (hd : t.deep ≤ 1000) : Run Tryz.prog 49 [.agg (penC s H.next), .str name, .agg t.cells] (H.pen []) (.tup []) (H.pen (t.enc s name)) := by
  have h := p_ptree s hs t hb name (H.pen []) H.next [] [] hok (by simp) (by simpa using hl) (by simpa using hd)
  rw [Hp.pen_wrote, Hp.pen_wrote, List.nil_append] at h
  exact h
theorem deep_sub {t : Tree} {x : Slot} {v : Val} {u : Tree} (hx : x ∈ t.slots) (hv : v ∈ x.vals) (hu : u ∈ v.m) : u.deep < t.deep := by
  have h1 := deepT_mem hu
  have h2 := deepV_mem hv
  have h3 := deepS_mem hx
  rw [Val.deep_eq] at h2
  rw [Slot.deep_eq] at h3
  rw [t.deep_eq]
  omega
theorem p_deep (t : Tree) (hb : t.big) (hd : t.deep ≤ 9223372036854775807) : Pure Tryz.prog 47 [.agg t.cells] (.int .i64 (t.deep : Int)) :=
  Tree.ind (Q := fun t => t.big → t.deep ≤ 9223372036854775807 → Pure Tryz.prog 47 [.agg t.cells] (.int .i64 (t.deep : Int))) (fun t ih hb hd => p_deep1 t hb hd (fun x hx v hv u hu => ih x hx v hv u hu (hb.sub hu hv hx) (by have := deep_sub hx hv hu; omega))) t hb hd
/-- what Put answers -/
def Tree.putE (s : Sch) (name : Str) (t : Tree) : Int :=
  if s.msgIx name < 0 then 5 else if t.ok s name = false then 1 else if 16 < t.deep then 3 else if 65536 < (t.enc s name).length then 3 else 0
def Tree.putB (s : Sch) (name : Str) (t : Tree) : Str := if t.putE s name = 0 then t.enc s name else []
def Tree.putR (s : Sch) (name : Str) (t : Tree) : AV := .tup [.sl (bsl (t.putB s name)), .int .i64 (t.putE s name)]
theorem Tree.put5 {s : Sch} {name : Str} {t : Tree} (h : s.msgIx name < 0) : AV.tup [.sl [], .int .i64 5] = t.putR s name := by simp [Tree.putR, Tree.putB, Tree.putE, h, bsl]
theorem Tree.put1 {s : Sch} {name : Str} {t : Tree} (h : ¬ s.msgIx name < 0) (h1 : t.ok s name = false) : AV.tup [.sl [], .int .i64 1] = t.putR s name := by simp [Tree.putR, Tree.putB, Tree.putE, h, h1, bsl]
theorem Tree.put3 {s : Sch} {name : Str} {t : Tree} (h : ¬ s.msgIx name < 0) (h1 : t.ok s name = true) (h2 : 16 < t.deep) : AV.tup [.sl [], .int .i64 3] = t.putR s name := by simp [Tree.putR, Tree.putB, Tree.putE, h, h1, h2, bsl]
theorem Tree.put3' {s : Sch} {name : Str} {t : Tree} (h : ¬ s.msgIx name < 0) (h1 : t.ok s name = true) (h2 : ¬ 16 < t.deep) (h3 : 65536 < (t.enc s name).length) : AV.tup [.sl [], .int .i64 3] = t.putR s name := by simp [Tree.putR, Tree.putB, Tree.putE, h, h1, h2, h3, bsl]
theorem Tree.put0 {s : Sch} {name : Str} {t : Tree} (h : ¬ s.msgIx name < 0) (h1 : t.ok s name = true) (h2 : ¬ 16 < t.deep) (h3 : ¬ 65536 < (t.enc s name).length) : AV.tup [.sl (bsl (t.enc s name)), .int .i64 0] = t.putR s name := by simp [Tree.putR, Tree.putB, Tree.putE, h, h1, h2, h3, bsl]
theorem p_put (s : Sch) (hs : s.good) (name : Str) (t : Tree) (hb : t.fits) (hd : t.ok s name = true → t.deep ≤ 1000) (hlen : t.ok s name = true → (t.enc s name).length ≤ 1000000000) : Pure Tryz.prog 24 [s.av, .str name, .agg t.cells] (t.putR s name) := by
  have hsm := hs.m
  intro H; refine Run.of_triF Tryz.func24 rfl rfl (ltb rfl) (.tup _ (by simp; exact ⟨.sl _ (fun x hx => by simp [bsl] at hx; obtain ⟨c, _, rfl⟩ := hx; exact .int _ _), .int _ _⟩)) ?_
  refine Tri.seq ?_
  refine Tri.region ?_
  refine TriL.c2 rfl (op_box (ltb rfl) rfl rfl rfl) ?_
  refine TriL.c2 rfl (op_box (ltb rfl) rfl rfl rfl) ?_
  refine TriL.c1 rfl (op_as (ltb rfl) rfl) ?_
  refine TriL.c1 rfl (op_as (ltb rfl) rfl) ?_
  refine TriL.nil ?_
  refine Tri.seq ?_
  refine Tri.blk ?_
  refine Tri.seq ?_
  refine Tri.region ?_
  refine TriL.c1 rfl (op_ldl (ltb rfl) lk25_ME rfl rfl rfl) ?_
  refine TriL.c1 rfl (op_mv (ltb rfl) rfl) ?_
  refine TriL.c1 rfl (op_call (ltb rfl) fn45_ME rfl (p_msgIx _ _ (by omega))) ?_
  refine TriL.c1 rfl (op_bin (ltb rfl) rfl rfl rfl) ?_
  refine TriL.c1 rfl (op_as (ltb rfl) rfl) ?_
  refine TriL.nil ?_
  refine Tri.cond rfl (fun hc1 => ?_) (fun hc1 => ?_)
  · refine Tri.seq ?_
    refine Tri.region ?_
    refine TriL.c1 rfl (op_as (ltb rfl) rfl) ?_
    refine TriL.c1 rfl (op_as (ltb rfl) rfl) ?_
    refine TriL.nil ?_
    refine Tri.ret ?_
    exact ⟨.inr rfl, (ResOK.r2 rfl (.tmp rfl (.tmp rfl .nil))).cast (Tree.put5 (of_decide_eq_true hc1)), ⟨_, rfl, Nat.le_refl _, fun i hi => rfl⟩⟩
  · refine Tri.seq ?_
    refine Tri.region ?_
    refine TriL.c1 rfl (op_ldl (ltb rfl) lk25_ME rfl rfl rfl) ?_
    refine TriL.c1 rfl (op_mv (ltb rfl) rfl) ?_
    refine TriL.c1 rfl (op_ldl (ltb rfl) lk32_ME rfl rfl rfl) ?_
    refine TriL.c1 rfl (op_call (ltb rfl) fn46_ME rfl (p_tree s hs.tofine t hb.big _)) ?_
    refine TriL.c1 rfl (op_un (ltb rfl) rfl rfl) ?_
    refine TriL.c1 rfl (op_as (ltb rfl) rfl) ?_
    refine TriL.nil ?_
    refine Tri.cond rfl (fun hc2 => ?_) (fun hc2 => ?_)
    · refine Tri.seq ?_
      refine Tri.region ?_
      refine TriL.c1 rfl (op_as (ltb rfl) rfl) ?_
      refine TriL.c1 rfl (op_as (ltb rfl) rfl) ?_
      refine TriL.nil ?_
      refine Tri.ret ?_
      exact ⟨.inr rfl, (ResOK.r2 rfl (.tmp rfl (.tmp rfl .nil))).cast (Tree.put1 (of_decide_eq_false hc1) (ntr hc2)), ⟨_, rfl, Nat.le_refl _, fun i hi => rfl⟩⟩
    · refine Tri.seq ?_
      refine Tri.region ?_
      refine TriL.c1 rfl (op_ldl (ltb rfl) lk32_ME rfl rfl rfl) ?_
      refine TriL.c1 rfl (op_call (ltb rfl) fn47_ME rfl (p_deep t hb.big (by have := hd (nfl hc2); omega))) ?_
      refine TriL.c1 rfl (op_bin (ltb rfl) rfl rfl rfl) ?_
      refine TriL.c1 rfl (op_as (ltb rfl) rfl) ?_
      refine TriL.nil ?_
      refine Tri.cond rfl (fun hc3 => ?_) (fun hc3 => ?_)
      · refine Tri.seq ?_
        refine Tri.region ?_
        refine TriL.c1 rfl (op_as (ltb rfl) rfl) ?_
        refine TriL.c1 rfl (op_as (ltb rfl) rfl) ?_
        refine TriL.nil ?_
        refine Tri.ret ?_
        exact ⟨.inr rfl, (ResOK.r2 rfl (.tmp rfl (.tmp rfl .nil))).cast (Tree.put3 (of_decide_eq_false hc1) (nfl hc2) (by have := of_decide_eq_true hc3; omega)), ⟨_, rfl, Nat.le_refl _, fun i hi => rfl⟩⟩
      · refine Tri.skip ?_
        refine Tri.seq ?_
        refine Tri.drawn mixed rfl ?_
        refine TriD.c1 rfl (op_ldl (ltb rfl) lk25_ME rfl rfl rfl) ?_
        refine TriD.c2 rfl (op_callh (ltb rfl) fn48_ME rfl rfl (pen_new H)) ?_
        refine TriD.c1 rfl (op_bld (ltb rfl) spl105_ME zA105_ME rfl rfl) ?_
        refine TriD.c2 rfl (op_all (ltb rfl) zA105_ME rfl) ?_
        refine TriD.c1 rfl (op_stl lk105_ME rfl rfl rfl rfl rfl (leb rfl)) ?_
        refine TriD.nil (by kernel_rfl) (Kept.now ?_)
        refine Tri.seq ?_
        refine Tri.region ?_
        refine TriL.c1 rfl (op_ldl (ltb rfl) lk105_ME rfl rfl rfl) ?_
        refine TriL.c1 rfl (op_mv (ltb rfl) rfl) ?_
        refine TriL.c1 rfl (op_ldl (ltb rfl) lk32_ME rfl rfl rfl) ?_
        refine TriL.c2 rfl (op_callh (ltb rfl) fn49_ME rfl rfl (pen_tree hs H hb (nfl hc2) (hlen (nfl hc2)) (hd (nfl hc2)))) ?_
        refine TriL.nil ?_
        refine Tri.seq ?_
        refine Tri.seq ?_
        refine Tri.region ?_
        refine TriL.c1 rfl (op_fal (ltb rfl) fo105_1_ME rfl) ?_
        refine TriL.c1 rfl (op_ldl (ltb rfl) lk102_ME rfl rfl rfl) ?_
        refine TriL.c2 rfl (op_callh (ltb rfl) fn50_ME rfl rfl (len_run (H.pen (t.enc s name)) H.next _ [] (Hp.pen_obj _ _))) ?_
        refine TriL.c1 rfl (op_bin (ltb rfl) rfl rfl rfl) ?_
        refine TriL.nil ?_
        refine Tri.cond rfl (fun hc4 => ?_) (fun hc4 => ?_)
        · refine Tri.seq ?_
          refine Tri.region ?_
          refine TriL.c1 rfl (op_as (ltb rfl) rfl) ?_
          refine TriL.c1 rfl (op_as (ltb rfl) rfl) ?_
          refine TriL.nil ?_
          refine Tri.ret ?_
          exact ⟨.inr rfl, (ResOK.r2 rfl (.tmp rfl (.tmp rfl .nil))).cast (Tree.put3' (of_decide_eq_false hc1) (nfl hc2) (by have := of_decide_eq_false hc3; omega) (by have := of_decide_eq_true hc4; rw [bsl_len] at this; omega)), ⟨_, rfl, Hp.pen_low _ _⟩⟩
        · refine Tri.skip ?_
          refine Tri.seq ?_
          refine Tri.region ?_
          refine TriL.c1 rfl (op_fal (ltb rfl) fo105_1_ME rfl) ?_
          refine TriL.c1 rfl (op_ldl (ltb rfl) lk102_ME rfl rfl rfl) ?_
          refine TriL.c2 rfl (op_callh (ltb rfl) fn51_ME rfl rfl (bytes_run (H.pen (t.enc s name)) H.next _ (Hp.pen_obj _ _) (by have := hlen (nfl hc2); omega))) ?_
          refine TriL.c1 rfl (op_as (ltb rfl) rfl) ?_
          refine TriL.c1 rfl (op_as (ltb rfl) rfl) ?_
          refine TriL.nil ?_
          refine Tri.ret ?_
          exact ⟨.inr rfl, (ResOK.r2 rfl (.tmp rfl (.tmp rfl .nil))).cast (Tree.put0 (of_decide_eq_false hc1) (nfl hc2) (by have := of_decide_eq_false hc3; omega) (by have := of_decide_eq_false hc4; rw [bsl_len] at this; omega)), ⟨_, rfl, Hp.pen_low _ _⟩⟩
end Go.Proofs.YtnpgcmeclkncnaaGreatDoor.X
/- encode, in the document. -/
set_option linter.unusedVariables false
set_option linter.unusedSimpArgs false
set_option linter.unusedSectionVars false
set_option maxRecDepth 100000
namespace Go.Proofs.YtnpgcmeclkncnaaGreatDoor.X
open Go Go.RowKit Go.Proofs
end Go.Proofs.YtnpgcmeclkncnaaGreatDoor.X
/- Plain laws: what is small has few bytes, and is not deep; a schema that may be is good. No condition. -/
set_option linter.unusedVariables false
set_option linter.unusedSimpArgs false
namespace Go.Proofs.YtnpgcmeclkncnaaGreatDoor.X
open Go Go.RowKit Go.Proofs
/-- what is left of so much bounds a value's bytes, and its depth -/
def SmallT (s : Sch) (t : Tree) : Prop := ∀ (name : Str) (n d : Int), t.ok s name = true → -1 ≤ n → n ≤ 400 → d ≤ 40 → 0 ≤ t.left n d → 0 ≤ n ∧ t.left n d ≤ n ∧ ((t.enc s name).length : Int) ≤ 60 * (n - t.left n d) ∧ (t.deep : Int) ≤ d
theorem w64_eq {n : Int} (h0 : -9223372036854775808 ≤ n) (h : n < 9223372036854775808) : w64 n = n := wr64 h0 h
theorem tdiv20 (n : Nat) : ((n : Nat) : Int).tdiv 20 = ((n : Nat) : Int) / 20 := Int.tdiv_eq_ediv_of_nonneg (by omega)
theorem Val.small_len {s : Sch} {f : Fld} {v : Val} (hv : v.ok s f = true) (hf : fnum f.num = true) (hn : v.n < 18446744073709551616) (hs : v.s.length ≤ 140737488355328) (ih : ∀ u ∈ v.m, SmallT s u) {n d : Int} (h0 : 0 ≤ n) (h4 : n ≤ 400) (hd0 : 0 < d) (hd : d ≤ 40) (hl : 0 ≤ v.left n d) :
    v.left n d ≤ n ∧ ((v.enc s f).length : Int) ≤ 60 + 60 * (n - v.left n d) ∧ (v.deep : Int) ≤ d - 1 := by
  have hfl := fnum_le hf
  rw [Val.left_eq, tdiv20, w64_eq (n := (v.s.length : Int) / 20) (by omega) (by omega), w64_eq (n := n - (v.s.length : Int) / 20) (by omega) (by omega)] at hl ⊢
  rw [Val.deep_eq]
  by_cases h1 : numT f.ty = true
  · rw [Val.ok_eq, if_pos h1] at hv
    simp only [Bool.and_eq_true, decide_eq_true_eq] at hv
    have hm : v.m = [] := List.length_eq_zero_iff.1 hv.2
    rw [hm] at hl ⊢
    simp only [leftT, deepT] at hl ⊢
    have h2 := pay_len (w := wireT f.ty) (toT_lt (t := f.ty) hn)
    have h3 := tag_len (n := f.num) (w := wireT f.ty) hfl.2 (wireT_le _).2
    rw [Val.enc_eq, if_pos h1, List.length_append]
    omega
  · by_cases h2 : f.ty = 15
    · obtain ⟨u, hu, hk⟩ := Val.ok_msg hv h1 h2
      rw [Val.enc_eq, if_neg h1, if_pos h2]
      rw [hu] at hl ⊢
      simp only [leftT, deepT, encM] at hl ⊢
      split at hl
      · rename_i hp
        rw [if_pos hp]
        rw [w64_eq (n := n - (v.s.length : Int) / 20 - 1) (by omega) (by omega), w64_eq (n := d - 1) (by omega) (by omega)] at hl ⊢
        obtain ⟨a1, a2, a3, a4⟩ := ih u (by rw [hu]; simp) f.ref _ _ hk (by omega) (by omega) (by omega) hl
        have h3 := txt_len (n := f.num) (s := u.enc s f.ref) hfl.2 (by omega)
        omega
      · omega
    · rw [Val.enc_eq, if_neg h1, if_neg h2]
      have hm : v.m = [] := by
        rw [Val.ok_eq, if_neg h1] at hv
        split at hv
        · simp only [Bool.and_eq_true, decide_eq_true_eq] at hv; exact List.length_eq_zero_iff.1 hv.1.2
        · split at hv
          · simp only [Bool.and_eq_true, decide_eq_true_eq] at hv; exact List.length_eq_zero_iff.1 hv.2
          · first | (rw [if_neg h2] at hv; cases hv) | cases hv
      rw [hm] at hl ⊢
      simp only [leftT, deepT] at hl ⊢
      have h3 := txt_len (n := f.num) (s := v.s) hfl.2 (by omega)
      omega
theorem leftV_len {s : Sch} {f : Fld} (hf : fnum f.num = true) {d : Int} (hd0 : 0 < d) (hd : d ≤ 40) : ∀ (l : List Val) (n : Int), (∀ v ∈ l, v.ok s f = true ∧ v.n < 18446744073709551616 ∧ v.s.length ≤ 140737488355328 ∧ ∀ u ∈ v.m, SmallT s u) → n ≤ 400 → 0 ≤ leftV l n d →
    0 ≤ n ∧ leftV l n d ≤ n ∧ ((encV s f l).length : Int) ≤ 60 * l.length + 60 * (n - leftV l n d) ∧ (deepV l : Int) ≤ d - 1
  | [], n, _, _, h => by simp [leftV, encV, deepV] at *; omega
  | v :: l, n, hv, h4, h => by
    simp only [leftV] at h ⊢
    split at h
    · rename_i h0
      rw [if_pos h0]
      have h5 : v.left n d ≤ 400 ∧ 0 ≤ v.left n d := by
        by_cases hp : 0 ≤ v.left n d
        · obtain ⟨a, b, c, e⟩ := hv v (by simp)
          have := Val.small_len a hf b c e h0 h4 hd0 hd hp
          omega
        · rw [leftV_neg hp] at h; omega
      obtain ⟨a, b, c, e⟩ := hv v (by simp)
      have h6 := Val.small_len a hf b c e h0 h4 hd0 hd h5.2
      have ih := leftV_len hf hd0 hd l _ (fun q hq => hv q (by simp [hq])) h5.1 h
      simp only [encV, deepV, List.length_append, List.length_cons]
      omega
    · omega
theorem Slot.small_len {s : Sch} {m : Msg} {x : Slot} (hx : x.ok s m = true) (hf : ∀ f ∈ m.fields, fnum f.num = true) (hl0 : x.vals.length ≤ 140737488355328) (hv : ∀ v ∈ x.vals, v.n < 18446744073709551616 ∧ v.s.length ≤ 140737488355328 ∧ ∀ u ∈ v.m, SmallT s u) {n d : Int} (h0 : 0 ≤ n) (h4 : n ≤ 400) (hd0 : 0 < d) (hd : d ≤ 40) (hl : 0 ≤ x.left n d) :
    x.left n d ≤ n ∧ ((x.enc s m).length : Int) ≤ 60 + 60 * (n - x.left n d) ∧ (x.deep : Int) ≤ d - 1 := by
  obtain ⟨ha, hvs⟩ := Slot.ok_ix hx
  have hfn := hf _ (List.getElem_mem (Msg.at_lt ha))
  have hfl := fnum_le hfn
  rw [Slot.enc_at ha, Slot.deep_eq]
  rw [Slot.left_eq, w64_eq (by omega) (by omega)] at hl ⊢
  obtain ⟨h1, h2, h3, h5⟩ := leftV_len hfn hd0 hd x.vals _ (fun v hm => ⟨hvs v hm, (hv v hm).1, (hv v hm).2.1, (hv v hm).2.2⟩) (by omega) hl
  refine ⟨by omega, ?_, h5⟩
  by_cases hp : (m.fields[m.ixN x.num]'(Msg.at_lt ha)).packed = true
  · rw [encX_yes hp]
    have h6 := packB_len (m.fields[m.ixN x.num]'(Msg.at_lt ha)).ty (x.vals.map Val.n) (fun k hk => by obtain ⟨v, hm, rfl⟩ := List.mem_map.1 hk; exact (hv v hm).1)
    rw [List.length_map] at h6
    have h7 := txt_len (n := (m.fields[m.ixN x.num]'(Msg.at_lt ha)).num) (s := packB (m.fields[m.ixN x.num]'(Msg.at_lt ha)).ty (x.vals.map Val.n)) hfl.2 (by omega)
    omega
  · rw [encX_no (by simpa using hp)]
    omega
theorem leftS_len {s : Sch} {m : Msg} (hf : ∀ f ∈ m.fields, fnum f.num = true) {d : Int} (hd0 : 0 < d) (hd : d ≤ 40) : ∀ (l : List Slot) (n : Int), (∀ x ∈ l, x.ok s m = true ∧ x.vals.length ≤ 140737488355328 ∧ ∀ v ∈ x.vals, v.n < 18446744073709551616 ∧ v.s.length ≤ 140737488355328 ∧ ∀ u ∈ v.m, SmallT s u) → n ≤ 400 → 0 ≤ leftS l n d →
    0 ≤ n ∧ leftS l n d ≤ n ∧ ((encS s m l).length : Int) ≤ 60 * l.length + 60 * (n - leftS l n d) ∧ (deepS l : Int) ≤ d - 1
  | [], n, _, _, h => by simp [leftS, encS, deepS] at *; omega
  | v :: l, n, hv, h4, h => by
    simp only [leftS] at h ⊢
    split at h
    · rename_i h0
      rw [if_pos h0]
      obtain ⟨a, b, c⟩ := hv v (by simp)
      have h5 : 0 ≤ v.left n d := by
        by_cases hp : 0 ≤ v.left n d
        · exact hp
        · rw [leftS_neg hp] at h; omega
      have h6 := Slot.small_len a hf b c h0 h4 hd0 hd h5
      have ih := leftS_len hf hd0 hd l _ (fun q hq => hv q (by simp [hq])) (by omega) h
      simp only [encS, deepS, List.length_append, List.length_cons]
      omega
    · omega
theorem Tree.small_len1 {s : Sch} (hs : s.good) (t : Tree) (hb : t.fits) (ih : ∀ x ∈ t.slots, ∀ v ∈ x.vals, ∀ u ∈ v.m, SmallT s u) : SmallT s t := by
  intro name n d hok h1 h4 hd hl
  obtain ⟨hix, hxs, hrs, hE⟩ := Tree.ok_ix hok
  have hb1 := hb.here
  have hsl := hb1.s
  have hrl := hb1.r
  rw [Tree.left_eq] at hl ⊢
  split at hl
  · omega
  · rename_i hd0
    rw [if_neg hd0]
    rw [w64_eq (n := n - (t.rest.length : Int)) (by omega) (by omega), w64_eq (n := n - (t.rest.length : Int) - (t.slots.length : Int)) (by omega) (by omega)] at hl ⊢
    have h5 : leftR t.rest (n - (t.rest.length : Int) - (t.slots.length : Int)) ≥ 0 := by
      by_cases hp : 0 ≤ leftR t.rest (n - (t.rest.length : Int) - (t.slots.length : Int))
      · exact hp
      · rw [leftS_neg hp] at hl; omega
    obtain ⟨a1, a2, a3⟩ := leftR_len t.rest _ (fun r hr => ⟨hrs r hr, hb1.rn r hr, hb1.rs r hr⟩) (by omega) h5
    obtain ⟨b1, b2, b3, b4⟩ := leftS_len (s := s) (m := s.msgs[s.ixN name]'(Sch.ix_lt hix)) (hs.n _ (List.getElem_mem _)) (d := d) (by omega) hd t.slots _ (fun x hx => ⟨hxs x hx, hb1.v x hx, fun v hv => ⟨hb1.vn x hx v hv, hb1.vs x hx v hv, ih x hx v hv⟩⟩) (by omega) hl
    rw [hE, t.deep_eq, List.length_append]
    omega
theorem Tree.small_len {s : Sch} (hs : s.good) (t : Tree) (hb : t.fits) : SmallT s t :=
  Tree.ind (Q := fun t => t.fits → SmallT s t) (fun t ih hb => Tree.small_len1 hs t hb (fun x hx v hv u hu => ih x hx v hv u hu (hb.sub hu hv hx))) t hb
theorem Tree.small_enc {s : Sch} (hs : s.good) {t : Tree} (hb : t.fits) (h : t.small = true) {name : Str} (hok : t.ok s name = true) : (t.enc s name).length ≤ 24000 ∧ t.deep ≤ 40 := by
  have hl := of_decide_eq_true (show decide (0 ≤ t.left 400 40) = true from h)
  have := Tree.small_len hs t hb name 400 40 hok (by omega) (by omega) (by omega) hl
  omega
/-! ### a schema that may be -/
theorem chkFields_zero : ∀ {l : List Fld}, chkFields l = 0 → ∀ f ∈ l, f.chk = 0
  | g :: l, h, f, hf => by
    simp only [chkFields] at h
    split at h
    · rename_i h0
      rcases List.mem_cons.1 hf with rfl | hf
      · exact h0
      · exact chkFields_zero h f hf
    · rename_i h0; exact absurd h h0
theorem chkMsgs_zero : ∀ {l : List Msg}, chkMsgs l = 0 → ∀ m ∈ l, chkFields m.fields = 0
  | g :: l, h, m, hm => by
    simp only [chkMsgs] at h
    split at h
    · rename_i h0
      rcases List.mem_cons.1 hm with rfl | hm
      · exact h0
      · exact chkMsgs_zero h m hm
    · rename_i h0; exact absurd h h0
theorem nameOK_len {s : Str} (h : nameOK s = true) : s.length ≤ 12 := by simp [nameOK] at h; omega
theorem Fld.chk_zero {f : Fld} (h : f.chk = 0) : fnum f.num = true ∧ f.one.length ≤ 1000 := by
  unfold Fld.chk at h
  split at h
  · cases h
  · rename_i h1
    split at h
    · cases h
    · split at h
      · cases h
      · split at h
        · cases h
        · rename_i h2
          refine ⟨by simp at h2; simpa using h2.1.1.1, ?_⟩
          by_cases hq : f.one = []
          · rw [hq]; simp
          · have : nameOK f.one = true := by simp at h1; exact h1.2 hq
            have := nameOK_len this; omega
theorem Sch.chk_good {s : Sch} (h : s.chk = 0) : s.good := by
  unfold Sch.chk at h
  split at h
  · cases h
  · rename_i h1
    have hsm := Sch.sm_of (by simpa using h1)
    split at h
    · cases h
    · split at h
      · cases h
      · split at h
        · rename_i h2; exact absurd h h2
        · rename_i h2
          have hz : chkMsgs s.msgs = 0 := by simpa using h2
          have hf : ∀ m ∈ s.msgs, ∀ f ∈ m.fields, f.chk = 0 := fun m hm => chkFields_zero (chkMsgs_zero hz m hm)
          exact { m := by have := hsm.m; omega, f := fun m hm => by have := hsm.f m hm; omega, o := fun m hm f hx => (Fld.chk_zero (hf m hm f hx)).2, n := fun m hm f hx => (Fld.chk_zero (hf m hm f hx)).1 }
end Go.Proofs.YtnpgcmeclkncnaaGreatDoor.X
/- Small of schemas; the page's example. -/
set_option linter.unusedVariables false
set_option linter.unusedSimpArgs false
set_option linter.unusedSectionVars false
set_option maxRecDepth 100000
namespace Go.Proofs.YtnpgcmeclkncnaaGreatDoor.X
open Go Go.RowKit Go.Proofs
theorem fo25_0_MG : fo Tryz.prog 25 0 = some 0 := by kernel_rfl
theorem fo25_1_MG : fo Tryz.prog 25 1 = some 1 := by kernel_rfl
theorem fo78_0_MG : fo Tryz.prog 78 0 = some 0 := by kernel_rfl
theorem fo78_1_MG : fo Tryz.prog 78 1 = some 1 := by kernel_rfl
theorem fo78_2_MG : fo Tryz.prog 78 2 = some 2 := by kernel_rfl
theorem fo94_0_MG : fo Tryz.prog 94 0 = some 0 := by kernel_rfl
theorem fo94_1_MG : fo Tryz.prog 94 1 = some 1 := by kernel_rfl
theorem fo96_0_MG : fo Tryz.prog 96 0 = some 0 := by kernel_rfl
theorem fo98_0_MG : fo Tryz.prog 98 0 = some 0 := by kernel_rfl
theorem fo98_3_MG : fo Tryz.prog 98 3 = some 3 := by kernel_rfl
theorem fo98_6_MG : fo Tryz.prog 98 6 = some 6 := by kernel_rfl
theorem ie22_MG : ie Tryz.prog 22 = some 2 := by kernel_rfl
theorem ie23_MG : ie Tryz.prog 23 = some 3 := by kernel_rfl
theorem ie76_MG : ie Tryz.prog 76 = some 7 := by kernel_rfl
theorem ie92_MG : ie Tryz.prog 92 = some 2 := by kernel_rfl
theorem lk22_MG : lk Tryz.prog 22 = some (false, 1) := by kernel_rfl
theorem lk23_MG : lk Tryz.prog 23 = some (false, 1) := by kernel_rfl
theorem lk67_MG : lk Tryz.prog 67 = some (false, 1) := by kernel_rfl
theorem lk76_MG : lk Tryz.prog 76 = some (false, 1) := by kernel_rfl
theorem lk9_MG : lk Tryz.prog 9 = some (false, 1) := by kernel_rfl
theorem lk92_MG : lk Tryz.prog 92 = some (false, 1) := by kernel_rfl
theorem lk98_MG : lk Tryz.prog 98 = some (true, 7) := by kernel_rfl
theorem un22_MG : Tryz.prog.underlying 22 = some (TypeDesc.slice 94) := Tryz.underlying22
theorem un23_MG : Tryz.prog.underlying 23 = some (TypeDesc.slice 78) := Tryz.underlying23
theorem un67_MG : Tryz.prog.underlying 67 = some (TypeDesc.slice 3) := Tryz.underlying67
theorem un76_MG : Tryz.prog.underlying 76 = some (TypeDesc.slice 98) := Tryz.underlying76
theorem un9_MG : Tryz.prog.underlying 9 = some TypeDesc.string := Tryz.underlying9
theorem un92_MG : Tryz.prog.underlying 92 = some (TypeDesc.slice 96) := Tryz.underlying92
theorem zA98_MG : zeroA Tryz.prog 98 = some [AV.str [], AV.int IntKind.i64 (0), AV.int IntKind.i64 (0), AV.str [], AV.bool false, AV.bool false, AV.str []] := by kernel_rfl
/-- what a schema's lists are at most -/
structure Sch.lens (s : Sch) : Prop where
  e : s.enums.length ≤ 140737488355328
  m : s.msgs.length ≤ 140737488355328
  v : ∀ x ∈ s.enums, x.values.length ≤ 140737488355328
  f : ∀ x ∈ s.msgs, x.fields.length ≤ 140737488355328
theorem Sch.lens.big {s : Sch} (h : s.lens) : s.big := ⟨Nat.le_trans h.e (by omega), Nat.le_trans h.m (by omega)⟩
theorem Sch.lens.vi {s : Sch} (h : s.lens) {i : Nat} (hi : i < s.enums.length) : s.enums[i].values.length ≤ 140737488355328 := h.v _ (List.getElem_mem hi)
theorem Sch.lens.fi {s : Sch} (h : s.lens) {i : Nat} (hi : i < s.msgs.length) : s.msgs[i].fields.length ≤ 140737488355328 := h.f _ (List.getElem_mem hi)
def sumE : List Enm → Int → Int
  | [], n => n
  | e :: l, n => if n < 200 then sumE l (w64 (w64 (n + (e.values.length : Int)) + w64 ((e.name.length : Int).tdiv 10))) else n
def sumM : List Msg → Int → Int
  | [], n => n
  | e :: l, n => if n < 200 then sumM l (w64 (w64 (w64 (n + (e.fields.length : Int)) + (e.barred.length : Int)) + w64 ((e.name.length : Int).tdiv 10))) else n
theorem sumE_step {l : List Enm} {i : Nat} {n : Int} (h : i < l.length) : sumE (l.drop i) n = if n < 200 then sumE (l.drop (i + 1)) (w64 (w64 (n + (l[i].values.length : Int)) + w64 ((l[i].name.length : Int).tdiv 10))) else n := by rw [List.drop_eq_getElem_cons h]; rfl
theorem sumM_step {l : List Msg} {i : Nat} {n : Int} (h : i < l.length) : sumM (l.drop i) n = if n < 200 then sumM (l.drop (i + 1)) (w64 (w64 (w64 (n + (l[i].fields.length : Int)) + (l[i].barred.length : Int)) + w64 ((l[i].name.length : Int).tdiv 10))) else n := by rw [List.drop_eq_getElem_cons h]; rfl
theorem sumE_end {l : List Enm} {i : Nat} {n : Int} (h : l.length ≤ i) : sumE (l.drop i) n = n := by rw [List.drop_of_length_le h]; rfl
theorem sumM_end {l : List Msg} {i : Nat} {n : Int} (h : l.length ≤ i) : sumM (l.drop i) n = n := by rw [List.drop_of_length_le h]; rfl
def Sch.sum1 (s : Sch) : Int := sumE s.enums (w64 ((s.enums.length : Int) + (s.msgs.length : Int)))
def Sch.sum2 (s : Sch) : Int := sumM s.msgs s.sum1
def longE (e : Enm) : Bool := e.values.any fun v => decide (1000 < v.name.length)
def longM (m : Msg) : Bool := m.fields.any fun f => decide (1000 < f.name.length) || decide (1000 < f.ref.length) || decide (1000 < f.one.length)
def Sch.small (s : Sch) : Bool := !decide (200 ≤ s.sum2) && !s.enums.any longE && !s.msgs.any longM
theorem r_small (s : Sch) (hs : s.lens) : Pure Tryz.prog 20 [s.av] (.bool s.small) := by
  have he := hs.e
  have hm := hs.m
  refine Pure.of_tri Tryz.func20 rfl rfl (ltb rfl) fun H => ?_
  refine Tri.seq ?_
  refine Tri.region ?_
  refine TriL.c2 rfl (op_box (ltb rfl) rfl rfl rfl) ?_
  refine TriL.c1 rfl (op_as (ltb rfl) rfl) ?_
  refine TriL.nil ?_
  refine Tri.seq ?_
  refine Tri.region ?_
  refine TriL.c1 rfl (op_fal (ltb rfl) fo25_0_MG rfl) ?_
  refine TriL.c1 rfl (op_ldl (ltb rfl) lk22_MG rfl rfl rfl) ?_
  refine TriL.c1 rfl (op_lenl (ltb rfl) un22_MG rfl) ?_
  refine TriL.c1 rfl (op_fal (ltb rfl) fo25_1_MG rfl) ?_
  refine TriL.c1 rfl (op_ldl (ltb rfl) lk23_MG rfl rfl rfl) ?_
  refine TriL.c1 rfl (op_lenl (ltb rfl) un23_MG rfl) ?_
  refine TriL.c1 rfl (op_bin (ltb rfl) rfl rfl rfl) ?_
  refine TriL.c1 rfl (op_as (ltb rfl) rfl) ?_
  refine TriL.nil ?_
  refine Tri.joinu [.h, .s 1, .b 1] (fun (n : Int) => [(.s 3, .sv (.v (.int .i64 n)))]) (fun (n : Int) => n = s.sum1) rfl ?_ ?_
  · refine Tri.seq ?_
    refine Tri.region ?_
    refine TriL.c1 rfl (op_as (ltb rfl) rfl) ?_
    refine TriL.nil ?_
    refine Tri.blk ?_
    refine Tri.ofKept (Kept.keep [.s 4, .s 3, .h, .s 1, .b 1] rfl (by decide) (Kept.now ?_))
    -- LOOP 1
    refine Tri.loopk (fun ((i, n) : Nat × Int) => [(.s 4, .sv (.v (.int .i64 (i : Int)))), (.s 3, .sv (.v (.int .i64 n)))]) _ (fun ((i, n) : Nat × Int) => sumE (s.enums.drop i) n = s.sum1) (fun ((i, n) : Nat × Int) => s.enums.length - i) (0, _) rfl (by simp [Sch.sum1]) ?_
    rintro ⟨i, n⟩ hI
    refine Tri.seq ?_
    refine Tri.seq ?_
    refine Tri.region ?_
    refine TriL.c1 rfl (op_mv (ltb rfl) rfl) ?_
    refine TriL.c1 rfl (op_fal (ltb rfl) fo25_0_MG rfl) ?_
    refine TriL.c1 rfl (op_ldl (ltb rfl) lk22_MG rfl rfl rfl) ?_
    refine TriL.c1 rfl (op_lenl (ltb rfl) un22_MG rfl) ?_
    refine TriL.c1 rfl (op_bin (ltb rfl) rfl rfl rfl) ?_
    refine TriL.c1 rfl (op_mv (ltb rfl) rfl) ?_
    refine TriL.split (d := 23) rfl (fun hg1 => ?_) (fun hg1 => ?_)
    · have hi := ltm hg1
      have hS := @sumE_step s.enums i n hi
      refine TriL.g1 rfl (ltb rfl) rfl hg1 (op_mv (ltb rfl) rfl) ?_
      refine TriL.g1 rfl (ltb rfl) rfl hg1 (op_bin (ltb rfl) rfl rfl rfl) ?_
      refine TriL.c1 rfl (op_pickt (ltb rfl) rfl hg1 rfl) ?_
      refine TriL.nil ?_
      refine Tri.cond rfl (fun hc2 => ?_) (fun hc2 => ?_)
      · refine Tri.skip ?_
        refine Tri.seq ?_
        refine Tri.blk ?_
        refine Tri.drawn mixed rfl ?_
        refine TriD.c1 rfl (op_mv (ltb rfl) rfl) ?_
        refine TriD.c1 rfl (op_fal (ltb rfl) fo25_0_MG rfl) ?_
        refine TriD.c1 rfl (op_ldl (ltb rfl) lk22_MG rfl rfl rfl) ?_
        refine TriD.c1 rfl (op_mv (ltb rfl) rfl) ?_
        refine TriD.c1 rfl (op_iak (ltb rfl) ie22_MG rfl rfl (Int.natCast_nonneg _) (ixm hi) rfl) ?_
        refine TriD.c1 rfl (op_fak (ltb rfl) fo94_1_MG rfl) ?_
        refine TriD.c1 rfl (op_ldk (ltb rfl) lk92_MG rfl rfl) ?_
        refine TriD.c1 rfl (op_lenl (ltb rfl) un92_MG rfl) ?_
        refine TriD.c1 rfl (op_bin (ltb rfl) rfl rfl rfl) ?_
        refine TriD.c1 rfl (op_fal (ltb rfl) fo25_0_MG rfl) ?_
        refine TriD.c1 rfl (op_ldl (ltb rfl) lk22_MG rfl rfl rfl) ?_
        refine TriD.c1 rfl (op_mv (ltb rfl) rfl) ?_
        refine TriD.c1 rfl (op_iak (ltb rfl) ie22_MG rfl rfl (Int.natCast_nonneg _) (ixm hi) rfl) ?_
        refine TriD.c1 rfl (op_fak (ltb rfl) fo94_0_MG rfl) ?_
        refine TriD.c1 rfl (op_ldk (ltb rfl) lk9_MG rfl rfl) ?_
        refine TriD.c1 rfl (op_lens (ltb rfl) un9_MG rfl) ?_
        refine TriD.c1 rfl (op_bin (ltb rfl) rfl rfl rfl) ?_
        refine TriD.c1 rfl (op_bin (ltb rfl) rfl rfl rfl) ?_
        refine TriD.c1 rfl (op_as (ltb rfl) rfl) ?_
        refine TriD.nil (by kernel_rfl) (Kept.now ?_)
        refine Tri.region ?_
        refine TriL.c1 rfl (op_mv (ltb rfl) rfl) ?_
        refine TriL.c1 rfl (op_bin (ltb rfl) rfl rfl rfl) ?_
        refine TriL.c1 rfl (op_as (ltb rfl) rfl) ?_
        refine TriL.kept (Kept.seti 4 rfl (inc (by omega)) (Kept.keep [.s 4, .s 3, .h, .s 1, .b 1] rfl (by decide) (Kept.now ?_)))
        exact ⟨(i + 1, _), (by dsimp only; omega), by simp only [List.length_map] at *; grind, rfl⟩
      · refine Tri.ofKept (Kept.keep [.s 3, .h, .s 1, .b 1] rfl (by decide) (Kept.now ?_))
        refine Tri.exit ?_
        exact ⟨_, by grind, rfl⟩
    · have hi := gem hg1
      have hS := @sumE_end s.enums i n hi
      refine TriL.skipu rfl rfl (ltb rfl) (ltb rfl) rfl hg1 ?_
      refine TriL.skipu rfl rfl (ltb rfl) (ltb rfl) rfl hg1 ?_
      refine TriL.c1 rfl (op_pickf (ltb rfl) rfl hg1 rfl) ?_
      refine TriL.nil ?_
      refine Tri.condF rfl rfl ?_
      refine Tri.ofKept (Kept.keep [.s 3, .h, .s 1, .b 1] rfl (by decide) (Kept.now ?_))
      refine Tri.exit ?_
      exact ⟨_, by grind, rfl⟩
  · rintro n hF6
    refine Tri.joinu [.h, .s 1, .b 1] (fun (n : Int) => [(.s 3, .sv (.v (.int .i64 n)))]) (fun (n : Int) => n = s.sum2) rfl ?_ ?_
    · refine Tri.seq ?_
      refine Tri.region ?_
      refine TriL.c1 rfl (op_as (ltb rfl) rfl) ?_
      refine TriL.nil ?_
      refine Tri.blk ?_
      refine Tri.ofKept (Kept.keep [.s 5, .s 3, .h, .s 1, .b 1] rfl (by decide) (Kept.now ?_))
      -- LOOP 2
      refine Tri.loopk (fun ((i, n) : Nat × Int) => [(.s 5, .sv (.v (.int .i64 (i : Int)))), (.s 3, .sv (.v (.int .i64 n)))]) _ (fun ((i, n) : Nat × Int) => sumM (s.msgs.drop i) n = s.sum2) (fun ((i, n) : Nat × Int) => s.msgs.length - i) (0, _) rfl (by subst hF6; rfl) ?_
      rintro ⟨i, n⟩ hI
      refine Tri.seq ?_
      refine Tri.seq ?_
      refine Tri.region ?_
      refine TriL.c1 rfl (op_mv (ltb rfl) rfl) ?_
      refine TriL.c1 rfl (op_fal (ltb rfl) fo25_1_MG rfl) ?_
      refine TriL.c1 rfl (op_ldl (ltb rfl) lk23_MG rfl rfl rfl) ?_
      refine TriL.c1 rfl (op_lenl (ltb rfl) un23_MG rfl) ?_
      refine TriL.c1 rfl (op_bin (ltb rfl) rfl rfl rfl) ?_
      refine TriL.c1 rfl (op_mv (ltb rfl) rfl) ?_
      refine TriL.split (d := 52) rfl (fun hg3 => ?_) (fun hg3 => ?_)
      · have hi := ltm hg3
        have hS := @sumM_step s.msgs i n hi
        refine TriL.g1 rfl (ltb rfl) rfl hg3 (op_mv (ltb rfl) rfl) ?_
        refine TriL.g1 rfl (ltb rfl) rfl hg3 (op_bin (ltb rfl) rfl rfl rfl) ?_
        refine TriL.c1 rfl (op_pickt (ltb rfl) rfl hg3 rfl) ?_
        refine TriL.nil ?_
        refine Tri.cond rfl (fun hc4 => ?_) (fun hc4 => ?_)
        · refine Tri.skip ?_
          refine Tri.seq ?_
          refine Tri.blk ?_
          refine Tri.drawn mixed rfl ?_
          refine TriD.c1 rfl (op_mv (ltb rfl) rfl) ?_
          refine TriD.c1 rfl (op_fal (ltb rfl) fo25_1_MG rfl) ?_
          refine TriD.c1 rfl (op_ldl (ltb rfl) lk23_MG rfl rfl rfl) ?_
          refine TriD.c1 rfl (op_mv (ltb rfl) rfl) ?_
          refine TriD.c1 rfl (op_iak (ltb rfl) ie23_MG rfl rfl (Int.natCast_nonneg _) (ixm hi) rfl) ?_
          refine TriD.c1 rfl (op_fak (ltb rfl) fo78_1_MG rfl) ?_
          refine TriD.c1 rfl (op_ldk (ltb rfl) lk76_MG rfl rfl) ?_
          refine TriD.c1 rfl (op_lenl (ltb rfl) un76_MG rfl) ?_
          refine TriD.c1 rfl (op_bin (ltb rfl) rfl rfl rfl) ?_
          refine TriD.c1 rfl (op_fal (ltb rfl) fo25_1_MG rfl) ?_
          refine TriD.c1 rfl (op_ldl (ltb rfl) lk23_MG rfl rfl rfl) ?_
          refine TriD.c1 rfl (op_mv (ltb rfl) rfl) ?_
          refine TriD.c1 rfl (op_iak (ltb rfl) ie23_MG rfl rfl (Int.natCast_nonneg _) (ixm hi) rfl) ?_
          refine TriD.c1 rfl (op_fak (ltb rfl) fo78_2_MG rfl) ?_
          refine TriD.c1 rfl (op_ldk (ltb rfl) lk67_MG rfl rfl) ?_
          refine TriD.c1 rfl (op_lenl (ltb rfl) un67_MG rfl) ?_
          refine TriD.c1 rfl (op_bin (ltb rfl) rfl rfl rfl) ?_
          refine TriD.c1 rfl (op_fal (ltb rfl) fo25_1_MG rfl) ?_
          refine TriD.c1 rfl (op_ldl (ltb rfl) lk23_MG rfl rfl rfl) ?_
          refine TriD.c1 rfl (op_mv (ltb rfl) rfl) ?_
          refine TriD.c1 rfl (op_iak (ltb rfl) ie23_MG rfl rfl (Int.natCast_nonneg _) (ixm hi) rfl) ?_
          refine TriD.c1 rfl (op_fak (ltb rfl) fo78_0_MG rfl) ?_
          refine TriD.c1 rfl (op_ldk (ltb rfl) lk9_MG rfl rfl) ?_
          refine TriD.c1 rfl (op_lens (ltb rfl) un9_MG rfl) ?_
          refine TriD.c1 rfl (op_bin (ltb rfl) rfl rfl rfl) ?_
          refine TriD.c1 rfl (op_bin (ltb rfl) rfl rfl rfl) ?_
          refine TriD.c1 rfl (op_as (ltb rfl) rfl) ?_
          refine TriD.nil (by kernel_rfl) (Kept.now ?_)
          refine Tri.region ?_
          refine TriL.c1 rfl (op_mv (ltb rfl) rfl) ?_
          refine TriL.c1 rfl (op_bin (ltb rfl) rfl rfl rfl) ?_
          refine TriL.c1 rfl (op_as (ltb rfl) rfl) ?_
          refine TriL.kept (Kept.seti 5 rfl (inc (by omega)) (Kept.keep [.s 5, .s 3, .h, .s 1, .b 1] rfl (by decide) (Kept.now ?_)))
          exact ⟨(i + 1, _), (by dsimp only; omega), by simp only [List.length_map] at *; grind, rfl⟩
        · refine Tri.ofKept (Kept.keep [.s 3, .h, .s 1, .b 1] rfl (by decide) (Kept.now ?_))
          refine Tri.exit ?_
          exact ⟨_, by grind, rfl⟩
      · have hi := gem hg3
        have hS := @sumM_end s.msgs i n hi
        refine TriL.skipu rfl rfl (ltb rfl) (ltb rfl) rfl hg3 ?_
        refine TriL.skipu rfl rfl (ltb rfl) (ltb rfl) rfl hg3 ?_
        refine TriL.c1 rfl (op_pickf (ltb rfl) rfl hg3 rfl) ?_
        refine TriL.nil ?_
        refine Tri.condF rfl rfl ?_
        refine Tri.ofKept (Kept.keep [.s 3, .h, .s 1, .b 1] rfl (by decide) (Kept.now ?_))
        refine Tri.exit ?_
        exact ⟨_, by grind, rfl⟩
    · rintro n hF10
      refine Tri.seq ?_
      refine Tri.seq ?_
      refine Tri.region ?_
      refine TriL.c1 rfl (op_mv (ltb rfl) rfl) ?_
      refine TriL.c1 rfl (op_bin (ltb rfl) rfl rfl rfl) ?_
      refine TriL.nil ?_
      refine Tri.cond rfl (fun hc5 => ?_) (fun hc5 => ?_)
      · refine Tri.seq ?_
        refine Tri.region ?_
        refine TriL.c1 rfl (op_as (ltb rfl) rfl) ?_
        refine TriL.nil ?_
        refine Tri.ret ?_
        exact ⟨.inr rfl, (ResOK.r1 rfl (.tmp rfl .nil)).cast (congrArg AV.bool (by grind [Sch.small, longE, longM])), rfl⟩
      · refine Tri.skip ?_
        refine Tri.seq ?_
        refine Tri.seq ?_
        refine Tri.region ?_
        refine TriL.c1 rfl (op_as (ltb rfl) rfl) ?_
        refine TriL.nil ?_
        refine Tri.blk ?_
        refine Tri.ofKept (Kept.keep [.s 6, .h, .s 1, .b 1] rfl (by decide) (Kept.now ?_))
        -- LOOP 3
        refine Tri.loopk (fun (i : Nat) => [(.s 6, .sv (.v (.int .i64 (i : Int))))]) _ (fun (i : Nat) => s.enums.any longE = (s.enums.drop i).any longE) (fun (i : Nat) => s.enums.length - i) 0 rfl (by simp) ?_
        rintro i hI
        refine Tri.seq ?_
        refine Tri.seq ?_
        refine Tri.region ?_
        refine TriL.c1 rfl (op_mv (ltb rfl) rfl) ?_
        refine TriL.c1 rfl (op_fal (ltb rfl) fo25_0_MG rfl) ?_
        refine TriL.c1 rfl (op_ldl (ltb rfl) lk22_MG rfl rfl rfl) ?_
        refine TriL.c1 rfl (op_lenl (ltb rfl) un22_MG rfl) ?_
        refine TriL.c1 rfl (op_bin (ltb rfl) rfl rfl rfl) ?_
        refine TriL.nil ?_
        refine Tri.cond rfl (fun hc6 => ?_) (fun hc6 => ?_)
        · have hi := ltm hc6
          have hS := any_step (p := longE) hi
          have hv := hs.vi hi
          refine Tri.skip ?_
          refine Tri.seq ?_
          refine Tri.blk ?_
          refine Tri.seq ?_
          refine Tri.region ?_
          refine TriL.c1 rfl (op_as (ltb rfl) rfl) ?_
          refine TriL.nil ?_
          refine Tri.blk ?_
          refine Tri.ofKept (Kept.keep [.s 7, .h, .s 1, .b 1, .s 6] rfl (by decide) (Kept.now ?_))
          -- LOOP 4
          refine Tri.loopk (fun (k : Nat) => [(.s 7, .sv (.v (.int .i64 (k : Int))))]) _ (fun (k : Nat) => ((s.enums[i]'hi).values.drop k).any (fun v : Vlu => decide (1000 < v.name.length)) = (s.enums[i]'hi).values.any (fun v : Vlu => decide (1000 < v.name.length))) (fun (k : Nat) => (s.enums[i]'hi).values.length - k) 0 rfl (by simp) ?_
          rintro k hK
          refine Tri.seq ?_
          refine Tri.seq ?_
          refine Tri.region ?_
          refine TriL.c1 rfl (op_mv (ltb rfl) rfl) ?_
          refine TriL.c1 rfl (op_fal (ltb rfl) fo25_0_MG rfl) ?_
          refine TriL.c1 rfl (op_ldl (ltb rfl) lk22_MG rfl rfl rfl) ?_
          refine TriL.c1 rfl (op_mv (ltb rfl) rfl) ?_
          refine TriL.c1 rfl (op_iak (ltb rfl) ie22_MG rfl rfl (Int.natCast_nonneg _) (ixm hi) rfl) ?_
          refine TriL.c1 rfl (op_fak (ltb rfl) fo94_1_MG rfl) ?_
          refine TriL.c1 rfl (op_ldk (ltb rfl) lk92_MG rfl rfl) ?_
          refine TriL.c1 rfl (op_lenl (ltb rfl) un92_MG rfl) ?_
          refine TriL.c1 rfl (op_bin (ltb rfl) rfl rfl rfl) ?_
          refine TriL.nil ?_
          refine Tri.cond rfl (fun hc7 => ?_) (fun hc7 => ?_)
          · have hk := ltm hc7
            have hT := any_step (p := (fun v : Vlu => decide (1000 < v.name.length))) hk
            refine Tri.skip ?_
            refine Tri.seq ?_
            refine Tri.blk ?_
            refine Tri.seq ?_
            refine Tri.region ?_
            refine TriL.c1 rfl (op_fal (ltb rfl) fo25_0_MG rfl) ?_
            refine TriL.c1 rfl (op_ldl (ltb rfl) lk22_MG rfl rfl rfl) ?_
            refine TriL.c1 rfl (op_mv (ltb rfl) rfl) ?_
            refine TriL.c1 rfl (op_iak (ltb rfl) ie22_MG rfl rfl (Int.natCast_nonneg _) (ixm hi) rfl) ?_
            refine TriL.c1 rfl (op_fak (ltb rfl) fo94_1_MG rfl) ?_
            refine TriL.c1 rfl (op_ldk (ltb rfl) lk92_MG rfl rfl) ?_
            refine TriL.c1 rfl (op_mv (ltb rfl) rfl) ?_
            refine TriL.c1 rfl (op_iak (ltb rfl) ie92_MG rfl rfl (Int.natCast_nonneg _) (ixm hk) rfl) ?_
            refine TriL.c1 rfl (op_fak (ltb rfl) fo96_0_MG rfl) ?_
            refine TriL.c1 rfl (op_ldk (ltb rfl) lk9_MG rfl rfl) ?_
            refine TriL.c1 rfl (op_lens (ltb rfl) un9_MG rfl) ?_
            refine TriL.c1 rfl (op_bin (ltb rfl) rfl rfl rfl) ?_
            refine TriL.nil ?_
            refine Tri.cond rfl (fun hc8 => ?_) (fun hc8 => ?_)
            · refine Tri.seq ?_
              refine Tri.region ?_
              refine TriL.c1 rfl (op_as (ltb rfl) rfl) ?_
              refine TriL.nil ?_
              refine Tri.ret ?_
              exact ⟨.inr rfl, (ResOK.r1 rfl (.tmp rfl .nil)).cast (congrArg AV.bool (by grind [Sch.small, longE, longM])), rfl⟩
            · refine Tri.skip ?_
              refine Tri.region ?_
              refine TriL.c1 rfl (op_mv (ltb rfl) rfl) ?_
              refine TriL.c1 rfl (op_bin (ltb rfl) rfl rfl rfl) ?_
              refine TriL.c1 rfl (op_as (ltb rfl) rfl) ?_
              refine TriL.kept (Kept.seti 7 rfl (inc (by omega)) (Kept.keep [.s 7, .h, .s 1, .b 1, .s 6] rfl (by decide) (Kept.now ?_)))
              exact ⟨k + 1, by omega, by grind, rfl⟩
          · have hk := gem hc7
            have hT := any_end (p := (fun v : Vlu => decide (1000 < v.name.length))) hk
            refine Tri.exit ?_
            refine Tri.region ?_
            refine TriL.c1 rfl (op_mv (ltb rfl) rfl) ?_
            refine TriL.c1 rfl (op_bin (ltb rfl) rfl rfl rfl) ?_
            refine TriL.c1 rfl (op_as (ltb rfl) rfl) ?_
            refine TriL.kept (Kept.seti 6 rfl (inc (by omega)) (Kept.keep [.s 6, .h, .s 1, .b 1] rfl (by decide) (Kept.now ?_)))
            exact ⟨i + 1, by omega, by grind [longE], rfl⟩
        · have hi := gem hc6
          have hS := any_end (p := longE) hi
          refine Tri.exit ?_
          refine Tri.seq ?_
          refine Tri.seq ?_
          refine Tri.region ?_
          refine TriL.c1 rfl (op_as (ltb rfl) rfl) ?_
          refine TriL.nil ?_
          refine Tri.blk ?_
          refine Tri.ofKept (Kept.keep [.s 8, .h, .s 1, .b 1] rfl (by decide) (Kept.now ?_))
          -- LOOP 5
          refine Tri.loopk (fun (i : Nat) => [(.s 8, .sv (.v (.int .i64 (i : Int))))]) _ (fun (i : Nat) => s.msgs.any longM = (s.msgs.drop i).any longM) (fun (i : Nat) => s.msgs.length - i) 0 rfl (by simp) ?_
          rintro i hJ
          refine Tri.seq ?_
          refine Tri.seq ?_
          refine Tri.region ?_
          refine TriL.c1 rfl (op_mv (ltb rfl) rfl) ?_
          refine TriL.c1 rfl (op_fal (ltb rfl) fo25_1_MG rfl) ?_
          refine TriL.c1 rfl (op_ldl (ltb rfl) lk23_MG rfl rfl rfl) ?_
          refine TriL.c1 rfl (op_lenl (ltb rfl) un23_MG rfl) ?_
          refine TriL.c1 rfl (op_bin (ltb rfl) rfl rfl rfl) ?_
          refine TriL.nil ?_
          refine Tri.cond rfl (fun hc9 => ?_) (fun hc9 => ?_)
          · have hi := ltm hc9
            have hS := any_step (p := longM) hi
            have hv := hs.fi hi
            refine Tri.skip ?_
            refine Tri.seq ?_
            refine Tri.blk ?_
            refine Tri.seq ?_
            refine Tri.region ?_
            refine TriL.c1 rfl (op_as (ltb rfl) rfl) ?_
            refine TriL.nil ?_
            refine Tri.blk ?_
            refine Tri.ofKept (Kept.keep [.s 9, .h, .s 1, .b 1, .s 8] rfl (by decide) (Kept.now ?_))
            -- LOOP 6
            refine Tri.loopk (fun (k : Nat) => [(.s 9, .sv (.v (.int .i64 (k : Int))))]) _ (fun (k : Nat) => ((s.msgs[i]'hi).fields.drop k).any (fun f : Fld => decide (1000 < f.name.length) || decide (1000 < f.ref.length) || decide (1000 < f.one.length)) = (s.msgs[i]'hi).fields.any (fun f : Fld => decide (1000 < f.name.length) || decide (1000 < f.ref.length) || decide (1000 < f.one.length))) (fun (k : Nat) => (s.msgs[i]'hi).fields.length - k) 0 rfl (by simp) ?_
            rintro k hK
            refine Tri.seq ?_
            refine Tri.seq ?_
            refine Tri.region ?_
            refine TriL.c1 rfl (op_mv (ltb rfl) rfl) ?_
            refine TriL.c1 rfl (op_fal (ltb rfl) fo25_1_MG rfl) ?_
            refine TriL.c1 rfl (op_ldl (ltb rfl) lk23_MG rfl rfl rfl) ?_
            refine TriL.c1 rfl (op_mv (ltb rfl) rfl) ?_
            refine TriL.c1 rfl (op_iak (ltb rfl) ie23_MG rfl rfl (Int.natCast_nonneg _) (ixm hi) rfl) ?_
            refine TriL.c1 rfl (op_fak (ltb rfl) fo78_1_MG rfl) ?_
            refine TriL.c1 rfl (op_ldk (ltb rfl) lk76_MG rfl rfl) ?_
            refine TriL.c1 rfl (op_lenl (ltb rfl) un76_MG rfl) ?_
            refine TriL.c1 rfl (op_bin (ltb rfl) rfl rfl rfl) ?_
            refine TriL.nil ?_
            refine Tri.cond rfl (fun hc10 => ?_) (fun hc10 => ?_)
            · have hk := ltm hc10
              have hT := any_step (p := (fun f : Fld => decide (1000 < f.name.length) || decide (1000 < f.ref.length) || decide (1000 < f.one.length))) hk
              refine Tri.skip ?_
              refine Tri.seq ?_
              refine Tri.blk ?_
              refine Tri.seq ?_
              refine Tri.region ?_
              refine TriL.c1 rfl (op_fal (ltb rfl) fo25_1_MG rfl) ?_
              refine TriL.c1 rfl (op_ldl (ltb rfl) lk23_MG rfl rfl rfl) ?_
              refine TriL.c1 rfl (op_mv (ltb rfl) rfl) ?_
              refine TriL.c1 rfl (op_iak (ltb rfl) ie23_MG rfl rfl (Int.natCast_nonneg _) (ixm hi) rfl) ?_
              refine TriL.c1 rfl (op_fak (ltb rfl) fo78_1_MG rfl) ?_
              refine TriL.c1 rfl (op_ldk (ltb rfl) lk76_MG rfl rfl) ?_
              refine TriL.c1 rfl (op_mv (ltb rfl) rfl) ?_
              refine TriL.c1 rfl (op_iak (ltb rfl) ie76_MG rfl rfl (Int.natCast_nonneg _) (ixm hk) rfl) ?_
              refine TriL.c1 rfl (op_ldk (ltb rfl) lk98_MG rfl rfl) ?_
              refine TriL.c2 rfl (op_all (ltb rfl) zA98_MG rfl) ?_
              refine TriL.c1 rfl (op_stl lk98_MG rfl rfl rfl rfl rfl (leb rfl)) ?_
              refine TriL.nil ?_
              refine Tri.seq ?_
              refine Tri.region ?_
              refine TriL.c1 rfl (op_fal (ltb rfl) fo98_0_MG rfl) ?_
              refine TriL.c1 rfl (op_ldl (ltb rfl) lk9_MG rfl rfl rfl) ?_
              refine TriL.c1 rfl (op_lens (ltb rfl) un9_MG rfl) ?_
              refine TriL.c1 rfl (op_bin (ltb rfl) rfl rfl rfl) ?_
              refine TriL.c1 rfl (op_mv (ltb rfl) rfl) ?_
              refine TriL.split (d := 147) rfl (fun hg11 => ?_) (fun hg11 => ?_)
              · refine TriL.skipu rfl rfl (ltb rfl) (ltb rfl) rfl hg11 ?_
                refine TriL.skipu rfl rfl (ltb rfl) (ltb rfl) rfl hg11 ?_
                refine TriL.skipu rfl rfl (ltb rfl) (ltb rfl) rfl hg11 ?_
                refine TriL.skipu rfl rfl (ltb rfl) (ltb rfl) rfl hg11 ?_
                refine TriL.c1 rfl (op_pickt (ltb rfl) rfl hg11 rfl) ?_
                refine TriL.c1 rfl (op_mv (ltb rfl) rfl) ?_
                refine TriL.skipu rfl rfl (ltb rfl) (ltb rfl) rfl rfl ?_
                refine TriL.skipu rfl rfl (ltb rfl) (ltb rfl) rfl rfl ?_
                refine TriL.skipu rfl rfl (ltb rfl) (ltb rfl) rfl rfl ?_
                refine TriL.skipu rfl rfl (ltb rfl) (ltb rfl) rfl rfl ?_
                refine TriL.c1 rfl (op_pickt (ltb rfl) rfl rfl rfl) ?_
                refine TriL.nil ?_
                refine Tri.condT rfl rfl ?_
                refine Tri.seq ?_
                refine Tri.region ?_
                refine TriL.c1 rfl (op_as (ltb rfl) rfl) ?_
                refine TriL.nil ?_
                refine Tri.ret ?_
                exact ⟨.inr rfl, (ResOK.r1 rfl (.tmp rfl .nil)).cast (congrArg AV.bool (by grind [Sch.small, longE, longM])), rfl⟩
              · refine TriL.g1 rfl (ltb rfl) rfl hg11 (op_fal (ltb rfl) fo98_3_MG rfl) ?_
                refine TriL.g1 rfl (ltb rfl) rfl hg11 (op_ldl (ltb rfl) lk9_MG rfl rfl rfl) ?_
                refine TriL.g1 rfl (ltb rfl) rfl hg11 (op_lens (ltb rfl) un9_MG rfl) ?_
                refine TriL.g1 rfl (ltb rfl) rfl hg11 (op_bin (ltb rfl) rfl rfl rfl) ?_
                refine TriL.c1 rfl (op_pickf (ltb rfl) rfl hg11 rfl) ?_
                refine TriL.c1 rfl (op_mv (ltb rfl) rfl) ?_
                refine TriL.split (d := 153) rfl (fun hg12 => ?_) (fun hg12 => ?_)
                · refine TriL.skipu rfl rfl (ltb rfl) (ltb rfl) rfl hg12 ?_
                  refine TriL.skipu rfl rfl (ltb rfl) (ltb rfl) rfl hg12 ?_
                  refine TriL.skipu rfl rfl (ltb rfl) (ltb rfl) rfl hg12 ?_
                  refine TriL.skipu rfl rfl (ltb rfl) (ltb rfl) rfl hg12 ?_
                  refine TriL.c1 rfl (op_pickt (ltb rfl) rfl hg12 rfl) ?_
                  refine TriL.nil ?_
                  refine Tri.condT rfl rfl ?_
                  refine Tri.seq ?_
                  refine Tri.region ?_
                  refine TriL.c1 rfl (op_as (ltb rfl) rfl) ?_
                  refine TriL.nil ?_
                  refine Tri.ret ?_
                  exact ⟨.inr rfl, (ResOK.r1 rfl (.tmp rfl .nil)).cast (congrArg AV.bool (by grind [Sch.small, longE, longM])), rfl⟩
                · refine TriL.g1 rfl (ltb rfl) rfl hg12 (op_fal (ltb rfl) fo98_6_MG rfl) ?_
                  refine TriL.g1 rfl (ltb rfl) rfl hg12 (op_ldl (ltb rfl) lk9_MG rfl rfl rfl) ?_
                  refine TriL.g1 rfl (ltb rfl) rfl hg12 (op_lens (ltb rfl) un9_MG rfl) ?_
                  refine TriL.g1 rfl (ltb rfl) rfl hg12 (op_bin (ltb rfl) rfl rfl rfl) ?_
                  refine TriL.c1 rfl (op_pickf (ltb rfl) rfl hg12 rfl) ?_
                  refine TriL.nil ?_
                  refine Tri.cond rfl (fun hc13 => ?_) (fun hc13 => ?_)
                  · refine Tri.seq ?_
                    refine Tri.region ?_
                    refine TriL.c1 rfl (op_as (ltb rfl) rfl) ?_
                    refine TriL.nil ?_
                    refine Tri.ret ?_
                    exact ⟨.inr rfl, (ResOK.r1 rfl (.tmp rfl .nil)).cast (congrArg AV.bool (by grind [Sch.small, longE, longM])), rfl⟩
                  · refine Tri.skip ?_
                    refine Tri.region ?_
                    refine TriL.c1 rfl (op_mv (ltb rfl) rfl) ?_
                    refine TriL.c1 rfl (op_bin (ltb rfl) rfl rfl rfl) ?_
                    refine TriL.c1 rfl (op_as (ltb rfl) rfl) ?_
                    refine TriL.kept (Kept.seti 9 rfl (inc (by omega)) (Kept.keep [.s 9, .h, .s 1, .b 1, .s 8] rfl (by decide) (Kept.now ?_)))
                    exact ⟨k + 1, by omega, by grind, rfl⟩
            · have hk := gem hc10
              have hT := any_end (p := (fun f : Fld => decide (1000 < f.name.length) || decide (1000 < f.ref.length) || decide (1000 < f.one.length))) hk
              refine Tri.exit ?_
              refine Tri.region ?_
              refine TriL.c1 rfl (op_mv (ltb rfl) rfl) ?_
              refine TriL.c1 rfl (op_bin (ltb rfl) rfl rfl rfl) ?_
              refine TriL.c1 rfl (op_as (ltb rfl) rfl) ?_
              refine TriL.kept (Kept.seti 8 rfl (inc (by omega)) (Kept.keep [.s 8, .h, .s 1, .b 1] rfl (by decide) (Kept.now ?_)))
              exact ⟨i + 1, by omega, by grind [longM], rfl⟩
          · have hi := gem hc9
            have hS := any_end (p := longM) hi
            refine Tri.exit ?_
            refine Tri.seq ?_
            refine Tri.region ?_
            refine TriL.c1 rfl (op_as (ltb rfl) rfl) ?_
            refine TriL.nil ?_
            refine Tri.ret ?_
            exact ⟨.inr rfl, (ResOK.r1 rfl (.tmp rfl .nil)).cast (congrArg AV.bool (by grind [Sch.small, longE, longM])), rfl⟩
end Go.Proofs.YtnpgcmeclkncnaaGreatDoor.X
/- the page's example. -/
set_option linter.unusedVariables false
set_option linter.unusedSimpArgs false
set_option linter.unusedSectionVars false
set_option maxRecDepth 100000
namespace Go.Proofs.YtnpgcmeclkncnaaGreatDoor.X
open Go Go.RowKit Go.Proofs
theorem fn24_MH : isFn Tryz.prog 24 = true := by kernel_rfl
theorem fn26_MH : isFn Tryz.prog 26 = true := by kernel_rfl
theorem fn27_MH : isFn Tryz.prog 27 = true := by kernel_rfl
theorem lk25_MH : lk Tryz.prog 25 = some (true, 2) := by kernel_rfl
theorem se23_MH : se Tryz.prog 23 = some (78, 3, 64) := by kernel_rfl
theorem se29_MH : se Tryz.prog 29 = some (83, 2, 32) := by kernel_rfl
theorem se51_MH : se Tryz.prog 51 = some (5, 1, 1) := by kernel_rfl
theorem se76_MH : se Tryz.prog 76 = some (98, 7, 72) := by kernel_rfl
theorem se81_MH : se Tryz.prog 81 = some (86, 3, 48) := by kernel_rfl
theorem spl25_MH : spl Tryz.prog 25 = some [(0, 1), (1, 1)] := by kernel_rfl
theorem spl32_MH : spl Tryz.prog 32 = some [(0, 1), (1, 1)] := by kernel_rfl
theorem spl78_MH : spl Tryz.prog 78 = some [(0, 1), (1, 1), (2, 1)] := by kernel_rfl
theorem spl83_MH : spl Tryz.prog 83 = some [(0, 1), (1, 1)] := by kernel_rfl
theorem spl86_MH : spl Tryz.prog 86 = some [(0, 1), (1, 1), (2, 1)] := by kernel_rfl
theorem spl98_MH : spl Tryz.prog 98 = some [(0, 1), (1, 1), (2, 1), (3, 1), (4, 1), (5, 1), (6, 1)] := by kernel_rfl
theorem zA25_MH : zeroA Tryz.prog 25 = some [AV.sl [], AV.sl []] := by kernel_rfl
theorem zA32_MH : zeroA Tryz.prog 32 = some [AV.sl [], AV.sl []] := by kernel_rfl
theorem zA78_MH : zeroA Tryz.prog 78 = some [AV.str [], AV.sl [], AV.sl []] := by kernel_rfl
theorem zA83_MH : zeroA Tryz.prog 83 = some [AV.int IntKind.i64 (0), AV.sl []] := by kernel_rfl
theorem zA86_MH : zeroA Tryz.prog 86 = some [AV.int IntKind.u64 (0), AV.str [], AV.sl []] := by kernel_rfl
theorem zA98_MH : zeroA Tryz.prog 98 = some [AV.str [], AV.int IntKind.i64 (0), AV.int IntKind.i64 (0), AV.str [], AV.bool false, AV.bool false, AV.str []] := by kernel_rfl
theorem zAe23_MH : zeroA Tryz.prog 78 = some [AV.str [], AV.sl [], AV.sl []] := by kernel_rfl
theorem zAe29_MH : zeroA Tryz.prog 83 = some [AV.int IntKind.i64 (0), AV.sl []] := by kernel_rfl
theorem zAe51_MH : zeroA Tryz.prog 5 = some [AV.int IntKind.u8 (0)] := by kernel_rfl
theorem zAe76_MH : zeroA Tryz.prog 98 = some [AV.str [], AV.int IntKind.i64 (0), AV.int IntKind.i64 (0), AV.str [], AV.bool false, AV.bool false, AV.str []] := by kernel_rfl
theorem zAe81_MH : zeroA Tryz.prog 86 = some [AV.int IntKind.u64 (0), AV.str [], AV.sl []] := by kernel_rfl
def liveS : Sch := ⟨[], [⟨[77], [⟨[97], 1, 1, [], false, false, []⟩], []⟩]⟩
def liveT : Tree := .mk [.mk 1 [.mk 300 [] []]] []
theorem liveS_good : liveS.good := by
  refine { m := by decide, f := by simp [liveS], o := by simp [liveS], n := by simp [liveS]; decide }
theorem liveT_fits : liveT.fits := by
  refine Tree.Every.mk ⟨by decide, by decide, ?_, ?_, ?_, ?_, ?_, ?_⟩ ?_ <;> simp [liveT, Tree.slots, Tree.rest, Slot.vals, Val.m, Val.s, Val.n]
theorem vput300 : vput 300 = [172, 2] := by rw [vput_hi (by decide), vput_lo (by decide)]; rfl
theorem vput8 : vput 8 = [8] := by rw [vput_lo (by decide)]; rfl
theorem liveT_ok : liveT.ok liveS [77] = true := by decide
theorem liveT_enc : liveT.enc liveS [77] = [8, 172, 2] := by
  have h1 : liveS.msgAt [77] = some liveS.msgs[0] := by decide
  have h2 : (liveS.msgs[0]).fix 1 = some (liveS.msgs[0]).fields[0] := by decide
  have h3 : ((liveS.msgs[0]).fields[0]).packed = false := by decide
  have h4 : numT 1 = true := by decide
  have h5 : toT 1 300 = 300 := by decide
  have h6 : wireT 1 = 0 := by decide
  rw [Tree.enc_eq, h1]
  simp only [liveT, Tree.slots, Tree.rest, encS, Slot.enc_eq, Slot.num, Slot.vals, h2, h3, encV, Val.enc_eq, Val.n, Bool.false_eq_true, if_false, List.flatMap_nil, List.append_nil]
  simp only [liveS, List.getElem_cons_zero, h4, h5, h6, if_true, tagB, pay, vput300]
  simp [vput8]
theorem liveT_put : liveT.putR liveS [77] = .tup [.sl [.int .u8 8, .int .u8 172, .int .u8 2], .int .i64 0] := by
  rw [← Tree.put0 (by decide) liveT_ok (by decide) (by rw [liveT_enc]; decide), liveT_enc]; rfl
theorem p_liveput : Pure Tryz.prog 24 [.agg [.sl [], .sl [.agg [.str [77], .sl [.agg [.str [97], .int .i64 1, .int .i64 1, .str [], .bool false, .bool false, .str []]], .sl []]]], .str [77], .agg [.sl [.agg [.int .i64 1, .sl [.agg [.int .u64 300, .str [], .sl []]]]], .sl []]] (.tup [.sl (bsl [8, 172, 2]), .int .i64 0]) := by
  have h := p_put liveS liveS_good [77] liveT liveT_fits (fun _ => by decide) (fun _ => by rw [liveT_enc]; decide)
  rw [liveT_put] at h
  simpa [Tree.cells, Sch.av, Sch.cells, Msg.av, Msg.cells, Fld.av, Fld.cells, liveS, liveT, Tree.slots, Tree.rest, Slot.av, Val.av, valsAV, treesAV, bsl] using h
theorem p_liveb : Pure Tryz.prog 26 [.sl (bsl [8, 172, 2]), .sl [.int .u8 8, .int .u8 172, .int .u8 2]] (.bool true) := (bytes_pure [8, 172, 2] [8, 172, 2]).at rfl
theorem p_lnum (e : Int) : Pure Tryz.prog 27 [.int .i64 e] (.int .i64 e) := by
  refine Pure.of_tri Tryz.func27 rfl rfl (ltb rfl) fun H => ?_
  refine Tri.seq ?_
  refine Tri.region ?_
  refine TriL.c1 rfl (op_as (ltb rfl) rfl) ?_
  refine TriL.nil ?_
  refine Tri.seq ?_
  refine Tri.region ?_
  refine TriL.c1 rfl (op_mv (ltb rfl) rfl) ?_
  refine TriL.c1 rfl (op_as (ltb rfl) rfl) ?_
  refine TriL.nil ?_
  refine Tri.ret ?_
  exact ⟨.inr rfl, (ResOK.r1 rfl (.tmp rfl .nil)).cast rfl, rfl⟩
theorem p_live : Pure Tryz.prog 23 [] (.bool true) := by
  refine Pure.of_tri Tryz.func23 rfl rfl (Nat.zero_le _) fun H => ?_
  refine Tri.seq ?_
  refine Tri.region ?_
  refine TriL.c1 rfl (op_as (ltb rfl) rfl) ?_
  refine TriL.nil ?_
  refine Tri.seq ?_
  refine Tri.region ?_
  refine TriL.c1 rfl (op_bld (ltb rfl) spl98_MH zA98_MH rfl rfl) ?_
  refine TriL.c1 rfl (op_lit («as» := [_]) (ltb rfl) se76_MH zAe76_MH rfl rfl rfl (leb rfl)) ?_
  refine TriL.c1 rfl (op_bld (ltb rfl) spl78_MH zA78_MH rfl rfl) ?_
  refine TriL.c1 rfl (op_lit («as» := [_]) (ltb rfl) se23_MH zAe23_MH rfl rfl rfl (leb rfl)) ?_
  refine TriL.c1 rfl (op_bld (ltb rfl) spl25_MH zA25_MH rfl rfl) ?_
  refine TriL.c2 rfl (op_all (ltb rfl) zA25_MH rfl) ?_
  refine TriL.c1 rfl (op_stl lk25_MH rfl rfl rfl rfl rfl (leb rfl)) ?_
  refine TriL.nil ?_
  refine Tri.seq ?_
  refine Tri.region ?_
  refine TriL.c1 rfl (op_ldl (ltb rfl) lk25_MH rfl rfl rfl) ?_
  refine TriL.c1 rfl (op_bld (ltb rfl) spl86_MH zA86_MH rfl rfl) ?_
  refine TriL.c1 rfl (op_lit («as» := [_]) (ltb rfl) se81_MH zAe81_MH rfl rfl rfl (leb rfl)) ?_
  refine TriL.c1 rfl (op_bld (ltb rfl) spl83_MH zA83_MH rfl rfl) ?_
  refine TriL.c1 rfl (op_lit («as» := [_]) (ltb rfl) se29_MH zAe29_MH rfl rfl rfl (leb rfl)) ?_
  refine TriL.c1 rfl (op_bld (ltb rfl) spl32_MH zA32_MH rfl rfl) ?_
  refine TriL.c1 rfl (op_call (ltb rfl) fn24_MH rfl p_liveput) ?_
  refine TriL.c1 rfl (op_mv (ltb rfl) rfl) ?_
  refine TriL.c1 rfl (op_ext (ltb rfl) rfl rfl) ?_
  refine TriL.c1 rfl (op_ext (ltb rfl) rfl rfl) ?_
  refine TriL.c1 rfl (op_as (ltb rfl) rfl) ?_
  refine TriL.c1 rfl (op_as (ltb rfl) rfl) ?_
  refine TriL.nil ?_
  refine Tri.seq ?_
  refine Tri.region ?_
  refine TriL.c1 rfl (op_mv (ltb rfl) rfl) ?_
  refine TriL.c1 rfl (op_call (ltb rfl) fn27_MH rfl (p_lnum _)) ?_
  refine TriL.c1 rfl (op_bin (ltb rfl) rfl rfl rfl) ?_
  refine TriL.c1 rfl (op_mv (ltb rfl) rfl) ?_
  refine TriL.split (d := 22) rfl (fun hg1 => ?_) (fun hg1 => ?_)
  · refine TriL.g1 rfl (ltb rfl) rfl hg1 (op_mv (ltb rfl) rfl) ?_
    refine TriL.g1 rfl (ltb rfl) rfl hg1 (op_lit («as» := [_, _, _]) (ltb rfl) se51_MH zAe51_MH rfl rfl rfl (leb rfl)) ?_
    refine TriL.g1 rfl (ltb rfl) rfl hg1 (op_call (ltb rfl) fn26_MH rfl p_liveb) ?_
    refine TriL.c1 rfl (op_pickt (ltb rfl) rfl hg1 rfl) ?_
    refine TriL.c1 rfl (op_as (ltb rfl) rfl) ?_
    refine TriL.nil ?_
    refine Tri.ret ?_
    exact ⟨.inr rfl, (ResOK.r1 rfl (.tmp rfl .nil)).cast rfl, rfl⟩
  · refine TriL.skipu rfl rfl (ltb rfl) (ltb rfl) rfl hg1 ?_
    refine TriL.skipu rfl rfl (ltb rfl) (ltb rfl) rfl hg1 ?_
    refine TriL.skipu rfl rfl (ltb rfl) (ltb rfl) rfl hg1 ?_
    refine TriL.c1 rfl (op_pickf (ltb rfl) rfl hg1 rfl) ?_
    refine TriL.c1 rfl (op_as (ltb rfl) rfl) ?_
    refine TriL.nil ?_
    refine Tri.ret ?_
    exact ⟨.inr rfl, (ResOK.r1 rfl (.tmp rfl .nil)).cast (by exact absurd hg1 (by decide)), rfl⟩
end Go.Proofs.YtnpgcmeclkncnaaGreatDoor.X
/- Plain laws: a value's slots one by one. No condition. -/
set_option linter.unusedVariables false
set_option linter.unusedSimpArgs false
namespace Go.Proofs.YtnpgcmeclkncnaaGreatDoor.X
open Go Go.RowKit Go.Proofs
theorem TriL.g3 {P : Program} {N : Nat} {ops : Array Oper} {l : List Oper} {s : St} {Q : St → Prop} {o : Oper} {R : List Comp} {c c' c2 : Comp} {v u y : CV} {d : Nat} {b b' : Bool} (hg : gslot ops o = some (d, b)) (hN : d < N) (hc : get s (.s d) = some (.sv (.v (.bool b')))) (hb : b' = b) (ho : OpOK P N o s R [(c, v), (c', u), (c2, y)]) (h : TriL P N ops l ((c, v) :: (c', u) :: (c2, y) :: s) Q) : TriL P N ops (o :: l) s Q := TriL.on hN hg (hb ▸ hc) ho h
theorem Tree.put_zero {s : Sch} {name : Str} {t : Tree} (h : t.putE s name = 0) : ¬ s.msgIx name < 0 ∧ t.ok s name = true ∧ t.deep ≤ 16 ∧ (t.enc s name).length ≤ 65536 ∧ t.putB s name = t.enc s name := by
  have h0 := h
  unfold Tree.putE at h
  split at h
  · cases h
  · rename_i h1
    split at h
    · cases h
    · rename_i h2
      split at h
      · cases h
      · rename_i h3
        split at h
        · cases h
        · rename_i h4
          exact ⟨h1, by simpa using h2, by omega, by omega, by simp [Tree.putB, h0]⟩
/-- one slot, alone -/
def Tree.one (x : Slot) : Tree := .mk [x] []
end Go.Proofs.YtnpgcmeclkncnaaGreatDoor.X
/- Plain laws: two values of a message have the same bytes just if they are the same. No condition. -/
set_option linter.unusedVariables false
set_option linter.unusedSimpArgs false
namespace Go.Proofs.YtnpgcmeclkncnaaGreatDoor.X
open Go Go.RowKit Go.Proofs
theorem u8_inj {a b : Nat} (ha : a < 256) (hb : b < 256) (h : UInt8.ofNat a = UInt8.ofNat b) : a = b := by
  have := congrArg UInt8.toNat h
  rw [UInt8.toNat_ofNat', UInt8.toNat_ofNat'] at this
  omega
theorem vput_cancel : ∀ (n m : Nat) (a b : Str), vput n ++ a = vput m ++ b → n = m ∧ a = b := by
  intro n
  induction n using Nat.strongRecOn with
  | _ n ih =>
    intro m a b h
    by_cases hn : n < 128
    · by_cases hm : m < 128
      · rw [vput_lo hn, vput_lo hm] at h
        simp only [List.cons_append, List.nil_append, List.cons.injEq] at h
        exact ⟨u8_inj (by omega) (by omega) h.1, h.2⟩
      · rw [vput_lo hn, vput_hi hm] at h
        simp only [List.cons_append, List.nil_append, List.cons.injEq] at h
        have := u8_inj (by omega) (by omega) h.1
        omega
    · by_cases hm : m < 128
      · rw [vput_hi hn, vput_lo hm] at h
        simp only [List.cons_append, List.nil_append, List.cons.injEq] at h
        have := u8_inj (by omega) (by omega) h.1
        omega
      · rw [vput_hi hn, vput_hi hm] at h
        simp only [List.cons_append, List.cons.injEq] at h
        have h1 := u8_inj (by omega) (by omega) h.1
        obtain ⟨h2, h3⟩ := ih (n / 128) (by omega) _ _ _ h.2
        exact ⟨by omega, h3⟩
theorem bytes_mod : ∀ (k u v : Nat), (∀ i, i < k → u / 256 ^ i % 256 = v / 256 ^ i % 256) → u % 256 ^ k = v % 256 ^ k
  | 0, u, v, h => by simp [Nat.mod_one]
  | k + 1, u, v, h => by
    rw [Nat.mod_pow_succ, Nat.mod_pow_succ, bytes_mod k u v (fun i hi => h i (by omega)), h k (by omega)]
theorem fput_inj {u v k : Nat} (h : fput u k = fput v k) : u % 256 ^ k = v % 256 ^ k := by
  refine bytes_mod k u v fun i hi => ?_
  have h1 := List.map_inj_left.1 h i (List.mem_range.2 hi)
  have h2 := congrArg UInt8.toNat h1
  simp only [nb] at h2
  rw [UInt8.toNat_ofNat', UInt8.toNat_ofNat', Nat.pow_mul] at h2
  exact h2
theorem fput_cancel {u v k : Nat} {a b : Str} (h : fput u k ++ a = fput v k ++ b) : u % 256 ^ k = v % 256 ^ k ∧ a = b := by
  obtain ⟨h1, h2⟩ := List.append_inj h (by rw [fput_len, fput_len])
  exact ⟨fput_inj h1, h2⟩
theorem pay_cancel {w : Int} {u v : Nat} {a b : Str} (hu : u < 18446744073709551616) (hv : v < 18446744073709551616) (h5 : w = 5 → u < 4294967296 ∧ v < 4294967296) (h : pay w u ++ a = pay w v ++ b) : u = v ∧ a = b := by
  by_cases h1 : w = 1
  · rw [pay1 h1, pay1 h1] at h
    obtain ⟨h2, h3⟩ := fput_cancel h
    refine ⟨?_, h3⟩
    rw [show (256 : Nat) ^ 8 = 18446744073709551616 from rfl] at h2
    omega
  · by_cases h6 : w = 5
    · rw [pay5 h6, pay5 h6] at h
      obtain ⟨h2, h3⟩ := fput_cancel h
      have := h5 h6
      refine ⟨?_, h3⟩
      rw [show (256 : Nat) ^ 4 = 4294967296 from rfl] at h2
      omega
    · rw [payv h1 h6, payv h1 h6] at h
      exact vput_cancel _ _ _ _ h
structure Rw.fine (x : Rw) : Prop where
  ok : x.right = true
  lt : x.n < 18446744073709551616
theorem Rw.enc_cancel {r q : Rw} (hr : r.fine) (hq : q.fine) {a b : Str} (h : r.enc ++ a = q.enc ++ b) : r = q ∧ a = b := by
  have t1 := Rw.right_tag hr.ok
  have t2 := Rw.right_tag hq.ok
  simp [rightok] at t1 t2
  have hr1 := hr.ok
  have hq1 := hq.ok
  unfold Rw.right at hr1 hq1
  obtain ⟨num, wire, n, s⟩ := r
  obtain ⟨num', wire', n', s'⟩ := q
  simp only at t1 t2
  have key : ∃ x y : Str, (Rw.mk num wire n s).enc = tagB num wire ++ x ∧ (Rw.mk num' wire' n' s').enc = tagB num' wire' ++ y ∧ (wire = 2 → x = vput s.length ++ s) ∧ (wire' = 2 → y = vput s'.length ++ s') ∧ (wire ≠ 2 → x = pay wire n) ∧ (wire' ≠ 2 → y = pay wire' n') := by
    refine ⟨if wire = 2 then vput s.length ++ s else pay wire n, if wire' = 2 then vput s'.length ++ s' else pay wire' n', ?_, ?_, ?_, ?_, ?_, ?_⟩
    · unfold Rw.enc; split
      · rename_i h2; simp only at h2; simp [txt, h2]
      · rename_i h2; simp only at h2; simp [h2]
    · unfold Rw.enc; split
      · rename_i h2; simp only at h2; simp [txt, h2]
      · rename_i h2; simp only at h2; simp [h2]
    · intro h2; simp [h2]
    · intro h2; simp [h2]
    · intro h2; simp [h2]
    · intro h2; simp [h2]
  obtain ⟨x, y, e1, e2, x2, y2, x0, y0⟩ := key
  rw [e1, e2, List.append_assoc, List.append_assoc] at h
  obtain ⟨h1, h2⟩ := vput_cancel _ _ _ _ h
  have hn : num = num' := by omega
  have hw : wire = wire' := by omega
  subst hn
  subst hw
  by_cases hw : wire = 2
  · rw [x2 hw, y2 hw, List.append_assoc, List.append_assoc] at h2
    obtain ⟨h3, h4⟩ := vput_cancel _ _ _ _ h2
    obtain ⟨h5, h6⟩ := List.append_inj h4 h3
    simp only [hw, if_true, Bool.and_eq_true, decide_eq_true_eq] at hr1 hq1
    have e : n = n' := by
      have b1 : n = 0 := hr1.2
      have b2 : n' = 0 := hq1.2
      omega
    subst e
    subst h5
    exact ⟨rfl, h6⟩
  · rw [x0 hw, y0 hw] at h2
    simp only [hw, if_false, Bool.and_eq_true] at hr1 hq1
    have k1 : wire = 5 → n < 4294967296 := fun h5 => by simpa [h5] using hr1.2.2
    have k2 : wire = 5 → n' < 4294967296 := fun h5 => by simpa [h5] using hq1.2.2
    obtain ⟨h3, h4⟩ := pay_cancel hr.lt hq.lt (fun h5 => ⟨k1 h5, k2 h5⟩) h2
    have s1 : s = [] := by simpa using hr1.2.1
    have s2 : s' = [] := by simpa using hq1.2.1
    have h3 : n = n' := h3
    subst h3
    subst s1
    subst s2
    exact ⟨rfl, h4⟩
theorem Rw.enc_pos (r : Rw) : 1 ≤ r.enc.length := by
  have h := vput_pos (8 * r.num + r.wire).toNat
  have h2 := vput_pos (8 * r.num + 2).toNat
  unfold Rw.enc
  split <;> simp only [txt, tagB, List.length_append] <;> omega
theorem raws_inj : ∀ (l q : List Rw), (∀ r ∈ l, r.fine) → (∀ r ∈ q, r.fine) → l.flatMap Rw.enc = q.flatMap Rw.enc → l = q
  | [], [], _, _, _ => rfl
  | [], r :: q, _, _, h => by
    have := congrArg List.length h
    have h2 := r.enc_pos
    simp only [List.flatMap_nil, List.flatMap_cons, List.length_nil, List.length_append] at this
    omega
  | r :: l, [], _, _, h => by
    have := congrArg List.length h
    have h2 := r.enc_pos
    simp only [List.flatMap_nil, List.flatMap_cons, List.length_nil, List.length_append] at this
    omega
  | r :: l, r' :: q, h1, h2, h => by
    simp only [List.flatMap_cons] at h
    obtain ⟨rfl, h3⟩ := Rw.enc_cancel (h1 _ (by simp)) (h2 _ (by simp)) h
    rw [raws_inj l q (fun x hx => h1 x (by simp [hx])) (fun x hx => h2 x (by simp [hx])) h3]
theorem split_eq {α : Type} {P : α → Prop} : ∀ {a b c d : List α}, (∀ x ∈ a, P x) → (∀ x ∈ b, P x) → (∀ x ∈ c, ¬ P x) → (∀ x ∈ d, ¬ P x) → a ++ c = b ++ d → a = b ∧ c = d
  | [], [], c, d, _, _, _, _, h => ⟨rfl, h⟩
  | [], y :: b, c, d, _, h2, h3, _, h => by
    simp only [List.nil_append, List.cons_append] at h
    subst h
    exact absurd (h2 y (by simp)) (h3 y (by simp))
  | x :: a, [], c, d, h1, _, _, h4, h => by
    simp only [List.nil_append, List.cons_append] at h
    subst h
    exact absurd (h1 x (by simp)) (h4 x (by simp))
  | x :: a, y :: b, c, d, h1, h2, h3, h4, h => by
    simp only [List.cons_append, List.cons.injEq] at h
    obtain ⟨rfl, h⟩ := h
    obtain ⟨rfl, h5⟩ := split_eq (fun z hz => h1 z (by simp [hz])) (fun z hz => h2 z (by simp [hz])) h3 h4 h
    exact ⟨rfl, h5⟩
/-! ### numbers -/
theorem s64_inj {n m : Nat} (hn : n < 18446744073709551616) (hm : m < 18446744073709551616) (h : s64 n = s64 m) : n = m := by
  rw [s64_eq hn, s64_eq hm] at h
  split at h <;> split at h <;> omega
theorem zigT_inj {a b : Int} (h : zigT a = zigT b) : a = b := by
  unfold zigT at h
  split at h <;> split at h <;> omega
theorem toT_inj {t : Int} {n m : Nat} (h1 : mayT t n = true) (h2 : mayT t m = true) (hn : n < 18446744073709551616) (hm : m < 18446744073709551616) (ht : numT t = true) (h : toT t n = toT t m) : n = m := by
  have a1 := s64_eq hn
  have a2 := s64_eq hm
  by_cases h5 : t = 5 ∨ t = 6
  · have e : ∀ k, toT t k = zigT (s64 k) := fun k => by unfold toT; rw [if_neg (by omega), if_pos h5]
    rw [e, e] at h
    exact s64_inj hn hm (zigT_inj h)
  · by_cases h10 : t = 10
    · subst h10
      have e : ∀ k, toT 10 k = k % 4294967296 := fun k => by unfold toT; simp
      have f : ∀ k, mayT 10 k = fitsT (s64 k) := fun k => by unfold mayT; simp [wideT, signT]
      rw [e, e] at h
      rw [f] at h1 h2
      simp only [fitsT, Bool.and_eq_true, decide_eq_true_eq] at h1 h2
      rw [a1] at h1
      rw [a2] at h2
      split at h1 <;> split at h2 <;> omega
    · by_cases h3 : t = 3 ∨ t = 8
      · have e : ∀ k, toT t k = k % 4294967296 := fun k => by unfold toT; rw [if_pos (by omega)]
        have f : ∀ k, mayT t k = decide (k < 4294967296) := fun k => by
          unfold mayT
          rcases h3 with rfl | rfl <;> simp [wideT, signT]
        rw [e, e] at h
        rw [f] at h1 h2
        simp only [decide_eq_true_eq] at h1 h2
        omega
      · have e : ∀ k, toT t k = k := fun k => by unfold toT; rw [if_neg (by omega), if_neg h5, if_pos ht]
        rw [e, e] at h
        exact h
theorem packB_inj {t : Int} (ht : numT t = true) : ∀ (l q : List Nat), (∀ n ∈ l, mayT t n = true ∧ n < 18446744073709551616) → (∀ n ∈ q, mayT t n = true ∧ n < 18446744073709551616) → packB t l = packB t q → l = q
  | [], [], _, _, _ => rfl
  | [], r :: q, _, _, h => by
    have := congrArg List.length h
    have h2 := packB_pos ht (r :: q)
    simp only [packB, List.flatMap_nil, List.length_nil, List.length_cons] at this h2
    omega
  | r :: l, [], _, _, h => by
    have := congrArg List.length h
    have h2 := packB_pos ht (r :: l)
    simp only [packB, List.flatMap_nil, List.length_nil, List.length_cons] at this h2
    omega
  | r :: l, r' :: q, h1, h2, h => by
    simp only [packB, List.flatMap_cons, pack1_yes ht] at h
    have a := h1 r (by simp)
    have b := h2 r' (by simp)
    obtain ⟨h3, h4⟩ := pay_cancel (toT_lt a.2) (toT_lt b.2) (fun h5 => ⟨to5 h5, to5 h5⟩) h
    have h5 := toT_inj a.1 b.1 a.2 b.2 ht h3
    subst h5
    rw [packB_inj ht l q (fun x hx => h1 x (by simp [hx])) (fun x hx => h2 x (by simp [hx])) h4]
/-! ### values -/
def Val.raw (s : Sch) (f : Fld) (v : Val) : Rw := if numT f.ty then ⟨f.num, wireT f.ty, toT f.ty v.n, []⟩ else if f.ty = 15 then ⟨f.num, 2, 0, encM s f.ref v.m⟩ else ⟨f.num, 2, 0, v.s⟩
theorem Val.raw_enc (s : Sch) (f : Fld) (v : Val) : (v.raw s f).enc = v.enc s f := by
  unfold Val.raw
  rw [Val.enc_eq]
  split
  · rename_i h
    have := numT_wire h
    unfold Rw.enc
    rw [if_neg (by simp only; omega)]
  · split <;> simp [Rw.enc]
def raws (s : Sch) (f : Fld) (l : List Val) : List Rw := if f.packed then [⟨f.num, 2, 0, packB f.ty (l.map Val.n)⟩] else l.map (Val.raw s f)
theorem raws_enc (s : Sch) (f : Fld) (l : List Val) : (raws s f l).flatMap Rw.enc = encX s f l := by
  unfold raws encX
  split
  · simp [Rw.enc]
  · induction l with
    | nil => simp [encV]
    | cons v l ih => simp only [List.map_cons, List.flatMap_cons, encV, Val.raw_enc, ih]
def Slot.raws (s : Sch) (m : Msg) (x : Slot) : List Rw := match m.fix x.num with | none => [] | some f => X.raws s f x.vals
theorem Slot.raws_enc (s : Sch) (m : Msg) (x : Slot) : (x.raws s m).flatMap Rw.enc = x.enc s m := by
  unfold Slot.raws
  rw [Slot.enc_eq]
  cases m.fix x.num with
  | none => rfl
  | some f => exact X.raws_enc s f x.vals
theorem slots_enc (s : Sch) (m : Msg) : ∀ l : List Slot, (l.flatMap (Slot.raws s m)).flatMap Rw.enc = encS s m l
  | [] => by simp [encS]
  | x :: l => by simp only [List.flatMap_cons, List.flatMap_append, encS, Slot.raws_enc, slots_enc s m l]
theorem Val.raw_fine {s : Sch} {f : Fld} {v : Val} (hf : fnum f.num = true) (hn : v.n < 18446744073709551616) : (v.raw s f).fine ∧ (v.raw s f).num = f.num := by
  have h2 := fnum_right hf
  rw [← tagOK_right] at h2
  unfold Val.raw
  split
  · rename_i h
    have hw := numT_wire h
    have h3 := wire_right (t := f.ty) hf
    rw [← tagOK_right] at h3
    refine ⟨⟨?_, toT_lt hn⟩, rfl⟩
    unfold Rw.right
    simp only [h3, Bool.true_and]
    rw [if_neg (by omega)]
    by_cases h5 : wireT f.ty = 5
    · simp [h5, to5 h5]
    · simp [h5]
  · split
    · exact ⟨⟨by unfold Rw.right; simp [h2], by simp⟩, rfl⟩
    · exact ⟨⟨by unfold Rw.right; simp [h2], by simp⟩, rfl⟩
theorem raws_fine {s : Sch} {f : Fld} {l : List Val} (hf : fnum f.num = true) (hn : ∀ v ∈ l, v.n < 18446744073709551616) : ∀ r ∈ raws s f l, r.fine ∧ r.num = f.num := by
  intro r hr
  unfold raws at hr
  have h2 := fnum_right hf
  rw [← tagOK_right] at h2
  split at hr
  · simp at hr; subst hr
    exact ⟨⟨by unfold Rw.right; simp [h2], by simp⟩, rfl⟩
  · obtain ⟨v, hv, rfl⟩ := List.mem_map.1 hr
    exact Val.raw_fine hf (hn v hv)
def InjT (s : Sch) (t : Tree) : Prop := ∀ (name : Str) (u : Tree), t.ok s name = true → u.ok s name = true → u.fits → t.enc s name = u.enc s name → t = u
theorem val_inj {s : Sch} {f : Fld} {v w : Val} (hv : v.ok s f = true) (hw : w.ok s f = true) (hn : v.n < 18446744073709551616) (hm : w.n < 18446744073709551616) (hu : ∀ u ∈ w.m, u.fits) (ih : ∀ u ∈ v.m, InjT s u) (h : v.raw s f = w.raw s f) : v = w := by
  unfold Val.raw at h
  by_cases h1 : numT f.ty = true
  · rw [if_pos h1, if_pos h1] at h
    rw [Val.ok_eq, if_pos h1] at hv hw
    simp only [Bool.and_eq_true, decide_eq_true_eq, beq_iff_eq] at hv hw
    have h2 : toT f.ty v.n = toT f.ty w.n := (Rw.mk.injEq .. ▸ h).2.2.1
    exact Val.ext (toT_inj hv.1.1 hw.1.1 hn hm h1 h2) (hv.1.2.trans hw.1.2.symm) ((List.length_eq_zero_iff.1 hv.2).trans (List.length_eq_zero_iff.1 hw.2).symm)
  · rw [if_neg h1, if_neg h1] at h
    by_cases h2 : f.ty = 15
    · rw [if_pos h2, if_pos h2] at h
      obtain ⟨a, ha, ha2⟩ := Val.ok_msg hv h1 h2
      obtain ⟨b, hb, hb2⟩ := Val.ok_msg hw h1 h2
      have h3 : encM s f.ref v.m = encM s f.ref w.m := (Rw.mk.injEq .. ▸ h).2.2.2
      rw [ha, hb] at h3
      simp only [encM] at h3
      have h4 := ih a (by rw [ha]; simp) f.ref b ha2 hb2 (hu b (by rw [hb]; simp)) h3
      rw [Val.ok_eq, if_neg h1, if_neg (by omega), if_neg (by omega), if_pos h2] at hv hw
      simp only [Bool.and_eq_true, decide_eq_true_eq, beq_iff_eq] at hv hw
      exact Val.ext (hv.1.1.trans hw.1.1.symm) (hv.1.2.trans hw.1.2.symm) (by rw [ha, hb, h4])
    · rw [if_neg h2, if_neg h2] at h
      have h3 : v.s = w.s := (Rw.mk.injEq .. ▸ h).2.2.2
      rw [Val.ok_eq, if_neg h1] at hv hw
      by_cases h4 : f.ty = 12
      · rw [if_pos h4] at hv hw
        simp only [Bool.and_eq_true, decide_eq_true_eq] at hv hw
        exact Val.ext (hv.1.1.trans hw.1.1.symm) h3 ((List.length_eq_zero_iff.1 hv.1.2).trans (List.length_eq_zero_iff.1 hw.1.2).symm)
      · rw [if_neg h4] at hv hw
        by_cases h5 : f.ty = 13
        · rw [if_pos h5] at hv hw
          simp only [Bool.and_eq_true, decide_eq_true_eq] at hv hw
          exact Val.ext (hv.1.trans hw.1.symm) h3 ((List.length_eq_zero_iff.1 hv.2).trans (List.length_eq_zero_iff.1 hw.2).symm)
        · rw [if_neg h5, if_neg h2] at hv
          cases hv
theorem vals_inj0 {s : Sch} {f : Fld} : ∀ (l q : List Val), (∀ v ∈ l, v.ok s f = true ∧ v.n < 18446744073709551616 ∧ ∀ u ∈ v.m, InjT s u) → (∀ v ∈ q, v.ok s f = true ∧ v.n < 18446744073709551616 ∧ ∀ u ∈ v.m, u.fits) → l.map (Val.raw s f) = q.map (Val.raw s f) → l = q
  | [], [], _, _, _ => rfl
  | [], r :: q, _, _, h => by simp at h
  | r :: l, [], _, _, h => by simp at h
  | v :: l, w :: q, h1, h2, h => by
    simp only [List.map_cons, List.cons.injEq] at h
    have a := h1 v (by simp)
    have b := h2 w (by simp)
    rw [val_inj a.1 b.1 a.2.1 b.2.1 b.2.2 a.2.2 h.1, vals_inj0 l q (fun x hx => h1 x (by simp [hx])) (fun x hx => h2 x (by simp [hx])) h.2]
theorem num_vals {s : Sch} {f : Fld} (ht : numT f.ty = true) : ∀ (l q : List Val), (∀ v ∈ l, v.ok s f = true) → (∀ v ∈ q, v.ok s f = true) → l.map Val.n = q.map Val.n → l = q
  | [], [], _, _, _ => rfl
  | [], r :: q, _, _, h => by simp at h
  | r :: l, [], _, _, h => by simp at h
  | v :: l, w :: q, h1, h2, h => by
    simp only [List.map_cons, List.cons.injEq] at h
    have a := h1 v (by simp)
    have b := h2 w (by simp)
    rw [Val.ok_eq, if_pos ht] at a b
    simp only [Bool.and_eq_true, decide_eq_true_eq, beq_iff_eq] at a b
    have e : v = w := Val.ext h.1 (a.1.2.trans b.1.2.symm) ((List.length_eq_zero_iff.1 a.2).trans (List.length_eq_zero_iff.1 b.2).symm)
    rw [e, num_vals ht l q (fun x hx => h1 x (by simp [hx])) (fun x hx => h2 x (by simp [hx])) h.2]
theorem vals_inj {s : Sch} {f : Fld} {l q : List Val} (h1 : ∀ v ∈ l, v.ok s f = true ∧ v.n < 18446744073709551616 ∧ ∀ u ∈ v.m, InjT s u) (h2 : ∀ v ∈ q, v.ok s f = true ∧ v.n < 18446744073709551616 ∧ ∀ u ∈ v.m, u.fits) (h : raws s f l = raws s f q) : l = q := by
  unfold raws at h
  by_cases hp : f.packed = true
  · rw [if_pos hp, if_pos hp] at h
    have ht := packed_num hp
    have h3 : packB f.ty (l.map Val.n) = packB f.ty (q.map Val.n) := by simpa using h
    have may : ∀ {l : List Val}, (∀ v ∈ l, v.ok s f = true ∧ v.n < 18446744073709551616) → ∀ n ∈ l.map Val.n, mayT f.ty n = true ∧ n < 18446744073709551616 := by
      intro l hl n hn
      obtain ⟨v, hv, rfl⟩ := List.mem_map.1 hn
      have a := hl v hv
      refine ⟨?_, a.2⟩
      have a := a.1
      rw [Val.ok_eq, if_pos ht] at a
      simp only [Bool.and_eq_true] at a
      exact a.1.1
    exact num_vals ht l q (fun v hv => (h1 v hv).1) (fun v hv => (h2 v hv).1) (packB_inj ht _ _ (may fun v hv => ⟨(h1 v hv).1, (h1 v hv).2.1⟩) (may fun v hv => ⟨(h2 v hv).1, (h2 v hv).2.1⟩) h3)
  · rw [if_neg hp, if_neg hp] at h
    exact vals_inj0 l q h1 h2 h
/-! ### slots -/
theorem slotsOk_up {s : Sch} {m : Msg} : ∀ {l : List Slot} {a : Option Int} {b : List Str}, slotsOk s m l a b = true → (∀ n, a = some n → ∀ x ∈ l, n < x.num) ∧ l.Pairwise (fun x y => x.num < y.num)
  | [], _, _, _ => ⟨by simp, by simp⟩
  | y :: l, a, b, h => by
    simp only [slotsOk, Bool.and_eq_true] at h
    obtain ⟨h1, h2⟩ := slotsOk_up h.2
    refine ⟨fun n hn x hx => ?_, List.pairwise_cons.2 ⟨fun x hx => h1 y.num rfl x hx, h2⟩⟩
    subst hn
    have h3 : n < y.num := by simpa using h.1.1.1
    rcases List.mem_cons.1 hx with rfl | hx
    · exact h3
    · have := h1 y.num rfl x hx; omega
theorem Slot.raws_fine {s : Sch} {m : Msg} {x : Slot} (hf : ∀ f ∈ m.fields, fnum f.num = true) (hx : x.ok s m = true) (hn : ∀ v ∈ x.vals, v.n < 18446744073709551616) : (∀ r ∈ x.raws s m, r.fine ∧ r.num = x.num) ∧ x.raws s m ≠ [] := by
  obtain ⟨f, h1, h2, h3, h4, h5, h6⟩ := Slot.ok_field hx
  unfold Slot.raws
  rw [h1]
  refine ⟨fun r hr => ?_, ?_⟩
  · have := X.raws_fine (hf f h2) hn r hr
    exact ⟨this.1, this.2.trans h3⟩
  · show X.raws s f x.vals ≠ []
    unfold X.raws
    split
    · simp
    · intro e
      have := congrArg List.length e
      simp at this
      rw [this] at h5; simp at h5
theorem slots_inj {s : Sch} {m : Msg} (hf : ∀ f ∈ m.fields, fnum f.num = true) : ∀ (l q : List Slot), (∀ x ∈ l, x.ok s m = true ∧ ∀ v ∈ x.vals, v.n < 18446744073709551616 ∧ ∀ u ∈ v.m, InjT s u) → (∀ x ∈ q, x.ok s m = true ∧ ∀ v ∈ x.vals, v.n < 18446744073709551616 ∧ ∀ u ∈ v.m, u.fits) →
    l.Pairwise (fun x y => x.num < y.num) → q.Pairwise (fun x y => x.num < y.num) → l.flatMap (Slot.raws s m) = q.flatMap (Slot.raws s m) → l = q
  | [], [], _, _, _, _, _ => rfl
  | [], y :: q, _, h2, _, _, h => by
    have b := h2 y (by simp)
    have := (Slot.raws_fine hf b.1 fun v hv => (b.2 v hv).1).2
    simp only [List.flatMap_nil, List.flatMap_cons] at h
    exact absurd (List.append_eq_nil_iff.1 h.symm).1 this
  | x :: l, [], h1, _, _, _, h => by
    have a := h1 x (by simp)
    have := (Slot.raws_fine hf a.1 fun v hv => (a.2 v hv).1).2
    simp only [List.flatMap_nil, List.flatMap_cons] at h
    exact absurd (List.append_eq_nil_iff.1 h).1 this
  | x :: l, y :: q, h1, h2, p1, p2, h => by
    have a := h1 x (by simp)
    have b := h2 y (by simp)
    obtain ⟨a1, a2⟩ := Slot.raws_fine hf a.1 fun v hv => (a.2 v hv).1
    obtain ⟨b1, b2⟩ := Slot.raws_fine hf b.1 fun v hv => (b.2 v hv).1
    simp only [List.flatMap_cons] at h
    have hnum : x.num = y.num := by
      match hx : x.raws s m, hy : y.raws s m with
      | [], _ => exact absurd hx a2
      | _ :: _, [] => exact absurd hy b2
      | r :: _, r' :: _ =>
        rw [hx, hy] at h
        simp only [List.cons_append, List.cons.injEq] at h
        have e1 := (a1 r (by rw [hx]; simp)).2
        have e2 := (b1 r' (by rw [hy]; simp)).2
        rw [← e1, ← e2, h.1]
    have p1' := List.pairwise_cons.1 p1
    have p2' := List.pairwise_cons.1 p2
    obtain ⟨h3, h4⟩ := split_eq (P := fun r : Rw => r.num = x.num) (fun r hr => (a1 r hr).2) (fun r hr => (b1 r hr).2.trans hnum.symm)
      (fun r hr => by
        obtain ⟨z, hz, hr⟩ := List.mem_flatMap.1 hr
        have c := h1 z (by simp [hz])
        have := ((Slot.raws_fine hf c.1 fun v hv => (c.2 v hv).1).1 r hr).2
        have := p1'.1 z hz
        omega)
      (fun r hr => by
        obtain ⟨z, hz, hr⟩ := List.mem_flatMap.1 hr
        have c := h2 z (by simp [hz])
        have := ((Slot.raws_fine hf c.1 fun v hv => (c.2 v hv).1).1 r hr).2
        have := p2'.1 z hz
        omega) h
    have hxy : x = y := by
      obtain ⟨f, f1, _, _, f4, _, _⟩ := Slot.ok_field a.1
      obtain ⟨g, g1, _, _, g4, _, _⟩ := Slot.ok_field b.1
      rw [← hnum, f1] at g1
      cases g1
      unfold Slot.raws at h3
      rw [← hnum, f1] at h3
      exact Slot.ext hnum (vals_inj (s := s) (f := f) (fun v hv => ⟨f4 v hv, (a.2 v hv).1, (a.2 v hv).2⟩) (fun v hv => ⟨g4 v hv, (b.2 v hv).1, (b.2 v hv).2⟩) h3)
    rw [hxy, slots_inj hf l q (fun z hz => h1 z (by simp [hz])) (fun z hz => h2 z (by simp [hz])) p1'.2 p2'.2 h4]
theorem enc_inj1 {s : Sch} (hs : s.good) (t : Tree) (hb : t.fits) (ih : ∀ x ∈ t.slots, ∀ v ∈ x.vals, ∀ u ∈ v.m, InjT s u) : InjT s t := by
  intro name u hok huk hu h
  obtain ⟨hix, hxs, hrs, hE⟩ := Tree.ok_ix hok
  obtain ⟨hix2, hxs2, hrs2, hE2⟩ := Tree.ok_ix huk
  have hb1 := hb.here
  have hu1 := hu.here
  have hf : ∀ f ∈ (s.msgs[s.ixN name]'(Sch.ix_lt hix)).fields, fnum f.num = true := hs.n _ (List.getElem_mem _)
  have up : ∀ {t : Tree}, t.ok s name = true → t.slots.Pairwise (fun x y => x.num < y.num) ∧ ∀ r ∈ t.rest, (s.msgs[s.ixN name]'(Sch.ix_lt hix)).fix r.num = none := by
    intro t hk
    rw [Tree.ok_eq, Sch.ix_at hix] at hk
    simp only [Bool.and_eq_true] at hk
    refine ⟨(slotsOk_up hk.1).2, fun r hr => ?_⟩
    have := List.all_eq_true.1 hk.2 r hr
    simp only [restOK, Bool.and_eq_true, Option.isNone_iff_eq_none] at this
    exact this.2
  rw [hE, hE2, ← slots_enc, ← slots_enc, ← List.flatMap_append, ← List.flatMap_append] at h
  have fine : ∀ {t : Tree}, t.fit1 → (∀ x ∈ t.slots, x.ok s (s.msgs[s.ixN name]'(Sch.ix_lt hix)) = true) → (∀ r ∈ t.rest, r.right = true) → ∀ r ∈ t.slots.flatMap (Slot.raws s (s.msgs[s.ixN name]'(Sch.ix_lt hix))) ++ t.rest, r.fine := by
    intro t ht hx hr r h
    rcases List.mem_append.1 h with h | h
    · obtain ⟨x, h1, h2⟩ := List.mem_flatMap.1 h
      exact ((Slot.raws_fine hf (hx x h1) (ht.vn x h1)).1 r h2).1
    · exact ⟨hr r h, ht.rn r h⟩
  have h := raws_inj _ _ (fine hb1 hxs hrs) (fine hu1 hxs2 hrs2) h
  have known : ∀ {t : Tree}, t.fit1 → (∀ x ∈ t.slots, x.ok s (s.msgs[s.ixN name]'(Sch.ix_lt hix)) = true) → ∀ r ∈ t.slots.flatMap (Slot.raws s (s.msgs[s.ixN name]'(Sch.ix_lt hix))), (s.msgs[s.ixN name]'(Sch.ix_lt hix)).fix r.num ≠ none := by
    intro t ht hx r h
    obtain ⟨x, h1, h2⟩ := List.mem_flatMap.1 h
    rw [((Slot.raws_fine hf (hx x h1) (ht.vn x h1)).1 r h2).2]
    obtain ⟨f, hf1, _⟩ := Slot.ok_field (hx x h1)
    rw [hf1]; simp
  obtain ⟨h1, h2⟩ := split_eq (P := fun r : Rw => (s.msgs[s.ixN name]'(Sch.ix_lt hix)).fix r.num ≠ none) (known hb1 hxs) (known hu1 hxs2) (fun r hr hne => hne ((up hok).2 r hr)) (fun r hr hne => hne ((up huk).2 r hr)) h
  exact Tree.ext (slots_inj hf t.slots u.slots (fun x hx => ⟨hxs x hx, fun v hv => ⟨hb1.vn x hx v hv, ih x hx v hv⟩⟩) (fun x hx => ⟨hxs2 x hx, fun v hv => ⟨hu1.vn x hx v hv, fun w hw => hu.sub hw hv hx⟩⟩) (up hok).1 (up huk).1 h1) h2
theorem enc_inj {s : Sch} (hs : s.good) (t : Tree) (hb : t.fits) : InjT s t :=
  Tree.ind (Q := fun t => t.fits → InjT s t) (fun t ih hb => enc_inj1 hs t hb (fun x hx v hv u hu => ih x hx v hv u hu (hb.sub hu hv hx))) t hb
/-- two values' bytes are the same just if they are -/
theorem put_apart {s : Sch} (hs : s.good) {name : Str} {t u : Tree} (ht : t.fits) (hu : u.fits) (h1 : t.putE s name = 0) (h2 : u.putE s name = 0) : (t.putB s name == u.putB s name) = eqb t u := by
  obtain ⟨_, k1, _, _, e1⟩ := Tree.put_zero h1
  obtain ⟨_, k2, _, _, e2⟩ := Tree.put_zero h2
  rw [e1, e2]
  by_cases h : t = u
  · subst h; rw [eqb_self]; simp
  · rw [eqb_false.2 h]
    simp only [beq_eq_false_iff_ne, ne_eq]
    exact fun e => h (enc_inj hs t ht name u k1 k2 hu e)
end Go.Proofs.YtnpgcmeclkncnaaGreatDoor.X
/- EncodeApart. -/
set_option linter.unusedVariables false
set_option linter.unusedSimpArgs false
set_option linter.unusedSectionVars false
set_option maxRecDepth 100000
namespace Go.Proofs.YtnpgcmeclkncnaaGreatDoor.X
open Go Go.RowKit Go.Proofs
theorem asz60_ML : asz Tryz.prog 60 = some (2, 32, 2) := by kernel_rfl
theorem fn20_ML : isFn Tryz.prog 20 = true := by kernel_rfl
theorem fn21_ML : isFn Tryz.prog 21 = true := by kernel_rfl
theorem fn22_ML : isFn Tryz.prog 22 = true := by kernel_rfl
theorem fn23_ML : isFn Tryz.prog 23 = true := by kernel_rfl
theorem fn24_ML : isFn Tryz.prog 24 = true := by kernel_rfl
theorem fn26_ML : isFn Tryz.prog 26 = true := by kernel_rfl
theorem fn27_ML : isFn Tryz.prog 27 = true := by kernel_rfl
theorem fn28_ML : isFn Tryz.prog 28 = true := by kernel_rfl
theorem lk25_ML : lk Tryz.prog 25 = some (true, 2) := by kernel_rfl
theorem lk32_ML : lk Tryz.prog 32 = some (true, 2) := by kernel_rfl
theorem un4_ML : Tryz.prog.underlying 4 = some TypeDesc.bool := Tryz.underlying4
/-- &a[i] of an array of such elements in a local box -/
theorem op_iae {P : Program} {N : Nat} {s : St} {d : Nat} {ty : TypeId} {pos : String} {af : Array Edge} {g : Option (Nat × Bool)} {t1 e : TypeId} {x i : Operand} {k off m sz : Nat} {ik : IntKind} {n : Int} (hN : d < N) (ht : asz P t1 = some (m, e, sz)) (hx : opd x s = some (.lp k off)) (hi : opv i s = some (.int ik n)) (h0 : 0 ≤ n) (h1 : n < m) :
    OpOK P N ⟨some d, .indexAddr t1 x i, ty, pos, af, g⟩ s (rd x ++ rd i) [(.s d, .sv (.lp k (off + n.toNat * sz)))] :=
  OpOK.val rfl hN fun E G L a w t hr hR => by
    obtain ⟨blk, hb, hv⟩ := opd_sound hr hR.left hx
    have hn := V_int (opv_sound hr hR.right hi)
    unfold asz at ht
    split at ht
    · rename_i n' e' hu
      obtain ⟨inf, hinf, e2⟩ := Option.map_eq_some_iff.1 ht
      simp only [Prod.mk.injEq] at e2
      obtain ⟨rfl, rfl, hsize⟩ := e2
      refine ⟨.pointer (some ⟨blk, off + n.toNat * sz, none⟩), ?_, ⟨blk, hb, rfl⟩⟩
      simp [execOp, hv, hn, Instr.indexAt, Instr.sureAddr, asIntOf, run_underlying hu, h0, h1, sizeOf, typeInfo, hinf, hsize, Addr.add_lit]
    · cases ht
/-- two values' cells -/
def twoC (a b : Tree) : List AV := [.sl (a.slots.map Slot.av), .sl (a.rest.map Rw.av), .sl (b.slots.map Slot.av), .sl (b.rest.map Rw.av)]
theorem l_apart (s : Sch) (hsl : s.lens) (name : Str) (t u : Tree) (hb : t.fits) (hu : u.fits) : Pure Tryz.prog 6 [s.av, .str name, .agg (twoC t u)] (.bool true) := by
  refine Pure.of_tri Tryz.func6 rfl rfl (ltb rfl) fun H => ?_
  refine Tri.seq ?_
  refine Tri.region ?_
  refine TriL.c2 rfl (op_box (ltb rfl) rfl rfl rfl) ?_
  refine TriL.c2 rfl (op_box (ltb rfl) rfl rfl rfl) ?_
  refine TriL.c1 rfl (op_as (ltb rfl) rfl) ?_
  refine TriL.nil ?_
  refine Tri.seq ?_
  refine Tri.seq ?_
  refine Tri.region ?_
  refine TriL.c1 rfl (op_ldl (ltb rfl) lk25_ML rfl rfl rfl) ?_
  refine TriL.c1 rfl (op_call (ltb rfl) fn20_ML rfl (r_small s hsl)) ?_
  refine TriL.c1 rfl (op_un (ltb rfl) rfl rfl) ?_
  refine TriL.c1 rfl (op_mv (ltb rfl) rfl) ?_
  refine TriL.split (d := 14) rfl (fun hg1 => ?_) (fun hg1 => ?_)
  · refine TriL.skipu rfl rfl (ltb rfl) (ltb rfl) rfl hg1 ?_
    refine TriL.skipu rfl rfl (ltb rfl) (ltb rfl) rfl hg1 ?_
    refine TriL.skipu rfl rfl (ltb rfl) (ltb rfl) rfl hg1 ?_
    refine TriL.c1 rfl (op_pickt (ltb rfl) rfl hg1 rfl) ?_
    refine TriL.c1 rfl (op_mv (ltb rfl) rfl) ?_
    refine TriL.skipu rfl rfl (ltb rfl) (ltb rfl) rfl rfl ?_
    refine TriL.skipu rfl rfl (ltb rfl) (ltb rfl) rfl rfl ?_
    refine TriL.skipu rfl rfl (ltb rfl) (ltb rfl) rfl rfl ?_
    refine TriL.skipu rfl rfl (ltb rfl) (ltb rfl) rfl rfl ?_
    refine TriL.c1 rfl (op_pickt (ltb rfl) rfl rfl rfl) ?_
    refine TriL.c1 rfl (op_mv (ltb rfl) rfl) ?_
    refine TriL.skipu rfl rfl (ltb rfl) (ltb rfl) rfl rfl ?_
    refine TriL.skipu rfl rfl (ltb rfl) (ltb rfl) rfl rfl ?_
    refine TriL.skipu rfl rfl (ltb rfl) (ltb rfl) rfl rfl ?_
    refine TriL.skipu rfl rfl (ltb rfl) (ltb rfl) rfl rfl ?_
    refine TriL.c1 rfl (op_pickt (ltb rfl) rfl rfl rfl) ?_
    refine TriL.nil ?_
    refine Tri.condT rfl rfl ?_
    refine Tri.seq ?_
    refine Tri.region ?_
    refine TriL.c1 rfl (op_call (ltb rfl) fn23_ML rfl p_live) ?_
    refine TriL.c1 rfl (op_as (ltb rfl) rfl) ?_
    refine TriL.nil ?_
    refine Tri.ret ?_
    exact ⟨.inr rfl, (ResOK.r1 rfl (.tmp rfl .nil)).cast rfl, rfl⟩
  · refine TriL.g1 rfl (ltb rfl) rfl hg1 (op_ldl (ltb rfl) lk25_ML rfl rfl rfl) ?_
    refine TriL.g1 rfl (ltb rfl) rfl hg1 (op_call (ltb rfl) fn21_ML rfl (r_chk s hsl.big)) ?_
    refine TriL.g1 rfl (ltb rfl) rfl hg1 (op_bin (ltb rfl) rfl rfl rfl) ?_
    refine TriL.c1 rfl (op_pickf (ltb rfl) rfl hg1 rfl) ?_
    refine TriL.c1 rfl (op_mv (ltb rfl) rfl) ?_
    refine TriL.split (d := 19) rfl (fun hg2 => ?_) (fun hg2 => ?_)
    · refine TriL.skipu rfl rfl (ltb rfl) (ltb rfl) rfl hg2 ?_
      refine TriL.skipu rfl rfl (ltb rfl) (ltb rfl) rfl hg2 ?_
      refine TriL.skipu rfl rfl (ltb rfl) (ltb rfl) rfl hg2 ?_
      refine TriL.skipu rfl rfl (ltb rfl) (ltb rfl) rfl hg2 ?_
      refine TriL.c1 rfl (op_pickt (ltb rfl) rfl hg2 rfl) ?_
      refine TriL.c1 rfl (op_mv (ltb rfl) rfl) ?_
      refine TriL.skipu rfl rfl (ltb rfl) (ltb rfl) rfl rfl ?_
      refine TriL.skipu rfl rfl (ltb rfl) (ltb rfl) rfl rfl ?_
      refine TriL.skipu rfl rfl (ltb rfl) (ltb rfl) rfl rfl ?_
      refine TriL.skipu rfl rfl (ltb rfl) (ltb rfl) rfl rfl ?_
      refine TriL.c1 rfl (op_pickt (ltb rfl) rfl rfl rfl) ?_
      refine TriL.nil ?_
      refine Tri.condT rfl rfl ?_
      refine Tri.seq ?_
      refine Tri.region ?_
      refine TriL.c1 rfl (op_call (ltb rfl) fn23_ML rfl p_live) ?_
      refine TriL.c1 rfl (op_as (ltb rfl) rfl) ?_
      refine TriL.nil ?_
      refine Tri.ret ?_
      exact ⟨.inr rfl, (ResOK.r1 rfl (.tmp rfl .nil)).cast rfl, rfl⟩
    · refine TriL.g1 rfl (ltb rfl) rfl hg2 (op_iae (ltb rfl) asz60_ML rfl rfl (by decide) (by decide)) ?_
      refine TriL.g1 rfl (ltb rfl) rfl hg2 (op_ldl (ltb rfl) lk32_ML rfl rfl rfl) ?_
      refine TriL.g1 rfl (ltb rfl) rfl hg2 (op_call (ltb rfl) fn22_ML rfl (r_tsmall t hb.big)) ?_
      refine TriL.g1 rfl (ltb rfl) rfl hg2 (op_un (ltb rfl) rfl rfl) ?_
      refine TriL.c1 rfl (op_pickf (ltb rfl) rfl hg2 rfl) ?_
      refine TriL.c1 rfl (op_mv (ltb rfl) rfl) ?_
      refine TriL.split (d := 25) rfl (fun hg3 => ?_) (fun hg3 => ?_)
      · refine TriL.skipu rfl rfl (ltb rfl) (ltb rfl) rfl hg3 ?_
        refine TriL.skipu rfl rfl (ltb rfl) (ltb rfl) rfl hg3 ?_
        refine TriL.skipu rfl rfl (ltb rfl) (ltb rfl) rfl hg3 ?_
        refine TriL.skipu rfl rfl (ltb rfl) (ltb rfl) rfl hg3 ?_
        refine TriL.c1 rfl (op_pickt (ltb rfl) rfl hg3 rfl) ?_
        refine TriL.nil ?_
        refine Tri.condT rfl rfl ?_
        refine Tri.seq ?_
        refine Tri.region ?_
        refine TriL.c1 rfl (op_call (ltb rfl) fn23_ML rfl p_live) ?_
        refine TriL.c1 rfl (op_as (ltb rfl) rfl) ?_
        refine TriL.nil ?_
        refine Tri.ret ?_
        exact ⟨.inr rfl, (ResOK.r1 rfl (.tmp rfl .nil)).cast rfl, rfl⟩
      · refine TriL.g1 rfl (ltb rfl) rfl hg3 (op_iae (ltb rfl) asz60_ML rfl rfl (by decide) (by decide)) ?_
        refine TriL.g1 rfl (ltb rfl) rfl hg3 (op_ldl (ltb rfl) lk32_ML rfl rfl rfl) ?_
        refine TriL.g1 rfl (ltb rfl) rfl hg3 (op_call (ltb rfl) fn22_ML rfl (r_tsmall u hu.big)) ?_
        refine TriL.g1 rfl (ltb rfl) rfl hg3 (op_un (ltb rfl) rfl rfl) ?_
        refine TriL.c1 rfl (op_pickf (ltb rfl) rfl hg3 rfl) ?_
        refine TriL.nil ?_
        refine Tri.cond rfl (fun hc4 => ?_) (fun hc4 => ?_)
        · refine Tri.seq ?_
          refine Tri.region ?_
          refine TriL.c1 rfl (op_call (ltb rfl) fn23_ML rfl p_live) ?_
          refine TriL.c1 rfl (op_as (ltb rfl) rfl) ?_
          refine TriL.nil ?_
          refine Tri.ret ?_
          exact ⟨.inr rfl, (ResOK.r1 rfl (.tmp rfl .nil)).cast rfl, rfl⟩
        · refine Tri.skip ?_
          refine Tri.seq ?_
          refine Tri.region ?_
          refine TriL.c1 rfl (op_ldl (ltb rfl) lk25_ML rfl rfl rfl) ?_
          refine TriL.c1 rfl (op_mv (ltb rfl) rfl) ?_
          refine TriL.c1 rfl (op_iae (ltb rfl) asz60_ML rfl rfl (by decide) (by decide)) ?_
          refine TriL.c1 rfl (op_ldl (ltb rfl) lk32_ML rfl rfl rfl) ?_
          refine TriL.c1 rfl (op_call (ltb rfl) fn24_ML rfl (p_put s (Sch.chk_good (by simpa using hg2)) name t hb (fun k => by have := (Tree.small_enc (Sch.chk_good (by simpa using hg2)) hb (nfl hg3) k).2; omega) (fun k => by have := (Tree.small_enc (Sch.chk_good (by simpa using hg2)) hb (nfl hg3) k).1; omega))) ?_
          refine TriL.c1 rfl (op_mv (ltb rfl) rfl) ?_
          refine TriL.c1 rfl (op_ext (ltb rfl) rfl rfl) ?_
          refine TriL.c1 rfl (op_ext (ltb rfl) rfl rfl) ?_
          refine TriL.c1 rfl (op_as (ltb rfl) rfl) ?_
          refine TriL.c1 rfl (op_as (ltb rfl) rfl) ?_
          refine TriL.nil ?_
          refine Tri.seq ?_
          refine Tri.region ?_
          refine TriL.c1 rfl (op_ldl (ltb rfl) lk25_ML rfl rfl rfl) ?_
          refine TriL.c1 rfl (op_mv (ltb rfl) rfl) ?_
          refine TriL.c1 rfl (op_iae (ltb rfl) asz60_ML rfl rfl (by decide) (by decide)) ?_
          refine TriL.c1 rfl (op_ldl (ltb rfl) lk32_ML rfl rfl rfl) ?_
          refine TriL.c1 rfl (op_call (ltb rfl) fn24_ML rfl (p_put s (Sch.chk_good (by simpa using hg2)) name u hu (fun k => by have := (Tree.small_enc (Sch.chk_good (by simpa using hg2)) hu (nfl hc4) k).2; omega) (fun k => by have := (Tree.small_enc (Sch.chk_good (by simpa using hg2)) hu (nfl hc4) k).1; omega))) ?_
          refine TriL.c1 rfl (op_mv (ltb rfl) rfl) ?_
          refine TriL.c1 rfl (op_ext (ltb rfl) rfl rfl) ?_
          refine TriL.c1 rfl (op_ext (ltb rfl) rfl rfl) ?_
          refine TriL.c1 rfl (op_as (ltb rfl) rfl) ?_
          refine TriL.c1 rfl (op_as (ltb rfl) rfl) ?_
          refine TriL.nil ?_
          refine Tri.seq ?_
          refine Tri.seq ?_
          refine Tri.region ?_
          refine TriL.c1 rfl (op_mv (ltb rfl) rfl) ?_
          refine TriL.c1 rfl (op_call (ltb rfl) fn27_ML rfl (p_lnum _)) ?_
          refine TriL.c1 rfl (op_bin (ltb rfl) rfl rfl rfl) ?_
          refine TriL.c1 rfl (op_mv (ltb rfl) rfl) ?_
          refine TriL.split (d := 51) rfl (fun hg5 => ?_) (fun hg5 => ?_)
          · refine TriL.skipu rfl rfl (ltb rfl) (ltb rfl) rfl hg5 ?_
            refine TriL.skipu rfl rfl (ltb rfl) (ltb rfl) rfl hg5 ?_
            refine TriL.skipu rfl rfl (ltb rfl) (ltb rfl) rfl hg5 ?_
            refine TriL.c1 rfl (op_pickt (ltb rfl) rfl hg5 rfl) ?_
            refine TriL.nil ?_
            refine Tri.condT rfl rfl ?_
            refine Tri.seq ?_
            refine Tri.region ?_
            refine TriL.c1 rfl (op_call (ltb rfl) fn23_ML rfl p_live) ?_
            refine TriL.c1 rfl (op_as (ltb rfl) rfl) ?_
            refine TriL.nil ?_
            refine Tri.ret ?_
            exact ⟨.inr rfl, (ResOK.r1 rfl (.tmp rfl .nil)).cast rfl, rfl⟩
          · refine TriL.g1 rfl (ltb rfl) rfl hg5 (op_mv (ltb rfl) rfl) ?_
            refine TriL.g1 rfl (ltb rfl) rfl hg5 (op_call (ltb rfl) fn27_ML rfl (p_lnum _)) ?_
            refine TriL.g1 rfl (ltb rfl) rfl hg5 (op_bin (ltb rfl) rfl rfl rfl) ?_
            refine TriL.c1 rfl (op_pickf (ltb rfl) rfl hg5 rfl) ?_
            refine TriL.nil ?_
            refine Tri.cond rfl (fun hc6 => ?_) (fun hc6 => ?_)
            · refine Tri.seq ?_
              refine Tri.region ?_
              refine TriL.c1 rfl (op_call (ltb rfl) fn23_ML rfl p_live) ?_
              refine TriL.c1 rfl (op_as (ltb rfl) rfl) ?_
              refine TriL.nil ?_
              refine Tri.ret ?_
              exact ⟨.inr rfl, (ResOK.r1 rfl (.tmp rfl .nil)).cast rfl, rfl⟩
            · refine Tri.skip ?_
              refine Tri.seq ?_
              refine Tri.drawn mixed rfl ?_
              refine TriD.c1 rfl (op_mv (ltb rfl) rfl) ?_
              refine TriD.c1 rfl (op_mv (ltb rfl) rfl) ?_
              refine TriD.c1 rfl (op_call (ltb rfl) fn26_ML rfl (bytes_pure _ _)) ?_
              refine TriD.c1 rfl (op_iae (ltb rfl) asz60_ML rfl rfl (by decide) (by decide)) ?_
              refine TriD.c1 rfl (op_ldl (ltb rfl) lk32_ML rfl rfl rfl) ?_
              refine TriD.c1 rfl (op_iae (ltb rfl) asz60_ML rfl rfl (by decide) (by decide)) ?_
              refine TriD.c1 rfl (op_ldl (ltb rfl) lk32_ML rfl rfl rfl) ?_
              refine TriD.c1 rfl (op_call (ltb rfl) fn28_ML rfl (r_same t u hb.big)) ?_
              refine TriD.c1 rfl (op_eqb (ltb rfl) un4_ML rfl rfl) ?_
              refine TriD.c1 rfl (op_mv (ltb rfl) rfl) ?_
              refine TriD.split (d := 66) rfl (fun hg7 => ?_) (fun hg7 => ?_)
              · refine TriD.g1 rfl (ltb rfl) rfl hg7 (op_call (ltb rfl) fn23_ML rfl p_live) ?_
                refine TriD.c1 rfl (op_pickt (ltb rfl) rfl hg7 rfl) ?_
                refine TriD.c1 rfl (op_as (ltb rfl) rfl) ?_
                refine TriD.nil (by kernel_rfl) (Kept.now ?_)
                refine Tri.ret ?_
                exact ⟨.inr rfl, (ResOK.r1 rfl (.tmp rfl .nil)).cast rfl, rfl⟩
              · refine TriD.skipu rfl rfl (ltb rfl) (ltb rfl) rfl hg7 ?_
                refine TriD.c1 rfl (op_pickf (ltb rfl) rfl hg7 rfl) ?_
                refine TriD.c1 rfl (op_as (ltb rfl) rfl) ?_
                refine TriD.nil (by kernel_rfl) (Kept.now ?_)
                refine Tri.ret ?_
                exact ⟨.inr rfl, (ResOK.r1 rfl (.tmp rfl .nil)).cast (by rw [put_apart (Sch.chk_good (by simpa using hg2)) hb hu (by simpa using hg5) (by simpa using hc6)] at hg7; simp at hg7), rfl⟩
end Go.Proofs.YtnpgcmeclkncnaaGreatDoor.X
/- Whatever comes in as a schema or a value is one. No condition. -/
set_option linter.unusedVariables false
set_option linter.unusedSimpArgs false
set_option maxRecDepth 100000
namespace Go.Proofs.YtnpgcmeclkncnaaGreatDoor.X
open Go Go.RowKit Go.Proofs
section
variable {P : Program} {n : Nat} {t e : TypeId} {acs : List AV}
theorem ty_int {k : IntKind} (hu : P.underlying t = some (.int k)) (h : Ty P n t acs) : ∃ m, acs = [.int k m] ∧ (Lit.int k m).wf = true := by
  cases n with
  | zero => exact h.elim
  | succ n => unfold Ty at h; rw [hu] at h; exact h
theorem ty_bool (hu : P.underlying t = some .bool) (h : Ty P n t acs) : ∃ b, acs = [.bool b] := by
  cases n with
  | zero => exact h.elim
  | succ n => unfold Ty at h; rw [hu] at h; exact h
theorem ty_str (hu : P.underlying t = some .string) (h : Ty P n t acs) : ∃ s : Str, acs = [.str s] ∧ s.length ≤ 140737488355328 := by
  cases n with
  | zero => exact h.elim
  | succ n => unfold Ty at h; rw [hu] at h; obtain ⟨s, h1, h2⟩ := h; exact ⟨s, h1, by unfold reachBytes at h2; omega⟩
theorem ty_slice (hu : P.underlying t = some (.slice e)) (hb : 1 ≤ P.bytesOf e) (h : Ty P n t acs) : ∃ (k : Nat) (css : List (List AV)), k < n ∧ acs = [.sl (css.map (pack P e))] ∧ css.length ≤ 140737488355328 ∧ ∀ c ∈ css, Ty P k e c := by
  cases n with
  | zero => exact h.elim
  | succ n =>
    unfold Ty at h; rw [hu] at h
    obtain ⟨css, h1, h2, h3⟩ := h
    refine ⟨n, css, by omega, h1, ?_, h3⟩
    have : css.length * 1 ≤ css.length * P.bytesOf e := Nat.mul_le_mul_left _ hb
    unfold reachBytes at h2
    omega
theorem ty_struct {fs : Array Field} (hu : P.underlying t = some (.struct fs)) (h : Ty P n t acs) : ∃ k, k < n ∧ TyF P (Ty P k) (fs.toList.map (·.type)) acs := by
  cases n with
  | zero => exact h.elim
  | succ n => unfold Ty at h; rw [hu] at h; exact ⟨n, by omega, h⟩
theorem ty_array {m : Nat} (hu : P.underlying t = some (.array m e)) (h : Ty P n t acs) : ∃ k, k < n ∧ TyF P (Ty P k) (List.replicate m e) acs := by
  cases n with
  | zero => exact h.elim
  | succ n => unfold Ty at h; rw [hu] at h; exact ⟨n, by omega, h⟩
theorem tyf_cons {R : TypeId → List AV → Prop} {t : TypeId} {ts : List TypeId} (h : TyF P R (t :: ts) acs) : ∃ a b, acs = a ++ b ∧ R t a ∧ TyF P R ts b := by
  obtain ⟨a, b, h1, _, h3, h4⟩ := h; exact ⟨a, b, h1, h3, h4⟩
theorem tyf_nil {R : TypeId → List AV → Prop} (h : TyF P R [] acs) : acs = [] := h
theorem pack_struct {fs : Array Field} (hu : P.underlying t = some (.struct fs)) (cs : List AV) : pack P t cs = .agg cs := by unfold pack; rw [hu]
theorem list_of {α : Type} {f : α → List AV} {Q : α → Prop} : ∀ {css : List (List AV)}, (∀ c ∈ css, ∃ x : α, c = f x ∧ Q x) → ∃ xs : List α, css = xs.map f ∧ ∀ x ∈ xs, Q x
  | [], _ => ⟨[], rfl, by simp⟩
  | c :: css, h => by
    obtain ⟨x, h1, h2⟩ := h c (by simp)
    obtain ⟨xs, h3, h4⟩ := list_of (css := css) fun c hc => h c (by simp [hc])
    exact ⟨x :: xs, by simp [h1, h3], by intro y hy; rcases List.mem_cons.1 hy with rfl | hy; exact h2; exact h4 y hy⟩
end
theorem map_pack {α : Type} {P : Program} {t : TypeId} {f : α → List AV} {g : α → AV} (h : ∀ x, pack P t (f x) = g x) (xs : List α) : (xs.map f).map (pack P t) = xs.map g := by
  rw [List.map_map]; congr 1; funext x; exact h x
theorem wfU64 {m : Int} (h : (Lit.int .u64 m).wf = true) : ∃ k : Nat, m = (k : Int) ∧ k < 18446744073709551616 := by
  have : 0 ≤ m ∧ m ≤ 18446744073709551615 := by simpa [Lit.wf, IntKind.min, IntKind.max, IntKind.signed, IntKind.bits] using h
  exact ⟨m.toNat, by omega, by omega⟩
abbrev TY := Ty Tryz.prog
theorem ty_fld {n : Nat} {acs : List AV} (h : TY n 98 acs) : ∃ f : Fld, acs = f.cells := by
  obtain ⟨k, _, h⟩ := ty_struct Tryz.underlying98 h
  obtain ⟨a1, b1, rfl, h1, wa1⟩ := tyf_cons h; obtain ⟨s1, rfl, _⟩ := ty_str Tryz.underlying9 h1
  obtain ⟨a2, b2, rfl, h1, wa2⟩ := tyf_cons wa1; obtain ⟨s2, rfl, _⟩ := ty_int Tryz.underlying3 h1
  obtain ⟨a3, b3, rfl, h1, wa3⟩ := tyf_cons wa2; obtain ⟨s3, rfl, _⟩ := ty_int Tryz.underlying3 h1
  obtain ⟨a4, b4, rfl, h1, wa4⟩ := tyf_cons wa3; obtain ⟨s4, rfl, _⟩ := ty_str Tryz.underlying9 h1
  obtain ⟨a5, b5, rfl, h1, wa5⟩ := tyf_cons wa4; obtain ⟨s5, rfl⟩ := ty_bool Tryz.underlying4 h1
  obtain ⟨a6, b6, rfl, h1, wa6⟩ := tyf_cons wa5; obtain ⟨s6, rfl⟩ := ty_bool Tryz.underlying4 h1
  obtain ⟨a7, b7, rfl, h1, wa7⟩ := tyf_cons wa6; obtain ⟨s7, rfl, _⟩ := ty_str Tryz.underlying9 h1
  obtain rfl := tyf_nil wa7
  exact ⟨⟨s1, s2, s3, s4, s5, s6, s7⟩, rfl⟩
theorem pk_fld (f : Fld) : pack Tryz.prog 98 f.cells = f.av := pack_struct Tryz.underlying98 _
theorem pk_int (m : Int) : pack Tryz.prog 3 [.int .i64 m] = iAV m := by unfold pack; rw [Tryz.underlying3]; rfl
theorem ty_msg {n : Nat} {acs : List AV} (h : TY n 78 acs) : ∃ m : Msg, acs = m.cells ∧ m.fields.length ≤ 140737488355328 := by
  obtain ⟨k, _, h⟩ := ty_struct Tryz.underlying78 h
  obtain ⟨a1, b1, rfl, h1, wa1⟩ := tyf_cons h; obtain ⟨s1, rfl, _⟩ := ty_str Tryz.underlying9 h1
  obtain ⟨a2, b2, rfl, h1, wa2⟩ := tyf_cons wa1; obtain ⟨k2, l2, _, rfl, e2, h2⟩ := ty_slice Tryz.underlying76 (by decide +kernel) h1
  obtain ⟨a3, b3, rfl, h1, wa3⟩ := tyf_cons wa2; obtain ⟨k3, l3, _, rfl, e3, h3⟩ := ty_slice Tryz.underlying67 (by decide +kernel) h1
  obtain rfl := tyf_nil wa3
  obtain ⟨xs, rfl, _⟩ := list_of (f := Fld.cells) (Q := fun _ => True) fun c hc => (by obtain ⟨f, hf⟩ := ty_fld (h2 c hc); exact ⟨f, hf, trivial⟩)
  obtain ⟨ys, rfl, _⟩ := list_of (f := fun m : Int => [AV.int .i64 m]) (Q := fun _ => True) fun c hc => (by obtain ⟨m, hm, _⟩ := ty_int Tryz.underlying3 (h3 c hc); exact ⟨m, hm, trivial⟩)
  rw [map_pack pk_fld, map_pack pk_int]
  exact ⟨⟨s1, xs, ys⟩, rfl, by simpa using e2⟩
theorem pk_msg (f : Msg) : pack Tryz.prog 78 f.cells = f.av := pack_struct Tryz.underlying78 _
theorem ty_vlu {n : Nat} {acs : List AV} (h : TY n 96 acs) : ∃ f : Vlu, acs = f.cells := by
  obtain ⟨k, _, h⟩ := ty_struct Tryz.underlying96 h
  obtain ⟨a1, b1, rfl, h1, wa1⟩ := tyf_cons h; obtain ⟨s1, rfl, _⟩ := ty_str Tryz.underlying9 h1
  obtain ⟨a2, b2, rfl, h1, wa2⟩ := tyf_cons wa1; obtain ⟨s2, rfl, _⟩ := ty_int Tryz.underlying3 h1
  obtain rfl := tyf_nil wa2
  exact ⟨⟨s1, s2⟩, rfl⟩
theorem pk_vlu (f : Vlu) : pack Tryz.prog 96 f.cells = f.av := pack_struct Tryz.underlying96 _
theorem ty_enm {n : Nat} {acs : List AV} (h : TY n 94 acs) : ∃ m : Enm, acs = m.cells ∧ m.values.length ≤ 140737488355328 := by
  obtain ⟨k, _, h⟩ := ty_struct Tryz.underlying94 h
  obtain ⟨a1, b1, rfl, h1, wa1⟩ := tyf_cons h; obtain ⟨s1, rfl, _⟩ := ty_str Tryz.underlying9 h1
  obtain ⟨a2, b2, rfl, h1, wa2⟩ := tyf_cons wa1; obtain ⟨k2, l2, _, rfl, e2, h2⟩ := ty_slice Tryz.underlying92 (by decide +kernel) h1
  obtain rfl := tyf_nil wa2
  obtain ⟨xs, rfl, _⟩ := list_of (f := Vlu.cells) (Q := fun _ => True) fun c hc => (by obtain ⟨f, hf⟩ := ty_vlu (h2 c hc); exact ⟨f, hf, trivial⟩)
  rw [map_pack pk_vlu]
  exact ⟨⟨s1, xs⟩, rfl, by simpa using e2⟩
theorem pk_enm (f : Enm) : pack Tryz.prog 94 f.cells = f.av := pack_struct Tryz.underlying94 _
theorem ty_sch {n : Nat} {acs : List AV} (h : TY n 25 acs) : ∃ s : Sch, acs = s.cells ∧ s.lens := by
  obtain ⟨k, _, h⟩ := ty_struct Tryz.underlying25 h
  obtain ⟨a1, b1, rfl, h1, wa1⟩ := tyf_cons h; obtain ⟨k1, l1, _, rfl, e1, h1⟩ := ty_slice Tryz.underlying22 (by decide +kernel) h1
  obtain ⟨a2, b2, rfl, h2, wa2⟩ := tyf_cons wa1; obtain ⟨k2, l2, _, rfl, e2, h2⟩ := ty_slice Tryz.underlying23 (by decide +kernel) h2
  obtain rfl := tyf_nil wa2
  obtain ⟨xs, rfl, hx⟩ := list_of (f := Enm.cells) (Q := fun m => m.values.length ≤ 140737488355328) fun c hc => ty_enm (h1 c hc)
  obtain ⟨ys, rfl, hy⟩ := list_of (f := Msg.cells) (Q := fun m => m.fields.length ≤ 140737488355328) fun c hc => ty_msg (h2 c hc)
  rw [map_pack pk_enm, map_pack pk_msg]
  exact ⟨⟨xs, ys⟩, rfl, ⟨by simpa using e1, by simpa using e2, hx, hy⟩⟩
theorem pk_sch (f : Sch) : pack Tryz.prog 25 f.cells = f.av := pack_struct Tryz.underlying25 _
theorem ty_raw {n : Nat} {acs : List AV} (h : TY n 131 acs) : ∃ f : Rw, acs = f.cells ∧ f.s.length ≤ 140737488355328 ∧ f.n < 18446744073709551616 := by
  obtain ⟨k, _, h⟩ := ty_struct Tryz.underlying131 h
  obtain ⟨a1, b1, rfl, h1, wa1⟩ := tyf_cons h; obtain ⟨s1, rfl, _⟩ := ty_int Tryz.underlying3 h1
  obtain ⟨a2, b2, rfl, h1, wa2⟩ := tyf_cons wa1; obtain ⟨s2, rfl, _⟩ := ty_int Tryz.underlying3 h1
  obtain ⟨a3, b3, rfl, h1, wa3⟩ := tyf_cons wa2; obtain ⟨s3, rfl, w3⟩ := ty_int Tryz.underlying84 h1
  obtain ⟨a4, b4, rfl, h1, wa4⟩ := tyf_cons wa3; obtain ⟨s4, rfl, w4⟩ := ty_str Tryz.underlying9 h1
  obtain rfl := tyf_nil wa4
  obtain ⟨k3, rfl, hk⟩ := wfU64 w3
  exact ⟨⟨s1, s2, k3, s4⟩, rfl, w4, hk⟩
theorem pk_raw (f : Rw) : pack Tryz.prog 131 f.cells = f.av := pack_struct Tryz.underlying131 _
theorem pk_val (f : Val) : pack Tryz.prog 86 f.cells = f.av := by rw [pack_struct Tryz.underlying86, Val.av_eq]
theorem pk_slot (f : Slot) : pack Tryz.prog 83 f.cells = f.av := by rw [pack_struct Tryz.underlying83, Slot.av_eq]
theorem pk_tree (f : Tree) : pack Tryz.prog 32 f.cells = f.av := by rw [pack_struct Tryz.underlying32, Tree.av_eq]
def Val.fits (v : Val) : Prop := v.n < 18446744073709551616 ∧ v.s.length ≤ 140737488355328 ∧ v.m.length ≤ 140737488355328 ∧ ∀ u ∈ v.m, u.fits
def Slot.fits (x : Slot) : Prop := x.vals.length ≤ 140737488355328 ∧ ∀ v ∈ x.vals, v.fits
theorem ty_val {n : Nat} {acs : List AV} (ih : ∀ k < n, ∀ acs, TY k 32 acs → ∃ t : Tree, acs = t.cells ∧ t.fits) (h : TY n 86 acs) : ∃ v : Val, acs = v.cells ∧ v.fits := by
  obtain ⟨k, hk, h⟩ := ty_struct Tryz.underlying86 h
  obtain ⟨a1, b1, rfl, h1, wa1⟩ := tyf_cons h; obtain ⟨s1, rfl, w1⟩ := ty_int Tryz.underlying84 h1
  obtain ⟨a2, b2, rfl, h1, wa2⟩ := tyf_cons wa1; obtain ⟨s2, rfl, w2⟩ := ty_str Tryz.underlying9 h1
  obtain ⟨a3, b3, rfl, h1, wa3⟩ := tyf_cons wa2; obtain ⟨k3, l3, hk3, rfl, e3, h3⟩ := ty_slice Tryz.underlying63 (by decide +kernel) h1
  obtain rfl := tyf_nil wa3
  obtain ⟨k1, rfl, hk1⟩ := wfU64 w1
  obtain ⟨xs, rfl, hx⟩ := list_of (f := Tree.cells) (Q := Tree.fits) fun c hc => ih k3 (by omega) c (h3 c hc)
  rw [map_pack pk_tree]
  exact ⟨.mk k1 s2 xs, rfl, hk1, w2, by rw [List.length_map] at e3; exact e3, hx⟩
theorem ty_slot {n : Nat} {acs : List AV} (ih : ∀ k < n, ∀ acs, TY k 32 acs → ∃ t : Tree, acs = t.cells ∧ t.fits) (h : TY n 83 acs) : ∃ v : Slot, acs = v.cells ∧ v.fits := by
  obtain ⟨k, hk, h⟩ := ty_struct Tryz.underlying83 h
  obtain ⟨a1, b1, rfl, h1, wa1⟩ := tyf_cons h; obtain ⟨s1, rfl, w1⟩ := ty_int Tryz.underlying3 h1
  obtain ⟨a3, b3, rfl, h1, wa3⟩ := tyf_cons wa1; obtain ⟨k3, l3, hk3, rfl, e3, h3⟩ := ty_slice Tryz.underlying81 (by decide +kernel) h1
  obtain rfl := tyf_nil wa3
  obtain ⟨xs, rfl, hx⟩ := list_of (f := Val.cells) (Q := Val.fits) fun c hc => ty_val (n := k3) (fun j hj => ih j (by omega)) (h3 c hc)
  rw [map_pack pk_val]
  exact ⟨.mk s1 xs, rfl, by rw [List.length_map] at e3; exact e3, hx⟩
theorem ty_tree : ∀ (n : Nat) (acs : List AV), TY n 32 acs → ∃ t : Tree, acs = t.cells ∧ t.fits := by
  intro n
  induction n using Nat.strongRecOn with
  | _ n ih =>
    intro acs h
    obtain ⟨k, hk, h⟩ := ty_struct Tryz.underlying32 h
    obtain ⟨a1, b1, rfl, h1, wa1⟩ := tyf_cons h; obtain ⟨k1, l1, hk1, rfl, e1, h1⟩ := ty_slice Tryz.underlying29 (by decide +kernel) h1
    obtain ⟨a2, b2, rfl, h2, wa2⟩ := tyf_cons wa1; obtain ⟨k2, l2, hk2, rfl, e2, h2⟩ := ty_slice Tryz.underlying30 (by decide +kernel) h2
    obtain rfl := tyf_nil wa2
    obtain ⟨xs, rfl, hx⟩ := list_of (f := Slot.cells) (Q := Slot.fits) fun c hc => ty_slot (n := k1) (fun j hj => ih j (by omega)) (h1 c hc)
    obtain ⟨ys, rfl, hy⟩ := list_of (f := Rw.cells) (Q := fun r => r.s.length ≤ 140737488355328 ∧ r.n < 18446744073709551616) fun c hc => ty_raw (h2 c hc)
    rw [map_pack pk_slot, map_pack pk_raw]
    refine ⟨.mk xs ys, rfl, Tree.Every.mk ⟨by rw [List.length_map] at e1; exact e1, by rw [List.length_map] at e2; exact e2, fun x h => (hx x h).1, fun x h v hv => ((hx x h).2 v hv).2.2.1, fun x h v hv => ((hx x h).2 v hv).2.1, fun x h v hv => ((hx x h).2 v hv).1, fun r h => (hy r h).1, fun r h => (hy r h).2⟩ fun x h v hv => ((hx x h).2 v hv).2.2.2⟩
end Go.Proofs.YtnpgcmeclkncnaaGreatDoor.X
/- The last text's frame: what a row lists of the package variables; arguments of plain types. No condition. -/
set_option linter.unusedVariables false
set_option maxRecDepth 100000
namespace Go.Proofs.YtnpgcmeclkncnaaGreatDoor.X
open Go Go.RowKit Go.Proofs
theorem fn2_LW : isFn Tryz.prog 2 = true := by kernel_rfl
/-- A row's wrap that keeps what is listed, the world's shape, and how much is reached. -/
theorem returns_sized {H : Type} {enc : TypeId × Value → H} {a : Assume} {C : Checked} {os : Os} {f : FuncId} {fn : Func} {s : ChangeSpec} {conds : List PathCond} {apart fresh handsOn again : Bool} {X : World → Array Value → Prop}
    (hX : ∀ (w w' : World) (args : Array Value), w.heap = w'.heap → X w args → X w' args) (own : ownKnob C.prog.godebug = none) (started : os.Started) (noInit : C.prog.inits.idxOf? f = none) (hfn : C.prog.funcs[f]? = some fn)
    (witness : ∃ (w : World) (tape : Tape) (i : Input), w.os = os ∧ (w.forCall tape i).Shaped C.prog ∧ i.vars = [] ∧ Input.okWide C.prog (w.forCall tape i) .any w.heap.size f i ∧
      ((s.pre enc C.prog fn conds apart (w.forCall tape i).memory i.args ∧ X (w.forCall tape i).memory i.args) ∧ sizedMet enc C.prog fn (OpenSpec.ofChange s) apart (w.forCall tape i).memory i.args) ∧ a.holds C.prog (lone (Frame.enter C.prog f i.args .normal) [] (w.forCall tape i)))
    (contract : ∀ (W : World) (base : Nat) (args : Array Value) (ds gs : List (DataW H)) (before : List MemPlace), (∀ (j : Nat) t v, fn.params[j]? = some t → args[j]? = some v → Value.okWide C.prog W .any base t v) →
      DataW.Whole enc C.prog fn.params.toList s.vars apart W args.toList ds gs before → (DataW.weightsEach C.prog (fn.params.toList ++ s.plain.varTypes C.prog) (ds ++ gs)).all (· ≤ reachBytes) = true → X W args → W.ShapedOpen C.prog →
      Calls C.prog f args W fun e W' => ∃ v, e = .returned v ∧ s.post enc C.prog fn apart fresh handsOn again W args v W') :
    ReturnsInHanded a C os f .any (fun w args => (s.pre enc C.prog fn conds apart w args ∧ X w args) ∧ sizedMet enc C.prog fn (OpenSpec.ofChange s) apart w args) (s.post enc C.prog fn apart fresh handsOn again) := by
  refine returnsInHanded_of_calls own started noInit witness fun w tape i _ hsh _ hok hpre _ => ?_
  obtain ⟨_, _, _, fn2_LW, hfn2, _, _, _, _, hval⟩ := hok
  cases Option.some.inj (hfn2.symm.trans hfn)
  obtain ⟨⟨⟨ds, gs, before, hw, _⟩, hx⟩, hz⟩ := hpre
  refine (contract (w.forCall tape i) w.heap.size i.args ds gs before hval (DataW.Whole.of_heap (w' := w.forCall tape i) (by rfl) hw) (hz.weights hw) (hX _ _ _ (by rfl) hx) hsh).mono ?_
  rintro e W' ⟨v, rfl, hp⟩
  exact ChangeSpec.post_blind hp
abbrev laid2 : List (String × DataW Unit) := [("unicode/utf8.acceptRanges", Rows.laid_unicode_utf8_acceptRanges), ("unicode/utf8.first", Rows.laid_unicode_utf8_first)]
theorem acceptD : (Rows.laid_unicode_utf8_acceptRanges : DataW Unit) = Lib.acceptData := by rfl
theorem firstD : (Rows.laid_unicode_utf8_first : DataW Unit) = Lib.firstData := by rfl
theorem known2 {W : World} (h : laidMetH Tryz.prog laid2 W) : gok W ∧ gN ≤ W.heap.size := by
  rw [MakeChecks.laidMetH_plain _ _ _ (by kernel_rfl)] at h
  have h1 : Lib.VarReads Tryz.prog W "unicode/utf8.first" Lib.firstData := firstD ▸ Lib.laidMet.reads h (by simp [laid2])
  have h2 : Lib.VarReads Tryz.prog W "unicode/utf8.acceptRanges" Lib.acceptData := acceptD ▸ Lib.laidMet.reads h (by simp [laid2])
  refine ⟨utf8Tabs_of_readsT (ρ := Tryz.laysVS_ren) (U8Types.of196 Tryz.laysVS) ⟨by kernel_rfl, by kernel_rfl, by kernel_rfl, by kernel_rfl, by kernel_rfl, by kernel_rfl, by kernel_rfl⟩ h1 h2, ?_⟩
  obtain ⟨g, t, cs, fuel, p, hg, _, hv, _⟩ := h2
  obtain rfl : 1 = g := Option.some.inj ((show Tryz.prog.globalNamed "unicode/utf8.acceptRanges" = some 1 by kernel_rfl).symm.trans hg)
  simp only [World.var?, hg, Option.bind_some] at hv
  split at hv
  · rename_i e
    have := (Array.getElem?_eq_some_iff.1 e).1
    exact this
  · cases hv
/-- the types of the data that the program speaks of -/
def plainS : List TypeId := [25, 22, 94, 92, 96, 23, 78, 76, 98, 67, 3, 9, 4, 84, 32, 29, 83, 81, 86, 63, 30, 131]
theorem plainS_ok : plainS.all (plainT Tryz.prog plainS) = true := by decide +kernel
section
variable {H : Type} {enc : TypeId × Value → H} {W : World}
theorem open_sch {r : Reach} {b0 : Nat} {v : Value} {d : DataW H} {ps : List MemPlace} (hval : Value.okWide Tryz.prog W r b0 25 v) (hd : DataW.Trod enc Tryz.prog W 0 (fun _ => true) true 25 v d ps) (hw : ∀ k ∈ d.weights Tryz.prog 25, k ≤ reachBytes) :
    ∃ s : Sch, s.lens ∧ V (gh0 W) v s.av := by
  obtain ⟨acs, n, h1, h2⟩ := open_arg plainS plainS_ok (by decide) hval hd hw
  obtain ⟨s, rfl, hs⟩ := ty_sch h2
  exact ⟨s, hs, pk_sch s ▸ h1⟩
end
end Go.Proofs.YtnpgcmeclkncnaaGreatDoor.X
/- Arguments of plain types: two values. No condition. -/
set_option linter.unusedVariables false
set_option maxRecDepth 100000
namespace Go.Proofs.YtnpgcmeclkncnaaGreatDoor.X
open Go Go.RowKit Go.Proofs
def plain2 : List TypeId := 60 :: plainS
theorem plain2_ok : plain2.all (plainT Tryz.prog plain2) = true := by decide +kernel
section
variable {H : Type} {enc : TypeId × Value → H} {W : World}
theorem open_tree2 {r : Reach} {b0 : Nat} {v : Value} {d : DataW H} {ps : List MemPlace} (hval : Value.okWide Tryz.prog W r b0 60 v) (hd : DataW.Trod enc Tryz.prog W 0 (fun _ => true) true 60 v d ps) (hw : ∀ k ∈ d.weights Tryz.prog 60, k ≤ reachBytes) :
    ∃ t : Tree × Tree, (t.1.fits ∧ t.2.fits) ∧ V (gh0 W) v (.agg (twoC t.1 t.2)) := by
  obtain ⟨acs, n, h1, h2⟩ := open_arg plain2 plain2_ok (by decide) hval hd hw
  obtain ⟨k, _, h3⟩ := ty_array Tryz.underlying60 h2
  obtain ⟨a1, b1, e1, h4, h5⟩ := tyf_cons h3
  obtain ⟨a2, b2, e2, h6, h7⟩ := tyf_cons h5
  have e3 := tyf_nil h7
  obtain ⟨t, e4, ht⟩ := ty_tree k _ h4
  obtain ⟨u, e5, hu⟩ := ty_tree k _ h6
  subst e3 e2 e1 e4 e5
  refine ⟨(t, u), ⟨ht, hu⟩, ?_⟩
  have e6 : pack Tryz.prog 60 (t.cells ++ (u.cells ++ [])) = .agg (twoC t u) := by unfold pack; rw [Tryz.underlying60]; rfl
  rwa [e6] at h1
end
end Go.Proofs.YtnpgcmeclkncnaaGreatDoor.X
