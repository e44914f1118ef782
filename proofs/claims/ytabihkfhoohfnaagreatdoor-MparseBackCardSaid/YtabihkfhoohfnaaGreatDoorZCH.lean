/- mparse: the reader: tokens one by one. -/
import Derived.Test.YtabihkfhoohfnaaGreatDoorZCG
import Derived.Test.YtabihkfhoohfnaaGreatDoorZCC
import Derived.Test.YtabihkfhoohfnaaGreatDoorZCD
set_option linter.unusedVariables false
set_option linter.unusedSimpArgs false
set_option linter.unusedSectionVars false
set_option maxRecDepth 100000
namespace Go.Proofs.YtabihkfhoohfnaaGreatDoor.X
open Go Go.RowKit Go.Proofs
theorem con116_q : Program.concrete Tryz.prog 116 = true := by kernel_rfl
theorem fn132_q : isFn Tryz.prog 132 = true := by kernel_rfl
theorem fn134_q : isFn Tryz.prog 134 = true := by kernel_rfl
theorem fn136_q : isFn Tryz.prog 136 = true := by kernel_rfl
theorem fn137_q : isFn Tryz.prog 137 = true := by kernel_rfl
theorem fn138_q : isFn Tryz.prog 138 = true := by kernel_rfl
theorem fn164_q : isFn Tryz.prog 164 = true := by kernel_rfl
theorem fn59_q : isFn Tryz.prog 59 = true := by kernel_rfl
theorem fn98_q : isFn Tryz.prog 98 = true := by kernel_rfl
theorem fn99_q : isFn Tryz.prog 99 = true := by kernel_rfl
theorem fo112_0_q : fo Tryz.prog 112 0 = some 0 := by kernel_rfl
theorem fo112_1_q : fo Tryz.prog 112 1 = some 1 := by kernel_rfl
theorem fo112_2_q : fo Tryz.prog 112 2 = some 2 := by kernel_rfl
theorem fo112_3_q : fo Tryz.prog 112 3 = some 3 := by kernel_rfl
theorem fo75_0_q : fo Tryz.prog 75 0 = some 0 := by kernel_rfl
theorem fo75_1_q : fo Tryz.prog 75 1 = some 1 := by kernel_rfl
theorem fof112_1_q : fof Tryz.prog 112 1 = some (1, false, 1) := by kernel_rfl
theorem fof112_4_q : fof Tryz.prog 112 4 = some (4, false, 1) := by kernel_rfl
theorem ie70_q : ie Tryz.prog 70 = some 5 := by kernel_rfl
theorem lk70_q : lk Tryz.prog 70 = some (false, 1) := by kernel_rfl
theorem lk88_q : lk Tryz.prog 88 = some (false, 1) := by kernel_rfl
theorem spl116_q : spl Tryz.prog 116 = some [(0, 1)] := by kernel_rfl
theorem zA116_q : zeroA Tryz.prog 116 = some [AV.int IntKind.i64 (0)] := by kernel_rfl
def Tk.cells (t : Tk) : List AV := [.int .i64 t.k, .str t.s, .int .u64 t.n, .bool t.neg, .int .i64 t.pos]
theorem Tk.av_eq (t : Tk) : t.av = .agg t.cells := rfl
/-- a reader at a token -/
def rdC (L : List Tk) (i : Nat) : List Hc := [.v (.sl (L.map Tk.av)), .v (.int .i64 (i : Int))]
def Hat (H : Hp) (id : Nat) (L : List Tk) (j : Nat) : Hp := H.set id (rdC L j)
/-- what a reader gives up with -/
def pv (L : List Tk) (j : Nat) : Value := .iface 116 (.agg #[.int .i64 ((tkAt L j).pos : Int)])
structure Toks (L : List Tk) : Prop where
 len : L.length ≤ 1000000
 fin : ∀ i, i < L.length → (tkAt L i).k ≠ 0 → i + 1 < L.length
 n : ∀ t ∈ L, t.n < 18446744073709551616
 m : ∀ t ∈ L, t.k = 4 → t.s.length = 1
theorem tkAt_eq {L : List Tk} {i : Nat} (h : i < L.length) : tkAt L i = L[i] := by simp [tkAt, h]
theorem tkAt_ix {L : List Tk} {i : Nat} (h : i < L.length) : (L.map Tk.av)[((i : Nat) : Int).toNat]? = some (.agg (tkAt L i).cells) := by
 rw [tkAt_eq h]; exact ixmE Tk.av_eq h
theorem inc1 {n : Nat} (h : n < 9223372036854775807) : IntKind.i64.wrap ((n : Int) + 1) = ((n + 1 : Nat) : Int) := inc h
/-- one token further -/
theorem Hat_inc (H : Hp) (id : Nat) {L : List Tk} (hL : Toks L) {i : Nat} (hi : i < L.length) : (Hat H id L i).set id ((rdC L i).set 1 (.v (.int .i64 (IntKind.i64.wrap ((i : Int) + 1))))) = Hat H id L (i + 1) := by
 rw [inc1 (by have := hL.len; omega)]; exact Hp.set_set
theorem now_run {L : List Tk} (hL : Toks L) (H : Hp) (id : Nat) {i : Nat} (hi : i < L.length) : Run Tryz.prog 59 [.op id 0] (Hat H id L i) (tkAt L i).av (Hat H id L i) := by
 refine Run.of_tri Tryz.func59 rfl rfl (ltb rfl) ?_
 refine Tri.seq (Tri.region ?_)
 refine TriL.c2 rfl (op_all (ltb rfl) zA112_q rfl) ?_
 refine TriL.nil (Tri.seq ?_)
 refine Tri.drawn mixed rfl ?_
 refine TriD.c1 rfl (op_mv (ltb rfl) rfl) ?_
 refine TriD.c1 rfl (op_nckc (ltb rfl) rfl) ?_
 refine TriD.c1 rfl (op_fac (ltb rfl) fo75_0_q rfl) ?_
 refine TriD.c1 rfl (op_ldc (ltb rfl) lk70_q rfl rfl Hp.set_obj rfl) ?_
 refine TriD.c1 rfl (op_mv (ltb rfl) rfl) ?_
 refine TriD.c1 rfl (op_nckc (ltb rfl) rfl) ?_
 refine TriD.c1 rfl (op_fac (ltb rfl) fo75_1_q rfl) ?_
 refine TriD.c1 rfl (op_ldc (ltb rfl) lk3_q rfl rfl Hp.set_obj rfl) ?_
 refine TriD.c1 rfl (op_iak (ltb rfl) ie70_q rfl rfl (Int.natCast_nonneg _) (tkAt_ix hi) rfl) ?_
 refine TriD.c1 rfl (op_ldk (ltb rfl) lk112_q rfl rfl) ?_
 refine TriD.c1 rfl (op_stl lk112_q rfl rfl rfl rfl rfl (leb rfl)) ?_
 refine TriD.nil (by kernel_rfl) (Kept.now ?_)
 refine Tri.ret ?_
 exact ⟨.inr rfl, (ResOK.r1 rfl (.cell lk112_q rfl rfl rfl rfl .nil)).cast rfl, rfl⟩
theorem fail_run {L : List Tk} (hL : Toks L) (H : Hp) (id : Nat) {i : Nat} (hi : i < L.length) : RunP Tryz.prog 137 [.op id 0] (Hat H id L i) (pv L i) (Hat H id L i) := by
 refine RunP.of_tri Tryz.func137 rfl rfl (ltb rfl) ?_
 refine Tri.regionP ?_
 refine TriLP.c1 rfl (op_mv (ltb rfl) rfl) ?_
 refine TriLP.c2 rfl (op_callh (ltb rfl) fn59_q rfl rfl (now_run hL H id hi)) ?_
 refine TriLP.c1 rfl (op_fld (ltb rfl) fof112_4_q rfl rfl (by intro _; exact leb rfl)) ?_
 refine TriLP.c1 rfl (op_bld (ltb rfl) spl116_q zA116_q rfl rfl) ?_
 refine TriLP.c1 rfl (op_mki (ltb rfl) con116_q rfl) ?_
 refine TriLP.panic rfl rfl ?_
 exact ⟨rfl, rfl⟩
theorem take_run {L : List Tk} (hL : Toks L) (H : Hp) (id : Nat) {i : Nat} (hi : i < L.length) (w : Str) : Run Tryz.prog 136 [.op id 0, .str w] (Hat H id L i) (.bool (gTake L w i)) (Hat H id L (if gTake L w i then i + 1 else i)) := by
 refine Run.of_tri Tryz.func136 rfl rfl (ltb rfl) ?_
 refine Tri.seq (Tri.region ?_)
 refine TriL.c1 rfl (op_as (ltb rfl) rfl) ?_
 refine TriL.nil (Tri.seq (Tri.region ?_))
 refine TriL.c1 rfl (op_mv (ltb rfl) rfl) ?_
 refine TriL.c2 rfl (op_callh (ltb rfl) fn59_q rfl rfl (now_run hL H id hi)) ?_
 refine TriL.c2 rfl (op_all (ltb rfl) zA112_q rfl) ?_
 refine TriL.c1 rfl (op_stl lk112_q rfl rfl rfl rfl rfl (leb rfl)) ?_
 refine TriL.nil (Tri.seq (Tri.seq (Tri.region ?_)))
 refine TriL.c1 rfl (op_fal (ltb rfl) fo112_1_q rfl) ?_
 refine TriL.c1 rfl (op_ldl (ltb rfl) lk9_q rfl rfl rfl) ?_
 refine TriL.c1 rfl (op_mv (ltb rfl) rfl) ?_
 refine TriL.c1 rfl (op_bin (ltb rfl) rfl rfl rfl) ?_
 refine TriL.c1 rfl (op_mv (ltb rfl) rfl) ?_
 refine TriL.split (d := 12) rfl (fun hg1 => ?_) (fun hg1 => ?_)
 ·iterate 4 (refine TriL.skipu rfl rfl (ltb rfl) (ltb rfl) rfl hg1 ?_)
  iterate 3 (refine TriL.skipg rfl rfl (ltb rfl) (ltb rfl) rfl ?_)
  refine TriL.skipu rfl rfl (ltb rfl) (ltb rfl) rfl hg1 ?_
  refine TriL.c1 rfl (op_pickt (ltb rfl) rfl hg1 rfl) ?_
  refine TriL.nil ?_
  refine Tri.condT rfl rfl ?_
  refine Tri.seq (Tri.region ?_)
  refine TriL.c1 rfl (op_as (ltb rfl) rfl) ?_
  refine TriL.nil (Tri.ret ?_)
  exact ⟨.inr rfl, (ResOK.r1 rfl (.tmp rfl .nil)).cast (congrArg AV.bool (by grind [gTake])), (congrArg (fun h => some (CV.hp h)) (congrArg (Hat H id L) (if_neg (by grind [gTake])).symm))⟩
 ·refine TriL.g1 rfl (ltb rfl) rfl hg1 (op_fal (ltb rfl) fo112_0_q rfl) ?_
  refine TriL.g1 rfl (ltb rfl) rfl hg1 (op_ldl (ltb rfl) lk3_q rfl rfl rfl) ?_
  refine TriL.g1 rfl (ltb rfl) rfl hg1 (op_bin (ltb rfl) rfl rfl rfl) ?_
  refine TriL.g1 rfl (ltb rfl) rfl hg1 (op_mv (ltb rfl) rfl) ?_
  refine TriL.split (d := 16) rfl (fun hg2 => ?_) (fun hg2 => ?_)
  ·refine TriL.g1 rfl (ltb rfl) rfl hg2 (op_fal (ltb rfl) fo112_0_q rfl) ?_
   refine TriL.g1 rfl (ltb rfl) rfl hg2 (op_ldl (ltb rfl) lk3_q rfl rfl rfl) ?_
   refine TriL.g1 rfl (ltb rfl) rfl hg2 (op_bin (ltb rfl) rfl rfl rfl) ?_
   refine TriL.g1 rfl (ltb rfl) rfl hg1 (op_pickt (ltb rfl) rfl hg2 rfl) ?_
   refine TriL.c1 rfl (op_pickf (ltb rfl) rfl hg1 rfl) ?_
   refine TriL.nil ?_
   refine Tri.cond rfl (fun hc3 => ?_) (fun hc3 => ?_)
   ·refine Tri.seq (Tri.region ?_)
    refine TriL.c1 rfl (op_as (ltb rfl) rfl) ?_
    refine TriL.nil (Tri.ret ?_)
    exact ⟨.inr rfl, (ResOK.r1 rfl (.tmp rfl .nil)).cast (congrArg AV.bool (by grind [gTake])), (congrArg (fun h => some (CV.hp h)) (congrArg (Hat H id L) (if_neg (by grind [gTake])).symm))⟩
   ·refine Tri.skip (Tri.seq (Tri.region ?_))
    refine TriL.c1 rfl (op_mv (ltb rfl) rfl) ?_
    refine TriL.c1 rfl (op_nckc (ltb rfl) rfl) ?_
    refine TriL.c1 rfl (op_fac (ltb rfl) fo75_1_q rfl) ?_
    refine TriL.c1 rfl (op_ldc (ltb rfl) lk3_q rfl rfl Hp.set_obj rfl) ?_
    refine TriL.c1 rfl (op_bin (ltb rfl) rfl rfl rfl) ?_
    refine TriL.c1 rfl (op_nckc (ltb rfl) rfl) ?_
    refine TriL.c1 rfl (op_fac (ltb rfl) fo75_1_q rfl) ?_
    refine TriL.c1 rfl (op_stc lk3_q rfl rfl Hp.set_obj rfl rfl rfl) ?_
    refine TriL.nil (Tri.seq (Tri.region ?_))
    refine TriL.c1 rfl (op_as (ltb rfl) rfl) ?_
    refine TriL.nil (Tri.ret ?_)
    exact ⟨.inr rfl, (ResOK.r1 rfl (.tmp rfl .nil)).cast (congrArg AV.bool (by grind [gTake])), (congrArg (fun h => some (CV.hp h)) ((Hat_inc H id hL hi).trans (congrArg (Hat H id L) (if_pos (by grind [gTake])).symm)))⟩
  ·iterate 3 (refine TriL.skipu rfl rfl (ltb rfl) (ltb rfl) rfl hg2 ?_)
   refine TriL.g1 rfl (ltb rfl) rfl hg1 (op_pickf (ltb rfl) rfl hg2 rfl) ?_
   refine TriL.c1 rfl (op_pickf (ltb rfl) rfl hg1 rfl) ?_
   refine TriL.nil ?_
   refine Tri.condF rfl rfl ?_
   refine Tri.skip (Tri.seq (Tri.region ?_))
   refine TriL.c1 rfl (op_mv (ltb rfl) rfl) ?_
   refine TriL.c1 rfl (op_nckc (ltb rfl) rfl) ?_
   refine TriL.c1 rfl (op_fac (ltb rfl) fo75_1_q rfl) ?_
   refine TriL.c1 rfl (op_ldc (ltb rfl) lk3_q rfl rfl Hp.set_obj rfl) ?_
   refine TriL.c1 rfl (op_bin (ltb rfl) rfl rfl rfl) ?_
   refine TriL.c1 rfl (op_nckc (ltb rfl) rfl) ?_
   refine TriL.c1 rfl (op_fac (ltb rfl) fo75_1_q rfl) ?_
   refine TriL.c1 rfl (op_stc lk3_q rfl rfl Hp.set_obj rfl rfl rfl) ?_
   refine TriL.nil (Tri.seq (Tri.region ?_))
   refine TriL.c1 rfl (op_as (ltb rfl) rfl) ?_
   refine TriL.nil (Tri.ret ?_)
   exact ⟨.inr rfl, (ResOK.r1 rfl (.tmp rfl .nil)).cast (congrArg AV.bool (by grind [gTake])), (congrArg (fun h => some (CV.hp h)) ((Hat_inc H id hL hi).trans (congrArg (Hat H id L) (if_pos (by grind [gTake])).symm)))⟩
def PR.In {α : Type} (n : Nat) : PR α → Prop
 | .ok _ j => j < n
 | .bad j => j < n
theorem PR.ok_lt {α : Type} {n j : Nat} {a : α} {r : PR α} (h : r.In n) (e : r = .ok a j) : j < n := by subst e; exact h
theorem PR.In.bind {α β : Type} {n : Nat} {r : PR α} {f : α → Nat → PR β} (h : r.In n) (hf : ∀ a j, j < n → (f a j).In n) : (r.bind f).In n := by
 cases r with
 | ok a j => exact hf a j h
 | bad j => exact h
theorem gTake_lt {L : List Tk} (hL : Toks L) {w : Str} {i : Nat} (hi : i < L.length) (h : gTake L w i = true) : i + 1 < L.length := by
 refine hL.fin i hi fun e => ?_
 simp [gTake, e] at h
theorem gNeed_in {L : List Tk} (hL : Toks L) {w : Str} {i : Nat} (hi : i < L.length) : (gNeed L w i).In L.length := by
 unfold gNeed
 split
 ·rename_i h; exact gTake_lt hL hi h
 ·exact hi
theorem gNeeds_in {L : List Tk} (hL : Toks L) {ws : List Str} : ∀ {i : Nat}, i < L.length → (gNeeds L ws i).In L.length := by
 induction ws with
 | nil => intro i hi; exact hi
 | cons w ws ih => intro i hi; exact (gNeed_in hL hi).bind fun _ j hj => ih hj
theorem gOf_in {L : List Tk} (hL : Toks L) {k : Nat} (hk : k ≠ 0) {p : Tk → Bool} {i : Nat} (hi : i < L.length) : (gOf L k p i).In L.length := by
 unfold gOf
 split
 ·rename_i h; exact hL.fin i hi (by omega)
 ·exact hi
theorem gName_in {L : List Tk} (hL : Toks L) {i : Nat} (hi : i < L.length) : (gName L i).In L.length := (gOf_in hL (by decide) hi).bind fun _ _ h => h
theorem gNum_in {L : List Tk} (hL : Toks L) {i : Nat} (hi : i < L.length) : (gNum L i).In L.length := (gOf_in hL (by decide) hi).bind fun _ _ h => h
theorem gGiven_in {L : List Tk} (hL : Toks L) {i : Nat} (hi : i < L.length) : (gGiven L i).In L.length := (gNeeds_in hL hi).bind fun _ j hj => gNum_in hL hj
theorem gTy_in {L : List Tk} (hL : Toks L) {such : Int → Bool} {i : Nat} (hi : i < L.length) : (gTy L such i).In L.length := (gOf_in hL (by decide) hi).bind fun _ _ h => h
theorem gKind_in {L : List Tk} (hL : Toks L) {i : Nat} (hi : i < L.length) : (gKind L i).In L.length := (gOf_in hL (by decide) hi).bind fun _ _ h => h
theorem gVal_in {L : List Tk} (hL : Toks L) {t : Int} {i : Nat} (hi : i < L.length) : (gVal L t i).In L.length := by
 unfold gVal
 split
 ·split
  ·rename_i h; exact gTake_lt hL hi h
  ·exact (gNeeds_in hL hi).bind fun _ _ h => h
 ·split
  ·exact (gOf_in hL (by decide) hi).bind fun _ _ h => h
  ·exact (gOf_in hL (by decide) hi).bind fun _ _ h => h
theorem gMore_in {L : List Tk} (hL : Toks L) : ∀ {n : Nat} {acc : List Str} {i : Nat}, i < L.length → (gMore L n acc i).In L.length
 | 0, acc, i, hi => hi
 | n + 1, acc, i, hi => by
  unfold gMore
  split
  ·rename_i h; exact (gName_in hL (gTake_lt hL hi h)).bind fun _ _ h => gMore_in hL h
  ·exact hi
theorem gNames_in {L : List Tk} (hL : Toks L) {i : Nat} (hi : i < L.length) : (gNames L i).In L.length := (gName_in hL hi).bind fun _ _ h => gMore_in hL h
theorem takeT {L : List Tk} (hL : Toks L) (H : Hp) (id : Nat) {i : Nat} (hi : i < L.length) {w : Str} (h : gTake L w i = true) : Run Tryz.prog 136 [.op id 0, .str w] (Hat H id L i) (.bool true) (Hat H id L (i + 1)) := by
 have := take_run hL H id hi w
 rw [h] at this; exact this
theorem takeF {L : List Tk} (hL : Toks L) (H : Hp) (id : Nat) {i : Nat} (hi : i < L.length) {w : Str} (h : gTake L w i = false) : Run Tryz.prog 136 [.op id 0, .str w] (Hat H id L i) (.bool false) (Hat H id L i) := by
 have := take_run hL H id hi w
 rw [h] at this; exact this
theorem gNeeds_step {L : List Tk} {ws : List Str} {k j : Nat} (h : k < ws.length) : gNeeds L (ws.drop k) j = (gNeed L ws[k] j).bind fun _ j => gNeeds L (ws.drop (k + 1)) j := by
 rw [List.drop_eq_getElem_cons h]; rfl
theorem gNeeds_end {L : List Tk} {ws : List Str} {k j : Nat} (h : ws.length ≤ k) : gNeeds L (ws.drop k) j = .ok () j := by
 rw [List.drop_of_length_le h]; rfl
theorem need_run {L : List Tk} (hL : Toks L) (H : Hp) (id : Nat) {i : Nat} (hi : i < L.length) (ws : List Str) (hw : ws.length ≤ 1000000) : RunR Tryz.prog 99 [.op id 0, .sl (ws.map .str)] (Hat H id L) (fun _ : Unit => .tup []) (pv L) i (gNeeds L ws i) := by
 refine RunR.of_tri Tryz.func99 rfl rfl (ltb rfl) ?_
 refine Tri.seq (Tri.region ?_)
 refine TriL.c1 rfl (op_mv (ltb rfl) rfl) ?_
 refine TriL.c1 rfl (op_lenl (ltb rfl) un40_q rfl) ?_
 refine TriL.c1 rfl (op_mv (ltb rfl) rfl) ?_
 refine TriL.nil (Tri.blk ?_)
 refine Tri.ofKept (Kept.keep [.s 8, .h, .s 0, .s 6, .s 7] rfl (by decide) (Kept.now ?_))
 -- LOOP 1
 refine Tri.loopk (fun ((k, j) : Nat × Nat) => [(.s 8, .sv (.v (.int .i64 (k : Int)))), (.h, .hp (Hat H id L j))]) _ (fun ((k, j) : Nat × Nat) => gNeeds L (ws.drop k) j = gNeeds L ws i ∧ j < L.length) (fun ((k, j) : Nat × Nat) => ws.length - k) (0, i) rfl ⟨rfl, hi⟩ ?_
 rintro ⟨k, j⟩ ⟨hI, hj⟩
 refine Tri.seq (Tri.region ?_)
 refine TriL.c1 rfl (op_bin (ltb rfl) rfl rfl rfl) ?_
 refine TriL.nil (Tri.seq ?_)
 refine Tri.cond rfl (fun hc1 => ?_) (fun hc1 => ?_)
 ·have hk := ltm hc1
  refine Tri.skip (Tri.seq (Tri.blk (Tri.seq (Tri.region ?_))))
  refine TriL.c1 rfl (op_iak (ltb rfl) ie40_q rfl rfl (Int.natCast_nonneg _) (ixm hk) rfl) ?_
  refine TriL.c1 rfl (op_ldk (ltb rfl) lk9_q rfl rfl) ?_
  refine TriL.c1 rfl (op_as (ltb rfl) rfl) ?_
  refine TriL.nil (Tri.seq (Tri.region ?_))
  iterate 2 (refine TriL.c1 rfl (op_mv (ltb rfl) rfl) ?_)
  cases hp1 : gTake L ws[k] j with
  | true => 
   refine TriL.c2 rfl (op_callh (ltb rfl) fn136_q rfl rfl (takeT hL _ id hj hp1)) ?_
   refine TriL.c1 rfl (op_un (ltb rfl) rfl rfl) ?_
   refine TriL.nil ?_
   refine Tri.condF rfl (congrArg not rfl) ?_
   refine Tri.skip (Tri.region ?_)
   refine TriL.c1 rfl (op_bin (ltb rfl) rfl rfl rfl) ?_
   refine TriL.c1 rfl (op_mv (ltb rfl) rfl) ?_
   refine TriL.kept (Kept.seti 8 rfl (inc (by omega)) (Kept.keep [.s 8, .h, .s 0, .s 6, .s 7] rfl (by decide) (Kept.now ?_)))
   exact ⟨(k + 1, j + 1), by dsimp only; omega, ⟨by rw [← hI, gNeeds_step hk]; simp [gNeed, hp1], gTake_lt hL hj hp1⟩, rfl⟩
  | false => 
   refine TriL.c2 rfl (op_callh (ltb rfl) fn136_q rfl rfl (takeF hL _ id hj hp1)) ?_
   refine TriL.c1 rfl (op_un (ltb rfl) rfl rfl) ?_
   refine TriL.nil ?_
   refine Tri.condT rfl (congrArg not rfl) ?_
   refine Tri.regionP ?_
   refine TriLP.c1 rfl (op_mv (ltb rfl) rfl) ?_
   refine TriLP.callp fn137_q rfl rfl (fail_run hL _ id hj) ?_
   exact EndR.pan (by rw [← hI, gNeeds_step hk]; simp [gNeed, hp1]) rfl rfl
 ·have hk := gem hc1
  refine Tri.exit ?_
  exact EndR.fin (by rw [← hI, gNeeds_end hk]) ⟨.inl rfl, (ResOK.r0 rfl ).cast rfl, rfl⟩
theorem of_ok {L : List Tk} (hL : Toks L) (H : Hp) (id : Nat) {i : Nat} (hi : i < L.length) {k : Nat} {f : FuncId} {caps : List AV} {H1 : Hp} (hfn : isFn Tryz.prog f = true) (hk : (tkAt L i).k = k) (hc : Run Tryz.prog f ([(tkAt L i).av] ++ caps) (Hat H id L i) (.bool true) (Hat H1 id L i)) : Run Tryz.prog 132 [.op id 0, .int .i64 (k : Int), .fn f caps] (Hat H id L i) (tkAt L i).av (Hat H1 id L (i + 1)) := by
 refine Run.of_tri Tryz.func132 rfl rfl (ltb rfl) ?_
 refine Tri.seq (Tri.region ?_)
 refine TriL.c2 rfl (op_all (ltb rfl) zA112_q rfl) ?_
 refine TriL.nil (Tri.seq (Tri.region ?_))
 refine TriL.c1 rfl (op_mv (ltb rfl) rfl) ?_
 refine TriL.c2 rfl (op_callh (ltb rfl) fn59_q rfl rfl (now_run hL H id hi)) ?_
 refine TriL.c2 rfl (op_all (ltb rfl) zA112_q rfl) ?_
 refine TriL.c1 rfl (op_stl lk112_q rfl rfl rfl rfl rfl (leb rfl)) ?_
 refine TriL.nil (Tri.seq (Tri.seq (Tri.region ?_)))
 refine TriL.c1 rfl (op_fal (ltb rfl) fo112_0_q rfl) ?_
 refine TriL.c1 rfl (op_ldl (ltb rfl) lk3_q rfl rfl rfl) ?_
 refine TriL.c1 rfl (op_mv (ltb rfl) rfl) ?_
 refine TriL.c1 rfl (op_bin (ltb rfl) rfl rfl rfl) ?_
 refine TriL.c1 rfl (op_mv (ltb rfl) rfl) ?_
 refine TriL.g1 rfl (ltb rfl) rfl (by simp [hk]) (op_mv (ltb rfl) rfl) ?_
 refine TriL.g1 rfl (ltb rfl) rfl (by simp [hk]) (op_ldl (ltb rfl) lk112_q rfl rfl rfl) ?_
 refine TriL.g2 rfl (ltb rfl) rfl (by simp [hk]) (op_callch (ltb rfl) hfn rfl rfl rfl hc) ?_
 refine TriL.g1 rfl (ltb rfl) rfl (by simp [hk]) (op_un (ltb rfl) rfl rfl) ?_
 refine TriL.c1 rfl (op_pickf (ltb rfl) rfl (by simp [hk]) rfl) ?_
 refine TriL.nil ?_
 refine Tri.condF rfl (congrArg not rfl) ?_
 refine Tri.skip (Tri.seq (Tri.region ?_))
 refine TriL.c1 rfl (op_mv (ltb rfl) rfl) ?_
 refine TriL.c1 rfl (op_nckc (ltb rfl) rfl) ?_
 refine TriL.c1 rfl (op_fac (ltb rfl) fo75_1_q rfl) ?_
 refine TriL.c1 rfl (op_ldc (ltb rfl) lk3_q rfl rfl Hp.set_obj rfl) ?_
 refine TriL.c1 rfl (op_bin (ltb rfl) rfl rfl rfl) ?_
 refine TriL.c1 rfl (op_nckc (ltb rfl) rfl) ?_
 refine TriL.c1 rfl (op_fac (ltb rfl) fo75_1_q rfl) ?_
 refine TriL.c1 rfl (op_stc lk3_q rfl rfl Hp.set_obj rfl rfl rfl) ?_
 refine TriL.nil (Tri.seq (Tri.region ?_))
 refine TriL.c1 rfl (op_ldl (ltb rfl) lk112_q rfl rfl rfl) ?_
 refine TriL.c1 rfl (op_stl lk112_q rfl rfl rfl rfl rfl (leb rfl)) ?_
 refine TriL.nil (Tri.ret ?_)
 exact ⟨.inr rfl, (ResOK.r1 rfl (.cell lk112_q rfl rfl rfl rfl .nil)).cast rfl, (congrArg (fun h => some (CV.hp h)) (Hat_inc H1 id hL hi))⟩
theorem of_no {L : List Tk} (hL : Toks L) (H : Hp) (id : Nat) {i : Nat} (hi : i < L.length) {k : Nat} {f : FuncId} {caps : List AV} {H1 : Hp} (hfn : isFn Tryz.prog f = true) (hk : (tkAt L i).k = k) (hc : Run Tryz.prog f ([(tkAt L i).av] ++ caps) (Hat H id L i) (.bool false) (Hat H1 id L i)) : RunP Tryz.prog 132 [.op id 0, .int .i64 (k : Int), .fn f caps] (Hat H id L i) (pv L i) (Hat H1 id L i) := by
 refine RunP.of_tri Tryz.func132 rfl rfl (ltb rfl) ?_
 refine Tri.seq (Tri.region ?_)
 refine TriL.c2 rfl (op_all (ltb rfl) zA112_q rfl) ?_
 refine TriL.nil (Tri.seq (Tri.region ?_))
 refine TriL.c1 rfl (op_mv (ltb rfl) rfl) ?_
 refine TriL.c2 rfl (op_callh (ltb rfl) fn59_q rfl rfl (now_run hL H id hi)) ?_
 refine TriL.c2 rfl (op_all (ltb rfl) zA112_q rfl) ?_
 refine TriL.c1 rfl (op_stl lk112_q rfl rfl rfl rfl rfl (leb rfl)) ?_
 refine TriL.nil (Tri.seq (Tri.seq (Tri.region ?_)))
 refine TriL.c1 rfl (op_fal (ltb rfl) fo112_0_q rfl) ?_
 refine TriL.c1 rfl (op_ldl (ltb rfl) lk3_q rfl rfl rfl) ?_
 refine TriL.c1 rfl (op_mv (ltb rfl) rfl) ?_
 refine TriL.c1 rfl (op_bin (ltb rfl) rfl rfl rfl) ?_
 refine TriL.c1 rfl (op_mv (ltb rfl) rfl) ?_
 refine TriL.g1 rfl (ltb rfl) rfl (by simp [hk]) (op_mv (ltb rfl) rfl) ?_
 refine TriL.g1 rfl (ltb rfl) rfl (by simp [hk]) (op_ldl (ltb rfl) lk112_q rfl rfl rfl) ?_
 refine TriL.g2 rfl (ltb rfl) rfl (by simp [hk]) (op_callch (ltb rfl) hfn rfl rfl rfl hc) ?_
 refine TriL.g1 rfl (ltb rfl) rfl (by simp [hk]) (op_un (ltb rfl) rfl rfl) ?_
 refine TriL.c1 rfl (op_pickf (ltb rfl) rfl (by simp [hk]) rfl) ?_
 refine TriL.nil ?_
 refine Tri.condT rfl (congrArg not rfl) ?_
 refine Tri.regionP ?_
 refine TriLP.c1 rfl (op_mv (ltb rfl) rfl) ?_
 refine TriLP.callp fn137_q rfl rfl (fail_run hL H1 id hi) ?_
 exact ⟨rfl, rfl⟩
theorem of_ne {L : List Tk} (hL : Toks L) (H : Hp) (id : Nat) {i : Nat} (hi : i < L.length) {k : Nat} {f : FuncId} {caps : List AV} (hfn : isFn Tryz.prog f = true) (hk : (tkAt L i).k ≠ k) : RunP Tryz.prog 132 [.op id 0, .int .i64 (k : Int), .fn f caps] (Hat H id L i) (pv L i) (Hat H id L i) := by
 refine RunP.of_tri Tryz.func132 rfl rfl (ltb rfl) ?_
 refine Tri.seq (Tri.region ?_)
 refine TriL.c2 rfl (op_all (ltb rfl) zA112_q rfl) ?_
 refine TriL.nil (Tri.seq (Tri.region ?_))
 refine TriL.c1 rfl (op_mv (ltb rfl) rfl) ?_
 refine TriL.c2 rfl (op_callh (ltb rfl) fn59_q rfl rfl (now_run hL H id hi)) ?_
 refine TriL.c2 rfl (op_all (ltb rfl) zA112_q rfl) ?_
 refine TriL.c1 rfl (op_stl lk112_q rfl rfl rfl rfl rfl (leb rfl)) ?_
 refine TriL.nil (Tri.seq (Tri.seq (Tri.region ?_)))
 refine TriL.c1 rfl (op_fal (ltb rfl) fo112_0_q rfl) ?_
 refine TriL.c1 rfl (op_ldl (ltb rfl) lk3_q rfl rfl rfl) ?_
 refine TriL.c1 rfl (op_mv (ltb rfl) rfl) ?_
 refine TriL.c1 rfl (op_bin (ltb rfl) rfl rfl rfl) ?_
 refine TriL.c1 rfl (op_mv (ltb rfl) rfl) ?_
 iterate 4 (refine TriL.skipu rfl rfl (ltb rfl) (ltb rfl) rfl (by simp; omega) ?_)
 refine TriL.c1 rfl (op_pickt (ltb rfl) rfl (by simp; omega) rfl) ?_
 refine TriL.nil ?_
 refine Tri.condT rfl rfl ?_
 refine Tri.regionP ?_
 refine TriLP.c1 rfl (op_mv (ltb rfl) rfl) ?_
 refine TriLP.callp fn137_q rfl rfl (fail_run hL _ id hi) ?_
 exact ⟨rfl, rfl⟩
theorem of_run {L : List Tk} (hL : Toks L) (H : Hp) (id : Nat) {i : Nat} (hi : i < L.length) {k : Nat} {f : FuncId} {caps : List AV} (hfn : isFn Tryz.prog f = true) (p : Tk → Bool) (hc : Pure Tryz.prog f ([(tkAt L i).av] ++ caps) (.bool (p (tkAt L i)))) : RunR Tryz.prog 132 [.op id 0, .int .i64 (k : Int), .fn f caps] (Hat H id L) Tk.av (pv L) i (gOf L k p i) := by
 unfold gOf
 by_cases hk : (tkAt L i).k = k
 ·cases hp : p (tkAt L i) with
  | true => rw [if_pos ⟨hk, rfl⟩]; rw [hp] at hc; exact of_ok hL H id hi hfn hk (hc _)
  | false => rw [if_neg (by simp)]; rw [hp] at hc; exact of_no hL H id hi hfn hk (hc _)
 ·rw [if_neg (by simp [hk])]; exact of_ne hL H id hi hfn hk
theorem each_pure (t : Tk) : Pure Tryz.prog 135 ([t.av] ++ []) (.bool true) := by
 refine Pure.of_tri Tryz.func135 rfl rfl (ltb rfl) fun H => ?_
 refine Tri.seq (Tri.region ?_)
 refine TriL.c2 rfl (op_box (ltb rfl) rfl rfl rfl) ?_
 refine TriL.c1 rfl (op_as (ltb rfl) rfl) ?_
 refine TriL.nil (Tri.seq (Tri.region ?_))
 refine TriL.c1 rfl (op_as (ltb rfl) rfl) ?_
 refine TriL.nil (Tri.ret ?_)
 exact ⟨.inr rfl, (ResOK.r1 rfl (.tmp rfl .nil)).cast rfl, rfl⟩
theorem number1_pure (t : Tk) : Pure Tryz.prog 162 ([t.av] ++ []) (.bool (numP t)) := by
 refine Pure.of_tri Tryz.func162 rfl rfl (ltb rfl) fun H => ?_
 refine Tri.seq (Tri.region ?_)
 refine TriL.c2 rfl (op_box (ltb rfl) rfl rfl rfl) ?_
 refine TriL.c1 rfl (op_as (ltb rfl) rfl) ?_
 refine TriL.nil (Tri.seq (Tri.region ?_))
 refine TriL.c1 rfl (op_fal (ltb rfl) fo112_3_q rfl) ?_
 refine TriL.c1 rfl (op_ldl (ltb rfl) lk4_q rfl rfl rfl) ?_
 refine TriL.c1 rfl (op_un (ltb rfl) rfl rfl) ?_
 refine TriL.c1 rfl (op_mv (ltb rfl) rfl) ?_
 refine TriL.split (d := 6) rfl (fun hg1 => ?_) (fun hg1 => ?_)
 ·refine TriL.g1 rfl (ltb rfl) rfl hg1 (op_fal (ltb rfl) fo112_2_q rfl) ?_
  refine TriL.g1 rfl (ltb rfl) rfl hg1 (op_ldl (ltb rfl) lk41_q rfl rfl rfl) ?_
  refine TriL.g1 rfl (ltb rfl) rfl hg1 (op_bin (ltb rfl) rfl rfl rfl) ?_
  refine TriL.c1 rfl (op_pickt (ltb rfl) rfl hg1 rfl) ?_
  refine TriL.c1 rfl (op_as (ltb rfl) rfl) ?_
  refine TriL.nil (Tri.ret ?_)
  exact ⟨.inr rfl, (ResOK.r1 rfl (.tmp rfl .nil)).cast (congrArg AV.bool (by grind [numP])), rfl⟩
 ·iterate 3 (refine TriL.skipu rfl rfl (ltb rfl) (ltb rfl) rfl hg1 ?_)
  refine TriL.c1 rfl (op_pickf (ltb rfl) rfl hg1 rfl) ?_
  refine TriL.c1 rfl (op_as (ltb rfl) rfl) ?_
  refine TriL.nil (Tri.ret ?_)
  exact ⟨.inr rfl, (ResOK.r1 rfl (.tmp rfl .nil)).cast (congrArg AV.bool (by grind [numP])), rfl⟩
theorem beq_flip {s w : Str} (h : (s == w) = false) : (w == s) = false := by
 rw [beq_eq_false_iff_ne] at *; exact fun e => h e.symm
theorem stepKind_miss {s : Str} (h1 : (s == [114, 101, 110, 97, 109, 101]) = false) (h2 : (s == [114, 101, 110, 117, 109, 98, 101, 114]) = false) (h3 : (s == [114, 101, 116, 121, 112, 101]) = false) (h4 : (s == [115, 112, 108, 105, 116]) = false) (h5 : (s == [106, 111, 105, 110]) = false) (h6 : (s == [119, 114, 97, 112]) = false) (h7 : (s == [117, 110, 119, 114, 97, 112]) = false) (h8 : (s == [111, 110, 101, 111, 102]) = false) (h9 : (s == [97, 100, 100]) = false) (h10 : (s == [100, 114, 111, 112]) = false) : (0 : Int) = stepKind s := by
 simp only [stepKind, stepWords, ixFrom, beq_flip h1, beq_flip h2, beq_flip h3, beq_flip h4, beq_flip h5, beq_flip h6, beq_flip h7, beq_flip h8, beq_flip h9, beq_flip h10]; decide
theorem kindOf_pure (s : Str) : Pure Tryz.prog 134 [.str s] (.int .i64 (stepKind s)) := by
 refine Pure.of_tri Tryz.func134 rfl rfl (ltb rfl) fun H => ?_
 refine Tri.seq (Tri.region ?_)
 refine TriL.c1 rfl (op_as (ltb rfl) rfl) ?_
 refine TriL.nil (Tri.seq (Tri.seq (Tri.region ?_)))
 refine TriL.c1 rfl (op_mv (ltb rfl) rfl) ?_
 refine TriL.nil (Tri.blk (Tri.seq (Tri.region ?_)))
 refine TriL.c1 rfl (op_bin (ltb rfl) rfl rfl rfl) ?_
 refine TriL.c1 rfl (op_as (ltb rfl) rfl) ?_
 refine TriL.nil ?_
 refine Tri.cond rfl (fun hc1 => ?_) (fun hc1 => ?_)
 ·refine Tri.seq (Tri.region ?_)
  refine TriL.c1 rfl (op_as (ltb rfl) rfl) ?_
  refine TriL.nil (Tri.ret ?_)
  exact ⟨.inr rfl, (ResOK.r1 rfl (.tmp rfl .nil)).cast (congrArg (AV.int .i64) (by rw [eq_of_beq hc1]; rfl)), rfl⟩
 ·refine Tri.seq (Tri.region ?_)
  refine TriL.c1 rfl (op_bin (ltb rfl) rfl rfl rfl) ?_
  refine TriL.c1 rfl (op_as (ltb rfl) rfl) ?_
  refine TriL.nil ?_
  refine Tri.cond rfl (fun hc2 => ?_) (fun hc2 => ?_)
  ·refine Tri.seq (Tri.region ?_)
   refine TriL.c1 rfl (op_as (ltb rfl) rfl) ?_
   refine TriL.nil (Tri.ret ?_)
   exact ⟨.inr rfl, (ResOK.r1 rfl (.tmp rfl .nil)).cast (congrArg (AV.int .i64) (by rw [eq_of_beq hc2]; rfl)), rfl⟩
  ·refine Tri.seq (Tri.region ?_)
   refine TriL.c1 rfl (op_bin (ltb rfl) rfl rfl rfl) ?_
   refine TriL.c1 rfl (op_as (ltb rfl) rfl) ?_
   refine TriL.nil ?_
   refine Tri.cond rfl (fun hc3 => ?_) (fun hc3 => ?_)
   ·refine Tri.seq (Tri.region ?_)
    refine TriL.c1 rfl (op_as (ltb rfl) rfl) ?_
    refine TriL.nil (Tri.ret ?_)
    exact ⟨.inr rfl, (ResOK.r1 rfl (.tmp rfl .nil)).cast (congrArg (AV.int .i64) (by rw [eq_of_beq hc3]; rfl)), rfl⟩
   ·refine Tri.seq (Tri.region ?_)
    refine TriL.c1 rfl (op_bin (ltb rfl) rfl rfl rfl) ?_
    refine TriL.c1 rfl (op_as (ltb rfl) rfl) ?_
    refine TriL.nil ?_
    refine Tri.cond rfl (fun hc4 => ?_) (fun hc4 => ?_)
    ·refine Tri.seq (Tri.region ?_)
     refine TriL.c1 rfl (op_as (ltb rfl) rfl) ?_
     refine TriL.nil (Tri.ret ?_)
     exact ⟨.inr rfl, (ResOK.r1 rfl (.tmp rfl .nil)).cast (congrArg (AV.int .i64) (by rw [eq_of_beq hc4]; rfl)), rfl⟩
    ·refine Tri.seq (Tri.region ?_)
     refine TriL.c1 rfl (op_bin (ltb rfl) rfl rfl rfl) ?_
     refine TriL.c1 rfl (op_as (ltb rfl) rfl) ?_
     refine TriL.nil ?_
     refine Tri.cond rfl (fun hc5 => ?_) (fun hc5 => ?_)
     ·refine Tri.seq (Tri.region ?_)
      refine TriL.c1 rfl (op_as (ltb rfl) rfl) ?_
      refine TriL.nil (Tri.ret ?_)
      exact ⟨.inr rfl, (ResOK.r1 rfl (.tmp rfl .nil)).cast (congrArg (AV.int .i64) (by rw [eq_of_beq hc5]; rfl)), rfl⟩
     ·refine Tri.seq (Tri.region ?_)
      refine TriL.c1 rfl (op_bin (ltb rfl) rfl rfl rfl) ?_
      refine TriL.c1 rfl (op_as (ltb rfl) rfl) ?_
      refine TriL.nil ?_
      refine Tri.cond rfl (fun hc6 => ?_) (fun hc6 => ?_)
      ·refine Tri.seq (Tri.region ?_)
       refine TriL.c1 rfl (op_as (ltb rfl) rfl) ?_
       refine TriL.nil (Tri.ret ?_)
       exact ⟨.inr rfl, (ResOK.r1 rfl (.tmp rfl .nil)).cast (congrArg (AV.int .i64) (by rw [eq_of_beq hc6]; rfl)), rfl⟩
      ·refine Tri.seq (Tri.region ?_)
       refine TriL.c1 rfl (op_bin (ltb rfl) rfl rfl rfl) ?_
       refine TriL.c1 rfl (op_as (ltb rfl) rfl) ?_
       refine TriL.nil ?_
       refine Tri.cond rfl (fun hc7 => ?_) (fun hc7 => ?_)
       ·refine Tri.seq (Tri.region ?_)
        refine TriL.c1 rfl (op_as (ltb rfl) rfl) ?_
        refine TriL.nil (Tri.ret ?_)
        exact ⟨.inr rfl, (ResOK.r1 rfl (.tmp rfl .nil)).cast (congrArg (AV.int .i64) (by rw [eq_of_beq hc7]; rfl)), rfl⟩
       ·refine Tri.seq (Tri.region ?_)
        refine TriL.c1 rfl (op_bin (ltb rfl) rfl rfl rfl) ?_
        refine TriL.c1 rfl (op_as (ltb rfl) rfl) ?_
        refine TriL.nil ?_
        refine Tri.cond rfl (fun hc8 => ?_) (fun hc8 => ?_)
        ·refine Tri.seq (Tri.region ?_)
         refine TriL.c1 rfl (op_as (ltb rfl) rfl) ?_
         refine TriL.nil (Tri.ret ?_)
         exact ⟨.inr rfl, (ResOK.r1 rfl (.tmp rfl .nil)).cast (congrArg (AV.int .i64) (by rw [eq_of_beq hc8]; rfl)), rfl⟩
        ·refine Tri.seq (Tri.region ?_)
         refine TriL.c1 rfl (op_bin (ltb rfl) rfl rfl rfl) ?_
         refine TriL.c1 rfl (op_as (ltb rfl) rfl) ?_
         refine TriL.nil ?_
         refine Tri.cond rfl (fun hc9 => ?_) (fun hc9 => ?_)
         ·refine Tri.seq (Tri.region ?_)
          refine TriL.c1 rfl (op_as (ltb rfl) rfl) ?_
          refine TriL.nil (Tri.ret ?_)
          exact ⟨.inr rfl, (ResOK.r1 rfl (.tmp rfl .nil)).cast (congrArg (AV.int .i64) (by rw [eq_of_beq hc9]; rfl)), rfl⟩
         ·refine Tri.seq (Tri.region ?_)
          refine TriL.c1 rfl (op_bin (ltb rfl) rfl rfl rfl) ?_
          refine TriL.c1 rfl (op_as (ltb rfl) rfl) ?_
          refine TriL.nil ?_
          refine Tri.cond rfl (fun hc10 => ?_) (fun hc10 => ?_)
          ·refine Tri.seq (Tri.region ?_)
           refine TriL.c1 rfl (op_as (ltb rfl) rfl) ?_
           refine TriL.nil (Tri.ret ?_)
           exact ⟨.inr rfl, (ResOK.r1 rfl (.tmp rfl .nil)).cast (congrArg (AV.int .i64) (by rw [eq_of_beq hc10]; rfl)), rfl⟩
          ·refine Tri.skip (Tri.seq (Tri.region ?_))
           refine TriL.c1 rfl (op_as (ltb rfl) rfl) ?_
           refine TriL.nil (Tri.ret ?_)
           exact ⟨.inr rfl, (ResOK.r1 rfl (.tmp rfl .nil)).cast (congrArg (AV.int .i64) (stepKind_miss hc1 hc2 hc3 hc4 hc5 hc6 hc7 hc8 hc9 hc10)), rfl⟩
theorem kind1_pure (t : Tk) : Pure Tryz.prog 133 ([t.av] ++ []) (.bool (kindP t)) := by
 refine Pure.of_tri Tryz.func133 rfl rfl (ltb rfl) fun H => ?_
 refine Tri.seq (Tri.region ?_)
 refine TriL.c2 rfl (op_box (ltb rfl) rfl rfl rfl) ?_
 refine TriL.c1 rfl (op_as (ltb rfl) rfl) ?_
 refine TriL.nil (Tri.seq (Tri.region ?_))
 refine TriL.c1 rfl (op_fal (ltb rfl) fo112_1_q rfl) ?_
 refine TriL.c1 rfl (op_ldl (ltb rfl) lk9_q rfl rfl rfl) ?_
 refine TriL.c1 rfl (op_call (ltb rfl) fn134_q rfl (kindOf_pure _)) ?_
 refine TriL.c1 rfl (op_bin (ltb rfl) rfl rfl rfl) ?_
 refine TriL.c1 rfl (op_as (ltb rfl) rfl) ?_
 refine TriL.nil (Tri.ret ?_)
 exact ⟨.inr rfl, (ResOK.r1 rfl (.tmp rfl .nil)).cast (congrArg AV.bool (by rw [kindP, Bool.eq_iff_iff]; simp)), rfl⟩
theorem ty1_pure (t : Tk) (f : FuncId) (such : Int → Bool) (hfn : isFn Tryz.prog f = true) (hs : ∀ n, Pure Tryz.prog f [.int .i64 n] (.bool (such n))) : Pure Tryz.prog 163 ([t.av] ++ [.kp [.fn f []]]) (.bool (tyP such t)) := by
 refine Pure.of_tri Tryz.func163 rfl rfl (ltb rfl) fun H => ?_
 refine Tri.seq (Tri.region ?_)
 refine TriL.c2 rfl (op_box (ltb rfl) rfl rfl rfl) ?_
 refine TriL.c1 rfl (op_as (ltb rfl) rfl) ?_
 refine TriL.nil (Tri.seq ?_)
 refine Tri.drawn mixed rfl ?_
 refine TriD.c1 rfl (op_fal (ltb rfl) fo112_1_q rfl) ?_
 refine TriD.c1 rfl (op_ldl (ltb rfl) lk9_q rfl rfl rfl) ?_
 refine TriD.c1 rfl (op_call (ltb rfl) fn164_q rfl (p_of _)) ?_
 refine TriD.c1 rfl (op_bin (ltb rfl) rfl rfl rfl) ?_
 refine TriD.c1 rfl (op_mv (ltb rfl) rfl) ?_
 refine TriD.split (d := 8) rfl (fun hg1 => ?_) (fun hg1 => ?_)
 ·refine TriD.g1 rfl (ltb rfl) rfl hg1 (op_ldk (ltb rfl) lk88_q rfl rfl) ?_
  refine TriD.g1 rfl (ltb rfl) rfl hg1 (op_fal (ltb rfl) fo112_1_q rfl) ?_
  refine TriD.g1 rfl (ltb rfl) rfl hg1 (op_ldl (ltb rfl) lk9_q rfl rfl rfl) ?_
  refine TriD.g1 rfl (ltb rfl) rfl hg1 (op_call (ltb rfl) fn164_q rfl (p_of _)) ?_
  refine TriD.g1 rfl (ltb rfl) rfl hg1 (op_callc (ltb rfl) hfn rfl rfl (hs _)) ?_
  refine TriD.c1 rfl (op_pickt (ltb rfl) rfl hg1 rfl) ?_
  refine TriD.c1 rfl (op_as (ltb rfl) rfl) ?_
  refine TriD.nil (by kernel_rfl) (Kept.now ?_)
  refine Tri.ret ?_
  exact ⟨.inr rfl, (ResOK.r1 rfl (.tmp rfl .nil)).cast (congrArg AV.bool (by simp_all [tyP])), rfl⟩
 ·iterate 5 (refine TriD.skipu rfl rfl (ltb rfl) (ltb rfl) rfl hg1 ?_)
  refine TriD.c1 rfl (op_pickf (ltb rfl) rfl hg1 rfl) ?_
  refine TriD.c1 rfl (op_as (ltb rfl) rfl) ?_
  refine TriD.nil (by kernel_rfl) (Kept.now ?_)
  refine Tri.ret ?_
  exact ⟨.inr rfl, (ResOK.r1 rfl (.tmp rfl .nil)).cast (congrArg AV.bool (by simp_all [tyP])), rfl⟩
theorem name_run {L : List Tk} (hL : Toks L) (H : Hp) (id : Nat) {i : Nat} (hi : i < L.length) : RunR Tryz.prog 98 [.op id 0] (Hat H id L) (fun s : Str => .str s) (pv L) i (gName L i) := by
 refine RunR.of_tri Tryz.func98 rfl rfl (ltb rfl) ?_
 refine Tri.seq (Tri.region ?_)
 refine TriL.c1 rfl (op_as (ltb rfl) rfl) ?_
 refine TriL.nil (Tri.seq ?_)
 refine Tri.regionP ?_
 refine TriLP.c1 rfl (op_mv (ltb rfl) rfl) ?_
 cases hp1 : gOf L 1 (fun _ => true) i with
 | bad j => 
  refine TriLP.callp fn132_q rfl rfl (RunR.bad (of_run hL _ id hi (by kernel_rfl) (fun _ => true) (each_pure _)) hp1) ?_
  exact EndR.pan (by simp [gName, *]) rfl rfl
 | ok x1 j1 => 
  have hj1 := PR.ok_lt (gOf_in hL (by decide) hi) hp1
  refine TriLP.c2 rfl (op_callh (ltb rfl) fn132_q rfl rfl (RunR.ok (of_run hL _ id hi (by kernel_rfl) (fun _ => true) (each_pure _)) hp1)) ?_
  refine TriLP.c1 rfl (op_fld (ltb rfl) fof112_1_q rfl rfl (by intro _; exact leb rfl)) ?_
  refine TriLP.c1 rfl (op_as (ltb rfl) rfl) ?_
  refine TriLP.nil ?_
  refine Tri.ret ?_
  exact EndR.fin (by simp [gName, *]; try exact ⟨rfl, rfl⟩) ⟨.inr rfl, (ResOK.r1 rfl (.tmp rfl .nil)).cast rfl, rfl⟩
theorem gOf_ok {L : List Tk} {k : Nat} {p : Tk → Bool} {i j : Nat} {x : Tk} (h : gOf L k p i = .ok x j) : (tkAt L i).k = k ∧ p x = true ∧ x = tkAt L i ∧ j = i + 1 := by
 unfold gOf at h
 split at h
 ·rename_i h2; cases h; exact ⟨h2.1, h2.2, rfl, rfl⟩
 ·cases h
theorem gOf_num {L : List Tk} {k : Nat} {i j : Nat} {x : Tk} (h : gOf L k numP i = .ok x j) : x.n ≤ 1073741824 := by
 have := (gOf_ok h).2.1
 simp [numP] at this; omega
theorem number_run {L : List Tk} (hL : Toks L) (H : Hp) (id : Nat) {i : Nat} (hi : i < L.length) : RunR Tryz.prog 138 [.op id 0] (Hat H id L) (fun n : Int => .int .i64 n) (pv L) i (gNum L i) := by
 refine RunR.of_tri Tryz.func138 rfl rfl (ltb rfl) ?_
 refine Tri.seq (Tri.region ?_)
 refine TriL.c1 rfl (op_as (ltb rfl) rfl) ?_
 refine TriL.nil (Tri.seq ?_)
 refine Tri.regionP ?_
 refine TriLP.c1 rfl (op_mv (ltb rfl) rfl) ?_
 cases hp1 : gOf L 2 numP i with
 | bad j => 
  refine TriLP.callp fn132_q rfl rfl (RunR.bad (of_run hL _ id hi (by kernel_rfl) numP (number1_pure _)) hp1) ?_
  exact EndR.pan (by simp [gNum, *]) rfl rfl
 | ok x1 j1 => 
  have hj1 := PR.ok_lt (gOf_in hL (by decide) hi) hp1
  refine TriLP.c2 rfl (op_callh (ltb rfl) fn132_q rfl rfl (RunR.ok (of_run hL _ id hi (by kernel_rfl) numP (number1_pure _)) hp1)) ?_
  refine TriLP.c2 rfl (op_all (ltb rfl) zA112_q rfl) ?_
  refine TriLP.c1 rfl (op_stl lk112_q rfl rfl rfl rfl rfl (leb rfl)) ?_
  refine TriLP.nil ?_
  refine Tri.seq (Tri.region ?_)
  refine TriL.c1 rfl (op_fal (ltb rfl) fo112_2_q rfl) ?_
  refine TriL.c1 rfl (op_ldl (ltb rfl) lk41_q rfl rfl rfl) ?_
  refine TriL.c1 rfl (op_cvi (ltb rfl) un41_q un3_q rfl) ?_
  refine TriL.c1 rfl (op_as (ltb rfl) rfl) ?_
  refine TriL.nil (Tri.ret ?_)
  exact EndR.fin (by rw [wr64 (by omega) (by have := gOf_num hp1; omega)]; simp [gNum, *]) ⟨.inr rfl, (ResOK.r1 rfl (.tmp rfl .nil)).cast rfl, rfl⟩
theorem given_run {L : List Tk} (hL : Toks L) (H : Hp) (id : Nat) {i : Nat} (hi : i < L.length) : RunR Tryz.prog 142 [.op id 0] (Hat H id L) (fun n : Int => .int .i64 n) (pv L) i (gGiven L i) := by
 refine RunR.of_tri Tryz.func142 rfl rfl (ltb rfl) ?_
 refine Tri.seq (Tri.region ?_)
 refine TriL.c1 rfl (op_as (ltb rfl) rfl) ?_
 refine TriL.nil (Tri.seq ?_)
 refine Tri.regionP ?_
 refine TriLP.c1 rfl (op_mv (ltb rfl) rfl) ?_
 refine TriLP.c1 rfl (op_lit («as» := [_]) (ltb rfl) se40_q zAe40_q rfl rfl rfl (leb rfl)) ?_
 cases hp1 : gNeeds L [[61]] i with
 | bad j => 
  refine TriLP.callp fn99_q rfl rfl (RunR.bad (need_run hL _ id hi [[61]] (by decide)) hp1) ?_
  exact EndR.pan (by simp [gGiven, *]) rfl rfl
 | ok x1 j1 => 
  have hj1 := PR.ok_lt (gNeeds_in hL hi) hp1
  refine TriLP.c2 rfl (op_callh (ltb rfl) fn99_q rfl rfl (RunR.ok (need_run hL _ id hi [[61]] (by decide)) hp1)) ?_
  refine TriLP.nil ?_
  refine Tri.seq ?_
  refine Tri.regionP ?_
  refine TriLP.c1 rfl (op_mv (ltb rfl) rfl) ?_
  cases hp2 : gNum L j1 with
  | bad j => 
   refine TriLP.callp fn138_q rfl rfl (RunR.bad (number_run hL _ id hj1) hp2) ?_
   exact EndR.pan (by simp [gGiven, *]) rfl rfl
  | ok x2 j2 => 
   have hj2 := PR.ok_lt (gNum_in hL hj1) hp2
   refine TriLP.c2 rfl (op_callh (ltb rfl) fn138_q rfl rfl (RunR.ok (number_run hL _ id hj1) hp2)) ?_
   refine TriLP.c1 rfl (op_as (ltb rfl) rfl) ?_
   refine TriLP.nil ?_
   refine Tri.ret ?_
   exact EndR.fin (by simp [gGiven, *]; try exact ⟨rfl, rfl⟩) ⟨.inr rfl, (ResOK.r1 rfl (.tmp rfl .nil)).cast rfl, rfl⟩
theorem kind_run {L : List Tk} (hL : Toks L) (H : Hp) (id : Nat) {i : Nat} (hi : i < L.length) : RunR Tryz.prog 97 [.op id 0] (Hat H id L) (fun n : Int => .int .i64 n) (pv L) i (gKind L i) := by
 refine RunR.of_tri Tryz.func97 rfl rfl (ltb rfl) ?_
 refine Tri.seq (Tri.region ?_)
 refine TriL.c1 rfl (op_as (ltb rfl) rfl) ?_
 refine TriL.nil (Tri.seq ?_)
 refine Tri.regionP ?_
 refine TriLP.c1 rfl (op_mv (ltb rfl) rfl) ?_
 cases hp1 : gOf L 1 kindP i with
 | bad j => 
  refine TriLP.callp fn132_q rfl rfl (RunR.bad (of_run hL _ id hi (by kernel_rfl) kindP (kind1_pure _)) hp1) ?_
  exact EndR.pan (by simp [gKind, *]) rfl rfl
 | ok x1 j1 => 
  have hj1 := PR.ok_lt (gOf_in hL (by decide) hi) hp1
  refine TriLP.c2 rfl (op_callh (ltb rfl) fn132_q rfl rfl (RunR.ok (of_run hL _ id hi (by kernel_rfl) kindP (kind1_pure _)) hp1)) ?_
  refine TriLP.c2 rfl (op_all (ltb rfl) zA112_q rfl) ?_
  refine TriLP.c1 rfl (op_stl lk112_q rfl rfl rfl rfl rfl (leb rfl)) ?_
  refine TriLP.nil ?_
  refine Tri.seq (Tri.region ?_)
  refine TriL.c1 rfl (op_fal (ltb rfl) fo112_1_q rfl) ?_
  refine TriL.c1 rfl (op_ldl (ltb rfl) lk9_q rfl rfl rfl) ?_
  refine TriL.c1 rfl (op_call (ltb rfl) fn134_q rfl (kindOf_pure _)) ?_
  refine TriL.c1 rfl (op_as (ltb rfl) rfl) ?_
  refine TriL.nil (Tri.ret ?_)
  exact EndR.fin (by simp [gKind, *]; try exact ⟨rfl, rfl⟩) ⟨.inr rfl, (ResOK.r1 rfl (.tmp rfl .nil)).cast rfl, rfl⟩
theorem ty_run {L : List Tk} (hL : Toks L) (H : Hp) (id : Nat) {i : Nat} (hi : i < L.length) {f : FuncId} {such : Int → Bool} (hfn : isFn Tryz.prog f = true) (hs : ∀ n, Pure Tryz.prog f [.int .i64 n] (.bool (such n))) : RunR Tryz.prog 139 [.op id 0, .fn f []] (Hat H id L) (fun n : Int => .int .i64 n) (pv L) i (gTy L such i) := by
 refine RunR.of_tri Tryz.func139 rfl rfl (ltb rfl) ?_
 refine Tri.seq (Tri.region ?_)
 refine TriL.c2 rfl (op_box (ltb rfl) rfl rfl rfl) ?_
 refine TriL.c1 rfl (op_as (ltb rfl) rfl) ?_
 refine TriL.nil (Tri.seq ?_)
 refine Tri.ofKept (Kept.fzb 3 rfl rfl (Kept.now ?_))
 refine Tri.regionP ?_
 refine TriLP.c1 rfl (op_mv (ltb rfl) rfl) ?_
 refine TriLP.c1 rfl (op_mkf (ltb rfl) rfl) ?_
 cases hp1 : gOf L 1 (tyP such) i with
 | bad j => 
  refine TriLP.callp fn132_q rfl rfl (RunR.bad (of_run hL _ id hi (by kernel_rfl) (tyP such) (ty1_pure _ _ _ hfn hs)) hp1) ?_
  exact EndR.pan (by simp [gTy, *]) rfl rfl
 | ok x1 j1 => 
  have hj1 := PR.ok_lt (gOf_in hL (by decide) hi) hp1
  refine TriLP.c2 rfl (op_callh (ltb rfl) fn132_q rfl rfl (RunR.ok (of_run hL _ id hi (by kernel_rfl) (tyP such) (ty1_pure _ _ _ hfn hs)) hp1)) ?_
  refine TriLP.c2 rfl (op_all (ltb rfl) zA112_q rfl) ?_
  refine TriLP.c1 rfl (op_stl lk112_q rfl rfl rfl rfl rfl (leb rfl)) ?_
  refine TriLP.nil ?_
  refine Tri.seq (Tri.region ?_)
  refine TriL.c1 rfl (op_fal (ltb rfl) fo112_1_q rfl) ?_
  refine TriL.c1 rfl (op_ldl (ltb rfl) lk9_q rfl rfl rfl) ?_
  refine TriL.c1 rfl (op_call (ltb rfl) fn164_q rfl (p_of _)) ?_
  refine TriL.c1 rfl (op_as (ltb rfl) rfl) ?_
  refine TriL.nil (Tri.ret ?_)
  exact EndR.fin (by simp [gTy, *]; try exact ⟨rfl, rfl⟩) ⟨.inr rfl, (ResOK.r1 rfl (.tmp rfl .nil)).cast rfl, rfl⟩
theorem gMore_no {L : List Tk} {n : Nat} {acc : List Str} {j : Nat} (h : gTake L [44] j = false) : gMore L n acc j = .ok acc j := by
 cases n with
 | zero => rfl
 | succ n => unfold gMore; rw [h]; rfl
theorem gMore_yes {L : List Tk} {n : Nat} {acc : List Str} {j : Nat} (hn : 0 < n) (h : gTake L [44] j = true) : gMore L n acc j = (gName L (j + 1)).bind fun s k => gMore L (n - 1) (acc ++ [s]) k := by
 cases n with
 | zero => omega
 | succ n => rw [gMore, if_pos h]; rfl
theorem gName_next {L : List Tk} {i j : Nat} {s : Str} (h : gName L i = .ok s j) : j = i + 1 := by
 unfold gName at h
 cases e : gOf L 1 (fun _ => true) i with
 | ok x k => rw [e] at h; cases h; exact (gOf_ok e).2.2.2
 | bad k => rw [e] at h; cases h
theorem names_run {L : List Tk} (hL : Toks L) (H : Hp) (id : Nat) {i : Nat} (hi : i < L.length) : RunR Tryz.prog 141 [.op id 0] (Hat H id L) (fun l : List Str => .sl (l.map .str)) (pv L) i (gNames L i) := by
 refine RunR.of_tri Tryz.func141 rfl rfl (ltb rfl) ?_
 refine Tri.seq (Tri.region ?_)
 refine TriL.c1 rfl (op_as (ltb rfl) rfl) ?_
 refine TriL.nil (Tri.seq ?_)
 refine Tri.regionP ?_
 refine TriLP.c1 rfl (op_mv (ltb rfl) rfl) ?_
 cases hp1 : gName L i with
 | bad j => 
  refine TriLP.callp fn98_q rfl rfl (RunR.bad (name_run hL _ id hi) hp1) ?_
  exact EndR.pan (by first | (simp [gNames, hp1]; done) | (rw [← hI, gMore_yes (by omega) hp2]; simp [*])) rfl rfl
 | ok x1 j1 => 
  have hj1 := PR.ok_lt (gName_in hL hi) hp1
  refine TriLP.c2 rfl (op_callh (ltb rfl) fn98_q rfl rfl (RunR.ok (name_run hL _ id hi) hp1)) ?_
  refine TriLP.c2 rfl (op_litt («as» := [_]) (ltb rfl) se40_q zAe40_q rfl rfl rfl (leb rfl) rfl) ?_
  refine TriLP.c1 rfl (op_as (ltb rfl) rfl) ?_
  refine TriLP.nil ?_
  refine Tri.seq (Tri.blk ?_)
  refine Tri.ofKept (Kept.keep [.h, .s 3, .t 6, .s 0] rfl (by decide) (Kept.now ?_))
  -- LOOP 1
  refine Tri.loopk (fun ((j, a) : Nat × List AV) => [(.h, .hp (Hat H id L j)), (.s 3, .sv (.ow 6 a)), (.t 6, .tk false 9 1 a)]) _ (fun ((j, a) : Nat × List AV) => ∃ (n : Nat) (acc : List Str), a = acc.map .str ∧ gMore L n acc j = gNames L i ∧ j < L.length ∧ L.length - j ≤ n ∧ acc.length ≤ j) (fun ((j, a) : Nat × List AV) => L.length - j) (j1, [AV.str x1]) rfl ⟨L.length - j1, [x1], rfl, by simp [gNames, hp1], hj1, by omega, by have := gName_next hp1; simp; omega⟩ ?_
  rintro ⟨j, a⟩ ⟨n, acc, ha, hI, hj, hn, hac⟩
  refine Tri.seq (Tri.seq (Tri.region ?_))
  refine TriL.c1 rfl (op_mv (ltb rfl) rfl) ?_
  cases hp2 : gTake L [44] j with
  | true => 
   refine TriL.c2 rfl (op_callh (ltb rfl) fn136_q rfl rfl (takeT hL _ id hj hp2)) ?_
   refine TriL.nil ?_
   refine Tri.condT rfl rfl ?_
   refine Tri.skip (Tri.blk ?_)
   refine Tri.regionP ?_
   iterate 2 (refine TriLP.c1 rfl (op_mv (ltb rfl) rfl) ?_)
   cases hp3 : gName L (j + 1) with
   | bad j => 
    refine TriLP.callp fn98_q rfl rfl (RunR.bad (name_run hL _ id (gTake_lt hL hj hp2)) hp3) ?_
    exact EndR.pan (by first | (simp [gNames, hp1]; done) | (rw [← hI, gMore_yes (by omega) hp2]; simp [*])) rfl rfl
   | ok x3 j3 => 
    have hj3 := PR.ok_lt (gName_in hL (gTake_lt hL hj hp2)) hp3
    refine TriLP.c2 rfl (op_callh (ltb rfl) fn98_q rfl rfl (RunR.ok (name_run hL _ id (gTake_lt hL hj hp2)) hp3)) ?_
    refine TriLP.c1 rfl (op_lit («as» := [_]) (ltb rfl) se40_q zAe40_q rfl rfl rfl (leb rfl)) ?_
    refine TriLP.c3 rfl (op_app (ltb rfl) se40_q rfl rfl rfl rfl rfl (by have h1 := congrArg List.length ha; simp only [List.length_map, List.length_cons, List.length_nil] at *; have := hL.len; omega) (by have h1 := congrArg List.length ha; simp only [List.length_map, List.length_cons, List.length_nil] at *; have := hL.len; omega)) ?_
    refine TriLP.c1 rfl (op_as (ltb rfl) rfl) ?_
    refine TriLP.kept (Kept.keep [.h, .s 3, .t 13, .s 0] rfl (by decide) (Kept.ren 13 6 (by decide) rfl (Kept.now ?_)))
    exact ⟨(_, _), by dsimp only; have := gName_next hp3; omega, ⟨n - 1, acc ++ [x3], by simp [ha], by rw [← hI, gMore_yes (by omega) hp2, hp3]; rfl, hj3, by have := gName_next hp3; omega, by have := gName_next hp3; simp; omega⟩, rfl⟩
  | false => 
   refine TriL.c2 rfl (op_callh (ltb rfl) fn136_q rfl rfl (takeF hL _ id hj hp2)) ?_
   refine TriL.nil ?_
   refine Tri.condF rfl rfl ?_
   refine Tri.exit (Tri.seq (Tri.region ?_))
   refine TriL.c1 rfl (op_mv (ltb rfl) rfl) ?_
   refine TriL.c1 rfl (op_as (ltb rfl) rfl) ?_
   refine TriL.nil (Tri.ret ?_)
   exact EndR.fin (hI.symm.trans (gMore_no hp2)) ⟨.inr rfl, (ResOK.r1 rfl (.tmp rfl .nil)).cast (congrArg AV.sl ha), rfl⟩
/- mparse: the reader: values and steps. -/
theorem fn100_q : isFn Tryz.prog 100 = true := by kernel_rfl
theorem fn139_q : isFn Tryz.prog 139 = true := by kernel_rfl
theorem fn140_q : isFn Tryz.prog 140 = true := by kernel_rfl
theorem fn141_q : isFn Tryz.prog 141 = true := by kernel_rfl
theorem fn142_q : isFn Tryz.prog 142 = true := by kernel_rfl
theorem fn144_q : isFn Tryz.prog 144 = true := by kernel_rfl
theorem fn166_q : isFn Tryz.prog 166 = true := by kernel_rfl
theorem fn97_q : isFn Tryz.prog 97 = true := by kernel_rfl
theorem fo46_0_q : fo Tryz.prog 46 0 = some 0 := by kernel_rfl
theorem fo46_2_q : fo Tryz.prog 46 2 = some 2 := by kernel_rfl
theorem fo46_3_q : fo Tryz.prog 46 3 = some 3 := by kernel_rfl
theorem fo46_4_q : fo Tryz.prog 46 4 = some 4 := by kernel_rfl
theorem fo46_5_q : fo Tryz.prog 46 5 = some 5 := by kernel_rfl
theorem fo46_6_q : fo Tryz.prog 46 6 = some 6 := by kernel_rfl
theorem fo46_7_q : fo Tryz.prog 46 7 = some 7 := by kernel_rfl
theorem fo46_8_q : fo Tryz.prog 46 8 = some 8 := by kernel_rfl
theorem fo46_9_q : fo Tryz.prog 46 9 = some 9 := by kernel_rfl
theorem lk40_q : lk Tryz.prog 40 = some (false, 1) := by kernel_rfl
theorem lk46_q : lk Tryz.prog 46 = some (true, 12) := by kernel_rfl
theorem spl44_q : spl Tryz.prog 44 = some [(0, 1), (1, 1), (2, 1)] := by kernel_rfl
theorem spl46_q : spl Tryz.prog 46 = some [(0, 1), (1, 1), (2, 1), (3, 1), (4, 1), (5, 1), (6, 1), (7, 1), (8, 1), (9, 3)] := by kernel_rfl
theorem zA41_q : zeroA Tryz.prog 41 = some [AV.int IntKind.u64 (0)] := by kernel_rfl
theorem zA46_q : zeroA Tryz.prog 46 = some [AV.int IntKind.i64 (0), AV.str [], AV.str [], AV.str [], AV.str [], AV.int IntKind.i64 (0), AV.int IntKind.i64 (0), AV.int IntKind.i64 (0), AV.sl [], AV.int IntKind.u64 (0), AV.str [], AV.sl []] := by kernel_rfl
theorem Hat_objx {H : Hp} {id x : Nat} {L : List Tk} {j : Nat} {cs : List Hc} (hne : x ≠ id) (h : H.obj x = some cs) : (Hat H id L j).obj x = some cs := by
 simp only [Hat, Hp.set]; rw [if_neg hne]; exact h
theorem Hat_setx {H : Hp} {id x : Nat} {L : List Tk} {j : Nat} {cs : List Hc} (hne : x ≠ id) : (Hat H id L j).set x cs = Hat (H.set x cs) id L j := Hp.set_comm (Ne.symm hne)
theorem Hat_new {H : Hp} {id : Nat} {L : List Tk} {j : Nat} {cs : List Hc} (hid : id < H.next) : (Hat H id L j).new cs = Hat (H.new cs) id L j := Hp.set_new hid
theorem Hat_low {H : Hp} {id : Nat} {L : List Tk} {j : Nat} {cs : List Hc} {k : Nat} (hk : k < H.next) : (Hat (H.new cs) id L j).obj k = (Hat H id L j).obj k := by
 have := Hp.new_low H cs hk
 simp only [Hat, Hp.set] at *
 split
 ·rfl
 ·exact this
theorem Tk.ops (D : Nat → Prop) (t : Tk) : OpsIn D t.av := .agg _ fun x hx => by
 simp at hx
 rcases hx with rfl | rfl | rfl | rfl | rfl <;> constructor
theorem Hat_kin {H : Hp} {id : Nat} {L : List Tk} {i j : Nat} : Kin (Hat H id L i) (Hat H id L j) := by
 refine ⟨rfl, fun k cs e => ?_⟩
 simp only [Hat, Hp.set] at *
 split at e
 ·rename_i h
  cases e
  rw [if_pos h]
  refine .inr ⟨⟨_, rfl⟩, fun x hx => ?_⟩
  simp [rdC] at hx
  rcases hx with rfl | rfl
  ·exact OpsIn.sl _ fun y hy => by
    obtain ⟨t, _, rfl⟩ := List.mem_map.1 hy
    exact t.ops _
  ·exact OpsIn.int _ _
 ·rename_i h; rw [if_neg h]; exact .inl e
theorem gVal_m {L : List Tk} {t : Int} {i j : Nat} {v : Val} (h : gVal L t i = .ok v j) : v.m = [] := by
 unfold gVal at h
 split at h
 ·split at h
  ·cases h; rfl
  ·cases e : gNeeds L [[102, 97, 108, 115, 101]] i with
   | ok x k => rw [e] at h; cases h; rfl
   | bad k => rw [e] at h; cases h
 ·split at h
  ·cases e : gOf L 3 (fun _ => true) i with
   | ok x k => rw [e] at h; cases h; rfl
   | bad k => rw [e] at h; cases h
  ·cases e : gOf L 2 (valP t) i with
   | ok x k => rw [e] at h; cases h; rfl
   | bad k => rw [e] at h; cases h
theorem Val.ops {D : Nat → Prop} {v : Val} (h : v.m = []) : OpsIn D (.agg v.cells) := .agg _ fun x hx => by
 simp only [Val.cells, h, List.map_nil, List.mem_cons, List.not_mem_nil, or_false] at hx
 rcases hx with rfl | rfl | rfl
 ·exact .int _ _
 ·exact .str _
 ·exact .sl _ (by simp)
theorem value1_run (t : Tk) (ty : Int) (H : Hp) (n : Nat) (old : AV) (ho : H.obj n = some [.v old]) (hn : t.n < 18446744073709551616) : Run Tryz.prog 165 ([t.av] ++ [.kp [.int .i64 ty], .op n 0]) H (.bool (rdT ty t.n t.neg).isSome) (H.set n [.v (.int .u64 (((rdT ty t.n t.neg).getD 0 : Nat) : Int))]) := by
 refine Run.of_tri Tryz.func165 rfl rfl (ltb rfl) ?_
 refine Tri.seq (Tri.region ?_)
 refine TriL.c2 rfl (op_box (ltb rfl) rfl rfl rfl) ?_
 refine TriL.c1 rfl (op_as (ltb rfl) rfl) ?_
 refine TriL.nil (Tri.seq (Tri.region ?_))
 refine TriL.c1 rfl (op_ldk (ltb rfl) lk3_q rfl rfl) ?_
 refine TriL.c1 rfl (op_fal (ltb rfl) fo112_2_q rfl) ?_
 refine TriL.c1 rfl (op_ldl (ltb rfl) lk41_q rfl rfl rfl) ?_
 refine TriL.c1 rfl (op_fal (ltb rfl) fo112_3_q rfl) ?_
 refine TriL.c1 rfl (op_ldl (ltb rfl) lk4_q rfl rfl rfl) ?_
 refine TriL.c1 rfl (op_call (ltb rfl) fn166_q rfl (p_read _ _ _ hn)) ?_
 refine TriL.c1 rfl (op_mv (ltb rfl) rfl) ?_
 iterate 2 (refine TriL.c1 rfl (op_ext (ltb rfl) rfl rfl) ?_)
 iterate 2 (refine TriL.c1 rfl (op_as (ltb rfl) rfl) ?_)
 refine TriL.nil (Tri.seq (Tri.region ?_))
 refine TriL.c1 rfl (op_mv (ltb rfl) rfl) ?_
 refine TriL.c1 rfl (op_stc lk41_q rfl rfl ho rfl rfl rfl) ?_
 refine TriL.nil (Tri.seq (Tri.region ?_))
 refine TriL.c1 rfl (op_mv (ltb rfl) rfl) ?_
 refine TriL.c1 rfl (op_as (ltb rfl) rfl) ?_
 refine TriL.nil (Tri.ret ?_)
 exact ⟨.inr rfl, (ResOK.r1 rfl (.tmp rfl .nil)).cast rfl, rfl⟩
theorem Toks.nAt {L : List Tk} (hL : Toks L) {i : Nat} (hi : i < L.length) : (tkAt L i).n < 18446744073709551616 := by rw [tkAt_eq hi]; exact hL.n _ (List.getElem_mem hi)
theorem vclo {L : List Tk} (hL : Toks L) (H : Hp) (id : Nat) {i : Nat} (hi : i < L.length) (ty : Int) (hid : id < H.next) (old : AV) : Run Tryz.prog 165 ([(tkAt L i).av] ++ [.kp [.int .i64 ty], .op H.next 0]) (Hat (H.new [.v old]) id L i) (.bool (valP ty (tkAt L i))) (Hat (H.new [.v (.int .u64 (((rdT ty (tkAt L i).n (tkAt L i).neg).getD 0 : Nat) : Int))]) id L i) := by
 have h := value1_run (tkAt L i) ty (Hat (H.new [.v old]) id L i) H.next old (Hat_objx (by omega) (Hp.new_obj _ _)) (hL.nAt hi)
 rw [Hat_setx (by omega), Hp.new_set] at h
 exact h
theorem vof_ok {L : List Tk} (hL : Toks L) (H : Hp) (id : Nat) {i : Nat} (hi : i < L.length) (ty : Int) (hid : id < H.next) (old : AV) {x : Tk} {j : Nat} (h : gOf L 2 (valP ty) i = .ok x j) : Run Tryz.prog 132 [.op id 0, .int .i64 2, .fn 165 [.kp [.int .i64 ty], .op H.next 0]] (Hat (H.new [.v old]) id L i) x.av (Hat (H.new [.v (.int .u64 (((rdT ty x.n x.neg).getD 0 : Nat) : Int))]) id L j) := by
 obtain ⟨h1, h2, rfl, rfl⟩ := gOf_ok h
 have hc := vclo hL H id hi ty hid old
 rw [h2] at hc
 exact of_ok hL _ id hi (k := 2) (by kernel_rfl) h1 hc
theorem vof_bad {L : List Tk} (hL : Toks L) (H : Hp) (id : Nat) {i : Nat} (hi : i < L.length) (ty : Int) (hid : id < H.next) (old : AV) {j : Nat} (h : gOf L 2 (valP ty) i = .bad j) : RunPE Tryz.prog 132 [.op id 0, .int .i64 2, .fn 165 [.kp [.int .i64 ty], .op H.next 0]] (Hat (H.new [.v old]) id L i) (pv L j) (fun H' => ∀ k, k < H.next → H'.obj k = (Hat H id L j).obj k) := by
 have hj : j = i := by
  unfold gOf at h
  split at h
  ·cases h
  ·cases h; rfl
 subst hj
 by_cases hk : (tkAt L j).k = 2
 ·have h2 : valP ty (tkAt L j) = false := by
   cases e : valP ty (tkAt L j) with
   | false => rfl
   | true => unfold gOf at h; rw [if_pos ⟨hk, e⟩] at h; cases h
  have hc := vclo hL H id hi ty hid old
  rw [h2] at hc
  exact RunPE.of (of_no hL _ id hi (k := 2) (by kernel_rfl) hk hc) fun k hk => Hat_low hk
 ·exact RunPE.of (of_ne hL _ id hi (k := 2) (by kernel_rfl) hk) fun k hk => Hat_low hk
theorem value_run {L : List Tk} (hL : Toks L) (H : Hp) (id : Nat) {i : Nat} (hi : i < L.length) (hid : id < H.next) (ty : Int) : RunR Tryz.prog 144 [.op id 0, .int .i64 ty] (Hat H id L) (fun v : Val => .agg v.cells) (pv L) i (gVal L ty i) := by
 refine RunR.of_triD Tryz.func144 rfl rfl (ltb rfl) (fun j => Hat_kin) (fun a j e => Val.ops (gVal_m e)) ?_
 refine Tri.seq (Tri.region ?_)
 refine TriL.c2 rfl (op_box (ltb rfl) rfl rfl rfl) ?_
 refine TriL.c2 rfl (op_all (ltb rfl) zA44_q rfl) ?_
 refine TriL.nil (Tri.seq (Tri.blk (Tri.seq (Tri.region ?_))))
 refine TriL.c1 rfl (op_ldl (ltb rfl) lk3_q rfl rfl rfl) ?_
 refine TriL.c1 rfl (op_bin (ltb rfl) rfl rfl rfl) ?_
 refine TriL.c1 rfl (op_as (ltb rfl) rfl) ?_
 refine TriL.nil ?_
 refine Tri.cond rfl (fun hc1 => ?_) (fun hc1 => ?_)
 ·refine Tri.seq (Tri.seq (Tri.region ?_))
  refine TriL.c1 rfl (op_mv (ltb rfl) rfl) ?_
  cases hp1 : gTake L [116, 114, 117, 101] i with
  | true => 
   refine TriL.c2 rfl (op_callh (ltb rfl) fn136_q rfl rfl (takeT hL _ id hi hp1)) ?_
   refine TriL.nil ?_
   refine Tri.condT rfl rfl ?_
   refine Tri.seq (Tri.region ?_)
   refine TriL.c1 rfl (op_bld (ltb rfl) spl44_q zA44_q rfl rfl) ?_
   refine TriL.c1 rfl (op_stl lk44_q rfl rfl rfl rfl rfl (leb rfl)) ?_
   refine TriL.nil (Tri.ret ?_)
   exact EndD.fin (show gVal L ty i = .ok (.mk 1 [] []) (i + 1) by rw [gVal, if_pos (eq_of_beq hc1), if_pos hp1]) ⟨.inr rfl, (ResOK.r1 rfl (.cell lk44_q rfl rfl rfl rfl .nil)).cast rfl, ⟨_, rfl, fun _ _ => rfl⟩⟩
  | false => 
   refine TriL.c2 rfl (op_callh (ltb rfl) fn136_q rfl rfl (takeF hL _ id hi hp1)) ?_
   refine TriL.nil ?_
   refine Tri.condF rfl rfl ?_
   refine Tri.skip (Tri.seq ?_)
   refine Tri.regionP ?_
   refine TriLP.c1 rfl (op_mv (ltb rfl) rfl) ?_
   refine TriLP.c1 rfl (op_lit («as» := [_]) (ltb rfl) se40_q zAe40_q rfl rfl rfl (leb rfl)) ?_
   cases hp2 : gNeeds L [[102, 97, 108, 115, 101]] i with
   | bad j => 
    refine TriLP.callp fn99_q rfl rfl (RunR.bad (need_run hL _ id hi [[102, 97, 108, 115, 101]] (by decide)) hp2) ?_
    exact EndD.pan (by rw [gVal, if_pos (eq_of_beq hc1), if_neg (by rw [hp1]; decide), hp2]; rfl) rfl rfl (fun _ _ => rfl)
   | ok x2 j2 => 
    have hj2 := PR.ok_lt (gNeeds_in hL hi) hp2
    refine TriLP.c2 rfl (op_callh (ltb rfl) fn99_q rfl rfl (RunR.ok (need_run hL _ id hi [[102, 97, 108, 115, 101]] (by decide)) hp2)) ?_
    refine TriLP.nil ?_
    refine Tri.seq (Tri.region ?_)
    refine TriL.c1 rfl (op_bld (ltb rfl) spl44_q zA44_q rfl rfl) ?_
    refine TriL.c1 rfl (op_stl lk44_q rfl rfl rfl rfl rfl (leb rfl)) ?_
    refine TriL.nil (Tri.ret ?_)
    exact EndD.fin (show gVal L ty i = .ok (.mk 0 [] []) j2 by rw [gVal, if_pos (eq_of_beq hc1), if_neg (by rw [hp1]; decide), hp2]; rfl) ⟨.inr rfl, (ResOK.r1 rfl (.cell lk44_q rfl rfl rfl rfl .nil)).cast rfl, ⟨_, rfl, fun _ _ => rfl⟩⟩
 ·refine Tri.seq (Tri.region ?_)
  refine TriL.c1 rfl (op_ldl (ltb rfl) lk3_q rfl rfl rfl) ?_
  refine TriL.c1 rfl (op_call (ltb rfl) fn64_q rfl (p_wholeT _)) ?_
  refine TriL.c1 rfl (op_un (ltb rfl) rfl rfl) ?_
  refine TriL.c1 rfl (op_as (ltb rfl) rfl) ?_
  refine TriL.nil ?_
  refine Tri.cond rfl (fun hc2 => ?_) (fun hc2 => ?_)
  ·refine Tri.seq ?_
   refine Tri.regionP ?_
   refine TriLP.c1 rfl (op_mv (ltb rfl) rfl) ?_
   cases hp3 : gOf L 3 (fun _ => true) i with
   | bad j => 
    refine TriLP.callp fn132_q rfl rfl (RunR.bad (of_run hL _ id hi (by kernel_rfl) (fun _ => true) (each_pure _)) hp3) ?_
    exact EndD.pan (by rw [gVal, if_neg (by simpa using hc1), if_pos (by simpa using hc2), hp3]; rfl) rfl rfl (fun _ _ => rfl)
   | ok x3 j3 => 
    have hj3 := PR.ok_lt (gOf_in hL (by decide) hi) hp3
    refine TriLP.c2 rfl (op_callh (ltb rfl) fn132_q rfl rfl (RunR.ok (of_run hL _ id hi (by kernel_rfl) (fun _ => true) (each_pure _)) hp3)) ?_
    refine TriLP.c1 rfl (op_fld (ltb rfl) fof112_1_q rfl rfl (by intro _; exact leb rfl)) ?_
    refine TriLP.c1 rfl (op_bld (ltb rfl) spl44_q zA44_q rfl rfl) ?_
    refine TriLP.c1 rfl (op_stl lk44_q rfl rfl rfl rfl rfl (leb rfl)) ?_
    refine TriLP.nil ?_
    refine Tri.ret ?_
    exact EndD.fin (show gVal L ty i = .ok (.mk 0 x3.s []) j3 by rw [gVal, if_neg (by simpa using hc1), if_pos (by simpa using hc2), hp3]; rfl) ⟨.inr rfl, (ResOK.r1 rfl (.cell lk44_q rfl rfl rfl rfl .nil)).cast rfl, ⟨_, rfl, fun _ _ => rfl⟩⟩
  ·refine Tri.skip (Tri.seq (Tri.region ?_))
   refine TriL.c2 rfl (op_all (ltb rfl) zA41_q rfl) ?_
   refine TriL.nil (Tri.seq ?_)
   refine Tri.ofKept (Kept.pub 5 rfl rfl (Kept.op 5 rfl rfl (Kept.cls 5 rfl rfl rfl rfl (Kept.now ?_))))
   refine Tri.ofKept (Kept.seth rfl (Hat_new hid) (Kept.now ?_))
   refine Tri.ofKept (Kept.fzb 3 rfl rfl (Kept.now ?_))
   refine Tri.regionP ?_
   refine TriLP.c1 rfl (op_mv (ltb rfl) rfl) ?_
   refine TriLP.c1 rfl (op_mkf (ltb rfl) rfl) ?_
   cases hp4 : gOf L 2 (valP ty) i with
   | bad j => 
    refine TriLP.callpE fn132_q rfl rfl (vof_bad hL H id hi ty hid _ hp4) (fun H' hK' => ?_)
    exact EndD.pan (by rw [gVal, if_neg (by simpa using hc1), if_neg (by simpa using hc2), hp4]; rfl) rfl rfl hK'
   | ok x4 j4 => 
    have hj4 := PR.ok_lt (gOf_in hL (by decide) hi) hp4
    refine TriLP.c2 rfl (op_callh (ltb rfl) fn132_q rfl rfl (vof_ok hL H id hi ty hid _ hp4)) ?_
    refine TriLP.nil ?_
    refine Tri.seq (Tri.region ?_)
    refine TriL.c1 rfl (op_ldc (ltb rfl) lk41_q rfl rfl (Hat_objx (show H.next ≠ id by omega) (Hp.new_obj _ _)) rfl) ?_
    refine TriL.c1 rfl (op_bld (ltb rfl) spl44_q zA44_q rfl rfl) ?_
    refine TriL.c1 rfl (op_stl lk44_q rfl rfl rfl rfl rfl (leb rfl)) ?_
    refine TriL.nil (Tri.ret ?_)
    exact EndD.fin (show gVal L ty i = .ok (.mk ((rdT ty x4.n x4.neg).getD 0) [] []) j4 by rw [gVal, if_neg (by simpa using hc1), if_neg (by simpa using hc2), hp4]; rfl) ⟨.inr rfl, (ResOK.r1 rfl (.cell lk44_q rfl rfl rfl rfl .nil)).cast rfl, ⟨_, rfl, fun k hk => Hat_low hk⟩⟩
def xC (x : Stp) : List Hc := x.cells.map .v
theorem Hat_setx2 {H : Hp} {id x : Nat} {L : List Tk} {j : Nat} {cs ds : List Hc} (hne : x ≠ id) : (Hat (H.set x cs) id L j).set x ds = Hat (H.set x ds) id L j := by rw [Hat_setx hne, Hp.set_set]
/-- a function that reads into a step -/
def RunS (f : FuncId) (args : List AV) (H : Hp) (id xid : Nat) (L : List Tk) (x : Stp) (i : Nat) (r : PR Stp) : Prop :=
 match r with
 | .ok y j => Run Tryz.prog f args (Hat (H.set xid (xC x)) id L i) (.tup []) (Hat (H.set xid (xC y)) id L j)
 | .bad j => RunPE Tryz.prog f args (Hat (H.set xid (xC x)) id L i) (pv L j) (fun H' => ∃ cs, H' = Hat (H.set xid cs) id L j)
def EndS (fn : Func) (H : Hp) (id xid : Nat) (L : List Tk) (r : PR Stp) (e : Exit) (s : St) : Prop :=
 match r with
 | .ok y j => (e = .normal ∨ e = .ret) ∧ ResOK Tryz.prog fn s (.tup []) ∧ get s .h = some (.hp (Hat (H.set xid (xC y)) id L j))
 | .bad j => e = .panic [{ v := pv L j, recovered := false }] ∧ ∃ cs, get s .h = some (.hp (Hat (H.set xid cs) id L j))
theorem EndS.fin {fn : Func} {H : Hp} {id xid : Nat} {L : List Tk} {r : PR Stp} {e : Exit} {s : St} {y : Stp} {j : Nat} (h : r = .ok y j) (k : (e = .normal ∨ e = .ret) ∧ ResOK Tryz.prog fn s (.tup []) ∧ get s .h = some (.hp (Hat (H.set xid (xC y)) id L j))) : EndS fn H id xid L r e s := by subst h; exact k
theorem EndS.pan {fn : Func} {H : Hp} {id xid : Nat} {L : List Tk} {r : PR Stp} {s : St} {v : Value} {j : Nat} (h : r = .bad j) (hv : v = pv L j) (k : ∃ cs, get s .h = some (.hp (Hat (H.set xid cs) id L j))) : EndS fn H id xid L r (.panic [{ v := v, recovered := false }]) s := by subst h; subst hv; exact ⟨rfl, k⟩
theorem RunS.ok {f : FuncId} {args : List AV} {H : Hp} {id xid : Nat} {L : List Tk} {x y : Stp} {i j : Nat} {r : PR Stp} (h : RunS f args H id xid L x i r) (e : r = .ok y j) : Run Tryz.prog f args (Hat (H.set xid (xC x)) id L i) (.tup []) (Hat (H.set xid (xC y)) id L j) := by subst e; exact h
theorem RunS.bad {f : FuncId} {args : List AV} {H : Hp} {id xid : Nat} {L : List Tk} {x : Stp} {i j : Nat} {r : PR Stp} (h : RunS f args H id xid L x i r) (e : r = .bad j) : RunPE Tryz.prog f args (Hat (H.set xid (xC x)) id L i) (pv L j) (fun H' => ∃ cs, H' = Hat (H.set xid cs) id L j) := by subst e; exact h
theorem RunS.of_tri {f : FuncId} {fn : Func} {c : Code} {N : Nat} {args : List AV} {H : Hp} {id xid : Nat} {L : List Tk} {x : Stp} {i : Nat} {r : PR Stp} (hf : Tryz.prog.funcs[f]? = some fn) (hb : fn.body = some c) (hN : fn.ntmps = N) (hle : args.length ≤ N)
  (h : Tri Tryz.prog N c ((.h, .hp (Hat (H.set xid (xC x)) id L i)) :: initS args 0) (EndS fn H id xid L r)) : RunS f args H id xid L x i r := by
 cases r with
 | ok y j => exact Run.of_tri hf hb hN hle h
 | bad j => exact RunPE.of_tri hf hb hN hle (h.mono fun e s' ⟨h1, cs, h2⟩ => ⟨h1, _, h2, cs, rfl⟩)
theorem fields4_run {L : List Tk} (hL : Toks L) (H : Hp) (id : Nat) {i : Nat} (hi : i < L.length) {xid : Nat} (hne : xid ≠ id) (x : Stp) (hk : x.kind = 4) : RunS 140 [.op id 0, .op xid 0] H id xid L x i (gFields L x i) := by
 refine RunS.of_tri Tryz.func140 rfl rfl (ltb rfl) ?_
 refine Tri.seq (Tri.seq (Tri.region ?_))
 refine TriL.c1 rfl (op_mv (ltb rfl) rfl) ?_
 refine TriL.c1 rfl (op_nckc (ltb rfl) rfl) ?_
 refine TriL.c1 rfl (op_fac (ltb rfl) fo46_0_q rfl) ?_
 refine TriL.c1 rfl (op_ldc (ltb rfl) lk3_q rfl rfl (Hat_objx hne Hp.set_obj) rfl) ?_
 refine TriL.c1 rfl (op_bin (ltb rfl) rfl rfl rfl) ?_
 refine TriL.nil ?_
 refine Tri.condF rfl (by rw [hk]; rfl) ?_
 refine Tri.skip (Tri.seq ?_)
 refine Tri.regionP ?_
 refine TriLP.c1 rfl (op_mv (ltb rfl) rfl) ?_
 refine TriLP.c1 rfl (op_lit («as» := [_]) (ltb rfl) se40_q zAe40_q rfl rfl rfl (leb rfl)) ?_
 cases hp1 : gNeeds L [[105, 110, 116, 111]] i with
 | bad j => 
  refine TriLP.callp fn99_q rfl rfl (RunR.bad (need_run hL _ id hi [[105, 110, 116, 111]] (by decide)) hp1) ?_
  exact EndS.pan (by simp [gFields, *]) rfl ⟨_, rfl⟩
 | ok x1 j1 => 
  have hj1 := PR.ok_lt (gNeeds_in hL hi) hp1
  refine TriLP.c2 rfl (op_callh (ltb rfl) fn99_q rfl rfl (RunR.ok (need_run hL _ id hi [[105, 110, 116, 111]] (by decide)) hp1)) ?_
  refine TriLP.nil ?_
  refine Tri.seq ?_
  refine Tri.regionP ?_
  iterate 2 (refine TriLP.c1 rfl (op_mv (ltb rfl) rfl) ?_)
  cases hp2 : gName L j1 with
  | bad j => 
   refine TriLP.callp fn98_q rfl rfl (RunR.bad (name_run hL _ id hj1) hp2) ?_
   exact EndS.pan (by simp [gFields, *]) rfl ⟨_, rfl⟩
  | ok x2 j2 => 
   have hj2 := PR.ok_lt (gName_in hL hj1) hp2
   refine TriLP.c2 rfl (op_callh (ltb rfl) fn98_q rfl rfl (RunR.ok (name_run hL _ id hj1) hp2)) ?_
   refine TriLP.c1 rfl (op_nckc (ltb rfl) rfl) ?_
   refine TriLP.c1 rfl (op_fac (ltb rfl) fo46_3_q rfl) ?_
   refine TriLP.c1 rfl (op_stc lk9_q rfl rfl (Hat_objx hne Hp.set_obj) rfl rfl rfl) ?_
   refine TriLP.kept (Kept.seth rfl (Hat_setx2 hne) (Kept.now ?_))
   refine Tri.seq (Tri.seq (Tri.region ?_))
   refine TriL.c1 rfl (op_mv (ltb rfl) rfl) ?_
   refine TriL.c1 rfl (op_nckc (ltb rfl) rfl) ?_
   refine TriL.c1 rfl (op_fac (ltb rfl) fo46_0_q rfl) ?_
   refine TriL.c1 rfl (op_ldc (ltb rfl) lk3_q rfl rfl (Hat_objx hne Hp.set_obj) rfl) ?_
   refine TriL.c1 rfl (op_bin (ltb rfl) rfl rfl rfl) ?_
   refine TriL.nil ?_
   refine Tri.condF rfl (by rw [hk]; rfl) ?_
   refine Tri.skip (Tri.seq ?_)
   refine Tri.regionP ?_
   iterate 2 (refine TriLP.c1 rfl (op_mv (ltb rfl) rfl) ?_)
   cases hp3 : gGiven L j2 with
   | bad j => 
    refine TriLP.callp fn142_q rfl rfl (RunR.bad (given_run hL _ id hj2) hp3) ?_
    exact EndS.pan (by simp [gFields, *]) rfl ⟨_, rfl⟩
   | ok x3 j3 => 
    have hj3 := PR.ok_lt (gGiven_in hL hj2) hp3
    refine TriLP.c2 rfl (op_callh (ltb rfl) fn142_q rfl rfl (RunR.ok (given_run hL _ id hj2) hp3)) ?_
    refine TriLP.c1 rfl (op_nckc (ltb rfl) rfl) ?_
    refine TriLP.c1 rfl (op_fac (ltb rfl) fo46_5_q rfl) ?_
    refine TriLP.c1 rfl (op_stc lk3_q rfl rfl (Hat_objx hne Hp.set_obj) rfl rfl rfl) ?_
    refine TriLP.kept (Kept.seth rfl (Hat_setx2 hne) (Kept.now ?_))
    refine Tri.seq (Tri.region ?_)
    refine TriL.c1 rfl (op_mv (ltb rfl) rfl) ?_
    refine TriL.c1 rfl (op_nckc (ltb rfl) rfl) ?_
    refine TriL.c1 rfl (op_fac (ltb rfl) fo46_0_q rfl) ?_
    refine TriL.c1 rfl (op_ldc (ltb rfl) lk3_q rfl rfl (Hat_objx hne Hp.set_obj) rfl) ?_
    refine TriL.c1 rfl (op_bin (ltb rfl) rfl rfl rfl) ?_
    refine TriL.nil ?_
    refine Tri.condT rfl (by rw [hk]; rfl) ?_
    refine Tri.seq ?_
    refine Tri.regionP ?_
    refine TriLP.c1 rfl (op_mv (ltb rfl) rfl) ?_
    refine TriLP.c1 rfl (op_lit («as» := [_]) (ltb rfl) se40_q zAe40_q rfl rfl rfl (leb rfl)) ?_
    cases hp4 : gNeeds L [[44]] j3 with
    | bad j => 
     refine TriLP.callp fn99_q rfl rfl (RunR.bad (need_run hL _ id hj3 [[44]] (by decide)) hp4) ?_
     exact EndS.pan (by simp [gFields, *]) rfl ⟨_, rfl⟩
    | ok x4 j4 => 
     have hj4 := PR.ok_lt (gNeeds_in hL hj3) hp4
     refine TriLP.c2 rfl (op_callh (ltb rfl) fn99_q rfl rfl (RunR.ok (need_run hL _ id hj3 [[44]] (by decide)) hp4)) ?_
     refine TriLP.nil ?_
     refine Tri.seq ?_
     refine Tri.regionP ?_
     iterate 2 (refine TriLP.c1 rfl (op_mv (ltb rfl) rfl) ?_)
     cases hp5 : gName L j4 with
     | bad j => 
      refine TriLP.callp fn98_q rfl rfl (RunR.bad (name_run hL _ id hj4) hp5) ?_
      exact EndS.pan (by simp [gFields, *]) rfl ⟨_, rfl⟩
     | ok x5 j5 => 
      have hj5 := PR.ok_lt (gName_in hL hj4) hp5
      refine TriLP.c2 rfl (op_callh (ltb rfl) fn98_q rfl rfl (RunR.ok (name_run hL _ id hj4) hp5)) ?_
      refine TriLP.c1 rfl (op_nckc (ltb rfl) rfl) ?_
      refine TriLP.c1 rfl (op_fac (ltb rfl) fo46_4_q rfl) ?_
      refine TriLP.c1 rfl (op_stc lk9_q rfl rfl (Hat_objx hne Hp.set_obj) rfl rfl rfl) ?_
      refine TriLP.kept (Kept.seth rfl (Hat_setx2 hne) (Kept.now ?_))
      refine Tri.regionP ?_
      iterate 2 (refine TriLP.c1 rfl (op_mv (ltb rfl) rfl) ?_)
      cases hp6 : gGiven L j5 with
      | bad j => 
       refine TriLP.callp fn142_q rfl rfl (RunR.bad (given_run hL _ id hj5) hp6) ?_
       exact EndS.pan (by simp [gFields, *]) rfl ⟨_, rfl⟩
      | ok x6 j6 => 
       have hj6 := PR.ok_lt (gGiven_in hL hj5) hp6
       refine TriLP.c2 rfl (op_callh (ltb rfl) fn142_q rfl rfl (RunR.ok (given_run hL _ id hj5) hp6)) ?_
       refine TriLP.c1 rfl (op_nckc (ltb rfl) rfl) ?_
       refine TriLP.c1 rfl (op_fac (ltb rfl) fo46_6_q rfl) ?_
       refine TriLP.c1 rfl (op_stc lk3_q rfl rfl (Hat_objx hne Hp.set_obj) rfl rfl rfl) ?_
       refine TriLP.kept (Kept.seth rfl (Hat_setx2 hne) (Kept.now ?_))
       exact EndS.fin (show gFields L x i = .ok { x with dest := x2, num := x3, also := x5, other := x6 } j6 by simp [gFields, *]) ⟨.inl rfl, (ResOK.r0 rfl ).cast rfl, rfl⟩
theorem fields5_run {L : List Tk} (hL : Toks L) (H : Hp) (id : Nat) {i : Nat} (hi : i < L.length) {xid : Nat} (hne : xid ≠ id) (x : Stp) (hk : x.kind = 5) : RunS 140 [.op id 0, .op xid 0] H id xid L x i (gFields L x i) := by
 refine RunS.of_tri Tryz.func140 rfl rfl (ltb rfl) ?_
 refine Tri.seq (Tri.seq (Tri.region ?_))
 refine TriL.c1 rfl (op_mv (ltb rfl) rfl) ?_
 refine TriL.c1 rfl (op_nckc (ltb rfl) rfl) ?_
 refine TriL.c1 rfl (op_fac (ltb rfl) fo46_0_q rfl) ?_
 refine TriL.c1 rfl (op_ldc (ltb rfl) lk3_q rfl rfl (Hat_objx hne Hp.set_obj) rfl) ?_
 refine TriL.c1 rfl (op_bin (ltb rfl) rfl rfl rfl) ?_
 refine TriL.nil ?_
 refine Tri.condT rfl (by rw [hk]; rfl) ?_
 refine Tri.seq ?_
 refine Tri.regionP ?_
 refine TriLP.c1 rfl (op_mv (ltb rfl) rfl) ?_
 refine TriLP.c1 rfl (op_lit («as» := [_]) (ltb rfl) se40_q zAe40_q rfl rfl rfl (leb rfl)) ?_
 cases hp1 : gNeeds L [[44]] i with
 | bad j => 
  refine TriLP.callp fn99_q rfl rfl (RunR.bad (need_run hL _ id hi [[44]] (by decide)) hp1) ?_
  exact EndS.pan (by simp [gFields, *]) rfl ⟨_, rfl⟩
 | ok x1 j1 => 
  have hj1 := PR.ok_lt (gNeeds_in hL hi) hp1
  refine TriLP.c2 rfl (op_callh (ltb rfl) fn99_q rfl rfl (RunR.ok (need_run hL _ id hi [[44]] (by decide)) hp1)) ?_
  refine TriLP.nil ?_
  refine Tri.regionP ?_
  iterate 2 (refine TriLP.c1 rfl (op_mv (ltb rfl) rfl) ?_)
  cases hp2 : gName L j1 with
  | bad j => 
   refine TriLP.callp fn98_q rfl rfl (RunR.bad (name_run hL _ id hj1) hp2) ?_
   exact EndS.pan (by simp [gFields, *]) rfl ⟨_, rfl⟩
  | ok x2 j2 => 
   have hj2 := PR.ok_lt (gName_in hL hj1) hp2
   refine TriLP.c2 rfl (op_callh (ltb rfl) fn98_q rfl rfl (RunR.ok (name_run hL _ id hj1) hp2)) ?_
   refine TriLP.c1 rfl (op_nckc (ltb rfl) rfl) ?_
   refine TriLP.c1 rfl (op_fac (ltb rfl) fo46_4_q rfl) ?_
   refine TriLP.c1 rfl (op_stc lk9_q rfl rfl (Hat_objx hne Hp.set_obj) rfl rfl rfl) ?_
   refine TriLP.kept (Kept.seth rfl (Hat_setx2 hne) (Kept.now ?_))
   refine Tri.seq ?_
   refine Tri.regionP ?_
   refine TriLP.c1 rfl (op_mv (ltb rfl) rfl) ?_
   refine TriLP.c1 rfl (op_lit («as» := [_]) (ltb rfl) se40_q zAe40_q rfl rfl rfl (leb rfl)) ?_
   cases hp3 : gNeeds L [[105, 110, 116, 111]] j2 with
   | bad j => 
    refine TriLP.callp fn99_q rfl rfl (RunR.bad (need_run hL _ id hj2 [[105, 110, 116, 111]] (by decide)) hp3) ?_
    exact EndS.pan (by simp [gFields, *]) rfl ⟨_, rfl⟩
   | ok x3 j3 => 
    have hj3 := PR.ok_lt (gNeeds_in hL hj2) hp3
    refine TriLP.c2 rfl (op_callh (ltb rfl) fn99_q rfl rfl (RunR.ok (need_run hL _ id hj2 [[105, 110, 116, 111]] (by decide)) hp3)) ?_
    refine TriLP.nil ?_
    refine Tri.seq ?_
    refine Tri.regionP ?_
    iterate 2 (refine TriLP.c1 rfl (op_mv (ltb rfl) rfl) ?_)
    cases hp4 : gName L j3 with
    | bad j => 
     refine TriLP.callp fn98_q rfl rfl (RunR.bad (name_run hL _ id hj3) hp4) ?_
     exact EndS.pan (by simp [gFields, *]) rfl ⟨_, rfl⟩
    | ok x4 j4 => 
     have hj4 := PR.ok_lt (gName_in hL hj3) hp4
     refine TriLP.c2 rfl (op_callh (ltb rfl) fn98_q rfl rfl (RunR.ok (name_run hL _ id hj3) hp4)) ?_
     refine TriLP.c1 rfl (op_nckc (ltb rfl) rfl) ?_
     refine TriLP.c1 rfl (op_fac (ltb rfl) fo46_3_q rfl) ?_
     refine TriLP.c1 rfl (op_stc lk9_q rfl rfl (Hat_objx hne Hp.set_obj) rfl rfl rfl) ?_
     refine TriLP.kept (Kept.seth rfl (Hat_setx2 hne) (Kept.now ?_))
     refine Tri.seq (Tri.seq (Tri.region ?_))
     refine TriL.c1 rfl (op_mv (ltb rfl) rfl) ?_
     refine TriL.c1 rfl (op_nckc (ltb rfl) rfl) ?_
     refine TriL.c1 rfl (op_fac (ltb rfl) fo46_0_q rfl) ?_
     refine TriL.c1 rfl (op_ldc (ltb rfl) lk3_q rfl rfl (Hat_objx hne Hp.set_obj) rfl) ?_
     refine TriL.c1 rfl (op_bin (ltb rfl) rfl rfl rfl) ?_
     refine TriL.nil ?_
     refine Tri.condF rfl (by rw [hk]; rfl) ?_
     refine Tri.skip (Tri.seq ?_)
     refine Tri.regionP ?_
     iterate 2 (refine TriLP.c1 rfl (op_mv (ltb rfl) rfl) ?_)
     cases hp5 : gGiven L j4 with
     | bad j => 
      refine TriLP.callp fn142_q rfl rfl (RunR.bad (given_run hL _ id hj4) hp5) ?_
      exact EndS.pan (by simp [gFields, *]) rfl ⟨_, rfl⟩
     | ok x5 j5 => 
      have hj5 := PR.ok_lt (gGiven_in hL hj4) hp5
      refine TriLP.c2 rfl (op_callh (ltb rfl) fn142_q rfl rfl (RunR.ok (given_run hL _ id hj4) hp5)) ?_
      refine TriLP.c1 rfl (op_nckc (ltb rfl) rfl) ?_
      refine TriLP.c1 rfl (op_fac (ltb rfl) fo46_5_q rfl) ?_
      refine TriLP.c1 rfl (op_stc lk3_q rfl rfl (Hat_objx hne Hp.set_obj) rfl rfl rfl) ?_
      refine TriLP.kept (Kept.seth rfl (Hat_setx2 hne) (Kept.now ?_))
      refine Tri.seq (Tri.region ?_)
      refine TriL.c1 rfl (op_mv (ltb rfl) rfl) ?_
      refine TriL.c1 rfl (op_nckc (ltb rfl) rfl) ?_
      refine TriL.c1 rfl (op_fac (ltb rfl) fo46_0_q rfl) ?_
      refine TriL.c1 rfl (op_ldc (ltb rfl) lk3_q rfl rfl (Hat_objx hne Hp.set_obj) rfl) ?_
      refine TriL.c1 rfl (op_bin (ltb rfl) rfl rfl rfl) ?_
      refine TriL.nil ?_
      refine Tri.condF rfl (by rw [hk]; rfl) ?_
      refine Tri.skip ?_
      exact EndS.fin (show gFields L x i = .ok { x with also := x2, dest := x4, num := x5 } j5 by simp [gFields, *]) ⟨.inl rfl, (ResOK.r0 rfl ).cast rfl, rfl⟩
theorem fields6_run {L : List Tk} (hL : Toks L) (H : Hp) (id : Nat) {i : Nat} (hi : i < L.length) {xid : Nat} (hne : xid ≠ id) (x : Stp) (hk : x.kind = 6) : RunS 140 [.op id 0, .op xid 0] H id xid L x i (gFields L x i) := by
 refine RunS.of_tri Tryz.func140 rfl rfl (ltb rfl) ?_
 refine Tri.seq (Tri.seq (Tri.region ?_))
 refine TriL.c1 rfl (op_mv (ltb rfl) rfl) ?_
 refine TriL.c1 rfl (op_nckc (ltb rfl) rfl) ?_
 refine TriL.c1 rfl (op_fac (ltb rfl) fo46_0_q rfl) ?_
 refine TriL.c1 rfl (op_ldc (ltb rfl) lk3_q rfl rfl (Hat_objx hne Hp.set_obj) rfl) ?_
 refine TriL.c1 rfl (op_bin (ltb rfl) rfl rfl rfl) ?_
 refine TriL.nil ?_
 refine Tri.condF rfl (by rw [hk]; rfl) ?_
 refine Tri.skip (Tri.seq ?_)
 refine Tri.regionP ?_
 refine TriLP.c1 rfl (op_mv (ltb rfl) rfl) ?_
 refine TriLP.c1 rfl (op_lit («as» := [_]) (ltb rfl) se40_q zAe40_q rfl rfl rfl (leb rfl)) ?_
 cases hp1 : gNeeds L [[105, 110, 116, 111]] i with
 | bad j => 
  refine TriLP.callp fn99_q rfl rfl (RunR.bad (need_run hL _ id hi [[105, 110, 116, 111]] (by decide)) hp1) ?_
  exact EndS.pan (by simp [gFields, *]) rfl ⟨_, rfl⟩
 | ok x1 j1 => 
  have hj1 := PR.ok_lt (gNeeds_in hL hi) hp1
  refine TriLP.c2 rfl (op_callh (ltb rfl) fn99_q rfl rfl (RunR.ok (need_run hL _ id hi [[105, 110, 116, 111]] (by decide)) hp1)) ?_
  refine TriLP.nil ?_
  refine Tri.seq ?_
  refine Tri.regionP ?_
  iterate 2 (refine TriLP.c1 rfl (op_mv (ltb rfl) rfl) ?_)
  cases hp2 : gName L j1 with
  | bad j => 
   refine TriLP.callp fn98_q rfl rfl (RunR.bad (name_run hL _ id hj1) hp2) ?_
   exact EndS.pan (by simp [gFields, *]) rfl ⟨_, rfl⟩
  | ok x2 j2 => 
   have hj2 := PR.ok_lt (gName_in hL hj1) hp2
   refine TriLP.c2 rfl (op_callh (ltb rfl) fn98_q rfl rfl (RunR.ok (name_run hL _ id hj1) hp2)) ?_
   refine TriLP.c1 rfl (op_nckc (ltb rfl) rfl) ?_
   refine TriLP.c1 rfl (op_fac (ltb rfl) fo46_3_q rfl) ?_
   refine TriLP.c1 rfl (op_stc lk9_q rfl rfl (Hat_objx hne Hp.set_obj) rfl rfl rfl) ?_
   refine TriLP.kept (Kept.seth rfl (Hat_setx2 hne) (Kept.now ?_))
   refine Tri.seq (Tri.seq (Tri.region ?_))
   refine TriL.c1 rfl (op_mv (ltb rfl) rfl) ?_
   refine TriL.c1 rfl (op_nckc (ltb rfl) rfl) ?_
   refine TriL.c1 rfl (op_fac (ltb rfl) fo46_0_q rfl) ?_
   refine TriL.c1 rfl (op_ldc (ltb rfl) lk3_q rfl rfl (Hat_objx hne Hp.set_obj) rfl) ?_
   refine TriL.c1 rfl (op_bin (ltb rfl) rfl rfl rfl) ?_
   refine TriL.nil ?_
   refine Tri.condT rfl (by rw [hk]; rfl) ?_
   refine Tri.seq ?_
   refine Tri.regionP ?_
   refine TriLP.c1 rfl (op_mv (ltb rfl) rfl) ?_
   refine TriLP.c1 rfl (op_lit («as» := [_]) (ltb rfl) se40_q zAe40_q rfl rfl rfl (leb rfl)) ?_
   cases hp3 : gNeeds L [[97, 115]] j2 with
   | bad j => 
    refine TriLP.callp fn99_q rfl rfl (RunR.bad (need_run hL _ id hj2 [[97, 115]] (by decide)) hp3) ?_
    exact EndS.pan (by simp [gFields, *]) rfl ⟨_, rfl⟩
   | ok x3 j3 => 
    have hj3 := PR.ok_lt (gNeeds_in hL hj2) hp3
    refine TriLP.c2 rfl (op_callh (ltb rfl) fn99_q rfl rfl (RunR.ok (need_run hL _ id hj2 [[97, 115]] (by decide)) hp3)) ?_
    refine TriLP.nil ?_
    refine Tri.regionP ?_
    iterate 2 (refine TriLP.c1 rfl (op_mv (ltb rfl) rfl) ?_)
    cases hp4 : gName L j3 with
    | bad j => 
     refine TriLP.callp fn98_q rfl rfl (RunR.bad (name_run hL _ id hj3) hp4) ?_
     exact EndS.pan (by simp [gFields, *]) rfl ⟨_, rfl⟩
    | ok x4 j4 => 
     have hj4 := PR.ok_lt (gName_in hL hj3) hp4
     refine TriLP.c2 rfl (op_callh (ltb rfl) fn98_q rfl rfl (RunR.ok (name_run hL _ id hj3) hp4)) ?_
     refine TriLP.c1 rfl (op_nckc (ltb rfl) rfl) ?_
     refine TriLP.c1 rfl (op_fac (ltb rfl) fo46_4_q rfl) ?_
     refine TriLP.c1 rfl (op_stc lk9_q rfl rfl (Hat_objx hne Hp.set_obj) rfl rfl rfl) ?_
     refine TriLP.kept (Kept.seth rfl (Hat_setx2 hne) (Kept.now ?_))
     refine Tri.seq ?_
     refine Tri.regionP ?_
     iterate 2 (refine TriLP.c1 rfl (op_mv (ltb rfl) rfl) ?_)
     cases hp5 : gGiven L j4 with
     | bad j => 
      refine TriLP.callp fn142_q rfl rfl (RunR.bad (given_run hL _ id hj4) hp5) ?_
      exact EndS.pan (by simp [gFields, *]) rfl ⟨_, rfl⟩
     | ok x5 j5 => 
      have hj5 := PR.ok_lt (gGiven_in hL hj4) hp5
      refine TriLP.c2 rfl (op_callh (ltb rfl) fn142_q rfl rfl (RunR.ok (given_run hL _ id hj4) hp5)) ?_
      refine TriLP.c1 rfl (op_nckc (ltb rfl) rfl) ?_
      refine TriLP.c1 rfl (op_fac (ltb rfl) fo46_5_q rfl) ?_
      refine TriLP.c1 rfl (op_stc lk3_q rfl rfl (Hat_objx hne Hp.set_obj) rfl rfl rfl) ?_
      refine TriLP.kept (Kept.seth rfl (Hat_setx2 hne) (Kept.now ?_))
      refine Tri.seq (Tri.region ?_)
      refine TriL.c1 rfl (op_mv (ltb rfl) rfl) ?_
      refine TriL.c1 rfl (op_nckc (ltb rfl) rfl) ?_
      refine TriL.c1 rfl (op_fac (ltb rfl) fo46_0_q rfl) ?_
      refine TriL.c1 rfl (op_ldc (ltb rfl) lk3_q rfl rfl (Hat_objx hne Hp.set_obj) rfl) ?_
      refine TriL.c1 rfl (op_bin (ltb rfl) rfl rfl rfl) ?_
      refine TriL.nil ?_
      refine Tri.condF rfl (by rw [hk]; rfl) ?_
      refine Tri.skip ?_
      exact EndS.fin (show gFields L x i = .ok { x with dest := x2, also := x4, num := x5 } j5 by simp [gFields, *]) ⟨.inl rfl, (ResOK.r0 rfl ).cast rfl, rfl⟩
theorem fields_run {L : List Tk} (hL : Toks L) (H : Hp) (id : Nat) {i : Nat} (hi : i < L.length) {xid : Nat} (hne : xid ≠ id) (x : Stp) (hk : x.kind = 4 ∨ x.kind = 5 ∨ x.kind = 6) : RunS 140 [.op id 0, .op xid 0] H id xid L x i (gFields L x i) := by
 rcases hk with h | h | h
 ·exact fields4_run hL H id hi hne x h
 ·exact fields5_run hL H id hi hne x h
 ·exact fields6_run hL H id hi hne x h
theorem gFields_in {L : List Tk} (hL : Toks L) {x : Stp} {i : Nat} (hi : i < L.length) : (gFields L x i).In L.length := by
 unfold gFields
 refine PR.In.bind ?_ fun x a ha => (gNeeds_in hL ha).bind fun _ a ha => (gName_in hL ha).bind fun s a ha => PR.In.bind ?_ fun x a ha => (gGiven_in hL ha).bind fun n a ha => ?_
 ·split
  ·exact (gNeeds_in hL hi).bind fun _ a ha => (gName_in hL ha).bind fun _ _ h => h
  ·exact hi
 ·split
  ·exact (gNeeds_in hL ha).bind fun _ a ha => (gName_in hL ha).bind fun _ _ h => h
  ·exact ha
 ·split
  ·exact (gNeeds_in hL ha).bind fun _ a ha => (gName_in hL ha).bind fun _ a ha => (gGiven_in hL ha).bind fun _ _ h => h
  ·exact ha
theorem gRest0_in {L : List Tk} (hL : Toks L) {x : Stp} {i : Nat} (hi : i < L.length) : (gRest0 L x i).In L.length := by
 unfold gRest0
 split
 ·exact (gNeeds_in hL hi).bind fun _ a ha => (gName_in hL ha).bind fun _ _ h => h
 split
 ·exact (gNeeds_in hL hi).bind fun _ a ha => (gNum_in hL ha).bind fun _ _ h => h
 split
 ·exact (gNeeds_in hL hi).bind fun _ a ha => (gTy_in hL ha).bind fun _ _ h => h
 split
 ·exact gFields_in hL hi
 split
 ·exact (gNeeds_in hL hi).bind fun _ a ha => (gNames_in hL ha).bind fun _ _ h => h
 split
 ·exact (gGiven_in hL hi).bind fun _ a ha => (gTy_in hL ha).bind fun _ a ha => (gNeeds_in hL ha).bind fun _ a ha => (gVal_in hL ha).bind fun _ _ h => h
 ·exact hi
theorem gRest_in {L : List Tk} (hL : Toks L) {x : Stp} {i : Nat} (hi : i < L.length) : (gRest L x i).In L.length := (gRest0_in hL hi).bind fun _ a ha => (gNeeds_in hL ha).bind fun _ _ h => h
theorem gStep_in {L : List Tk} (hL : Toks L) {i : Nat} (hi : i < L.length) : (gStep L i).In L.length := (gKind_in hL hi).bind fun _ a ha => (gName_in hL ha).bind fun _ a ha => (gNeeds_in hL ha).bind fun _ a ha => (gName_in hL ha).bind fun _ a ha => gRest_in hL ha
theorem rest1_pure (n : Int) : Pure Tryz.prog 143 [.int .i64 n] (.bool true) := by
 refine Pure.of_tri Tryz.func143 rfl rfl (ltb rfl) fun H => ?_
 refine Tri.seq (Tri.region ?_)
 refine TriL.c1 rfl (op_as (ltb rfl) rfl) ?_
 refine TriL.nil (Tri.seq (Tri.region ?_))
 refine TriL.c1 rfl (op_as (ltb rfl) rfl) ?_
 refine TriL.nil (Tri.ret ?_)
 exact ⟨.inr rfl, (ResOK.r1 rfl (.tmp rfl .nil)).cast rfl, rfl⟩
theorem rest_run {L : List Tk} (hL : Toks L) (H : Hp) (id : Nat) {i : Nat} (hi : i < L.length) {xid : Nat} (hne : xid ≠ id) (x : Stp) (hid : id < H.next) : RunS 100 [.op id 0, .op xid 0] H id xid L x i (gRest L x i) := by
 refine RunS.of_tri Tryz.func100 rfl rfl (ltb rfl) ?_
 refine Tri.seq (Tri.seq (Tri.region ?_))
 refine TriL.c1 rfl (op_mv (ltb rfl) rfl) ?_
 refine TriL.c1 rfl (op_nckc (ltb rfl) rfl) ?_
 refine TriL.c1 rfl (op_fac (ltb rfl) fo46_0_q rfl) ?_
 refine TriL.c1 rfl (op_ldc (ltb rfl) lk3_q rfl rfl (Hat_objx hne Hp.set_obj) rfl) ?_
 refine TriL.nil (Tri.blk (Tri.seq (Tri.region ?_)))
 refine TriL.c1 rfl (op_bin (ltb rfl) rfl rfl rfl) ?_
 refine TriL.c1 rfl (op_as (ltb rfl) rfl) ?_
 refine TriL.nil ?_
 refine Tri.cond rfl (fun hc1 => ?_) (fun hc1 => ?_)
 ·refine Tri.seq ?_
  refine Tri.regionP ?_
  refine TriLP.c1 rfl (op_mv (ltb rfl) rfl) ?_
  refine TriLP.c1 rfl (op_lit («as» := [_]) (ltb rfl) se40_q zAe40_q rfl rfl rfl (leb rfl)) ?_
  cases hp1 : gNeeds L [[116, 111]] i with
  | bad j => 
   refine TriLP.callp fn99_q rfl rfl (RunR.bad (need_run hL _ id hi [[116, 111]] (by decide)) hp1) ?_
   first | exact EndS.pan (by simp_all [gRest, gRest0]) rfl ⟨_, rfl⟩ | (obtain ⟨cs, rfl⟩ := hK'; exact EndS.pan (by simp_all [gRest, gRest0]) rfl ⟨_, rfl⟩)
  | ok x1 j1 => 
   have hj1 := PR.ok_lt (gNeeds_in hL hi) hp1
   refine TriLP.c2 rfl (op_callh (ltb rfl) fn99_q rfl rfl (RunR.ok (need_run hL _ id hi [[116, 111]] (by decide)) hp1)) ?_
   refine TriLP.nil ?_
   refine Tri.regionP ?_
   iterate 2 (refine TriLP.c1 rfl (op_mv (ltb rfl) rfl) ?_)
   cases hp2 : gName L j1 with
   | bad j => 
    refine TriLP.callp fn98_q rfl rfl (RunR.bad (name_run hL _ id hj1) hp2) ?_
    first | exact EndS.pan (by simp_all [gRest, gRest0]) rfl ⟨_, rfl⟩ | (obtain ⟨cs, rfl⟩ := hK'; exact EndS.pan (by simp_all [gRest, gRest0]) rfl ⟨_, rfl⟩)
   | ok x2 j2 => 
    have hj2 := PR.ok_lt (gName_in hL hj1) hp2
    refine TriLP.c2 rfl (op_callh (ltb rfl) fn98_q rfl rfl (RunR.ok (name_run hL _ id hj1) hp2)) ?_
    refine TriLP.c1 rfl (op_nckc (ltb rfl) rfl) ?_
    refine TriLP.c1 rfl (op_fac (ltb rfl) fo46_3_q rfl) ?_
    refine TriLP.c1 rfl (op_stc lk9_q rfl rfl (Hat_objx hne Hp.set_obj) rfl rfl rfl) ?_
    refine TriLP.kept (Kept.seth rfl (Hat_setx2 hne) (Kept.now ?_))
    refine Tri.regionP ?_
    refine TriLP.c1 rfl (op_mv (ltb rfl) rfl) ?_
    refine TriLP.c1 rfl (op_lit («as» := [_]) (ltb rfl) se40_q zAe40_q rfl rfl rfl (leb rfl)) ?_
    cases hp3 : gNeeds L [[59]] j2 with
    | bad j => 
     refine TriLP.callp fn99_q rfl rfl (RunR.bad (need_run hL _ id hj2 [[59]] (by decide)) hp3) ?_
     first | exact EndS.pan (by simp_all [gRest, gRest0]) rfl ⟨_, rfl⟩ | (obtain ⟨cs, rfl⟩ := hK'; exact EndS.pan (by simp_all [gRest, gRest0]) rfl ⟨_, rfl⟩)
    | ok x3 j3 => 
     have hj3 := PR.ok_lt (gNeeds_in hL hj2) hp3
     refine TriLP.c2 rfl (op_callh (ltb rfl) fn99_q rfl rfl (RunR.ok (need_run hL _ id hj2 [[59]] (by decide)) hp3)) ?_
     refine TriLP.nil ?_
     exact EndS.fin (show gRest L x i = .ok { x with dest := x2 } j3 by simp_all [gRest, gRest0]) ⟨.inl rfl, (ResOK.r0 rfl ).cast rfl, rfl⟩
 ·refine Tri.seq (Tri.region ?_)
  refine TriL.c1 rfl (op_bin (ltb rfl) rfl rfl rfl) ?_
  refine TriL.c1 rfl (op_as (ltb rfl) rfl) ?_
  refine TriL.nil ?_
  refine Tri.cond rfl (fun hc2 => ?_) (fun hc2 => ?_)
  ·refine Tri.seq ?_
   refine Tri.regionP ?_
   refine TriLP.c1 rfl (op_mv (ltb rfl) rfl) ?_
   refine TriLP.c1 rfl (op_lit («as» := [_]) (ltb rfl) se40_q zAe40_q rfl rfl rfl (leb rfl)) ?_
   cases hp4 : gNeeds L [[116, 111]] i with
   | bad j => 
    refine TriLP.callp fn99_q rfl rfl (RunR.bad (need_run hL _ id hi [[116, 111]] (by decide)) hp4) ?_
    first | exact EndS.pan (by simp_all [gRest, gRest0]) rfl ⟨_, rfl⟩ | (obtain ⟨cs, rfl⟩ := hK'; exact EndS.pan (by simp_all [gRest, gRest0]) rfl ⟨_, rfl⟩)
   | ok x4 j4 => 
    have hj4 := PR.ok_lt (gNeeds_in hL hi) hp4
    refine TriLP.c2 rfl (op_callh (ltb rfl) fn99_q rfl rfl (RunR.ok (need_run hL _ id hi [[116, 111]] (by decide)) hp4)) ?_
    refine TriLP.nil ?_
    refine Tri.regionP ?_
    iterate 2 (refine TriLP.c1 rfl (op_mv (ltb rfl) rfl) ?_)
    cases hp5 : gNum L j4 with
    | bad j => 
     refine TriLP.callp fn138_q rfl rfl (RunR.bad (number_run hL _ id hj4) hp5) ?_
     first | exact EndS.pan (by simp_all [gRest, gRest0]) rfl ⟨_, rfl⟩ | (obtain ⟨cs, rfl⟩ := hK'; exact EndS.pan (by simp_all [gRest, gRest0]) rfl ⟨_, rfl⟩)
    | ok x5 j5 => 
     have hj5 := PR.ok_lt (gNum_in hL hj4) hp5
     refine TriLP.c2 rfl (op_callh (ltb rfl) fn138_q rfl rfl (RunR.ok (number_run hL _ id hj4) hp5)) ?_
     refine TriLP.c1 rfl (op_nckc (ltb rfl) rfl) ?_
     refine TriLP.c1 rfl (op_fac (ltb rfl) fo46_5_q rfl) ?_
     refine TriLP.c1 rfl (op_stc lk3_q rfl rfl (Hat_objx hne Hp.set_obj) rfl rfl rfl) ?_
     refine TriLP.kept (Kept.seth rfl (Hat_setx2 hne) (Kept.now ?_))
     refine Tri.regionP ?_
     refine TriLP.c1 rfl (op_mv (ltb rfl) rfl) ?_
     refine TriLP.c1 rfl (op_lit («as» := [_]) (ltb rfl) se40_q zAe40_q rfl rfl rfl (leb rfl)) ?_
     cases hp6 : gNeeds L [[59]] j5 with
     | bad j => 
      refine TriLP.callp fn99_q rfl rfl (RunR.bad (need_run hL _ id hj5 [[59]] (by decide)) hp6) ?_
      first | exact EndS.pan (by simp_all [gRest, gRest0]) rfl ⟨_, rfl⟩ | (obtain ⟨cs, rfl⟩ := hK'; exact EndS.pan (by simp_all [gRest, gRest0]) rfl ⟨_, rfl⟩)
     | ok x6 j6 => 
      have hj6 := PR.ok_lt (gNeeds_in hL hj5) hp6
      refine TriLP.c2 rfl (op_callh (ltb rfl) fn99_q rfl rfl (RunR.ok (need_run hL _ id hj5 [[59]] (by decide)) hp6)) ?_
      refine TriLP.nil ?_
      exact EndS.fin (show gRest L x i = .ok { x with num := x5 } j6 by simp_all [gRest, gRest0]) ⟨.inl rfl, (ResOK.r0 rfl ).cast rfl, rfl⟩
  ·refine Tri.seq (Tri.region ?_)
   refine TriL.c1 rfl (op_bin (ltb rfl) rfl rfl rfl) ?_
   refine TriL.c1 rfl (op_as (ltb rfl) rfl) ?_
   refine TriL.nil ?_
   refine Tri.cond rfl (fun hc3 => ?_) (fun hc3 => ?_)
   ·refine Tri.seq ?_
    refine Tri.regionP ?_
    refine TriLP.c1 rfl (op_mv (ltb rfl) rfl) ?_
    refine TriLP.c1 rfl (op_lit («as» := [_]) (ltb rfl) se40_q zAe40_q rfl rfl rfl (leb rfl)) ?_
    cases hp7 : gNeeds L [[116, 111]] i with
    | bad j => 
     refine TriLP.callp fn99_q rfl rfl (RunR.bad (need_run hL _ id hi [[116, 111]] (by decide)) hp7) ?_
     first | exact EndS.pan (by simp_all [gRest, gRest0]) rfl ⟨_, rfl⟩ | (obtain ⟨cs, rfl⟩ := hK'; exact EndS.pan (by simp_all [gRest, gRest0]) rfl ⟨_, rfl⟩)
    | ok x7 j7 => 
     have hj7 := PR.ok_lt (gNeeds_in hL hi) hp7
     refine TriLP.c2 rfl (op_callh (ltb rfl) fn99_q rfl rfl (RunR.ok (need_run hL _ id hi [[116, 111]] (by decide)) hp7)) ?_
     refine TriLP.nil ?_
     refine Tri.regionP ?_
     iterate 2 (refine TriLP.c1 rfl (op_mv (ltb rfl) rfl) ?_)
     cases hp8 : gTy L wholeT j7 with
     | bad j => 
      refine TriLP.callp fn139_q rfl rfl (RunR.bad (ty_run hL _ id hj7 (by kernel_rfl) p_wholeT) hp8) ?_
      first | exact EndS.pan (by simp_all [gRest, gRest0]) rfl ⟨_, rfl⟩ | (obtain ⟨cs, rfl⟩ := hK'; exact EndS.pan (by simp_all [gRest, gRest0]) rfl ⟨_, rfl⟩)
     | ok x8 j8 => 
      have hj8 := PR.ok_lt (gTy_in hL hj7) hp8
      refine TriLP.c2 rfl (op_callh (ltb rfl) fn139_q rfl rfl (RunR.ok (ty_run hL _ id hj7 (by kernel_rfl) p_wholeT) hp8)) ?_
      refine TriLP.c1 rfl (op_nckc (ltb rfl) rfl) ?_
      refine TriLP.c1 rfl (op_fac (ltb rfl) fo46_7_q rfl) ?_
      refine TriLP.c1 rfl (op_stc lk3_q rfl rfl (Hat_objx hne Hp.set_obj) rfl rfl rfl) ?_
      refine TriLP.kept (Kept.seth rfl (Hat_setx2 hne) (Kept.now ?_))
      refine Tri.regionP ?_
      refine TriLP.c1 rfl (op_mv (ltb rfl) rfl) ?_
      refine TriLP.c1 rfl (op_lit («as» := [_]) (ltb rfl) se40_q zAe40_q rfl rfl rfl (leb rfl)) ?_
      cases hp9 : gNeeds L [[59]] j8 with
      | bad j => 
       refine TriLP.callp fn99_q rfl rfl (RunR.bad (need_run hL _ id hj8 [[59]] (by decide)) hp9) ?_
       first | exact EndS.pan (by simp_all [gRest, gRest0]) rfl ⟨_, rfl⟩ | (obtain ⟨cs, rfl⟩ := hK'; exact EndS.pan (by simp_all [gRest, gRest0]) rfl ⟨_, rfl⟩)
      | ok x9 j9 => 
       have hj9 := PR.ok_lt (gNeeds_in hL hj8) hp9
       refine TriLP.c2 rfl (op_callh (ltb rfl) fn99_q rfl rfl (RunR.ok (need_run hL _ id hj8 [[59]] (by decide)) hp9)) ?_
       refine TriLP.nil ?_
       exact EndS.fin (show gRest L x i = .ok { x with ty := x8 } j9 by simp_all [gRest, gRest0]) ⟨.inl rfl, (ResOK.r0 rfl ).cast rfl, rfl⟩
   ·refine Tri.seq (Tri.seq (Tri.region ?_))
    refine TriL.c1 rfl (op_bin (ltb rfl) rfl rfl rfl) ?_
    refine TriL.c1 rfl (op_as (ltb rfl) rfl) ?_
    refine TriL.nil ?_
    refine Tri.cond rfl (fun hc4 => ?_) (fun hc4 => ?_)
    ·refine Tri.skip ?_
     refine Tri.condT rfl hc4 ?_
     refine Tri.regionP ?_
     iterate 2 (refine TriLP.c1 rfl (op_mv (ltb rfl) rfl) ?_)
     cases hp10 : gFields L x i with
     | bad j => 
      refine TriLP.callpE fn140_q rfl rfl (RunS.bad (fields_run hL H id hi hne x (by grind)) hp10) (fun H' hK' => ?_)
      first | exact EndS.pan (by simp_all [gRest, gRest0]) rfl ⟨_, rfl⟩ | (obtain ⟨cs, rfl⟩ := hK'; exact EndS.pan (by simp_all [gRest, gRest0]) rfl ⟨_, rfl⟩)
     | ok x10 j10 => 
      have hj10 := PR.ok_lt (gFields_in hL hi) hp10
      refine TriLP.c2 rfl (op_callh (ltb rfl) fn140_q rfl rfl (RunS.ok (fields_run hL H id hi hne x (by grind)) hp10)) ?_
      refine TriLP.nil ?_
      refine Tri.regionP ?_
      refine TriLP.c1 rfl (op_mv (ltb rfl) rfl) ?_
      refine TriLP.c1 rfl (op_lit («as» := [_]) (ltb rfl) se40_q zAe40_q rfl rfl rfl (leb rfl)) ?_
      cases hp11 : gNeeds L [[59]] j10 with
      | bad j => 
       refine TriLP.callp fn99_q rfl rfl (RunR.bad (need_run hL _ id hj10 [[59]] (by decide)) hp11) ?_
       first | exact EndS.pan (by simp_all [gRest, gRest0]) rfl ⟨_, rfl⟩ | (obtain ⟨cs, rfl⟩ := hK'; exact EndS.pan (by simp_all [gRest, gRest0]) rfl ⟨_, rfl⟩)
      | ok x11 j11 => 
       have hj11 := PR.ok_lt (gNeeds_in hL hj10) hp11
       refine TriLP.c2 rfl (op_callh (ltb rfl) fn99_q rfl rfl (RunR.ok (need_run hL _ id hj10 [[59]] (by decide)) hp11)) ?_
       refine TriLP.nil ?_
       exact EndS.fin (show gRest L x i = .ok x10 j11 by simp_all [gRest, gRest0]) ⟨.inl rfl, (ResOK.r0 rfl ).cast rfl, rfl⟩
    ·refine Tri.seq (Tri.region ?_)
     refine TriL.c1 rfl (op_bin (ltb rfl) rfl rfl rfl) ?_
     refine TriL.c1 rfl (op_as (ltb rfl) rfl) ?_
     refine TriL.nil ?_
     refine Tri.cond rfl (fun hc5 => ?_) (fun hc5 => ?_)
     ·refine Tri.skip ?_
      refine Tri.condT rfl hc5 ?_
      refine Tri.regionP ?_
      iterate 2 (refine TriLP.c1 rfl (op_mv (ltb rfl) rfl) ?_)
      cases hp12 : gFields L x i with
      | bad j => 
       refine TriLP.callpE fn140_q rfl rfl (RunS.bad (fields_run hL H id hi hne x (by grind)) hp12) (fun H' hK' => ?_)
       first | exact EndS.pan (by simp_all [gRest, gRest0]) rfl ⟨_, rfl⟩ | (obtain ⟨cs, rfl⟩ := hK'; exact EndS.pan (by simp_all [gRest, gRest0]) rfl ⟨_, rfl⟩)
      | ok x12 j12 => 
       have hj12 := PR.ok_lt (gFields_in hL hi) hp12
       refine TriLP.c2 rfl (op_callh (ltb rfl) fn140_q rfl rfl (RunS.ok (fields_run hL H id hi hne x (by grind)) hp12)) ?_
       refine TriLP.nil ?_
       refine Tri.regionP ?_
       refine TriLP.c1 rfl (op_mv (ltb rfl) rfl) ?_
       refine TriLP.c1 rfl (op_lit («as» := [_]) (ltb rfl) se40_q zAe40_q rfl rfl rfl (leb rfl)) ?_
       cases hp13 : gNeeds L [[59]] j12 with
       | bad j => 
        refine TriLP.callp fn99_q rfl rfl (RunR.bad (need_run hL _ id hj12 [[59]] (by decide)) hp13) ?_
        first | exact EndS.pan (by simp_all [gRest, gRest0]) rfl ⟨_, rfl⟩ | (obtain ⟨cs, rfl⟩ := hK'; exact EndS.pan (by simp_all [gRest, gRest0]) rfl ⟨_, rfl⟩)
       | ok x13 j13 => 
        have hj13 := PR.ok_lt (gNeeds_in hL hj12) hp13
        refine TriLP.c2 rfl (op_callh (ltb rfl) fn99_q rfl rfl (RunR.ok (need_run hL _ id hj12 [[59]] (by decide)) hp13)) ?_
        refine TriLP.nil ?_
        exact EndS.fin (show gRest L x i = .ok x12 j13 by simp_all [gRest, gRest0]) ⟨.inl rfl, (ResOK.r0 rfl ).cast rfl, rfl⟩
     ·-- region 12 mparse.go:177
      refine Tri.region ?_
      refine TriL.c1 rfl (op_bin (ltb rfl) rfl rfl rfl) ?_
      refine TriL.c1 rfl (op_as (ltb rfl) rfl) ?_
      refine TriL.nil ?_
      refine Tri.cond rfl (fun hc6 => ?_) (fun hc6 => ?_)
      ·-- region 13 mparse.go:178
       refine Tri.regionP ?_
       iterate 2 (refine TriLP.c1 rfl (op_mv (ltb rfl) rfl) ?_)
       cases hp14 : gFields L x i with
       | bad j => 
        refine TriLP.callpE fn140_q rfl rfl (RunS.bad (fields_run hL H id hi hne x (by grind)) hp14) (fun H' hK' => ?_)
        first | exact EndS.pan (by simp_all [gRest, gRest0]) rfl ⟨_, rfl⟩ | (obtain ⟨cs, rfl⟩ := hK'; exact EndS.pan (by simp_all [gRest, gRest0]) rfl ⟨_, rfl⟩)
       | ok x14 j14 => 
        have hj14 := PR.ok_lt (gFields_in hL hi) hp14
        refine TriLP.c2 rfl (op_callh (ltb rfl) fn140_q rfl rfl (RunS.ok (fields_run hL H id hi hne x (by grind)) hp14)) ?_
        refine TriLP.nil ?_
        refine Tri.regionP ?_
        refine TriLP.c1 rfl (op_mv (ltb rfl) rfl) ?_
        refine TriLP.c1 rfl (op_lit («as» := [_]) (ltb rfl) se40_q zAe40_q rfl rfl rfl (leb rfl)) ?_
        cases hp15 : gNeeds L [[59]] j14 with
        | bad j => 
         refine TriLP.callp fn99_q rfl rfl (RunR.bad (need_run hL _ id hj14 [[59]] (by decide)) hp15) ?_
         first | exact EndS.pan (by simp_all [gRest, gRest0]) rfl ⟨_, rfl⟩ | (obtain ⟨cs, rfl⟩ := hK'; exact EndS.pan (by simp_all [gRest, gRest0]) rfl ⟨_, rfl⟩)
        | ok x15 j15 => 
         have hj15 := PR.ok_lt (gNeeds_in hL hj14) hp15
         refine TriLP.c2 rfl (op_callh (ltb rfl) fn99_q rfl rfl (RunR.ok (need_run hL _ id hj14 [[59]] (by decide)) hp15)) ?_
         refine TriLP.nil ?_
         exact EndS.fin (show gRest L x i = .ok x14 j15 by simp_all [gRest, gRest0]) ⟨.inl rfl, (ResOK.r0 rfl ).cast rfl, rfl⟩
      ·refine Tri.seq (Tri.region ?_)
       refine TriL.c1 rfl (op_bin (ltb rfl) rfl rfl rfl) ?_
       refine TriL.c1 rfl (op_as (ltb rfl) rfl) ?_
       refine TriL.nil ?_
       refine Tri.cond rfl (fun hc7 => ?_) (fun hc7 => ?_)
       ·refine Tri.seq ?_
        refine Tri.regionP ?_
        refine TriLP.c1 rfl (op_mv (ltb rfl) rfl) ?_
        refine TriLP.c1 rfl (op_lit («as» := [_]) (ltb rfl) se40_q zAe40_q rfl rfl rfl (leb rfl)) ?_
        cases hp16 : gNeeds L [[111, 102]] i with
        | bad j => 
         refine TriLP.callp fn99_q rfl rfl (RunR.bad (need_run hL _ id hi [[111, 102]] (by decide)) hp16) ?_
         first | exact EndS.pan (by simp_all [gRest, gRest0]) rfl ⟨_, rfl⟩ | (obtain ⟨cs, rfl⟩ := hK'; exact EndS.pan (by simp_all [gRest, gRest0]) rfl ⟨_, rfl⟩)
        | ok x16 j16 => 
         have hj16 := PR.ok_lt (gNeeds_in hL hi) hp16
         refine TriLP.c2 rfl (op_callh (ltb rfl) fn99_q rfl rfl (RunR.ok (need_run hL _ id hi [[111, 102]] (by decide)) hp16)) ?_
         refine TriLP.nil ?_
         refine Tri.regionP ?_
         iterate 2 (refine TriLP.c1 rfl (op_mv (ltb rfl) rfl) ?_)
         cases hp17 : gNames L j16 with
         | bad j => 
          refine TriLP.callp fn141_q rfl rfl (RunR.bad (names_run hL _ id hj16) hp17) ?_
          first | exact EndS.pan (by simp_all [gRest, gRest0]) rfl ⟨_, rfl⟩ | (obtain ⟨cs, rfl⟩ := hK'; exact EndS.pan (by simp_all [gRest, gRest0]) rfl ⟨_, rfl⟩)
         | ok x17 j17 => 
          have hj17 := PR.ok_lt (gNames_in hL hj16) hp17
          refine TriLP.c2 rfl (op_callh (ltb rfl) fn141_q rfl rfl (RunR.ok (names_run hL _ id hj16) hp17)) ?_
          refine TriLP.c1 rfl (op_nckc (ltb rfl) rfl) ?_
          refine TriLP.c1 rfl (op_fac (ltb rfl) fo46_8_q rfl) ?_
          refine TriLP.c1 rfl (op_stc lk40_q rfl rfl (Hat_objx hne Hp.set_obj) rfl rfl rfl) ?_
          refine TriLP.kept (Kept.seth rfl (Hat_setx2 hne) (Kept.now ?_))
          refine Tri.regionP ?_
          refine TriLP.c1 rfl (op_mv (ltb rfl) rfl) ?_
          refine TriLP.c1 rfl (op_lit («as» := [_]) (ltb rfl) se40_q zAe40_q rfl rfl rfl (leb rfl)) ?_
          cases hp18 : gNeeds L [[59]] j17 with
          | bad j => 
           refine TriLP.callp fn99_q rfl rfl (RunR.bad (need_run hL _ id hj17 [[59]] (by decide)) hp18) ?_
           first | exact EndS.pan (by simp_all [gRest, gRest0]) rfl ⟨_, rfl⟩ | (obtain ⟨cs, rfl⟩ := hK'; exact EndS.pan (by simp_all [gRest, gRest0]) rfl ⟨_, rfl⟩)
          | ok x18 j18 => 
           have hj18 := PR.ok_lt (gNeeds_in hL hj17) hp18
           refine TriLP.c2 rfl (op_callh (ltb rfl) fn99_q rfl rfl (RunR.ok (need_run hL _ id hj17 [[59]] (by decide)) hp18)) ?_
           refine TriLP.nil ?_
           exact EndS.fin (show gRest L x i = .ok { x with names := x17 } j18 by simp_all [gRest, gRest0]) ⟨.inl rfl, (ResOK.r0 rfl ).cast rfl, rfl⟩
       ·refine Tri.seq (Tri.region ?_)
        refine TriL.c1 rfl (op_bin (ltb rfl) rfl rfl rfl) ?_
        refine TriL.c1 rfl (op_as (ltb rfl) rfl) ?_
        refine TriL.nil ?_
        refine Tri.cond rfl (fun hc8 => ?_) (fun hc8 => ?_)
        ·refine Tri.seq ?_
         refine Tri.regionP ?_
         iterate 2 (refine TriLP.c1 rfl (op_mv (ltb rfl) rfl) ?_)
         cases hp19 : gGiven L i with
         | bad j => 
          refine TriLP.callp fn142_q rfl rfl (RunR.bad (given_run hL _ id hi) hp19) ?_
          first | exact EndS.pan (by simp_all [gRest, gRest0]) rfl ⟨_, rfl⟩ | (obtain ⟨cs, rfl⟩ := hK'; exact EndS.pan (by simp_all [gRest, gRest0]) rfl ⟨_, rfl⟩)
         | ok x19 j19 => 
          have hj19 := PR.ok_lt (gGiven_in hL hi) hp19
          refine TriLP.c2 rfl (op_callh (ltb rfl) fn142_q rfl rfl (RunR.ok (given_run hL _ id hi) hp19)) ?_
          refine TriLP.c1 rfl (op_nckc (ltb rfl) rfl) ?_
          refine TriLP.c1 rfl (op_fac (ltb rfl) fo46_5_q rfl) ?_
          refine TriLP.c1 rfl (op_stc lk3_q rfl rfl (Hat_objx hne Hp.set_obj) rfl rfl rfl) ?_
          refine TriLP.kept (Kept.seth rfl (Hat_setx2 hne) (Kept.now ?_))
          refine Tri.seq ?_
          refine Tri.regionP ?_
          iterate 2 (refine TriLP.c1 rfl (op_mv (ltb rfl) rfl) ?_)
          cases hp20 : gTy L (fun _ => true) j19 with
          | bad j => 
           refine TriLP.callp fn139_q rfl rfl (RunR.bad (ty_run hL _ id hj19 (by kernel_rfl) rest1_pure) hp20) ?_
           first | exact EndS.pan (by simp_all [gRest, gRest0]) rfl ⟨_, rfl⟩ | (obtain ⟨cs, rfl⟩ := hK'; exact EndS.pan (by simp_all [gRest, gRest0]) rfl ⟨_, rfl⟩)
          | ok x20 j20 => 
           have hj20 := PR.ok_lt (gTy_in hL hj19) hp20
           refine TriLP.c2 rfl (op_callh (ltb rfl) fn139_q rfl rfl (RunR.ok (ty_run hL _ id hj19 (by kernel_rfl) rest1_pure) hp20)) ?_
           refine TriLP.c1 rfl (op_nckc (ltb rfl) rfl) ?_
           refine TriLP.c1 rfl (op_fac (ltb rfl) fo46_7_q rfl) ?_
           refine TriLP.c1 rfl (op_stc lk3_q rfl rfl (Hat_objx hne Hp.set_obj) rfl rfl rfl) ?_
           refine TriLP.kept (Kept.seth rfl (Hat_setx2 hne) (Kept.now ?_))
           refine Tri.seq ?_
           refine Tri.regionP ?_
           refine TriLP.c1 rfl (op_mv (ltb rfl) rfl) ?_
           refine TriLP.c1 rfl (op_lit («as» := [_]) (ltb rfl) se40_q zAe40_q rfl rfl rfl (leb rfl)) ?_
           cases hp21 : gNeeds L [[100, 101, 102, 97, 117, 108, 116]] j20 with
           | bad j => 
            refine TriLP.callp fn99_q rfl rfl (RunR.bad (need_run hL _ id hj20 [[100, 101, 102, 97, 117, 108, 116]] (by decide)) hp21) ?_
            first | exact EndS.pan (by simp_all [gRest, gRest0]) rfl ⟨_, rfl⟩ | (obtain ⟨cs, rfl⟩ := hK'; exact EndS.pan (by simp_all [gRest, gRest0]) rfl ⟨_, rfl⟩)
           | ok x21 j21 => 
            have hj21 := PR.ok_lt (gNeeds_in hL hj20) hp21
            refine TriLP.c2 rfl (op_callh (ltb rfl) fn99_q rfl rfl (RunR.ok (need_run hL _ id hj20 [[100, 101, 102, 97, 117, 108, 116]] (by decide)) hp21)) ?_
            refine TriLP.nil ?_
            refine Tri.regionP ?_
            iterate 3 (refine TriLP.c1 rfl (op_mv (ltb rfl) rfl) ?_)
            refine TriLP.c1 rfl (op_nckc (ltb rfl) rfl) ?_
            refine TriLP.c1 rfl (op_fac (ltb rfl) fo46_7_q rfl) ?_
            refine TriLP.c1 rfl (op_ldc (ltb rfl) lk3_q rfl rfl (Hat_objx hne Hp.set_obj) rfl) ?_
            cases hp22 : gVal L x20 j21 with
            | bad j => 
             refine TriLP.callp fn144_q rfl rfl (RunR.bad (value_run hL _ id hj21 (by exact hid) x20) hp22) ?_
             first | exact EndS.pan (by simp_all [gRest, gRest0]) rfl ⟨_, rfl⟩ | (obtain ⟨cs, rfl⟩ := hK'; exact EndS.pan (by simp_all [gRest, gRest0]) rfl ⟨_, rfl⟩)
            | ok x22 j22 => 
             have hj22 := PR.ok_lt (gVal_in hL hj21) hp22
             refine TriLP.c2 rfl (op_callh (ltb rfl) fn144_q rfl rfl (RunR.ok (value_run hL _ id hj21 (by exact hid) x20) hp22)) ?_
             refine TriLP.c1 rfl (op_nckc (ltb rfl) rfl) ?_
             refine TriLP.c1 rfl (op_fac (ltb rfl) fo46_9_q rfl) ?_
             refine TriLP.c1 rfl (op_stcm lk44_q rfl rfl (Hat_objx hne Hp.set_obj) rfl rfl rfl (leb rfl) rfl) ?_
             refine TriLP.kept (Kept.seth rfl (Hat_setx2 hne) (Kept.now ?_))
             refine Tri.regionP ?_
             refine TriLP.c1 rfl (op_mv (ltb rfl) rfl) ?_
             refine TriLP.c1 rfl (op_lit («as» := [_]) (ltb rfl) se40_q zAe40_q rfl rfl rfl (leb rfl)) ?_
             cases hp23 : gNeeds L [[59]] j22 with
             | bad j => 
              refine TriLP.callp fn99_q rfl rfl (RunR.bad (need_run hL _ id hj22 [[59]] (by decide)) hp23) ?_
              first | exact EndS.pan (by simp_all [gRest, gRest0]) rfl ⟨_, rfl⟩ | (obtain ⟨cs, rfl⟩ := hK'; exact EndS.pan (by simp_all [gRest, gRest0]) rfl ⟨_, rfl⟩)
             | ok x23 j23 => 
              have hj23 := PR.ok_lt (gNeeds_in hL hj22) hp23
              refine TriLP.c2 rfl (op_callh (ltb rfl) fn99_q rfl rfl (RunR.ok (need_run hL _ id hj22 [[59]] (by decide)) hp23)) ?_
              refine TriLP.nil ?_
              exact EndS.fin (show gRest L x i = .ok { x with num := x19, ty := x20, dv := x22 } j23 by simp_all [gRest, gRest0]) ⟨.inl rfl, (ResOK.r0 rfl ).cast rfl, rfl⟩
        ·refine Tri.skip ?_
         refine Tri.regionP ?_
         refine TriLP.c1 rfl (op_mv (ltb rfl) rfl) ?_
         refine TriLP.c1 rfl (op_lit («as» := [_]) (ltb rfl) se40_q zAe40_q rfl rfl rfl (leb rfl)) ?_
         cases hp24 : gNeeds L [[59]] i with
         | bad j => 
          refine TriLP.callp fn99_q rfl rfl (RunR.bad (need_run hL _ id hi [[59]] (by decide)) hp24) ?_
          first | exact EndS.pan (by simp_all [gRest, gRest0]) rfl ⟨_, rfl⟩ | (obtain ⟨cs, rfl⟩ := hK'; exact EndS.pan (by simp_all [gRest, gRest0]) rfl ⟨_, rfl⟩)
         | ok x24 j24 => 
          have hj24 := PR.ok_lt (gNeeds_in hL hi) hp24
          refine TriLP.c2 rfl (op_callh (ltb rfl) fn99_q rfl rfl (RunR.ok (need_run hL _ id hi [[59]] (by decide)) hp24)) ?_
          refine TriLP.nil ?_
          exact EndS.fin (show gRest L x i = .ok x j24 by simp_all [gRest, gRest0]) ⟨.inl rfl, (ResOK.r0 rfl ).cast rfl, rfl⟩
theorem PR.inv {α β : Type} {r : PR α} {f : α → Nat → PR β} {b : β} {k : Nat} (h : r.bind f = .ok b k) : ∃ a j, r = .ok a j ∧ f a j = .ok b k := by
 cases r with
 | ok a j => exact ⟨a, j, rfl, h⟩
 | bad j => cases h
theorem gFields_m {L : List Tk} {x y : Stp} {i j : Nat} (h : gFields L x i = .ok y j) (hm : x.dv.m = []) : y.dv.m = [] := by
 unfold gFields at h
 obtain ⟨x1, a1, h1, h⟩ := PR.inv h
 have m1 : x1.dv.m = [] := by
  split at h1
  ·obtain ⟨_, _, _, h1⟩ := PR.inv h1
   obtain ⟨_, _, _, h1⟩ := PR.inv h1
   cases h1; exact hm
  ·cases h1; exact hm
 obtain ⟨_, _, _, h⟩ := PR.inv h
 obtain ⟨_, _, _, h⟩ := PR.inv h
 obtain ⟨x2, a2, h2, h⟩ := PR.inv h
 have m2 : x2.dv.m = [] := by
  split at h2
  ·obtain ⟨_, _, _, h2⟩ := PR.inv h2
   obtain ⟨_, _, _, h2⟩ := PR.inv h2
   cases h2; exact m1
  ·cases h2; exact m1
 obtain ⟨_, _, _, h⟩ := PR.inv h
 split at h
 ·obtain ⟨_, _, _, h⟩ := PR.inv h
  obtain ⟨_, _, _, h⟩ := PR.inv h
  obtain ⟨_, _, _, h⟩ := PR.inv h
  cases h; exact m2
 ·cases h; exact m2
theorem gRest_m {L : List Tk} {x y : Stp} {i j : Nat} (h : gRest L x i = .ok y j) (hm : x.dv.m = []) : y.dv.m = [] := by
 unfold gRest at h
 obtain ⟨z, a, h0, h⟩ := PR.inv h
 obtain ⟨_, _, _, h⟩ := PR.inv h
 cases h
 unfold gRest0 at h0
 split at h0
 ·obtain ⟨_, _, _, h0⟩ := PR.inv h0
  obtain ⟨_, _, _, h0⟩ := PR.inv h0
  cases h0; exact hm
 split at h0
 ·obtain ⟨_, _, _, h0⟩ := PR.inv h0
  obtain ⟨_, _, _, h0⟩ := PR.inv h0
  cases h0; exact hm
 split at h0
 ·obtain ⟨_, _, _, h0⟩ := PR.inv h0
  obtain ⟨_, _, _, h0⟩ := PR.inv h0
  cases h0; exact hm
 split at h0
 ·exact gFields_m h0 hm
 split at h0
 ·obtain ⟨_, _, _, h0⟩ := PR.inv h0
  obtain ⟨_, _, _, h0⟩ := PR.inv h0
  cases h0; exact hm
 split at h0
 ·obtain ⟨_, _, _, h0⟩ := PR.inv h0
  obtain ⟨_, _, _, h0⟩ := PR.inv h0
  obtain ⟨_, _, _, h0⟩ := PR.inv h0
  obtain ⟨_, _, h1, h0⟩ := PR.inv h0
  cases h0; exact gVal_m h1
 ·cases h0; exact hm
theorem gStep_m {L : List Tk} {y : Stp} {i j : Nat} (h : gStep L i = .ok y j) : y.dv.m = [] := by
 unfold gStep at h
 obtain ⟨_, _, _, h⟩ := PR.inv h
 obtain ⟨_, _, _, h⟩ := PR.inv h
 obtain ⟨_, _, _, h⟩ := PR.inv h
 obtain ⟨_, _, _, h⟩ := PR.inv h
 exact gRest_m h rfl
theorem Stp.ops {D : Nat → Prop} {x : Stp} (h : x.dv.m = []) : OpsIn D x.av := .agg _ fun y hy => by
 simp only [Stp.cells, h, List.map_nil, List.mem_cons, List.not_mem_nil, or_false] at hy
 rcases hy with rfl | rfl | rfl | rfl | rfl | rfl | rfl | rfl | rfl | rfl | rfl | rfl
 all_goals first | exact .int _ _ | exact .str _ | exact .sl _ (fun z hz => by obtain ⟨s, _, rfl⟩ := List.mem_map.1 hz; exact .str _) | exact .sl _ (fun z hz => by cases hz)
theorem step_run {L : List Tk} (hL : Toks L) (H : Hp) (id : Nat) {i : Nat} (hi : i < L.length) (hid : id < H.next) : RunR Tryz.prog 60 [.op id 0] (Hat H id L) Stp.av (pv L) i (gStep L i) := by
 refine RunR.of_triD Tryz.func60 rfl rfl (ltb rfl) (fun j => Hat_kin) (fun a j e => Stp.ops (gStep_m e)) ?_
 refine Tri.seq (Tri.region ?_)
 refine TriL.c2 rfl (op_all (ltb rfl) zA46_q rfl) ?_
 refine TriL.nil (Tri.seq ?_)
 refine Tri.regionP ?_
 refine TriLP.c1 rfl (op_mv (ltb rfl) rfl) ?_
 cases hp1 : gKind L i with
 | bad j => 
  refine TriLP.callp fn97_q rfl rfl (RunR.bad (kind_run hL _ id hi) hp1) ?_
  first | exact EndD.pan (by simp [gStep, *]) rfl rfl (fun _ _ => rfl) | (obtain ⟨cs, rfl⟩ := hK'; exact EndD.pan (by simp [gStep, *]) rfl rfl (fun k hk => Hat_low hk))
 | ok x1 j1 => 
  have hj1 := PR.ok_lt (gKind_in hL hi) hp1
  refine TriLP.c2 rfl (op_callh (ltb rfl) fn97_q rfl rfl (RunR.ok (kind_run hL _ id hi) hp1)) ?_
  refine TriLP.c1 rfl (op_mv (ltb rfl) rfl) ?_
  cases hp2 : gName L j1 with
  | bad j => 
   refine TriLP.callp fn98_q rfl rfl (RunR.bad (name_run hL _ id hj1) hp2) ?_
   first | exact EndD.pan (by simp [gStep, *]) rfl rfl (fun _ _ => rfl) | (obtain ⟨cs, rfl⟩ := hK'; exact EndD.pan (by simp [gStep, *]) rfl rfl (fun k hk => Hat_low hk))
  | ok x2 j2 => 
   have hj2 := PR.ok_lt (gName_in hL hj1) hp2
   refine TriLP.c2 rfl (op_callh (ltb rfl) fn98_q rfl rfl (RunR.ok (name_run hL _ id hj1) hp2)) ?_
   refine TriLP.c1 rfl (op_bld (ltb rfl) spl46_q zA46_q rfl rfl) ?_
   refine TriLP.c2 rfl (op_all (ltb rfl) zA46_q rfl) ?_
   refine TriLP.c1 rfl (op_stl lk46_q rfl rfl rfl rfl rfl (leb rfl)) ?_
   refine TriLP.nil ?_
   refine Tri.seq ?_
   refine Tri.regionP ?_
   refine TriLP.c1 rfl (op_mv (ltb rfl) rfl) ?_
   refine TriLP.c1 rfl (op_lit («as» := [_]) (ltb rfl) se40_q zAe40_q rfl rfl rfl (leb rfl)) ?_
   cases hp3 : gNeeds L [[46]] j2 with
   | bad j => 
    refine TriLP.callp fn99_q rfl rfl (RunR.bad (need_run hL _ id hj2 [[46]] (by decide)) hp3) ?_
    first | exact EndD.pan (by simp [gStep, *]) rfl rfl (fun _ _ => rfl) | (obtain ⟨cs, rfl⟩ := hK'; exact EndD.pan (by simp [gStep, *]) rfl rfl (fun k hk => Hat_low hk))
   | ok x3 j3 => 
    have hj3 := PR.ok_lt (gNeeds_in hL hj2) hp3
    refine TriLP.c2 rfl (op_callh (ltb rfl) fn99_q rfl rfl (RunR.ok (need_run hL _ id hj2 [[46]] (by decide)) hp3)) ?_
    refine TriLP.nil ?_
    refine Tri.seq ?_
    refine Tri.regionP ?_
    refine TriLP.c1 rfl (op_mv (ltb rfl) rfl) ?_
    cases hp4 : gName L j3 with
    | bad j => 
     refine TriLP.callp fn98_q rfl rfl (RunR.bad (name_run hL _ id hj3) hp4) ?_
     first | exact EndD.pan (by simp [gStep, *]) rfl rfl (fun _ _ => rfl) | (obtain ⟨cs, rfl⟩ := hK'; exact EndD.pan (by simp [gStep, *]) rfl rfl (fun k hk => Hat_low hk))
    | ok x4 j4 => 
     have hj4 := PR.ok_lt (gName_in hL hj3) hp4
     refine TriLP.c2 rfl (op_callh (ltb rfl) fn98_q rfl rfl (RunR.ok (name_run hL _ id hj3) hp4)) ?_
     refine TriLP.c1 rfl (op_fal (ltb rfl) fo46_2_q rfl) ?_
     refine TriLP.c1 rfl (op_stl lk9_q rfl rfl rfl rfl rfl (leb rfl)) ?_
     refine TriLP.nil ?_
     refine Tri.seq ?_
     refine Tri.ofKept (Kept.pub 3 rfl rfl (Kept.op 3 rfl rfl (Kept.cls 3 rfl rfl rfl rfl (Kept.now ?_))))
     refine Tri.ofKept (Kept.seth rfl (Hat_new hid) (Kept.now ?_))
     refine Tri.regionP ?_
     refine TriLP.c1 rfl (op_mv (ltb rfl) rfl) ?_
     cases hp5 : gRest L { stp0 with kind := x1, msg := x2, field := x4 } j4 with
     | bad j => 
      refine TriLP.callpE fn100_q rfl rfl (RunS.bad (rest_run hL ⟨H.next + 1, H.obj⟩ id hj4 (show H.next ≠ id by omega) { stp0 with kind := x1, msg := x2, field := x4 } (show id < H.next + 1 by omega)) hp5) (fun H' hK' => ?_)
      first | exact EndD.pan (by simp [gStep, *]) rfl rfl (fun _ _ => rfl) | (obtain ⟨cs, rfl⟩ := hK'; exact EndD.pan (by simp [gStep, *]) rfl rfl (fun k hk => Hat_low hk))
     | ok x5 j5 => 
      have hj5 := PR.ok_lt (gRest_in hL hj4) hp5
      refine TriLP.c2 rfl (op_callh (ltb rfl) fn100_q rfl rfl (RunS.ok (rest_run hL ⟨H.next + 1, H.obj⟩ id hj4 (show H.next ≠ id by omega) { stp0 with kind := x1, msg := x2, field := x4 } (show id < H.next + 1 by omega)) hp5)) ?_
      refine TriLP.nil ?_
      refine Tri.seq (Tri.region ?_)
      refine TriL.c1 rfl (op_ldc (ltb rfl) lk46_q rfl rfl (Hat_objx (show H.next ≠ id by omega) Hp.set_obj) rfl) ?_
      refine TriL.c1 rfl (op_stl lk46_q rfl rfl rfl rfl rfl (leb rfl)) ?_
      refine TriL.nil (Tri.ret ?_)
      exact EndD.fin (show gStep L i = .ok x5 j5 by simp [gStep, *]) ⟨.inr rfl, (ResOK.r1 rfl (.cell lk46_q rfl rfl rfl rfl .nil)).cast rfl, ⟨_, rfl, fun k hk => Hat_low hk⟩⟩
/- mparse: all steps of a text. -/
theorem fn60_q : isFn Tryz.prog 60 = true := by kernel_rfl
theorem fo116_0_q : fo Tryz.prog 116 0 = some 0 := by kernel_rfl
theorem fof112_0_q : fof Tryz.prog 112 0 = some (0, false, 1) := by kernel_rfl
theorem lk116_q : lk Tryz.prog 116 = some (true, 1) := by kernel_rfl
theorem lk23_q : lk Tryz.prog 23 = some (false, 1) := by kernel_rfl
theorem lk34_q : lk Tryz.prog 34 = some (false, 1) := by kernel_rfl
theorem mi20_q : Tryz.prog.underlying 20 = some (.interface (Tryz.prog.methodsAt 20)) := by kernel_rfl
theorem se23_q : se Tryz.prog 23 = some (46, 12, 168) := by kernel_rfl
theorem se34_q : se Tryz.prog 34 = some (3, 1, 8) := by kernel_rfl
theorem un116_q : Tryz.prog.underlying 116 = some (TypeDesc.struct { toList := [{ name := "at", type := 3, offset := 0, embedded := false, tag := "", pkgPath := "ecdysis/mparse", byteOffset := 0 }] }) := Tryz.underlying116
theorem zA3_q : zeroA Tryz.prog 3 = some [AV.int IntKind.i64 (0)] := by kernel_rfl
theorem zAe23_q : zeroA Tryz.prog 46 = some [AV.int IntKind.i64 (0), AV.str [], AV.str [], AV.str [], AV.str [], AV.int IntKind.i64 (0), AV.int IntKind.i64 (0), AV.int IntKind.i64 (0), AV.sl [], AV.int IntKind.u64 (0), AV.str [], AV.sl []] := by kernel_rfl
theorem zAe34_q : zeroA Tryz.prog 3 = some [AV.int IntKind.i64 (0)] := by kernel_rfl
theorem Hp.obj_set {H : Hp} {i j : Nat} {cs ds : List Hc} (h : i ≠ j) (hj : H.obj j = some ds) : (H.set i cs).obj j = some ds := by
 simp only [Hp.set]; rw [if_neg (Ne.symm h)]; exact hj
theorem readD_ok (H : Hp) (a b c : Nat) : RunD Tryz.prog 58 [.op a 0, .op b 0, .op c 0] H .returning .returning H := by
 refine RunD.of_tri Tryz.func58 rfl rfl (leb rfl) (TriLS.recN (ltb rfl) rfl (TriLS.nil ⟨rfl, ?_⟩))
 refine Tri.blk (Tri.seq (Tri.region ?_))
 refine TriL.c1 rfl (op_eqi (ltb rfl) mi20_q rfl rfl) ?_
 refine TriL.nil ?_
 refine Tri.condT rfl rfl ?_
 refine Tri.region ?_
 refine TriL.c1 rfl (op_as (ltb rfl) rfl) ?_
 refine TriL.nil ?_
 exact ⟨.inl rfl, (ResOK.r0 rfl ).cast rfl, rfl⟩
theorem readD_bad (H : Hp) (a b c : Nat) {x y z : AV} (ha : H.obj a = some [.v x]) (hb : H.obj b = some [.v y]) (hc : H.obj c = some [.v z]) (hab : a ≠ b) (hac : a ≠ c) (hbc : b ≠ c) (pos : Int) : RunD Tryz.prog 58 [.op a 0, .op b 0, .op c 0] H (.panicking [{ v := .iface 116 (.agg #[.int .i64 pos]), recovered := false }]) (.panicking [{ v := .iface 116 (.agg #[.int .i64 pos]), recovered := true }]) (((H.set a [.v (.sl [])]).set b [.v (.sl [])]).set c [.v (.int .i64 pos)]) := by
 refine RunD.of_tri Tryz.func58 rfl rfl (leb rfl) (TriLS.recP (b := .ifc 116 (.agg [.int .i64 pos])) (ltb rfl) rfl rfl (TriLS.nil ⟨rfl, ?_⟩))
 refine Tri.blk (Tri.seq (Tri.region ?_))
 refine TriL.c1 rfl (op_eqi (ltb rfl) mi20_q rfl rfl) ?_
 refine TriL.nil ?_
 refine Tri.condF rfl rfl ?_
 refine Tri.seq (Tri.region ?_)
 refine TriL.c1 rfl (op_tas (ltb rfl) un116_q rfl) ?_
 iterate 2 (refine TriL.c1 rfl (op_ext (ltb rfl) rfl rfl) ?_)
 refine TriL.nil ?_
 refine Tri.condT rfl rfl ?_
 refine Tri.seq (Tri.region ?_)
 refine TriL.c2 rfl (op_all (ltb rfl) zA116_q rfl) ?_
 refine TriL.c1 rfl (op_stl lk116_q rfl rfl rfl rfl rfl (leb rfl)) ?_
 refine TriL.nil ?_
 refine Tri.drawn mixed rfl ?_
 refine TriD.c1 rfl (op_fal (ltb rfl) fo116_0_q rfl) ?_
 refine TriD.c1 rfl (op_ldl (ltb rfl) lk3_q rfl rfl rfl) ?_
 refine TriD.c1 rfl (op_stc lk23_q rfl rfl ha rfl rfl rfl) ?_
 refine TriD.c1 rfl (op_stc lk34_q rfl rfl (Hp.obj_set hab hb) rfl rfl rfl) ?_
 refine TriD.c1 rfl (op_stc lk3_q rfl rfl (Hp.obj_set hbc (Hp.obj_set hac hc)) rfl rfl rfl) ?_
 refine TriD.nil (by kernel_rfl) (Kept.now ?_)
 exact ⟨.inl rfl, (ResOK.r0 rfl ).cast rfl, rfl⟩
theorem zNst : zeroN Tryz.prog 23 = some [.nsl] := by kernel_rfl
theorem zNit : zeroN Tryz.prog 34 = some [.nsl] := by kernel_rfl
/-- the results of read: three objects -/
def Hr (H : Hp) (x y z : AV) : Hp := ((H.new [.v x]).new [.v y]).new [.v z]
def Hd (H : Hp) (z : AV) : Hp := ((Hr H .nsl .nsl z).del H.next).del (H.next + 1)
theorem Hp.ext2 {H K : Hp} (hn : H.next = K.next) (ho : ∀ k, H.obj k = K.obj k) : H = K := by
 obtain ⟨n, o⟩ := H
 obtain ⟨m, p⟩ := K
 cases hn
 congr 1
 funext k; exact ho k
theorem Hat_new3 {H : Hp} {id : Nat} {L : List Tk} {j : Nat} {a b c : List Hc} (hid : id < H.next) : (((Hat H id L j).new a).new b).new c = Hat (((H.new a).new b).new c) id L j := by
 rw [Hat_new hid, Hat_new (show id < H.next + 1 by omega), Hat_new (show id < H.next + 1 + 1 by omega)]
theorem Hr_a {H : Hp} {id : Nat} {L : List Tk} {j : Nat} {x y z : AV} (hid : id < H.next) : (Hat (Hr H x y z) id L j).obj H.next = some [.v x] := by
 simp only [Hat, Hr, Hp.new, Hp.set]; grind
theorem Hr_b {H : Hp} {id : Nat} {L : List Tk} {j : Nat} {x y z : AV} (hid : id < H.next) : (Hat (Hr H x y z) id L j).obj (H.next + 1) = some [.v y] := by
 simp only [Hat, Hr, Hp.new, Hp.set]; grind
theorem Hr_c {H : Hp} {id : Nat} {L : List Tk} {j : Nat} {x y z : AV} (hid : id < H.next) : (Hat (Hr H x y z) id L j).obj (H.next + 1 + 1) = some [.v z] := by
 simp only [Hat, Hr, Hp.new, Hp.set]; grind
theorem Hr_b2 {H : Hp} {id : Nat} {L : List Tk} {j : Nat} {x y z : AV} (hid : id < H.next) : ((Hat (Hr H x y z) id L j).del H.next).obj (H.next + 1) = some [.v y] := by
 simp only [Hat, Hr, Hp.new, Hp.set, Hp.del]; grind
theorem Hd_c {H : Hp} {id : Nat} {L : List Tk} {j : Nat} {z : AV} (hid : id < H.next) : (Hat (Hd H z) id L j).obj (H.next + 1 + 1) = some [.v z] := by
 simp only [Hat, Hd, Hr, Hp.new, Hp.set, Hp.del]; grind
theorem Hr_del {H : Hp} {id : Nat} {L : List Tk} {j : Nat} {z : AV} (hid : id < H.next) : ((Hat (Hr H .nsl .nsl z) id L j).del H.next).del (H.next + 1) = Hat (Hd H z) id L j := by
 refine Hp.ext2 rfl fun k => ?_
 simp only [Hat, Hd, Hr, Hp.new, Hp.set, Hp.del]; grind
theorem Hd_close {H : Hp} {id : Nat} {L : List Tk} {j : Nat} {x y z : AV} (hid : id < H.next) : ((Hat (Hd H z) id L j).set H.next [.v x]).set (H.next + 1) [.v y] = Hat (Hr H x y z) id L j := by
 refine Hp.ext2 rfl fun k => ?_
 simp only [Hat, Hd, Hr, Hp.new, Hp.set, Hp.del]; grind
theorem Hd_close2 {H : Hp} {id : Nat} {L : List Tk} {j : Nat} {x y z w : AV} (hid : id < H.next) : (((Hat (Hd H z) id L j).set (H.next + 1 + 1) [.v w]).set H.next [.v x]).set (H.next + 1) [.v y] = Hat (Hr H x y w) id L j := by
 refine Hp.ext2 rfl fun k => ?_
 simp only [Hat, Hd, Hr, Hp.new, Hp.set, Hp.del]; grind
theorem Hr_set3 {H : Hp} {id : Nat} {L : List Tk} {j : Nat} {x y z x' y' z' : AV} (hid : id < H.next) : (((Hat (Hr H x y z) id L j).set H.next [.v x']).set (H.next + 1) [.v y']).set (H.next + 1 + 1) [.v z'] = Hat (Hr H x' y' z') id L j := by
 refine Hp.ext2 rfl fun k => ?_
 simp only [Hat, Hr, Hp.new, Hp.set]; grind
theorem Hr_low {H : Hp} {id : Nat} {L : List Tk} {j : Nat} {x y z : AV} {k : Nat} (hk : k < H.next) : (Hat (Hr H x y z) id L j).obj k = (Hat H id L j).obj k := by
 simp only [Hat, Hr, Hp.new, Hp.set]; grind
theorem Hd_id {H : Hp} {id : Nat} {z : AV} (hid : id < H.next) : id < (Hd H z).next := (show id < H.next + 1 + 1 + 1 by omega)
def stpsV (acc : List (Stp × Nat)) : AV := .sl (acc.map fun p => p.1.av)
def fromV (acc : List (Stp × Nat)) : AV := .sl (acc.map fun p => .int .i64 (p.2 : Int))
/-- what read answers -/
def readV (L : List Tk) : PR (List (Stp × Nat)) → AV
 | .ok acc _ => .tup [stpsV acc, fromV acc, .int .i64 (-1)]
 | .bad j => .tup [.sl [], .sl [], .int .i64 ((tkAt L j).pos : Int)]
def readH (H : Hp) (id : Nat) (L : List Tk) : PR (List (Stp × Nat)) → Hp
 | .ok acc j => Hat (Hr H (stpsV acc) (fromV acc) (.int .i64 (-1))) id L j
 | .bad j => Hat (Hr H (.sl []) (.sl []) (.int .i64 ((tkAt L j).pos : Int))) id L j
def PR.Ge {α : Type} (n : Nat) : PR α → Prop
 | .ok _ j => n ≤ j
 | .bad _ => True
theorem PR.Ge.bind {α β : Type} {n : Nat} {r : PR α} {f : α → Nat → PR β} (h : r.Ge n) (hf : ∀ a j, n ≤ j → (f a j).Ge n) : (r.bind f).Ge n := by
 cases r with
 | ok a j => exact hf a j h
 | bad j => trivial
theorem gNeeds_ge {L : List Tk} {n : Nat} {ws : List Str} : ∀ {i : Nat}, n ≤ i → (gNeeds L ws i).Ge n := by
 induction ws with
 | nil => intro i h; exact h
 | cons w ws ih =>
  intro i h
  refine PR.Ge.bind ?_ fun _ j hj => ih hj
  unfold gNeed
  split
  ·exact Nat.le_succ_of_le h
  ·trivial
theorem gOf_ge {L : List Tk} {n k : Nat} {p : Tk → Bool} {i : Nat} (h : n ≤ i) : (gOf L k p i).Ge n := by
 unfold gOf
 split
 ·exact Nat.le_succ_of_le h
 ·trivial
theorem gName_ge {L : List Tk} {n i : Nat} (h : n ≤ i) : (gName L i).Ge n := (gOf_ge h).bind fun _ _ h => h
theorem gNum_ge {L : List Tk} {n i : Nat} (h : n ≤ i) : (gNum L i).Ge n := (gOf_ge h).bind fun _ _ h => h
theorem gGiven_ge {L : List Tk} {n i : Nat} (h : n ≤ i) : (gGiven L i).Ge n := (gNeeds_ge h).bind fun _ _ h => gNum_ge h
theorem gTy_ge {L : List Tk} {such : Int → Bool} {n i : Nat} (h : n ≤ i) : (gTy L such i).Ge n := (gOf_ge h).bind fun _ _ h => h
theorem gVal_ge {L : List Tk} {t : Int} {n i : Nat} (h : n ≤ i) : (gVal L t i).Ge n := by
 unfold gVal
 split
 ·split
  ·exact Nat.le_succ_of_le h
  ·exact (gNeeds_ge h).bind fun _ _ h => h
 ·split
  ·exact (gOf_ge h).bind fun _ _ h => h
  ·exact (gOf_ge h).bind fun _ _ h => h
theorem gMore_ge {L : List Tk} {n : Nat} : ∀ {m : Nat} {acc : List Str} {i : Nat}, n ≤ i → (gMore L m acc i).Ge n
 | 0, acc, i, h => h
 | m + 1, acc, i, h => by
  unfold gMore
  split
  ·exact (gName_ge (Nat.le_succ_of_le h)).bind fun _ _ h => gMore_ge h
  ·exact h
theorem gNames_ge {L : List Tk} {n i : Nat} (h : n ≤ i) : (gNames L i).Ge n := (gName_ge h).bind fun _ _ h => gMore_ge h
theorem gFields_ge {L : List Tk} {x : Stp} {n i : Nat} (hi : n ≤ i) : (gFields L x i).Ge n := by
 unfold gFields
 refine PR.Ge.bind ?_ fun x a ha => (gNeeds_ge ha).bind fun _ a ha => (gName_ge ha).bind fun s a ha => PR.Ge.bind ?_ fun x a ha => (gGiven_ge ha).bind fun n a ha => ?_
 ·split
  ·exact (gNeeds_ge hi).bind fun _ a ha => (gName_ge ha).bind fun _ _ h => h
  ·exact hi
 ·split
  ·exact (gNeeds_ge ha).bind fun _ a ha => (gName_ge ha).bind fun _ _ h => h
  ·exact ha
 ·split
  ·exact (gNeeds_ge ha).bind fun _ a ha => (gName_ge ha).bind fun _ a ha => (gGiven_ge ha).bind fun _ _ h => h
  ·exact ha
theorem gRest_ge {L : List Tk} {x : Stp} {n i : Nat} (hi : n ≤ i) : (gRest L x i).Ge n := by
 refine PR.Ge.bind ?_ fun _ a ha => (gNeeds_ge ha).bind fun _ _ h => h
 unfold gRest0
 split
 ·exact (gNeeds_ge hi).bind fun _ a ha => (gName_ge ha).bind fun _ _ h => h
 split
 ·exact (gNeeds_ge hi).bind fun _ a ha => (gNum_ge ha).bind fun _ _ h => h
 split
 ·exact (gNeeds_ge hi).bind fun _ a ha => (gTy_ge ha).bind fun _ _ h => h
 split
 ·exact gFields_ge hi
 split
 ·exact (gNeeds_ge hi).bind fun _ a ha => (gNames_ge ha).bind fun _ _ h => h
 split
 ·exact (gGiven_ge hi).bind fun _ a ha => (gTy_ge ha).bind fun _ a ha => (gNeeds_ge ha).bind fun _ a ha => (gVal_ge ha).bind fun _ _ h => h
 ·exact hi
theorem gStep_next {L : List Tk} {i j : Nat} {x : Stp} (h : gStep L i = .ok x j) : i < j := by
 unfold gStep at h
 obtain ⟨k, a, h1, h⟩ := PR.inv h
 unfold gKind at h1
 obtain ⟨t, b, h2, h1⟩ := PR.inv h1
 cases h1
 have hb := (gOf_ok h2).2.2.2
 have : ((gName L a).bind fun m b => (gNeeds L [[46]] b).bind fun _ c => (gName L c).bind fun f d => gRest L { stp0 with kind := stepKind t.s, msg := m, field := f } d).Ge a :=
  (gName_ge (Nat.le_refl _)).bind fun _ a ha => (gNeeds_ge ha).bind fun _ a ha => (gName_ge ha).bind fun _ a ha => gRest_ge ha
 rw [h] at this
 have h3 : a ≤ j := this
 omega
theorem gSteps_step {L : List Tk} {n : Nat} {acc : List (Stp × Nat)} {q : Nat} (hn : 0 < n) (h : (tkAt L q).k ≠ 0) : gSteps L n acc q = (gStep L q).bind fun x k => gSteps L (n - 1) (acc ++ [(x, (tkAt L q).pos)]) k := by
 cases n with
 | zero => omega
 | succ n => rw [gSteps, if_neg h]; rfl
theorem gSteps_end {L : List Tk} {n : Nat} {acc : List (Stp × Nat)} {q : Nat} (h : (tkAt L q).k = 0) : gSteps L n acc q = .ok acc q := by
 cases n with
 | zero => rfl
 | succ n => rw [gSteps, if_pos h]
theorem readD_bad2 {H : Hp} {id : Nat} {L : List Tk} {j : Nat} {x y z : AV} (hid : id < H.next) : RunD Tryz.prog 58 [.op H.next 0, .op (H.next + 1) 0, .op (H.next + 1 + 1) 0] (Hat (Hr H x y z) id L j) (.panicking [{ v := pv L j, recovered := false }]) (.panicking [{ v := pv L j, recovered := true }]) (Hat (Hr H (.sl []) (.sl []) (.int .i64 ((tkAt L j).pos : Int))) id L j) := by
 have h := readD_bad (Hat (Hr H x y z) id L j) H.next (H.next + 1) (H.next + 1 + 1) (Hr_a hid) (Hr_b hid) (Hr_c hid) (by omega) (by omega) (by omega) ((tkAt L j).pos : Int)
 rw [Hr_set3 hid] at h
 exact h
theorem Kept.mono {s : St} {Q Q' : St → Prop} (h : Kept s Q) (hq : ∀ s', Q s' → Q' s') : Kept s Q' := fun E N a w hf => let ⟨s', h1, h2⟩ := h E N a w hf; ⟨s', h1, hq s' h2⟩
theorem read_close {s : St} {K K' : Hp} {a b c t2 t3 : Nat} {xs ys : List AV} (g2 : get s (.s 2) = some (.sv (.lp 2 0))) (g3 : get s (.s 3) = some (.sv (.lp 3 0))) (g4 : get s (.s 4) = some (.sv (.v (.op c 0)))) (b2 : get s (.b 2) = some (.ob a [.ow t2 xs])) (b3 : get s (.b 3) = some (.ob b [.ow t3 ys])) (gh : get s .h = some (.hp K))
  (hK : (K.set a [.v (.sl xs)]).set b [.v (.sl ys)] = K') : Kept s fun s' => get s' .h = some (.hp K') ∧ get s' (.s 2) = some (.sv (.v (.op a 0))) ∧ get s' (.s 3) = some (.sv (.v (.op b 0))) ∧ get s' (.s 4) = some (.sv (.v (.op c 0))) := by
 refine Kept.op 2 g2 b2 (Kept.cls 2 (id := a) (hs := [.v (.sl xs)]) (cs := [.ow t2 xs]) (H := K) (by simp [get, b2]) (by simp [get, gh]) rfl rfl ?_)
 refine Kept.op 3 (id := b) (cs := [.ow t3 ys]) (k := 3) (off := 0) (by simp [get, rowsOf, goneToks, g3]) (by simp [get, rowsOf, goneToks, b3]) (Kept.cls 3 (id := b) (hs := [.v (.sl ys)]) (cs := [.ow t3 ys]) (H := K.set a [.v (.sl xs)]) (by simp [get, rowsOf, goneToks, b3]) (by simp [get, rowsOf, goneToks]) rfl rfl ?_)
 exact Kept.now ⟨by simp [get, rowsOf, goneToks, hK], by simp [get, rowsOf, goneToks], by simp [get, rowsOf, goneToks], by simp [get, rowsOf, goneToks, g4]⟩
theorem read_res {s : St} {H' : Hp} {a b c : Nat} {x y z : AV} (g2 : get s (.s 2) = some (.sv (.v (.op a 0)))) (g3 : get s (.s 3) = some (.sv (.v (.op b 0)))) (g4 : get s (.s 4) = some (.sv (.v (.op c 0)))) (ha : H'.obj a = some [.v x]) (hb : H'.obj b = some [.v y]) (hc : H'.obj c = some [.v z]) : ResOK Tryz.prog Tryz.f26 ((.h, .hp H') :: s) (.tup [x, y, z]) :=
 ResOK.r3 rfl (.celo (off := 0) lk23_q (by simp [opv, opd, get, g2, Sv.av]) rfl ha rfl rfl (.celo (off := 0) lk34_q (by simp [opv, opd, get, g3, Sv.av]) rfl hb rfl rfl (.celo (off := 0) lk3_q (by simp [opv, opd, get, g4, Sv.av]) rfl hc rfl rfl .nil)))
theorem read_raw {L : List Tk} (hL : Toks L) (H : Hp) (id : Nat) (hi : 0 < L.length) (hid : id < H.next) (r : PR (List (Stp × Nat))) (hr : gSteps L L.length [] 0 = r) : Run Tryz.prog 26 [.op id 0] (Hat H id L 0) (readV L r) (readH H id L r) := by
 refine Run.of_triG Tryz.func26 rfl rfl (ltb rfl) ?_
 refine TriG.seq ?_
 refine Tri.region ?_
 refine TriL.c2 rfl (op_alln (ltb rfl) zNst rfl) ?_
 refine TriL.c2 rfl (op_alln (ltb rfl) zNit rfl) ?_
 refine TriL.c2 rfl (op_all (ltb rfl) zA3_q rfl) ?_
 refine TriL.kept (Kept.pub 2 rfl rfl (Kept.op 2 rfl rfl (Kept.cls 2 rfl rfl rfl rfl (Kept.pub 3 rfl rfl (Kept.op 3 rfl rfl (Kept.cls 3 rfl rfl rfl rfl (Kept.pub 4 rfl rfl (Kept.op 4 rfl rfl (Kept.cls 4 rfl rfl rfl rfl (Kept.seth rfl (Hat_new3 hid) (Kept.setv 2 rfl (show (_ : AV) = .op H.next 0 from rfl) (Kept.setv 3 rfl (show (_ : AV) = .op (H.next + 1) 0 from rfl) (Kept.setv 4 rfl (show (_ : AV) = .op (H.next + 1 + 1) 0 from rfl) (Kept.keep [.h, .s 0, .s 2, .s 3, .s 4] rfl (by decide) (Kept.now ?_)))))))))))))))
 refine ⟨rfl, TriG.defer (TriLd.c1 rfl (op_mkf (ltb rfl) rfl) (TriLd.defer rfl ⟨fun k => rfl, fun k => rfl, rfl, by kernel_rfl, ?_⟩))⟩
 refine Tri.keptExit ?_
 refine Tri.ofKept (Kept.opn 2 H.next 60 rfl (Hr_a hid) rfl rfl (Kept.lp 2 2 rfl rfl (Kept.nilow 2 0 62 46 12 rfl rfl rfl rfl (by decide) (Kept.opn 3 (H.next + 1) 70 rfl (Hr_b2 hid) rfl rfl (Kept.lp 3 3 rfl rfl (Kept.nilow 3 0 63 3 1 rfl rfl rfl rfl (by decide) (Kept.seth rfl (Hr_del hid) (Kept.keep [.h, .s 0, .s 2, .b 2, .t 62, .s 3, .b 3, .t 63, .s 4] rfl (by decide) (Kept.now ?_)))))))))
 refine Tri.seq (Tri.blk ?_)
 refine Tri.ofKept (Kept.keep [.h, .b 2, .t 62, .b 3, .t 63, .s 0, .s 2, .s 3, .s 4] rfl (by decide) (Kept.now ?_))
 -- LOOP 1
 refine Tri.loopk (fun ((q, xs, ys) : Nat × List AV × List AV) => [(.h, .hp (Hat (Hd H (.int .i64 0)) id L q)), (.b 2, .ob H.next [.ow 62 xs]), (.t 62, .tk false 46 12 xs), (.b 3, .ob (H.next + 1) [.ow 63 ys]), (.t 63, .tk false 3 1 ys)]) _ (fun ((q, xs, ys) : Nat × List AV × List AV) => ∃ (n : Nat) (acc : List (Stp × Nat)), xs = acc.map (fun p => p.1.av) ∧ ys = acc.map (fun p => AV.int .i64 (p.2 : Int)) ∧ gSteps L n acc q = gSteps L L.length [] 0 ∧ q < L.length ∧ L.length - q ≤ n ∧ acc.length ≤ q) (fun ((q, xs, ys) : Nat × List AV × List AV) => L.length - q) (0, [], []) rfl ⟨L.length, [], rfl, rfl, rfl, hi, by omega, by simp⟩ ?_
 rintro ⟨q, xs, ys⟩ ⟨n, acc, rfl, rfl, hI, hq, hn, hac⟩
 refine Tri.seq (Tri.seq (Tri.region ?_))
 refine TriL.c1 rfl (op_mv (ltb rfl) rfl) ?_
 refine TriL.c2 rfl (op_callh (ltb rfl) fn59_q rfl rfl (now_run hL _ id hq)) ?_
 refine TriL.c1 rfl (op_fld (ltb rfl) fof112_0_q rfl rfl (by intro _; exact leb rfl)) ?_
 refine TriL.c1 rfl (op_bin (ltb rfl) rfl rfl rfl) ?_
 refine TriL.nil ?_
 refine Tri.cond rfl (fun hc1 => ?_) (fun hc1 => ?_)
 ·refine Tri.skip (Tri.blk (Tri.seq ?_))
  refine Tri.drawn mixed rfl ?_
  refine TriD.c1 rfl (op_ldo (ltb rfl) lk34_q rfl rfl rfl) ?_
  refine TriD.c1 rfl (op_mv (ltb rfl) rfl) ?_
  refine TriD.c2 rfl (op_callh (ltb rfl) fn59_q rfl rfl (now_run hL _ id hq)) ?_
  refine TriD.c1 rfl (op_fld (ltb rfl) fof112_4_q rfl rfl (by intro _; exact leb rfl)) ?_
  refine TriD.c1 rfl (op_lit («as» := [_]) (ltb rfl) se34_q zAe34_q rfl rfl rfl (leb rfl)) ?_
  refine TriD.c3 rfl (op_app (ltb rfl) se34_q rfl rfl rfl rfl rfl (by simp only [List.length_map, List.length_cons, List.length_nil]; have := hL.len; omega) (by simp only [List.length_map, List.length_cons, List.length_nil]; have := hL.len; omega)) ?_
  refine TriD.c1 rfl (op_sto lk34_q rfl rfl rfl rfl rfl (leb rfl)) ?_
  refine TriD.nil (by kernel_rfl) (Kept.now ?_)
  cases hp1 : gStep L q with
  | bad j => 
   refine Tri.drawnP mixed rfl ?_
   refine TriDP.c1 rfl (op_ldo (ltb rfl) lk23_q rfl rfl rfl) ?_
   refine TriDP.c1 rfl (op_mv (ltb rfl) rfl) ?_
   refine TriDP.pan rfl (pan_call fn60_q rfl rfl (RunR.bad (step_run hL (Hd H (.int .i64 0)) id hq (Hd_id hid)) hp1)) (by kernel_rfl) (by kernel_rfl) (fun f => ?_)
   obtain rfl : r = .bad j := by rw [← hr, ← hI, gSteps_step (by omega) (by simpa using hc1), hp1]; rfl
   simp only [List.nil_append, List.cons_append, stS, readV, readH]
   generalize f 0 = b0; generalize f (0 + 1) = b1
   cases b0 <;> cases b1 <;> exact (read_close rfl rfl rfl rfl rfl rfl (Hd_close hid)).mono fun s2 ⟨e1, e2, e3, e4⟩ => ⟨_, e1, read_res e2 e3 e4 (Hr_a hid) (Hr_b hid) (Hr_c hid), .inr ⟨_, rfl, readD_bad2 hid⟩⟩
  | ok x1 j1 => 
   have hj1 := PR.ok_lt (gStep_in hL hq) hp1
   refine Tri.drawn mixed rfl ?_
   refine TriD.c1 rfl (op_ldo (ltb rfl) lk23_q rfl rfl rfl) ?_
   refine TriD.c1 rfl (op_mv (ltb rfl) rfl) ?_
   refine TriD.c2 rfl (op_callh (ltb rfl) fn60_q rfl rfl (RunR.ok (step_run hL (Hd H (.int .i64 0)) id hq (Hd_id hid)) hp1)) ?_
   refine TriD.c1 rfl (op_lit («as» := [_]) (ltb rfl) se23_q zAe23_q rfl rfl rfl (leb rfl)) ?_
   refine TriD.c3 rfl (op_app (ltb rfl) se23_q rfl rfl rfl rfl rfl (by simp only [List.length_map, List.length_cons, List.length_nil]; have := hL.len; omega) (by simp only [List.length_map, List.length_cons, List.length_nil]; have := hL.len; omega)) ?_
   refine TriD.c1 rfl (op_sto lk23_q rfl rfl rfl rfl rfl (leb rfl)) ?_
   refine TriD.nil (by kernel_rfl) (Kept.keep [.h, .b 2, .t 20, .b 3, .t 15, .s 0, .s 2, .s 3, .s 4] rfl (by decide) (Kept.ren 20 62 (by decide) rfl (Kept.ren 15 63 (by decide) rfl (Kept.now ?_))))
   exact ⟨(_, _, _), by dsimp only; have := gStep_next hp1; omega, ⟨n - 1, acc ++ [(x1, (tkAt L q).pos)], by simp, by simp, by rw [← hI, gSteps_step (n := n) (acc := acc) (q := q) (by omega) (by simpa using hc1), hp1]; rfl, hj1, by have := gStep_next hp1; omega, by have := gStep_next hp1; simp; omega⟩, rfl⟩
 ·refine Tri.exit (Tri.seq ?_)
  refine Tri.drawn mixed rfl ?_
  refine TriD.c1 rfl (op_ldo (ltb rfl) lk23_q rfl rfl rfl) ?_
  refine TriD.c1 rfl (op_ldo (ltb rfl) lk34_q rfl rfl rfl) ?_
  refine TriD.c1 rfl (op_sto lk23_q rfl rfl rfl rfl rfl (leb rfl)) ?_
  refine TriD.c1 rfl (op_sto lk34_q rfl rfl rfl rfl rfl (leb rfl)) ?_
  refine TriD.c1 rfl (op_stc lk3_q rfl rfl (Hd_c hid) rfl rfl rfl) ?_
  refine TriD.nil (by kernel_rfl) (Kept.now ?_)
  refine Tri.ret ?_
  obtain rfl : r = .ok acc q := by rw [← hr, ← hI, gSteps_end (by simpa using hc1)]
  simp only [readV, readH]
  exact (read_close rfl rfl rfl rfl rfl rfl (Hd_close2 hid)).mono fun s2 ⟨e1, e2, e3, e4⟩ => ⟨_, e1, read_res e2 e3 e4 (Hr_a hid) (Hr_b hid) (Hr_c hid), .inl ⟨by simp, readD_ok _ _ _ _⟩⟩
/- mparse: the steps of a text, and where they begin. -/
theorem fn25_q : isFn Tryz.prog 25 = true := by kernel_rfl
theorem fn26_q : isFn Tryz.prog 26 = true := by kernel_rfl
theorem spl75_q : spl Tryz.prog 75 = some [(0, 1), (1, 1)] := by kernel_rfl
theorem zA75_q : zeroA Tryz.prog 75 = some [AV.sl [], AV.int IntKind.i64 (0)] := by kernel_rfl
theorem gSteps_m {L : List Tk} : ∀ {n : Nat} {acc : List (Stp × Nat)} {i j : Nat} {l : List (Stp × Nat)}, gSteps L n acc i = .ok l j → (∀ p ∈ acc, p.1.dv.m = []) → ∀ p ∈ l, p.1.dv.m = []
 | 0, acc, i, j, l, h, ha => by cases h; exact ha
 | n + 1, acc, i, j, l, h, ha => by
  unfold gSteps at h
  split at h
  ·cases h; exact ha
  ·obtain ⟨x, k, h1, h2⟩ := PR.inv h
   refine gSteps_m h2 fun p hp => ?_
   rcases List.mem_append.1 hp with hp | hp
   ·exact ha p hp
   ·simp at hp; subst hp; exact gStep_m h1
def PR.pos {α : Type} : PR α → Nat
 | .ok _ j => j
 | .bad j => j
theorem readV_ops {D : Nat → Prop} {L : List Tk} {r : PR (List (Stp × Nat))} (h : ∀ l j, r = .ok l j → ∀ p ∈ l, p.1.dv.m = []) : OpsIn D (readV L r) := by
 cases r with
 | ok l j =>
  refine .tup _ fun x hx => ?_
  simp only [List.mem_cons, List.not_mem_nil, or_false] at hx
  rcases hx with rfl | rfl | rfl
  ·exact .sl _ fun y hy => by obtain ⟨p, hp, rfl⟩ := List.mem_map.1 hy; exact Stp.ops (h l j rfl p hp)
  ·exact .sl _ fun y hy => by obtain ⟨p, hp, rfl⟩ := List.mem_map.1 hy; exact .int _ _
  ·exact .int _ _
 | bad j =>
  refine .tup _ fun x hx => ?_
  simp only [List.mem_cons, List.not_mem_nil, or_false] at hx
  rcases hx with rfl | rfl | rfl
  ·exact .sl _ (by simp)
  ·exact .sl _ (by simp)
  ·exact .int _ _
theorem read_run {L : List Tk} (hL : Toks L) (H : Hp) (id : Nat) (hi : 0 < L.length) (hid : id < H.next) {r : PR (List (Stp × Nat))} (hr : gSteps L L.length [] 0 = r) : Run Tryz.prog 26 [.op id 0] (Hat H id L 0) (readV L r) (Hat H id L r.pos) := by
 refine (read_raw hL H id hi hid r hr).drop Hat_kin ?_ (readV_ops fun l j e => gSteps_m (hr.trans e) (by simp))
 intro k hk
 cases r with
 | ok l j => exact Hr_low hk
 | bad j => exact Hr_low hk
theorem ResOK.r4 {P : Program} {fn : Func} {s : St} {x y z u : ResultVar} {a b c d : AV} (hf : fn.results = [x, y, z, u].toArray) (h : ResL P s [x, y, z, u] [a, b, c, d]) : ResOK P fn s (.tup [a, b, c, d]) := ResOK.mk hf h
def endAt (n : Nat) : Tk := ⟨0, [], 0, false, n⟩
/-- a text's tokens, with the end -/
def lexT (s : Str) : List Tk := (lexGo s 0).1 ++ [endAt s.length]
theorem lexT_toks {s : Str} (hs : s.length ≤ 6000) : Toks (lexT s) := by
 have hl := lexGo_len s.length s 0 (Nat.le_refl _)
 refine ⟨by simp [lexT]; omega, fun i hi hk => ?_, fun t ht => ?_, fun t ht hk => ?_⟩
 ·rcases Nat.lt_or_ge (i + 1) (lexT s).length with h | h
  ·exact h
  ·exfalso
   have hi' : i = (lexGo s 0).1.length := by simp [lexT] at hi h; omega
   apply hk
   rw [tkAt_eq hi]
   simp [lexT, hi', endAt]
 ·rcases List.mem_append.1 ht with h | h
  ·exact (lexGo_ok s.length s 0 (Nat.le_refl _) t h).n
  ·simp at h; subst h; simp [endAt]
 ·rcases List.mem_append.1 ht with h | h
  ·exact (lexGo_ok s.length s 0 (Nat.le_refl _) t h).m hk
  ·simp at h; subst h; simp [endAt] at hk
theorem lexT_pos (s : Str) : 0 < (lexT s).length := by simp [lexT]
/-- the steps of a text, each with its place; the place where it ends, or is none; what is wrong -/
structure MR where
 l : List (Stp × Nat)
 n : Nat
 e : Int
def mOf (s : Str) : PR (List (Stp × Nat)) → MR
 | .ok l _ => ⟨l, s.length, 0⟩
 | .bad j => ⟨[], (tkAt (lexT s) j).pos, 2⟩
def mSteps (s : Str) : MR :=
 if 6000 < s.length then ⟨[], 0, 3⟩
 else match (lexGo s 0).2 with
  | some p => ⟨[], p, 2⟩
  | none => mOf s (gSteps (lexT s) (lexT s).length [] 0)
theorem mSteps_eq {s : Str} (hs : s.length ≤ 6000) (h2 : (lexGo s 0).2 = none) : mSteps s = mOf s (gSteps (lexT s) (lexT s).length [] 0) := by
 unfold mSteps; rw [if_neg (by omega), h2]
def MR.av (m : MR) : AV := .tup [stpsV m.l, fromV m.l, .int .i64 (m.n : Int), .int .i64 m.e]
theorem mSteps_m {s : Str} : ∀ p ∈ (mSteps s).l, p.1.dv.m = [] := by
 unfold mSteps
 split
 ·simp
 ·split
  ·simp
  ·cases e : gSteps (lexT s) (lexT s).length [] 0 with
   | ok l j => exact gSteps_m e (by simp)
   | bad j => simp [mOf]
theorem MR.ops {D : Nat → Prop} {m : MR} (h : ∀ p ∈ m.l, p.1.dv.m = []) : OpsIn D m.av := .tup _ fun x hx => by
 simp only [List.mem_cons, List.not_mem_nil, or_false] at hx
 rcases hx with rfl | rfl | rfl | rfl
 ·exact .sl _ fun y hy => by obtain ⟨p, hp, rfl⟩ := List.mem_map.1 hy; exact Stp.ops (h p hp)
 ·exact .sl _ fun y hy => by obtain ⟨p, hp, rfl⟩ := List.mem_map.1 hy; exact .int _ _
 ·exact .int _ _
 ·exact .int _ _
theorem Hat_top {H : Hp} {L : List Tk} {j k : Nat} (hk : k < H.next) : (Hat ⟨H.next + 1, H.obj⟩ H.next L j).obj k = H.obj k := by
 simp only [Hat, Hp.set]; rw [if_neg (by omega)]
theorem steps_bad (s : Str) (n : Nat) (e : Int) (he : e ≠ 0) (hm : mSteps s = ⟨[], n, e⟩) (hA : Pure Tryz.prog 25 [.str s, .int .i64 6000] (.tup [.sl [], .int .i64 (n : Int), .int .i64 e])) : Pure Tryz.prog 16 [.str s] (mSteps s).av := by
 intro H; refine Run.of_triF Tryz.func16 rfl rfl (ltb rfl) (MR.ops mSteps_m) ?_
 refine Tri.seq (Tri.region ?_)
 iterate 4 (refine TriL.c1 rfl (op_as (ltb rfl) rfl) ?_)
 refine TriL.nil (Tri.seq (Tri.region ?_))
 refine TriL.c1 rfl (op_mv (ltb rfl) rfl) ?_
 refine TriL.c1 rfl (op_call (ltb rfl) fn25_q rfl hA) ?_
 refine TriL.c1 rfl (op_mv (ltb rfl) rfl) ?_
 iterate 3 (refine TriL.c1 rfl (op_ext (ltb rfl) rfl rfl) ?_)
 iterate 3 (refine TriL.c1 rfl (op_as (ltb rfl) rfl) ?_)
 refine TriL.nil (Tri.seq (Tri.seq (Tri.region ?_)))
 refine TriL.c1 rfl (op_mv (ltb rfl) rfl) ?_
 refine TriL.c1 rfl (op_bin (ltb rfl) rfl rfl rfl) ?_
 refine TriL.nil ?_
 refine Tri.condT rfl (by simpa using he) ?_
 refine Tri.seq (Tri.region ?_)
 iterate 2 (refine TriL.c1 rfl (op_mv (ltb rfl) rfl) ?_)
 iterate 4 (refine TriL.c1 rfl (op_as (ltb rfl) rfl) ?_)
 refine TriL.nil (Tri.ret ?_)
 exact ⟨.inr rfl, (ResOK.r4 rfl (.tmp rfl (.tmp rfl (.tmp rfl (.tmp rfl .nil))))).cast (by rw [hm]; rfl), ⟨_, rfl, Nat.le_refl _, fun _ _ => rfl⟩⟩
theorem steps_ok (s : Str) (hs : s.length ≤ 6000) (h2 : (lexGo s 0).2 = none) (hA : Pure Tryz.prog 25 [.str s, .int .i64 6000] (.tup [.sl ((lexT s).map Tk.av), .int .i64 (s.length : Int), .int .i64 0])) : Pure Tryz.prog 16 [.str s] (mSteps s).av := by
 intro H; refine Run.of_triF Tryz.func16 rfl rfl (ltb rfl) (MR.ops mSteps_m) ?_
 refine Tri.seq (Tri.region ?_)
 iterate 4 (refine TriL.c1 rfl (op_as (ltb rfl) rfl) ?_)
 refine TriL.nil (Tri.seq (Tri.region ?_))
 refine TriL.c1 rfl (op_mv (ltb rfl) rfl) ?_
 refine TriL.c1 rfl (op_call (ltb rfl) fn25_q rfl hA) ?_
 refine TriL.c1 rfl (op_mv (ltb rfl) rfl) ?_
 iterate 3 (refine TriL.c1 rfl (op_ext (ltb rfl) rfl rfl) ?_)
 iterate 3 (refine TriL.c1 rfl (op_as (ltb rfl) rfl) ?_)
 refine TriL.nil (Tri.seq (Tri.seq (Tri.region ?_)))
 refine TriL.c1 rfl (op_mv (ltb rfl) rfl) ?_
 refine TriL.c1 rfl (op_bin (ltb rfl) rfl rfl rfl) ?_
 refine TriL.nil ?_
 refine Tri.condF rfl rfl ?_
 refine Tri.skip (Tri.seq (Tri.region ?_))
 refine TriL.c1 rfl (op_mv (ltb rfl) rfl) ?_
 refine TriL.c1 rfl (op_bld (ltb rfl) spl75_q zA75_q rfl rfl) ?_
 refine TriL.c2 rfl (op_box (ltb rfl) rfl rfl rfl) ?_
 refine TriL.c1 rfl (op_as (ltb rfl) rfl) ?_
 refine TriL.nil (Tri.seq ?_)
 refine Tri.ofKept (Kept.pub 25 rfl rfl (Kept.op 9 rfl rfl (Kept.cls 25 rfl rfl rfl rfl (Kept.now ?_))))
 refine Tri.region ?_
 refine TriL.c1 rfl (op_mv (ltb rfl) rfl) ?_
 cases hp1 : gSteps (lexT s) (lexT s).length [] 0 with
 | ok x1 j1 => 
  refine TriL.c2 rfl (op_callh (ltb rfl) fn26_q rfl rfl (read_run (lexT_toks hs) ⟨H.next + 1, H.obj⟩ H.next (lexT_pos s) (show H.next < H.next + 1 by omega) hp1)) ?_
  refine TriL.c1 rfl (op_mv (ltb rfl) rfl) ?_
  iterate 3 (refine TriL.c1 rfl (op_ext (ltb rfl) rfl rfl) ?_)
  iterate 3 (refine TriL.c1 rfl (op_as (ltb rfl) rfl) ?_)
  refine TriL.nil (Tri.seq (Tri.seq (Tri.region ?_)))
  refine TriL.c1 rfl (op_mv (ltb rfl) rfl) ?_
  refine TriL.c1 rfl (op_bin (ltb rfl) rfl rfl rfl) ?_
  refine TriL.nil ?_
  refine Tri.cond rfl (fun hc1 => ?_) (fun hc1 => ?_)
  ·refine Tri.seq (Tri.region ?_)
   refine TriL.c1 rfl (op_mv (ltb rfl) rfl) ?_
   iterate 4 (refine TriL.c1 rfl (op_as (ltb rfl) rfl) ?_)
   refine TriL.nil (Tri.ret ?_)
   exact ⟨.inr rfl, (ResOK.r4 rfl (.tmp rfl (.tmp rfl (.tmp rfl (.tmp rfl .nil))))).cast (absurd hc1 (by decide)), ⟨_, rfl, Nat.le_succ _, fun k hk => Hat_top hk⟩⟩
  ·refine Tri.skip (Tri.seq (Tri.region ?_))
   iterate 3 (refine TriL.c1 rfl (op_mv (ltb rfl) rfl) ?_)
   refine TriL.c1 rfl (op_lens (ltb rfl) un9_q rfl) ?_
   iterate 4 (refine TriL.c1 rfl (op_as (ltb rfl) rfl) ?_)
   refine TriL.nil (Tri.ret ?_)
   exact ⟨.inr rfl, (ResOK.r4 rfl (.tmp rfl (.tmp rfl (.tmp rfl (.tmp rfl .nil))))).cast (by rw [mSteps_eq hs h2, hp1]; rfl), ⟨_, rfl, Nat.le_succ _, fun k hk => Hat_top hk⟩⟩
 | bad j1 => 
  refine TriL.c2 rfl (op_callh (ltb rfl) fn26_q rfl rfl (read_run (lexT_toks hs) ⟨H.next + 1, H.obj⟩ H.next (lexT_pos s) (show H.next < H.next + 1 by omega) hp1)) ?_
  refine TriL.c1 rfl (op_mv (ltb rfl) rfl) ?_
  iterate 3 (refine TriL.c1 rfl (op_ext (ltb rfl) rfl rfl) ?_)
  iterate 3 (refine TriL.c1 rfl (op_as (ltb rfl) rfl) ?_)
  refine TriL.nil (Tri.seq (Tri.seq (Tri.region ?_)))
  refine TriL.c1 rfl (op_mv (ltb rfl) rfl) ?_
  refine TriL.c1 rfl (op_bin (ltb rfl) rfl rfl rfl) ?_
  refine TriL.nil ?_
  refine Tri.cond rfl (fun hc2 => ?_) (fun hc2 => ?_)
  ·refine Tri.seq (Tri.region ?_)
   refine TriL.c1 rfl (op_mv (ltb rfl) rfl) ?_
   iterate 4 (refine TriL.c1 rfl (op_as (ltb rfl) rfl) ?_)
   refine TriL.nil (Tri.ret ?_)
   exact ⟨.inr rfl, (ResOK.r4 rfl (.tmp rfl (.tmp rfl (.tmp rfl (.tmp rfl .nil))))).cast (by rw [mSteps_eq hs h2, hp1]; rfl), ⟨_, rfl, Nat.le_succ _, fun k hk => Hat_top hk⟩⟩
  ·refine Tri.skip (Tri.seq (Tri.region ?_))
   iterate 3 (refine TriL.c1 rfl (op_mv (ltb rfl) rfl) ?_)
   refine TriL.c1 rfl (op_lens (ltb rfl) un9_q rfl) ?_
   iterate 4 (refine TriL.c1 rfl (op_as (ltb rfl) rfl) ?_)
   refine TriL.nil (Tri.ret ?_)
   exact ⟨.inr rfl, (ResOK.r4 rfl (.tmp rfl (.tmp rfl (.tmp rfl (.tmp rfl .nil))))).cast (absurd (of_decide_eq_false hc2) (by omega)), ⟨_, rfl, Nat.le_succ _, fun k hk => Hat_top hk⟩⟩
end Go.Proofs.YtabihkfhoohfnaaGreatDoor.X
