/- unicode/utf8.ValidString: the library's contract laid at this program. No condition. -/
import Derived.Test.YtabihkfhoohfnaaGreatDoorZCD
import Derived.Shelf.Unicode.ValidAny
namespace Go.Proofs
open Go.Shelf
def Tryz.laysVS_ren : Go.Shelf.Ren := ⟨fun | 196 => 75 | 259 => 113 | n => n, fun | 0 => 0 | 3 => 3 | 4 => 4 | 5 => 5 | 9 => 9 | 12 => 12 | 46 => 153 | 53 => 41 | 119 => 149 | 138 => 151 | 139 => 152 | n => n, fun | 3 => 0 | 4 => 1 | n => n⟩
theorem Tryz.laysVS : Go.Proofs.Lays.n196 Tryz.prog Tryz.laysVS_ren := {
 mixed := by kernel_rfl
 f196 := Tryz.func75.trans (congrArg some (by kernel_rfl))
 f259 := Tryz.func113.trans (congrArg some (by kernel_rfl))
 t0 := Tryz.underlying0
 a0 := Tryz.isAgg0
 z0 := Tryz.sizeOf0
 v0 := Tryz.zeroValue0
 t3 := Tryz.underlying3
 a3 := Tryz.isAgg3
 z3 := Tryz.sizeOf3
 v3 := Tryz.zeroValue3
 t4 := Tryz.underlying4
 a4 := Tryz.isAgg4
 z4 := Tryz.sizeOf4
 v4 := Tryz.zeroValue4
 t5 := Tryz.underlying5
 a5 := Tryz.isAgg5
 z5 := Tryz.sizeOf5
 v5 := Tryz.zeroValue5
 t9 := Tryz.underlying9
 a9 := Tryz.isAgg9
 z9 := Tryz.sizeOf9
 v9 := Tryz.zeroValue9
 t12 := Tryz.underlying12
 a12 := Tryz.isAgg12
 z12 := Tryz.sizeOf12
 v12 := Tryz.zeroValue12
 t46 := Tryz.underlying153
 a46 := Tryz.isAgg153
 z46 := Tryz.sizeOf153
 v46 := Tryz.zeroValue153
 t53 := Tryz.underlying41
 a53 := Tryz.isAgg41
 z53 := Tryz.sizeOf41
 v53 := Tryz.zeroValue41
 t119 := Tryz.underlying149
 a119 := Tryz.isAgg149
 z119 := Tryz.sizeOf149
 t138 := Tryz.underlying151
 a138 := Tryz.isAgg151
 z138 := Tryz.sizeOf151
 v138 := Tryz.zeroValue151
 t139 := Tryz.underlying152
 a139 := Tryz.isAgg152
 z139 := Tryz.sizeOf152
 v139 := Tryz.zeroValue152
 g3 := by kernel_rfl
 g4 := by kernel_rfl }
end Go.Proofs
namespace Go.Proofs.YtabihkfhoohfnaaGreatDoor.X
open Go Go.RowKit Go.Proofs
theorem p_validS (s : Str) (hs : s.length ≤ 9223372036854775807) : Pure Tryz.prog 75 [.str s] (.bool (Lib.validD s)) :=
 Pure.of_calls fun G w cargs hg hn hk hV => by
  obtain ⟨x, rfl, hx⟩ := hV.one
  have e := hx.str_eq
  subst e
  refine (Any.utf8_ValidString Tryz.laysVS ⟨s.toArray⟩ w (by simpa [ByteArray.size] using hs) (gokUtf hg)).mono ?_
  rintro e w' ⟨rfl, hb⟩
  exact ⟨_, rfl, .bool _, hb⟩
set_option linter.unusedVariables false
set_option linter.unusedSimpArgs false
set_option linter.unusedSectionVars false
set_option maxRecDepth 100000
/- the document: names, numbers, types, fields. -/
theorem fn37_q : isFn Tryz.prog 37 = true := by kernel_rfl
theorem se40_q : se Tryz.prog 40 = some (9, 1, 16) := by kernel_rfl
theorem zAe40_q : zeroA Tryz.prog 9 = some [AV.str []] := by kernel_rfl
theorem r_fnum (n : Int) : Pure Tryz.prog 72 [.int .i64 n] (.bool (fnum n)) := by
 refine Pure.of_tri Tryz.func72 rfl rfl (ltb rfl) fun H => ?_
 refine Tri.seq (Tri.region ?_)
 refine TriL.c1 rfl (op_as (ltb rfl) rfl) ?_
 refine TriL.nil (Tri.seq (Tri.region ?_))
 refine TriL.c1 rfl (op_mv (ltb rfl) rfl) ?_
 refine TriL.c1 rfl (op_bin (ltb rfl) rfl rfl rfl) ?_
 refine TriL.c1 rfl (op_mv (ltb rfl) rfl) ?_
 refine TriL.split (d := 5) rfl (fun hg1 => ?_) (fun hg1 => ?_)
 ·refine TriL.g1 rfl (ltb rfl) rfl hg1 (op_mv (ltb rfl) rfl) ?_
  refine TriL.g1 rfl (ltb rfl) rfl hg1 (op_bin (ltb rfl) rfl rfl rfl) ?_
  refine TriL.c1 rfl (op_pickt (ltb rfl) rfl hg1 rfl) ?_
  refine TriL.c1 rfl (op_mv (ltb rfl) rfl) ?_
  refine TriL.split (d := 9) rfl (fun hg2 => ?_) (fun hg2 => ?_)
  ·refine TriL.g1 rfl (ltb rfl) rfl hg2 (op_mv (ltb rfl) rfl) ?_
   refine TriL.g1 rfl (ltb rfl) rfl hg2 (op_bin (ltb rfl) rfl rfl rfl) ?_
   refine TriL.g1 rfl (ltb rfl) rfl hg2 (op_mv (ltb rfl) rfl) ?_
   refine TriL.split (d := 12) rfl (fun hg3 => ?_) (fun hg3 => ?_)
   ·iterate 2 (refine TriL.skipu rfl rfl (ltb rfl) (ltb rfl) rfl hg3 ?_)
    refine TriL.g1 rfl (ltb rfl) rfl hg2 (op_pickt (ltb rfl) rfl hg3 rfl) ?_
    refine TriL.c1 rfl (op_pickt (ltb rfl) rfl hg2 rfl) ?_
    refine TriL.c1 rfl (op_as (ltb rfl) rfl) ?_
    refine TriL.nil (Tri.ret ?_)
    exact ⟨.inr rfl, (ResOK.r1 rfl (.tmp rfl .nil)).cast (congrArg AV.bool (by grind [fnum])), rfl⟩
   ·refine TriL.g1 rfl (ltb rfl) rfl hg3 (op_mv (ltb rfl) rfl) ?_
    refine TriL.g1 rfl (ltb rfl) rfl hg3 (op_bin (ltb rfl) rfl rfl rfl) ?_
    refine TriL.g1 rfl (ltb rfl) rfl hg2 (op_pickf (ltb rfl) rfl hg3 rfl) ?_
    refine TriL.c1 rfl (op_pickt (ltb rfl) rfl hg2 rfl) ?_
    refine TriL.c1 rfl (op_as (ltb rfl) rfl) ?_
    refine TriL.nil (Tri.ret ?_)
    exact ⟨.inr rfl, (ResOK.r1 rfl (.tmp rfl .nil)).cast (congrArg AV.bool (by grind [fnum])), rfl⟩
  ·iterate 3 (refine TriL.skipu rfl rfl (ltb rfl) (ltb rfl) rfl hg2 ?_)
   iterate 2 (refine TriL.skipg rfl rfl (ltb rfl) (ltb rfl) rfl ?_)
   refine TriL.skipu rfl rfl (ltb rfl) (ltb rfl) rfl hg2 ?_
   refine TriL.c1 rfl (op_pickf (ltb rfl) rfl hg2 rfl) ?_
   refine TriL.c1 rfl (op_as (ltb rfl) rfl) ?_
   refine TriL.nil (Tri.ret ?_)
   exact ⟨.inr rfl, (ResOK.r1 rfl (.tmp rfl .nil)).cast (congrArg AV.bool (by grind [fnum])), rfl⟩
 ·iterate 2 (refine TriL.skipu rfl rfl (ltb rfl) (ltb rfl) rfl hg1 ?_)
  refine TriL.c1 rfl (op_pickf (ltb rfl) rfl hg1 rfl) ?_
  refine TriL.c1 rfl (op_mv (ltb rfl) rfl) ?_
  iterate 3 (refine TriL.skipu rfl rfl (ltb rfl) (ltb rfl) rfl rfl ?_)
  iterate 2 (refine TriL.skipg rfl rfl (ltb rfl) (ltb rfl) rfl ?_)
  refine TriL.skipu rfl rfl (ltb rfl) (ltb rfl) rfl rfl ?_
  refine TriL.c1 rfl (op_pickf (ltb rfl) rfl rfl rfl) ?_
  refine TriL.c1 rfl (op_as (ltb rfl) rfl) ?_
  refine TriL.nil (Tri.ret ?_)
  exact ⟨.inr rfl, (ResOK.r1 rfl (.tmp rfl .nil)).cast (congrArg AV.bool (by grind [fnum])), rfl⟩
theorem r_wholeT (n : Int) : Pure Tryz.prog 37 [.int .i64 n] (.bool (wholeT n)) := by
 refine Pure.of_tri Tryz.func37 rfl rfl (ltb rfl) fun H => ?_
 refine Tri.seq (Tri.region ?_)
 refine TriL.c1 rfl (op_as (ltb rfl) rfl) ?_
 refine TriL.nil (Tri.seq (Tri.region ?_))
 refine TriL.c1 rfl (op_mv (ltb rfl) rfl) ?_
 refine TriL.c1 rfl (op_bin (ltb rfl) rfl rfl rfl) ?_
 refine TriL.c1 rfl (op_mv (ltb rfl) rfl) ?_
 refine TriL.split (d := 5) rfl (fun hg1 => ?_) (fun hg1 => ?_)
 ·refine TriL.g1 rfl (ltb rfl) rfl hg1 (op_mv (ltb rfl) rfl) ?_
  refine TriL.g1 rfl (ltb rfl) rfl hg1 (op_bin (ltb rfl) rfl rfl rfl) ?_
  refine TriL.c1 rfl (op_pickt (ltb rfl) rfl hg1 rfl) ?_
  refine TriL.c1 rfl (op_mv (ltb rfl) rfl) ?_
  refine TriL.split (d := 9) rfl (fun hg2 => ?_) (fun hg2 => ?_)
  ·iterate 3 (refine TriL.skipu rfl rfl (ltb rfl) (ltb rfl) rfl hg2 ?_)
   iterate 2 (refine TriL.skipg rfl rfl (ltb rfl) (ltb rfl) rfl ?_)
   refine TriL.skipu rfl rfl (ltb rfl) (ltb rfl) rfl hg2 ?_
   refine TriL.c1 rfl (op_pickt (ltb rfl) rfl hg2 rfl) ?_
   refine TriL.c1 rfl (op_as (ltb rfl) rfl) ?_
   refine TriL.nil (Tri.ret ?_)
   exact ⟨.inr rfl, (ResOK.r1 rfl (.tmp rfl .nil)).cast (congrArg AV.bool (by grind [wholeT])), rfl⟩
  ·refine TriL.g1 rfl (ltb rfl) rfl hg2 (op_mv (ltb rfl) rfl) ?_
   refine TriL.g1 rfl (ltb rfl) rfl hg2 (op_bin (ltb rfl) rfl rfl rfl) ?_
   refine TriL.g1 rfl (ltb rfl) rfl hg2 (op_mv (ltb rfl) rfl) ?_
   refine TriL.split (d := 12) rfl (fun hg3 => ?_) (fun hg3 => ?_)
   ·refine TriL.g1 rfl (ltb rfl) rfl hg3 (op_mv (ltb rfl) rfl) ?_
    refine TriL.g1 rfl (ltb rfl) rfl hg3 (op_bin (ltb rfl) rfl rfl rfl) ?_
    refine TriL.g1 rfl (ltb rfl) rfl hg2 (op_pickt (ltb rfl) rfl hg3 rfl) ?_
    refine TriL.c1 rfl (op_pickf (ltb rfl) rfl hg2 rfl) ?_
    refine TriL.c1 rfl (op_as (ltb rfl) rfl) ?_
    refine TriL.nil (Tri.ret ?_)
    exact ⟨.inr rfl, (ResOK.r1 rfl (.tmp rfl .nil)).cast (congrArg AV.bool (by grind [wholeT])), rfl⟩
   ·iterate 2 (refine TriL.skipu rfl rfl (ltb rfl) (ltb rfl) rfl hg3 ?_)
    refine TriL.g1 rfl (ltb rfl) rfl hg2 (op_pickf (ltb rfl) rfl hg3 rfl) ?_
    refine TriL.c1 rfl (op_pickf (ltb rfl) rfl hg2 rfl) ?_
    refine TriL.c1 rfl (op_as (ltb rfl) rfl) ?_
    refine TriL.nil (Tri.ret ?_)
    exact ⟨.inr rfl, (ResOK.r1 rfl (.tmp rfl .nil)).cast (congrArg AV.bool (by grind [wholeT])), rfl⟩
 ·iterate 2 (refine TriL.skipu rfl rfl (ltb rfl) (ltb rfl) rfl hg1 ?_)
  refine TriL.c1 rfl (op_pickf (ltb rfl) rfl hg1 rfl) ?_
  refine TriL.c1 rfl (op_mv (ltb rfl) rfl) ?_
  refine TriL.g1 rfl (ltb rfl) rfl rfl (op_mv (ltb rfl) rfl) ?_
  refine TriL.g1 rfl (ltb rfl) rfl rfl (op_bin (ltb rfl) rfl rfl rfl) ?_
  refine TriL.g1 rfl (ltb rfl) rfl rfl (op_mv (ltb rfl) rfl) ?_
  refine TriL.split (d := 12) rfl (fun hg4 => ?_) (fun hg4 => ?_)
  ·refine TriL.g1 rfl (ltb rfl) rfl hg4 (op_mv (ltb rfl) rfl) ?_
   refine TriL.g1 rfl (ltb rfl) rfl hg4 (op_bin (ltb rfl) rfl rfl rfl) ?_
   refine TriL.g1 rfl (ltb rfl) rfl rfl (op_pickt (ltb rfl) rfl hg4 rfl) ?_
   refine TriL.c1 rfl (op_pickf (ltb rfl) rfl rfl rfl) ?_
   refine TriL.c1 rfl (op_as (ltb rfl) rfl) ?_
   refine TriL.nil (Tri.ret ?_)
   exact ⟨.inr rfl, (ResOK.r1 rfl (.tmp rfl .nil)).cast (congrArg AV.bool (by grind [wholeT])), rfl⟩
  ·iterate 2 (refine TriL.skipu rfl rfl (ltb rfl) (ltb rfl) rfl hg4 ?_)
   refine TriL.g1 rfl (ltb rfl) rfl rfl (op_pickf (ltb rfl) rfl hg4 rfl) ?_
   refine TriL.c1 rfl (op_pickf (ltb rfl) rfl rfl rfl) ?_
   refine TriL.c1 rfl (op_as (ltb rfl) rfl) ?_
   refine TriL.nil (Tri.ret ?_)
   exact ⟨.inr rfl, (ResOK.r1 rfl (.tmp rfl .nil)).cast (congrArg AV.bool (by grind [wholeT])), rfl⟩
theorem r_signT (n : Int) : Pure Tryz.prog 111 [.int .i64 n] (.bool (signT n)) := by
 refine Pure.of_tri Tryz.func111 rfl rfl (ltb rfl) fun H => ?_
 refine Tri.seq (Tri.region ?_)
 refine TriL.c1 rfl (op_as (ltb rfl) rfl) ?_
 refine TriL.nil (Tri.seq (Tri.region ?_))
 refine TriL.c1 rfl (op_mv (ltb rfl) rfl) ?_
 refine TriL.c1 rfl (op_bin (ltb rfl) rfl rfl rfl) ?_
 refine TriL.c1 rfl (op_mv (ltb rfl) rfl) ?_
 refine TriL.split (d := 5) rfl (fun hg1 => ?_) (fun hg1 => ?_)
 ·iterate 2 (refine TriL.skipu rfl rfl (ltb rfl) (ltb rfl) rfl hg1 ?_)
  refine TriL.c1 rfl (op_pickt (ltb rfl) rfl hg1 rfl) ?_
  refine TriL.c1 rfl (op_mv (ltb rfl) rfl) ?_
  iterate 2 (refine TriL.skipu rfl rfl (ltb rfl) (ltb rfl) rfl rfl ?_)
  refine TriL.c1 rfl (op_pickt (ltb rfl) rfl rfl rfl) ?_
  refine TriL.c1 rfl (op_mv (ltb rfl) rfl) ?_
  iterate 2 (refine TriL.skipu rfl rfl (ltb rfl) (ltb rfl) rfl rfl ?_)
  refine TriL.c1 rfl (op_pickt (ltb rfl) rfl rfl rfl) ?_
  refine TriL.c1 rfl (op_mv (ltb rfl) rfl) ?_
  iterate 2 (refine TriL.skipu rfl rfl (ltb rfl) (ltb rfl) rfl rfl ?_)
  refine TriL.c1 rfl (op_pickt (ltb rfl) rfl rfl rfl) ?_
  refine TriL.c1 rfl (op_mv (ltb rfl) rfl) ?_
  iterate 2 (refine TriL.skipu rfl rfl (ltb rfl) (ltb rfl) rfl rfl ?_)
  refine TriL.c1 rfl (op_pickt (ltb rfl) rfl rfl rfl) ?_
  refine TriL.c1 rfl (op_mv (ltb rfl) rfl) ?_
  iterate 2 (refine TriL.skipu rfl rfl (ltb rfl) (ltb rfl) rfl rfl ?_)
  refine TriL.c1 rfl (op_pickt (ltb rfl) rfl rfl rfl) ?_
  refine TriL.c1 rfl (op_as (ltb rfl) rfl) ?_
  refine TriL.nil (Tri.ret ?_)
  exact ⟨.inr rfl, (ResOK.r1 rfl (.tmp rfl .nil)).cast (congrArg AV.bool (by grind [signT])), rfl⟩
 ·refine TriL.g1 rfl (ltb rfl) rfl hg1 (op_mv (ltb rfl) rfl) ?_
  refine TriL.g1 rfl (ltb rfl) rfl hg1 (op_bin (ltb rfl) rfl rfl rfl) ?_
  refine TriL.c1 rfl (op_pickf (ltb rfl) rfl hg1 rfl) ?_
  refine TriL.c1 rfl (op_mv (ltb rfl) rfl) ?_
  refine TriL.split (d := 9) rfl (fun hg2 => ?_) (fun hg2 => ?_)
  ·iterate 2 (refine TriL.skipu rfl rfl (ltb rfl) (ltb rfl) rfl hg2 ?_)
   refine TriL.c1 rfl (op_pickt (ltb rfl) rfl hg2 rfl) ?_
   refine TriL.c1 rfl (op_mv (ltb rfl) rfl) ?_
   iterate 2 (refine TriL.skipu rfl rfl (ltb rfl) (ltb rfl) rfl rfl ?_)
   refine TriL.c1 rfl (op_pickt (ltb rfl) rfl rfl rfl) ?_
   refine TriL.c1 rfl (op_mv (ltb rfl) rfl) ?_
   iterate 2 (refine TriL.skipu rfl rfl (ltb rfl) (ltb rfl) rfl rfl ?_)
   refine TriL.c1 rfl (op_pickt (ltb rfl) rfl rfl rfl) ?_
   refine TriL.c1 rfl (op_mv (ltb rfl) rfl) ?_
   iterate 2 (refine TriL.skipu rfl rfl (ltb rfl) (ltb rfl) rfl rfl ?_)
   refine TriL.c1 rfl (op_pickt (ltb rfl) rfl rfl rfl) ?_
   refine TriL.c1 rfl (op_mv (ltb rfl) rfl) ?_
   iterate 2 (refine TriL.skipu rfl rfl (ltb rfl) (ltb rfl) rfl rfl ?_)
   refine TriL.c1 rfl (op_pickt (ltb rfl) rfl rfl rfl) ?_
   refine TriL.c1 rfl (op_as (ltb rfl) rfl) ?_
   refine TriL.nil (Tri.ret ?_)
   exact ⟨.inr rfl, (ResOK.r1 rfl (.tmp rfl .nil)).cast (congrArg AV.bool (by grind [signT])), rfl⟩
  ·refine TriL.g1 rfl (ltb rfl) rfl hg2 (op_mv (ltb rfl) rfl) ?_
   refine TriL.g1 rfl (ltb rfl) rfl hg2 (op_bin (ltb rfl) rfl rfl rfl) ?_
   refine TriL.c1 rfl (op_pickf (ltb rfl) rfl hg2 rfl) ?_
   refine TriL.c1 rfl (op_mv (ltb rfl) rfl) ?_
   refine TriL.split (d := 13) rfl (fun hg3 => ?_) (fun hg3 => ?_)
   ·iterate 2 (refine TriL.skipu rfl rfl (ltb rfl) (ltb rfl) rfl hg3 ?_)
    refine TriL.c1 rfl (op_pickt (ltb rfl) rfl hg3 rfl) ?_
    refine TriL.c1 rfl (op_mv (ltb rfl) rfl) ?_
    iterate 2 (refine TriL.skipu rfl rfl (ltb rfl) (ltb rfl) rfl rfl ?_)
    refine TriL.c1 rfl (op_pickt (ltb rfl) rfl rfl rfl) ?_
    refine TriL.c1 rfl (op_mv (ltb rfl) rfl) ?_
    iterate 2 (refine TriL.skipu rfl rfl (ltb rfl) (ltb rfl) rfl rfl ?_)
    refine TriL.c1 rfl (op_pickt (ltb rfl) rfl rfl rfl) ?_
    refine TriL.c1 rfl (op_mv (ltb rfl) rfl) ?_
    iterate 2 (refine TriL.skipu rfl rfl (ltb rfl) (ltb rfl) rfl rfl ?_)
    refine TriL.c1 rfl (op_pickt (ltb rfl) rfl rfl rfl) ?_
    refine TriL.c1 rfl (op_as (ltb rfl) rfl) ?_
    refine TriL.nil (Tri.ret ?_)
    exact ⟨.inr rfl, (ResOK.r1 rfl (.tmp rfl .nil)).cast (congrArg AV.bool (by grind [signT])), rfl⟩
   ·refine TriL.g1 rfl (ltb rfl) rfl hg3 (op_mv (ltb rfl) rfl) ?_
    refine TriL.g1 rfl (ltb rfl) rfl hg3 (op_bin (ltb rfl) rfl rfl rfl) ?_
    refine TriL.c1 rfl (op_pickf (ltb rfl) rfl hg3 rfl) ?_
    refine TriL.c1 rfl (op_mv (ltb rfl) rfl) ?_
    refine TriL.split (d := 17) rfl (fun hg4 => ?_) (fun hg4 => ?_)
    ·iterate 2 (refine TriL.skipu rfl rfl (ltb rfl) (ltb rfl) rfl hg4 ?_)
     refine TriL.c1 rfl (op_pickt (ltb rfl) rfl hg4 rfl) ?_
     refine TriL.c1 rfl (op_mv (ltb rfl) rfl) ?_
     iterate 2 (refine TriL.skipu rfl rfl (ltb rfl) (ltb rfl) rfl rfl ?_)
     refine TriL.c1 rfl (op_pickt (ltb rfl) rfl rfl rfl) ?_
     refine TriL.c1 rfl (op_mv (ltb rfl) rfl) ?_
     iterate 2 (refine TriL.skipu rfl rfl (ltb rfl) (ltb rfl) rfl rfl ?_)
     refine TriL.c1 rfl (op_pickt (ltb rfl) rfl rfl rfl) ?_
     refine TriL.c1 rfl (op_as (ltb rfl) rfl) ?_
     refine TriL.nil (Tri.ret ?_)
     exact ⟨.inr rfl, (ResOK.r1 rfl (.tmp rfl .nil)).cast (congrArg AV.bool (by grind [signT])), rfl⟩
    ·refine TriL.g1 rfl (ltb rfl) rfl hg4 (op_mv (ltb rfl) rfl) ?_
     refine TriL.g1 rfl (ltb rfl) rfl hg4 (op_bin (ltb rfl) rfl rfl rfl) ?_
     refine TriL.c1 rfl (op_pickf (ltb rfl) rfl hg4 rfl) ?_
     refine TriL.c1 rfl (op_mv (ltb rfl) rfl) ?_
     refine TriL.split (d := 21) rfl (fun hg5 => ?_) (fun hg5 => ?_)
     ·iterate 2 (refine TriL.skipu rfl rfl (ltb rfl) (ltb rfl) rfl hg5 ?_)
      refine TriL.c1 rfl (op_pickt (ltb rfl) rfl hg5 rfl) ?_
      refine TriL.c1 rfl (op_mv (ltb rfl) rfl) ?_
      iterate 2 (refine TriL.skipu rfl rfl (ltb rfl) (ltb rfl) rfl rfl ?_)
      refine TriL.c1 rfl (op_pickt (ltb rfl) rfl rfl rfl) ?_
      refine TriL.c1 rfl (op_as (ltb rfl) rfl) ?_
      refine TriL.nil (Tri.ret ?_)
      exact ⟨.inr rfl, (ResOK.r1 rfl (.tmp rfl .nil)).cast (congrArg AV.bool (by grind [signT])), rfl⟩
     ·refine TriL.g1 rfl (ltb rfl) rfl hg5 (op_mv (ltb rfl) rfl) ?_
      refine TriL.g1 rfl (ltb rfl) rfl hg5 (op_bin (ltb rfl) rfl rfl rfl) ?_
      refine TriL.c1 rfl (op_pickf (ltb rfl) rfl hg5 rfl) ?_
      refine TriL.c1 rfl (op_mv (ltb rfl) rfl) ?_
      refine TriL.split (d := 25) rfl (fun hg6 => ?_) (fun hg6 => ?_)
      ·iterate 2 (refine TriL.skipu rfl rfl (ltb rfl) (ltb rfl) rfl hg6 ?_)
       refine TriL.c1 rfl (op_pickt (ltb rfl) rfl hg6 rfl) ?_
       refine TriL.c1 rfl (op_as (ltb rfl) rfl) ?_
       refine TriL.nil (Tri.ret ?_)
       exact ⟨.inr rfl, (ResOK.r1 rfl (.tmp rfl .nil)).cast (congrArg AV.bool (by grind [signT])), rfl⟩
      ·refine TriL.g1 rfl (ltb rfl) rfl hg6 (op_mv (ltb rfl) rfl) ?_
       refine TriL.g1 rfl (ltb rfl) rfl hg6 (op_bin (ltb rfl) rfl rfl rfl) ?_
       refine TriL.c1 rfl (op_pickf (ltb rfl) rfl hg6 rfl) ?_
       refine TriL.c1 rfl (op_as (ltb rfl) rfl) ?_
       refine TriL.nil (Tri.ret ?_)
       exact ⟨.inr rfl, (ResOK.r1 rfl (.tmp rfl .nil)).cast (congrArg AV.bool (by grind [signT])), rfl⟩
theorem r_wideT (n : Int) : Pure Tryz.prog 110 [.int .i64 n] (.bool (wideT n)) := by
 refine Pure.of_tri Tryz.func110 rfl rfl (ltb rfl) fun H => ?_
 refine Tri.seq (Tri.region ?_)
 refine TriL.c1 rfl (op_as (ltb rfl) rfl) ?_
 refine TriL.nil (Tri.seq (Tri.region ?_))
 refine TriL.c1 rfl (op_mv (ltb rfl) rfl) ?_
 refine TriL.c1 rfl (op_bin (ltb rfl) rfl rfl rfl) ?_
 refine TriL.c1 rfl (op_mv (ltb rfl) rfl) ?_
 refine TriL.split (d := 5) rfl (fun hg1 => ?_) (fun hg1 => ?_)
 ·iterate 2 (refine TriL.skipu rfl rfl (ltb rfl) (ltb rfl) rfl hg1 ?_)
  refine TriL.c1 rfl (op_pickt (ltb rfl) rfl hg1 rfl) ?_
  refine TriL.c1 rfl (op_mv (ltb rfl) rfl) ?_
  iterate 2 (refine TriL.skipu rfl rfl (ltb rfl) (ltb rfl) rfl rfl ?_)
  refine TriL.c1 rfl (op_pickt (ltb rfl) rfl rfl rfl) ?_
  refine TriL.c1 rfl (op_mv (ltb rfl) rfl) ?_
  iterate 2 (refine TriL.skipu rfl rfl (ltb rfl) (ltb rfl) rfl rfl ?_)
  refine TriL.c1 rfl (op_pickt (ltb rfl) rfl rfl rfl) ?_
  refine TriL.c1 rfl (op_mv (ltb rfl) rfl) ?_
  iterate 2 (refine TriL.skipu rfl rfl (ltb rfl) (ltb rfl) rfl rfl ?_)
  refine TriL.c1 rfl (op_pickt (ltb rfl) rfl rfl rfl) ?_
  refine TriL.c1 rfl (op_as (ltb rfl) rfl) ?_
  refine TriL.nil (Tri.ret ?_)
  exact ⟨.inr rfl, (ResOK.r1 rfl (.tmp rfl .nil)).cast (congrArg AV.bool (by grind [wideT])), rfl⟩
 ·refine TriL.g1 rfl (ltb rfl) rfl hg1 (op_mv (ltb rfl) rfl) ?_
  refine TriL.g1 rfl (ltb rfl) rfl hg1 (op_bin (ltb rfl) rfl rfl rfl) ?_
  refine TriL.c1 rfl (op_pickf (ltb rfl) rfl hg1 rfl) ?_
  refine TriL.c1 rfl (op_mv (ltb rfl) rfl) ?_
  refine TriL.split (d := 9) rfl (fun hg2 => ?_) (fun hg2 => ?_)
  ·iterate 2 (refine TriL.skipu rfl rfl (ltb rfl) (ltb rfl) rfl hg2 ?_)
   refine TriL.c1 rfl (op_pickt (ltb rfl) rfl hg2 rfl) ?_
   refine TriL.c1 rfl (op_mv (ltb rfl) rfl) ?_
   iterate 2 (refine TriL.skipu rfl rfl (ltb rfl) (ltb rfl) rfl rfl ?_)
   refine TriL.c1 rfl (op_pickt (ltb rfl) rfl rfl rfl) ?_
   refine TriL.c1 rfl (op_mv (ltb rfl) rfl) ?_
   iterate 2 (refine TriL.skipu rfl rfl (ltb rfl) (ltb rfl) rfl rfl ?_)
   refine TriL.c1 rfl (op_pickt (ltb rfl) rfl rfl rfl) ?_
   refine TriL.c1 rfl (op_as (ltb rfl) rfl) ?_
   refine TriL.nil (Tri.ret ?_)
   exact ⟨.inr rfl, (ResOK.r1 rfl (.tmp rfl .nil)).cast (congrArg AV.bool (by grind [wideT])), rfl⟩
  ·refine TriL.g1 rfl (ltb rfl) rfl hg2 (op_mv (ltb rfl) rfl) ?_
   refine TriL.g1 rfl (ltb rfl) rfl hg2 (op_bin (ltb rfl) rfl rfl rfl) ?_
   refine TriL.c1 rfl (op_pickf (ltb rfl) rfl hg2 rfl) ?_
   refine TriL.c1 rfl (op_mv (ltb rfl) rfl) ?_
   refine TriL.split (d := 13) rfl (fun hg3 => ?_) (fun hg3 => ?_)
   ·iterate 2 (refine TriL.skipu rfl rfl (ltb rfl) (ltb rfl) rfl hg3 ?_)
    refine TriL.c1 rfl (op_pickt (ltb rfl) rfl hg3 rfl) ?_
    refine TriL.c1 rfl (op_mv (ltb rfl) rfl) ?_
    iterate 2 (refine TriL.skipu rfl rfl (ltb rfl) (ltb rfl) rfl rfl ?_)
    refine TriL.c1 rfl (op_pickt (ltb rfl) rfl rfl rfl) ?_
    refine TriL.c1 rfl (op_as (ltb rfl) rfl) ?_
    refine TriL.nil (Tri.ret ?_)
    exact ⟨.inr rfl, (ResOK.r1 rfl (.tmp rfl .nil)).cast (congrArg AV.bool (by grind [wideT])), rfl⟩
   ·refine TriL.g1 rfl (ltb rfl) rfl hg3 (op_mv (ltb rfl) rfl) ?_
    refine TriL.g1 rfl (ltb rfl) rfl hg3 (op_bin (ltb rfl) rfl rfl rfl) ?_
    refine TriL.c1 rfl (op_pickf (ltb rfl) rfl hg3 rfl) ?_
    refine TriL.c1 rfl (op_mv (ltb rfl) rfl) ?_
    refine TriL.split (d := 17) rfl (fun hg4 => ?_) (fun hg4 => ?_)
    ·iterate 2 (refine TriL.skipu rfl rfl (ltb rfl) (ltb rfl) rfl hg4 ?_)
     refine TriL.c1 rfl (op_pickt (ltb rfl) rfl hg4 rfl) ?_
     refine TriL.c1 rfl (op_as (ltb rfl) rfl) ?_
     refine TriL.nil (Tri.ret ?_)
     exact ⟨.inr rfl, (ResOK.r1 rfl (.tmp rfl .nil)).cast (congrArg AV.bool (by grind [wideT])), rfl⟩
    ·refine TriL.g1 rfl (ltb rfl) rfl hg4 (op_mv (ltb rfl) rfl) ?_
     refine TriL.g1 rfl (ltb rfl) rfl hg4 (op_bin (ltb rfl) rfl rfl rfl) ?_
     refine TriL.c1 rfl (op_pickf (ltb rfl) rfl hg4 rfl) ?_
     refine TriL.c1 rfl (op_as (ltb rfl) rfl) ?_
     refine TriL.nil (Tri.ret ?_)
     exact ⟨.inr rfl, (ResOK.r1 rfl (.tmp rfl .nil)).cast (congrArg AV.bool (by grind [wideT])), rfl⟩
theorem r_numT (n : Int) : Pure Tryz.prog 73 [.int .i64 n] (.bool (numT n)) := by
 refine Pure.of_tri Tryz.func73 rfl rfl (ltb rfl) fun H => ?_
 refine Tri.seq (Tri.region ?_)
 refine TriL.c1 rfl (op_as (ltb rfl) rfl) ?_
 refine TriL.nil (Tri.seq (Tri.region ?_))
 refine TriL.c1 rfl (op_mv (ltb rfl) rfl) ?_
 refine TriL.c1 rfl (op_call (ltb rfl) fn37_q rfl (r_wholeT _)) ?_
 refine TriL.c1 rfl (op_mv (ltb rfl) rfl) ?_
 refine TriL.split (d := 5) rfl (fun hg1 => ?_) (fun hg1 => ?_)
 ·iterate 2 (refine TriL.skipu rfl rfl (ltb rfl) (ltb rfl) rfl hg1 ?_)
  refine TriL.c1 rfl (op_pickt (ltb rfl) rfl hg1 rfl) ?_
  refine TriL.c1 rfl (op_mv (ltb rfl) rfl) ?_
  iterate 2 (refine TriL.skipu rfl rfl (ltb rfl) (ltb rfl) rfl rfl ?_)
  refine TriL.c1 rfl (op_pickt (ltb rfl) rfl rfl rfl) ?_
  refine TriL.c1 rfl (op_as (ltb rfl) rfl) ?_
  refine TriL.nil (Tri.ret ?_)
  exact ⟨.inr rfl, (ResOK.r1 rfl (.tmp rfl .nil)).cast (congrArg AV.bool (by grind [numT])), rfl⟩
 ·refine TriL.g1 rfl (ltb rfl) rfl hg1 (op_mv (ltb rfl) rfl) ?_
  refine TriL.g1 rfl (ltb rfl) rfl hg1 (op_bin (ltb rfl) rfl rfl rfl) ?_
  refine TriL.c1 rfl (op_pickf (ltb rfl) rfl hg1 rfl) ?_
  refine TriL.c1 rfl (op_mv (ltb rfl) rfl) ?_
  refine TriL.split (d := 9) rfl (fun hg2 => ?_) (fun hg2 => ?_)
  ·iterate 2 (refine TriL.skipu rfl rfl (ltb rfl) (ltb rfl) rfl hg2 ?_)
   refine TriL.c1 rfl (op_pickt (ltb rfl) rfl hg2 rfl) ?_
   refine TriL.c1 rfl (op_as (ltb rfl) rfl) ?_
   refine TriL.nil (Tri.ret ?_)
   exact ⟨.inr rfl, (ResOK.r1 rfl (.tmp rfl .nil)).cast (congrArg AV.bool (by grind [numT])), rfl⟩
  ·refine TriL.g1 rfl (ltb rfl) rfl hg2 (op_mv (ltb rfl) rfl) ?_
   refine TriL.g1 rfl (ltb rfl) rfl hg2 (op_bin (ltb rfl) rfl rfl rfl) ?_
   refine TriL.c1 rfl (op_pickf (ltb rfl) rfl hg2 rfl) ?_
   refine TriL.c1 rfl (op_as (ltb rfl) rfl) ?_
   refine TriL.nil (Tri.ret ?_)
   exact ⟨.inr rfl, (ResOK.r1 rfl (.tmp rfl .nil)).cast (congrArg AV.bool (by grind [numT])), rfl⟩
theorem r_tagOK (n w : Int) : Pure Tryz.prog 154 [.int .i64 n, .int .i64 w] (.bool (tagOK n w)) := by
 refine Pure.of_tri Tryz.func154 rfl rfl (ltb rfl) fun H => ?_
 refine Tri.seq (Tri.region ?_)
 refine TriL.c1 rfl (op_as (ltb rfl) rfl) ?_
 refine TriL.nil (Tri.seq (Tri.region ?_))
 refine TriL.c1 rfl (op_mv (ltb rfl) rfl) ?_
 refine TriL.c1 rfl (op_bin (ltb rfl) rfl rfl rfl) ?_
 refine TriL.c1 rfl (op_mv (ltb rfl) rfl) ?_
 refine TriL.split (d := 7) rfl (fun hg1 => ?_) (fun hg1 => ?_)
 ·refine TriL.g1 rfl (ltb rfl) rfl hg1 (op_mv (ltb rfl) rfl) ?_
  refine TriL.g1 rfl (ltb rfl) rfl hg1 (op_bin (ltb rfl) rfl rfl rfl) ?_
  refine TriL.c1 rfl (op_pickt (ltb rfl) rfl hg1 rfl) ?_
  refine TriL.c1 rfl (op_mv (ltb rfl) rfl) ?_
  refine TriL.split (d := 11) rfl (fun hg2 => ?_) (fun hg2 => ?_)
  ·refine TriL.g1 rfl (ltb rfl) rfl hg2 (op_mv (ltb rfl) rfl) ?_
   refine TriL.g1 rfl (ltb rfl) rfl hg2 (op_bin (ltb rfl) rfl rfl rfl) ?_
   refine TriL.g1 rfl (ltb rfl) rfl hg2 (op_mv (ltb rfl) rfl) ?_
   refine TriL.split (d := 14) rfl (fun hg3 => ?_) (fun hg3 => ?_)
   ·iterate 2 (refine TriL.skipu rfl rfl (ltb rfl) (ltb rfl) rfl hg3 ?_)
    refine TriL.g1 rfl (ltb rfl) rfl hg2 (op_pickt (ltb rfl) rfl hg3 rfl) ?_
    refine TriL.g1 rfl (ltb rfl) rfl hg2 (op_mv (ltb rfl) rfl) ?_
    iterate 2 (refine TriL.skipu rfl rfl (ltb rfl) (ltb rfl) rfl rfl ?_)
    refine TriL.g1 rfl (ltb rfl) rfl hg2 (op_pickt (ltb rfl) rfl rfl rfl) ?_
    refine TriL.g1 rfl (ltb rfl) rfl hg2 (op_mv (ltb rfl) rfl) ?_
    iterate 2 (refine TriL.skipu rfl rfl (ltb rfl) (ltb rfl) rfl rfl ?_)
    refine TriL.g1 rfl (ltb rfl) rfl hg2 (op_pickt (ltb rfl) rfl rfl rfl) ?_
    refine TriL.c1 rfl (op_pickt (ltb rfl) rfl hg2 rfl) ?_
    refine TriL.c1 rfl (op_as (ltb rfl) rfl) ?_
    refine TriL.nil (Tri.ret ?_)
    exact ⟨.inr rfl, (ResOK.r1 rfl (.tmp rfl .nil)).cast (congrArg AV.bool (by grind [tagOK])), rfl⟩
   ·refine TriL.g1 rfl (ltb rfl) rfl hg3 (op_mv (ltb rfl) rfl) ?_
    refine TriL.g1 rfl (ltb rfl) rfl hg3 (op_bin (ltb rfl) rfl rfl rfl) ?_
    refine TriL.g1 rfl (ltb rfl) rfl hg2 (op_pickf (ltb rfl) rfl hg3 rfl) ?_
    refine TriL.g1 rfl (ltb rfl) rfl hg2 (op_mv (ltb rfl) rfl) ?_
    refine TriL.split (d := 18) rfl (fun hg4 => ?_) (fun hg4 => ?_)
    ·iterate 2 (refine TriL.skipu rfl rfl (ltb rfl) (ltb rfl) rfl hg4 ?_)
     refine TriL.g1 rfl (ltb rfl) rfl hg2 (op_pickt (ltb rfl) rfl hg4 rfl) ?_
     refine TriL.g1 rfl (ltb rfl) rfl hg2 (op_mv (ltb rfl) rfl) ?_
     iterate 2 (refine TriL.skipu rfl rfl (ltb rfl) (ltb rfl) rfl rfl ?_)
     refine TriL.g1 rfl (ltb rfl) rfl hg2 (op_pickt (ltb rfl) rfl rfl rfl) ?_
     refine TriL.c1 rfl (op_pickt (ltb rfl) rfl hg2 rfl) ?_
     refine TriL.c1 rfl (op_as (ltb rfl) rfl) ?_
     refine TriL.nil (Tri.ret ?_)
     exact ⟨.inr rfl, (ResOK.r1 rfl (.tmp rfl .nil)).cast (congrArg AV.bool (by grind [tagOK])), rfl⟩
    ·refine TriL.g1 rfl (ltb rfl) rfl hg4 (op_mv (ltb rfl) rfl) ?_
     refine TriL.g1 rfl (ltb rfl) rfl hg4 (op_bin (ltb rfl) rfl rfl rfl) ?_
     refine TriL.g1 rfl (ltb rfl) rfl hg2 (op_pickf (ltb rfl) rfl hg4 rfl) ?_
     refine TriL.g1 rfl (ltb rfl) rfl hg2 (op_mv (ltb rfl) rfl) ?_
     refine TriL.split (d := 22) rfl (fun hg5 => ?_) (fun hg5 => ?_)
     ·iterate 2 (refine TriL.skipu rfl rfl (ltb rfl) (ltb rfl) rfl hg5 ?_)
      refine TriL.g1 rfl (ltb rfl) rfl hg2 (op_pickt (ltb rfl) rfl hg5 rfl) ?_
      refine TriL.c1 rfl (op_pickt (ltb rfl) rfl hg2 rfl) ?_
      refine TriL.c1 rfl (op_as (ltb rfl) rfl) ?_
      refine TriL.nil (Tri.ret ?_)
      exact ⟨.inr rfl, (ResOK.r1 rfl (.tmp rfl .nil)).cast (congrArg AV.bool (by grind [tagOK])), rfl⟩
     ·refine TriL.g1 rfl (ltb rfl) rfl hg5 (op_mv (ltb rfl) rfl) ?_
      refine TriL.g1 rfl (ltb rfl) rfl hg5 (op_bin (ltb rfl) rfl rfl rfl) ?_
      refine TriL.g1 rfl (ltb rfl) rfl hg2 (op_pickf (ltb rfl) rfl hg5 rfl) ?_
      refine TriL.c1 rfl (op_pickt (ltb rfl) rfl hg2 rfl) ?_
      refine TriL.c1 rfl (op_as (ltb rfl) rfl) ?_
      refine TriL.nil (Tri.ret ?_)
      exact ⟨.inr rfl, (ResOK.r1 rfl (.tmp rfl .nil)).cast (congrArg AV.bool (by grind [tagOK])), rfl⟩
  ·iterate 3 (refine TriL.skipu rfl rfl (ltb rfl) (ltb rfl) rfl hg2 ?_)
   iterate 2 (refine TriL.skipg rfl rfl (ltb rfl) (ltb rfl) rfl ?_)
   iterate 2 (refine TriL.skipu rfl rfl (ltb rfl) (ltb rfl) rfl hg2 ?_)
   iterate 2 (refine TriL.skipg rfl rfl (ltb rfl) (ltb rfl) rfl ?_)
   iterate 2 (refine TriL.skipu rfl rfl (ltb rfl) (ltb rfl) rfl hg2 ?_)
   iterate 2 (refine TriL.skipg rfl rfl (ltb rfl) (ltb rfl) rfl ?_)
   refine TriL.skipu rfl rfl (ltb rfl) (ltb rfl) rfl hg2 ?_
   refine TriL.c1 rfl (op_pickf (ltb rfl) rfl hg2 rfl) ?_
   refine TriL.c1 rfl (op_as (ltb rfl) rfl) ?_
   refine TriL.nil (Tri.ret ?_)
   exact ⟨.inr rfl, (ResOK.r1 rfl (.tmp rfl .nil)).cast (congrArg AV.bool (by grind [tagOK])), rfl⟩
 ·iterate 2 (refine TriL.skipu rfl rfl (ltb rfl) (ltb rfl) rfl hg1 ?_)
  refine TriL.c1 rfl (op_pickf (ltb rfl) rfl hg1 rfl) ?_
  refine TriL.c1 rfl (op_mv (ltb rfl) rfl) ?_
  iterate 3 (refine TriL.skipu rfl rfl (ltb rfl) (ltb rfl) rfl rfl ?_)
  iterate 2 (refine TriL.skipg rfl rfl (ltb rfl) (ltb rfl) rfl ?_)
  iterate 2 (refine TriL.skipu rfl rfl (ltb rfl) (ltb rfl) rfl rfl ?_)
  iterate 2 (refine TriL.skipg rfl rfl (ltb rfl) (ltb rfl) rfl ?_)
  iterate 2 (refine TriL.skipu rfl rfl (ltb rfl) (ltb rfl) rfl rfl ?_)
  iterate 2 (refine TriL.skipg rfl rfl (ltb rfl) (ltb rfl) rfl ?_)
  refine TriL.skipu rfl rfl (ltb rfl) (ltb rfl) rfl rfl ?_
  refine TriL.c1 rfl (op_pickf (ltb rfl) rfl rfl rfl) ?_
  refine TriL.c1 rfl (op_as (ltb rfl) rfl) ?_
  refine TriL.nil (Tri.ret ?_)
  exact ⟨.inr rfl, (ResOK.r1 rfl (.tmp rfl .nil)).cast (congrArg AV.bool (by grind [tagOK])), rfl⟩
theorem r_letter (c : UInt8) : Pure Tryz.prog 70 [.int .u8 (c.toNat : Int)] (.bool (letter c)) := by
 refine Pure.of_tri Tryz.func70 rfl rfl (ltb rfl) fun H => ?_
 refine Tri.seq (Tri.region ?_)
 refine TriL.c1 rfl (op_as (ltb rfl) rfl) ?_
 refine TriL.nil (Tri.seq (Tri.region ?_))
 refine TriL.c1 rfl (op_mv (ltb rfl) rfl) ?_
 refine TriL.c1 rfl (op_bin (ltb rfl) rfl rfl rfl) ?_
 refine TriL.c1 rfl (op_mv (ltb rfl) rfl) ?_
 refine TriL.split (d := 5) rfl (fun hg1 => ?_) (fun hg1 => ?_)
 ·refine TriL.g1 rfl (ltb rfl) rfl hg1 (op_mv (ltb rfl) rfl) ?_
  refine TriL.g1 rfl (ltb rfl) rfl hg1 (op_bin (ltb rfl) rfl rfl rfl) ?_
  refine TriL.c1 rfl (op_pickt (ltb rfl) rfl hg1 rfl) ?_
  refine TriL.c1 rfl (op_mv (ltb rfl) rfl) ?_
  refine TriL.split (d := 9) rfl (fun hg2 => ?_) (fun hg2 => ?_)
  ·iterate 3 (refine TriL.skipu rfl rfl (ltb rfl) (ltb rfl) rfl hg2 ?_)
   iterate 2 (refine TriL.skipg rfl rfl (ltb rfl) (ltb rfl) rfl ?_)
   refine TriL.skipu rfl rfl (ltb rfl) (ltb rfl) rfl hg2 ?_
   refine TriL.c1 rfl (op_pickt (ltb rfl) rfl hg2 rfl) ?_
   refine TriL.c1 rfl (op_as (ltb rfl) rfl) ?_
   refine TriL.nil (Tri.ret ?_)
   exact ⟨.inr rfl, (ResOK.r1 rfl (.tmp rfl .nil)).cast (congrArg AV.bool (by grind [letter])), rfl⟩
  ·refine TriL.g1 rfl (ltb rfl) rfl hg2 (op_mv (ltb rfl) rfl) ?_
   refine TriL.g1 rfl (ltb rfl) rfl hg2 (op_bin (ltb rfl) rfl rfl rfl) ?_
   refine TriL.g1 rfl (ltb rfl) rfl hg2 (op_mv (ltb rfl) rfl) ?_
   refine TriL.split (d := 12) rfl (fun hg3 => ?_) (fun hg3 => ?_)
   ·refine TriL.g1 rfl (ltb rfl) rfl hg3 (op_mv (ltb rfl) rfl) ?_
    refine TriL.g1 rfl (ltb rfl) rfl hg3 (op_bin (ltb rfl) rfl rfl rfl) ?_
    refine TriL.g1 rfl (ltb rfl) rfl hg2 (op_pickt (ltb rfl) rfl hg3 rfl) ?_
    refine TriL.c1 rfl (op_pickf (ltb rfl) rfl hg2 rfl) ?_
    refine TriL.c1 rfl (op_as (ltb rfl) rfl) ?_
    refine TriL.nil (Tri.ret ?_)
    exact ⟨.inr rfl, (ResOK.r1 rfl (.tmp rfl .nil)).cast (congrArg AV.bool (by grind [letter])), rfl⟩
   ·iterate 2 (refine TriL.skipu rfl rfl (ltb rfl) (ltb rfl) rfl hg3 ?_)
    refine TriL.g1 rfl (ltb rfl) rfl hg2 (op_pickf (ltb rfl) rfl hg3 rfl) ?_
    refine TriL.c1 rfl (op_pickf (ltb rfl) rfl hg2 rfl) ?_
    refine TriL.c1 rfl (op_as (ltb rfl) rfl) ?_
    refine TriL.nil (Tri.ret ?_)
    exact ⟨.inr rfl, (ResOK.r1 rfl (.tmp rfl .nil)).cast (congrArg AV.bool (by grind [letter])), rfl⟩
 ·iterate 2 (refine TriL.skipu rfl rfl (ltb rfl) (ltb rfl) rfl hg1 ?_)
  refine TriL.c1 rfl (op_pickf (ltb rfl) rfl hg1 rfl) ?_
  refine TriL.c1 rfl (op_mv (ltb rfl) rfl) ?_
  refine TriL.g1 rfl (ltb rfl) rfl rfl (op_mv (ltb rfl) rfl) ?_
  refine TriL.g1 rfl (ltb rfl) rfl rfl (op_bin (ltb rfl) rfl rfl rfl) ?_
  refine TriL.g1 rfl (ltb rfl) rfl rfl (op_mv (ltb rfl) rfl) ?_
  refine TriL.split (d := 12) rfl (fun hg4 => ?_) (fun hg4 => ?_)
  ·refine TriL.g1 rfl (ltb rfl) rfl hg4 (op_mv (ltb rfl) rfl) ?_
   refine TriL.g1 rfl (ltb rfl) rfl hg4 (op_bin (ltb rfl) rfl rfl rfl) ?_
   refine TriL.g1 rfl (ltb rfl) rfl rfl (op_pickt (ltb rfl) rfl hg4 rfl) ?_
   refine TriL.c1 rfl (op_pickf (ltb rfl) rfl rfl rfl) ?_
   refine TriL.c1 rfl (op_as (ltb rfl) rfl) ?_
   refine TriL.nil (Tri.ret ?_)
   exact ⟨.inr rfl, (ResOK.r1 rfl (.tmp rfl .nil)).cast (congrArg AV.bool (by grind [letter])), rfl⟩
  ·iterate 2 (refine TriL.skipu rfl rfl (ltb rfl) (ltb rfl) rfl hg4 ?_)
   refine TriL.g1 rfl (ltb rfl) rfl rfl (op_pickf (ltb rfl) rfl hg4 rfl) ?_
   refine TriL.c1 rfl (op_pickf (ltb rfl) rfl rfl rfl) ?_
   refine TriL.c1 rfl (op_as (ltb rfl) rfl) ?_
   refine TriL.nil (Tri.ret ?_)
   exact ⟨.inr rfl, (ResOK.r1 rfl (.tmp rfl .nil)).cast (congrArg AV.bool (by grind [letter])), rfl⟩
theorem r_words : Pure Tryz.prog 71 [] (.sl (wordsL.map .str)) := by
 refine Pure.of_tri Tryz.func71 rfl rfl (Nat.zero_le _) fun H => ?_
 refine Tri.seq (Tri.region ?_)
 refine TriL.c1 rfl (op_as (ltb rfl) rfl) ?_
 refine TriL.nil (Tri.seq (Tri.region ?_))
 refine TriL.c1 rfl (op_lit («as» := [_, _, _, _, _, _, _, _, _, _, _, _, _, _, _, _, _, _, _, _, _, _, _, _, _, _, _, _, _, _, _, _, _, _, _]) (ltb rfl) se40_q zAe40_q rfl rfl rfl (leb rfl)) ?_
 refine TriL.c1 rfl (op_as (ltb rfl) rfl) ?_
 refine TriL.nil (Tri.ret ?_)
 exact ⟨.inr rfl, (ResOK.r1 rfl (.tmp rfl .nil)).cast rfl, rfl⟩
/- the document: names, lists, fields. -/
theorem fn70_q : isFn Tryz.prog 70 = true := by kernel_rfl
theorem fn71_q : isFn Tryz.prog 71 = true := by kernel_rfl
theorem fo157_0_q : fo Tryz.prog 157 0 = some 0 := by kernel_rfl
theorem fo94_1_q : fo Tryz.prog 94 1 = some 1 := by kernel_rfl
theorem ie40_q : ie Tryz.prog 40 = some 1 := by kernel_rfl
theorem ie92_q : ie Tryz.prog 92 = some 3 := by kernel_rfl
theorem lk9_q : lk Tryz.prog 9 = some (false, 1) := by kernel_rfl
theorem lk92_q : lk Tryz.prog 92 = some (false, 1) := by kernel_rfl
theorem un40_q : Tryz.prog.underlying 40 = some (TypeDesc.slice 9) := Tryz.underlying40
theorem un9_q : Tryz.prog.underlying 9 = some TypeDesc.string := Tryz.underlying9
theorem un92_q : Tryz.prog.underlying 92 = some (TypeDesc.slice 157) := Tryz.underlying92
theorem r_nameOK (s : Str) : Pure Tryz.prog 34 [.str s] (.bool (nameOK s)) := by
 refine Pure.of_tri Tryz.func34 rfl rfl (ltb rfl) fun H => ?_
 refine Tri.seq (Tri.region ?_)
 refine TriL.c1 rfl (op_as (ltb rfl) rfl) ?_
 refine TriL.nil (Tri.seq (Tri.seq (Tri.region ?_)))
 refine TriL.c1 rfl (op_mv (ltb rfl) rfl) ?_
 refine TriL.c1 rfl (op_lens (ltb rfl) un9_q rfl) ?_
 refine TriL.c1 rfl (op_bin (ltb rfl) rfl rfl rfl) ?_
 refine TriL.c1 rfl (op_mv (ltb rfl) rfl) ?_
 refine TriL.split (d := 9) rfl (fun hg1 => ?_) (fun hg1 => ?_)
 ·iterate 3 (refine TriL.skipu rfl rfl (ltb rfl) (ltb rfl) rfl hg1 ?_)
  refine TriL.c1 rfl (op_pickt (ltb rfl) rfl hg1 rfl) ?_
  refine TriL.c1 rfl (op_mv (ltb rfl) rfl) ?_
  iterate 4 (refine TriL.skipu rfl rfl (ltb rfl) (ltb rfl) rfl rfl ?_)
  refine TriL.c1 rfl (op_pickt (ltb rfl) rfl rfl rfl) ?_
  refine TriL.nil ?_
  refine Tri.condT rfl rfl ?_
  refine Tri.seq (Tri.region ?_)
  refine TriL.c1 rfl (op_as (ltb rfl) rfl) ?_
  refine TriL.nil (Tri.ret ?_)
  exact ⟨.inr rfl, (ResOK.r1 rfl (.tmp rfl .nil)).cast (congrArg AV.bool (by grind [nameOK, idc])), rfl⟩
 ·refine TriL.g1 rfl (ltb rfl) rfl hg1 (op_mv (ltb rfl) rfl) ?_
  refine TriL.g1 rfl (ltb rfl) rfl hg1 (op_lens (ltb rfl) un9_q rfl) ?_
  refine TriL.g1 rfl (ltb rfl) rfl hg1 (op_bin (ltb rfl) rfl rfl rfl) ?_
  refine TriL.c1 rfl (op_pickf (ltb rfl) rfl hg1 rfl) ?_
  refine TriL.c1 rfl (op_mv (ltb rfl) rfl) ?_
  refine TriL.split (d := 14) rfl (fun hg2 => ?_) (fun hg2 => ?_)
  ·iterate 4 (refine TriL.skipu rfl rfl (ltb rfl) (ltb rfl) rfl hg2 ?_)
   refine TriL.c1 rfl (op_pickt (ltb rfl) rfl hg2 rfl) ?_
   refine TriL.nil ?_
   refine Tri.condT rfl rfl ?_
   refine Tri.seq (Tri.region ?_)
   refine TriL.c1 rfl (op_as (ltb rfl) rfl) ?_
   refine TriL.nil (Tri.ret ?_)
   exact ⟨.inr rfl, (ResOK.r1 rfl (.tmp rfl .nil)).cast (congrArg AV.bool (by grind [nameOK, idc])), rfl⟩
  ·refine TriL.g1 rfl (ltb rfl) rfl hg2 (op_mv (ltb rfl) rfl) ?_
   refine TriL.g1 rfl (ltb rfl) rfl hg2 (op_ixs (ltb rfl) un9_q rfl rfl (by decide) (show s[0]? = some (s.headD 0) by cases s with | nil => simp at hg2 hg1 | cons a l => rfl)) ?_
   refine TriL.g1 rfl (ltb rfl) rfl hg2 (op_call (ltb rfl) fn70_q rfl (r_letter _)) ?_
   refine TriL.g1 rfl (ltb rfl) rfl hg2 (op_un (ltb rfl) rfl rfl) ?_
   refine TriL.c1 rfl (op_pickf (ltb rfl) rfl hg2 rfl) ?_
   refine TriL.nil ?_
   refine Tri.cond rfl (fun hc3 => ?_) (fun hc3 => ?_)
   ·refine Tri.seq (Tri.region ?_)
    refine TriL.c1 rfl (op_as (ltb rfl) rfl) ?_
    refine TriL.nil (Tri.ret ?_)
    exact ⟨.inr rfl, (ResOK.r1 rfl (.tmp rfl .nil)).cast (congrArg AV.bool (by grind [nameOK, idc])), rfl⟩
   ·refine Tri.skip (Tri.seq (Tri.seq (Tri.region ?_)))
    refine TriL.c1 rfl (op_as (ltb rfl) rfl) ?_
    refine TriL.nil (Tri.blk ?_)
    refine Tri.ofKept (Kept.keep [.s 3, .h, .s 0] rfl (by decide) (Kept.now ?_))
    -- LOOP 1
    refine Tri.loopk (fun (i : Nat) => [(.s 3, .sv (.v (.int .i64 (i : Int))))]) _ (fun (i : Nat) => (s.drop i).all idc = s.all idc) (fun (i : Nat) => s.length - i) 0 rfl (by simp) ?_
    rintro i hI
    refine Tri.seq (Tri.seq (Tri.region ?_))
    iterate 2 (refine TriL.c1 rfl (op_mv (ltb rfl) rfl) ?_)
    refine TriL.c1 rfl (op_lens (ltb rfl) un9_q rfl) ?_
    refine TriL.c1 rfl (op_bin (ltb rfl) rfl rfl rfl) ?_
    refine TriL.nil ?_
    refine Tri.cond rfl (fun hc4 => ?_) (fun hc4 => ?_)
    ·have hi := lts hc4
     have hS := all_step (p := idc) hi
     have hL : s.length ≤ 12 := by have := of_decide_eq_false hg2; omega
     refine Tri.skip (Tri.seq (Tri.blk (Tri.seq (Tri.region ?_))))
     iterate 2 (refine TriL.c1 rfl (op_mv (ltb rfl) rfl) ?_)
     refine TriL.c1 rfl (op_ixs (ltb rfl) un9_q rfl rfl (Int.natCast_nonneg _) (ixs hi)) ?_
     refine TriL.c1 rfl (op_call (ltb rfl) fn70_q rfl (r_letter _)) ?_
     refine TriL.c1 rfl (op_un (ltb rfl) rfl rfl) ?_
     refine TriL.c1 rfl (op_mv (ltb rfl) rfl) ?_
     refine TriL.split (d := 31) rfl (fun hg5 => ?_) (fun hg5 => ?_)
     ·iterate 2 (refine TriL.g1 rfl (ltb rfl) rfl hg5 (op_mv (ltb rfl) rfl) ?_)
      refine TriL.g1 rfl (ltb rfl) rfl hg5 (op_ixs (ltb rfl) un9_q rfl rfl (Int.natCast_nonneg _) (ixs hi)) ?_
      refine TriL.g1 rfl (ltb rfl) rfl hg5 (op_bin (ltb rfl) rfl rfl rfl) ?_
      refine TriL.g1 rfl (ltb rfl) rfl hg5 (op_mv (ltb rfl) rfl) ?_
      refine TriL.split (d := 36) rfl (fun hg6 => ?_) (fun hg6 => ?_)
      ·iterate 4 (refine TriL.skipu rfl rfl (ltb rfl) (ltb rfl) rfl hg6 ?_)
       refine TriL.g1 rfl (ltb rfl) rfl hg5 (op_pickt (ltb rfl) rfl hg6 rfl) ?_
       refine TriL.c1 rfl (op_pickt (ltb rfl) rfl hg5 rfl) ?_
       refine TriL.c1 rfl (op_mv (ltb rfl) rfl) ?_
       iterate 2 (refine TriL.g1 rfl (ltb rfl) rfl rfl (op_mv (ltb rfl) rfl) ?_)
       refine TriL.g1 rfl (ltb rfl) rfl rfl (op_ixs (ltb rfl) un9_q rfl rfl (Int.natCast_nonneg _) (ixs hi)) ?_
       refine TriL.g1 rfl (ltb rfl) rfl rfl (op_bin (ltb rfl) rfl rfl rfl) ?_
       refine TriL.c1 rfl (op_pickt (ltb rfl) rfl rfl rfl) ?_
       refine TriL.nil ?_
       refine Tri.cond rfl (fun hc7 => ?_) (fun hc7 => ?_)
       ·refine Tri.seq (Tri.region ?_)
        refine TriL.c1 rfl (op_as (ltb rfl) rfl) ?_
        refine TriL.nil (Tri.ret ?_)
        exact ⟨.inr rfl, (ResOK.r1 rfl (.tmp rfl .nil)).cast (congrArg AV.bool (by grind [nameOK, idc])), rfl⟩
       ·refine Tri.skip (Tri.region ?_)
        refine TriL.c1 rfl (op_mv (ltb rfl) rfl) ?_
        refine TriL.c1 rfl (op_bin (ltb rfl) rfl rfl rfl) ?_
        refine TriL.c1 rfl (op_as (ltb rfl) rfl) ?_
        refine TriL.kept (Kept.seti 3 rfl (inc (by omega)) (Kept.keep [.s 3, .h, .s 0] rfl (by decide) (Kept.now ?_)))
        exact ⟨i + 1, by omega, by grind [idc], rfl⟩
      ·iterate 2 (refine TriL.g1 rfl (ltb rfl) rfl hg6 (op_mv (ltb rfl) rfl) ?_)
       refine TriL.g1 rfl (ltb rfl) rfl hg6 (op_ixs (ltb rfl) un9_q rfl rfl (Int.natCast_nonneg _) (ixs hi)) ?_
       refine TriL.g1 rfl (ltb rfl) rfl hg6 (op_bin (ltb rfl) rfl rfl rfl) ?_
       refine TriL.g1 rfl (ltb rfl) rfl hg5 (op_pickf (ltb rfl) rfl hg6 rfl) ?_
       refine TriL.c1 rfl (op_pickt (ltb rfl) rfl hg5 rfl) ?_
       refine TriL.c1 rfl (op_mv (ltb rfl) rfl) ?_
       refine TriL.split (d := 43) rfl (fun hg8 => ?_) (fun hg8 => ?_)
       ·iterate 2 (refine TriL.g1 rfl (ltb rfl) rfl hg8 (op_mv (ltb rfl) rfl) ?_)
        refine TriL.g1 rfl (ltb rfl) rfl hg8 (op_ixs (ltb rfl) un9_q rfl rfl (Int.natCast_nonneg _) (ixs hi)) ?_
        refine TriL.g1 rfl (ltb rfl) rfl hg8 (op_bin (ltb rfl) rfl rfl rfl) ?_
        refine TriL.c1 rfl (op_pickt (ltb rfl) rfl hg8 rfl) ?_
        refine TriL.nil ?_
        refine Tri.cond rfl (fun hc9 => ?_) (fun hc9 => ?_)
        ·refine Tri.seq (Tri.region ?_)
         refine TriL.c1 rfl (op_as (ltb rfl) rfl) ?_
         refine TriL.nil (Tri.ret ?_)
         exact ⟨.inr rfl, (ResOK.r1 rfl (.tmp rfl .nil)).cast (congrArg AV.bool (by grind [nameOK, idc])), rfl⟩
        ·refine Tri.skip (Tri.region ?_)
         refine TriL.c1 rfl (op_mv (ltb rfl) rfl) ?_
         refine TriL.c1 rfl (op_bin (ltb rfl) rfl rfl rfl) ?_
         refine TriL.c1 rfl (op_as (ltb rfl) rfl) ?_
         refine TriL.kept (Kept.seti 3 rfl (inc (by omega)) (Kept.keep [.s 3, .h, .s 0] rfl (by decide) (Kept.now ?_)))
         exact ⟨i + 1, by omega, by grind [idc], rfl⟩
       ·iterate 4 (refine TriL.skipu rfl rfl (ltb rfl) (ltb rfl) rfl hg8 ?_)
        refine TriL.c1 rfl (op_pickf (ltb rfl) rfl hg8 rfl) ?_
        refine TriL.nil ?_
        refine Tri.condF rfl rfl ?_
        refine Tri.skip (Tri.region ?_)
        refine TriL.c1 rfl (op_mv (ltb rfl) rfl) ?_
        refine TriL.c1 rfl (op_bin (ltb rfl) rfl rfl rfl) ?_
        refine TriL.c1 rfl (op_as (ltb rfl) rfl) ?_
        refine TriL.kept (Kept.seti 3 rfl (inc (by omega)) (Kept.keep [.s 3, .h, .s 0] rfl (by decide) (Kept.now ?_)))
        exact ⟨i + 1, by omega, by grind [idc], rfl⟩
     ·iterate 5 (refine TriL.skipu rfl rfl (ltb rfl) (ltb rfl) rfl hg5 ?_)
      iterate 4 (refine TriL.skipg rfl rfl (ltb rfl) (ltb rfl) rfl ?_)
      refine TriL.skipu rfl rfl (ltb rfl) (ltb rfl) rfl hg5 ?_
      refine TriL.c1 rfl (op_pickf (ltb rfl) rfl hg5 rfl) ?_
      refine TriL.c1 rfl (op_mv (ltb rfl) rfl) ?_
      iterate 4 (refine TriL.skipu rfl rfl (ltb rfl) (ltb rfl) rfl rfl ?_)
      refine TriL.c1 rfl (op_pickf (ltb rfl) rfl rfl rfl) ?_
      refine TriL.nil ?_
      refine Tri.condF rfl rfl ?_
      refine Tri.skip (Tri.region ?_)
      refine TriL.c1 rfl (op_mv (ltb rfl) rfl) ?_
      refine TriL.c1 rfl (op_bin (ltb rfl) rfl rfl rfl) ?_
      refine TriL.c1 rfl (op_as (ltb rfl) rfl) ?_
      refine TriL.kept (Kept.seti 3 rfl (inc (by omega)) (Kept.keep [.s 3, .h, .s 0] rfl (by decide) (Kept.now ?_)))
      exact ⟨i + 1, by omega, by grind [idc], rfl⟩
    ·have hi := ges hc4
     have hS := all_end (p := idc) hi
     refine Tri.exit (Tri.seq (Tri.region ?_))
     refine TriL.c1 rfl (op_call (ltb rfl) fn71_q rfl r_words) ?_
     refine TriL.c1 rfl (op_as (ltb rfl) rfl) ?_
     refine TriL.nil (Tri.seq (Tri.seq (Tri.region ?_)))
     refine TriL.c1 rfl (op_as (ltb rfl) rfl) ?_
     refine TriL.nil (Tri.blk ?_)
     refine Tri.ofKept (Kept.keep [.s 5, .h, .s 0, .s 4] rfl (by decide) (Kept.now ?_))
     -- LOOP 2
     refine Tri.loopk (fun (j : Nat) => [(.s 5, .sv (.v (.int .i64 (j : Int))))]) _ (fun (j : Nat) => (wordsL.drop j).all (fun w => !(w == s)) = wordsL.all (fun w => !(w == s))) (fun (j : Nat) => wordsL.length - j) 0 rfl (by simp) ?_
     rintro j hJ
     refine Tri.seq (Tri.seq (Tri.region ?_))
     iterate 2 (refine TriL.c1 rfl (op_mv (ltb rfl) rfl) ?_)
     refine TriL.c1 rfl (op_lenl (ltb rfl) un40_q rfl) ?_
     refine TriL.c1 rfl (op_bin (ltb rfl) rfl rfl rfl) ?_
     refine TriL.nil ?_
     refine Tri.cond rfl (fun hc10 => ?_) (fun hc10 => ?_)
     ·have hj := ltm hc10
      have hT := all_step (p := fun w => !(w == s)) hj
      have hW : wordsL.length = 35 := rfl
      refine Tri.skip (Tri.seq (Tri.blk (Tri.seq (Tri.region ?_))))
      iterate 2 (refine TriL.c1 rfl (op_mv (ltb rfl) rfl) ?_)
      refine TriL.c1 rfl (op_iak (ltb rfl) ie40_q rfl rfl (Int.natCast_nonneg _) (ixm hj) rfl) ?_
      refine TriL.c1 rfl (op_ldk (ltb rfl) lk9_q rfl rfl) ?_
      refine TriL.c1 rfl (op_mv (ltb rfl) rfl) ?_
      refine TriL.c1 rfl (op_bin (ltb rfl) rfl rfl rfl) ?_
      refine TriL.nil ?_
      refine Tri.cond rfl (fun hc11 => ?_) (fun hc11 => ?_)
      ·refine Tri.seq (Tri.region ?_)
       refine TriL.c1 rfl (op_as (ltb rfl) rfl) ?_
       refine TriL.nil (Tri.ret ?_)
       exact ⟨.inr rfl, (ResOK.r1 rfl (.tmp rfl .nil)).cast (congrArg AV.bool (by grind [nameOK, idc])), rfl⟩
      ·refine Tri.skip (Tri.region ?_)
       refine TriL.c1 rfl (op_mv (ltb rfl) rfl) ?_
       refine TriL.c1 rfl (op_bin (ltb rfl) rfl rfl rfl) ?_
       refine TriL.c1 rfl (op_as (ltb rfl) rfl) ?_
       refine TriL.kept (Kept.seti 5 rfl (inc (by omega)) (Kept.keep [.s 5, .h, .s 0, .s 4] rfl (by decide) (Kept.now ?_)))
       exact ⟨j + 1, by omega, by grind, rfl⟩
     ·have hj := gem hc10
      have hT := all_end (p := fun w => !(w == s)) hj
      refine Tri.exit (Tri.seq (Tri.region ?_))
      refine TriL.c1 rfl (op_as (ltb rfl) rfl) ?_
      refine TriL.nil (Tri.ret ?_)
      exact ⟨.inr rfl, (ResOK.r1 rfl (.tmp rfl .nil)).cast (congrArg AV.bool (by grind [nameOK, idc])), rfl⟩
theorem r_once (l : List Str) (hl : l.length ≤ 9223372036854775807) : Pure Tryz.prog 39 [.sl (l.map .str)] (.bool (once l)) := by
 refine Pure.of_tri Tryz.func39 rfl rfl (ltb rfl) fun H => ?_
 refine Tri.seq (Tri.region ?_)
 refine TriL.c1 rfl (op_as (ltb rfl) rfl) ?_
 refine TriL.nil (Tri.seq (Tri.seq (Tri.region ?_)))
 refine TriL.c1 rfl (op_as (ltb rfl) rfl) ?_
 refine TriL.nil (Tri.blk ?_)
 refine Tri.ofKept (Kept.keep [.s 3, .h, .s 0] rfl (by decide) (Kept.now ?_))
 -- LOOP 1
 refine Tri.loopk (fun (i : Nat) => [(.s 3, .sv (.v (.int .i64 (i : Int))))]) _ (fun (i : Nat) => onceFrom l (l.drop i) i = once l) (fun (i : Nat) => l.length - i) 0 rfl (by simp [once]) ?_
 rintro i hI
 refine Tri.seq (Tri.seq (Tri.region ?_))
 iterate 2 (refine TriL.c1 rfl (op_mv (ltb rfl) rfl) ?_)
 refine TriL.c1 rfl (op_lenl (ltb rfl) un40_q rfl) ?_
 refine TriL.c1 rfl (op_bin (ltb rfl) rfl rfl rfl) ?_
 refine TriL.nil ?_
 refine Tri.cond rfl (fun hc1 => ?_) (fun hc1 => ?_)
 ·have hi := ltm hc1
  have hS := onceFrom_step hi
  refine Tri.skip (Tri.seq (Tri.blk (Tri.seq (Tri.region ?_))))
  refine TriL.c1 rfl (op_as (ltb rfl) rfl) ?_
  refine TriL.nil (Tri.blk ?_)
  refine Tri.ofKept (Kept.keep [.s 4, .h, .s 0, .s 3] rfl (by decide) (Kept.now ?_))
  -- LOOP 2
  refine Tri.loopk (fun (k : Nat) => [(.s 4, .sv (.v (.int .i64 (k : Int))))]) _ (fun (k : Nat) => ((l.take i).drop k).any (fun b => l[i] == b) = (l.take i).any (fun b => l[i] == b)) (fun (k : Nat) => i - k) 0 rfl (by simp) ?_
  rintro k hK
  refine Tri.seq (Tri.seq (Tri.region ?_))
  iterate 2 (refine TriL.c1 rfl (op_mv (ltb rfl) rfl) ?_)
  refine TriL.c1 rfl (op_bin (ltb rfl) rfl rfl rfl) ?_
  refine TriL.nil ?_
  refine Tri.cond rfl (fun hc2 => ?_) (fun hc2 => ?_)
  ·have hk := ltz hc2
   have hT := any_step (p := fun b => l[i] == b) (l := l.take i) (i := k) (by simp; omega)
   have hG : (l.take i)[k]'(by simp; omega) = l[k]'(by omega) := by simp
   refine Tri.skip (Tri.seq (Tri.blk (Tri.seq ?_)))
   refine Tri.drawn mixed rfl ?_
   iterate 2 (refine TriD.c1 rfl (op_mv (ltb rfl) rfl) ?_)
   refine TriD.c1 rfl (op_iak (ltb rfl) ie40_q rfl rfl (Int.natCast_nonneg _) (ixm hi) rfl) ?_
   refine TriD.c1 rfl (op_ldk (ltb rfl) lk9_q rfl rfl) ?_
   iterate 2 (refine TriD.c1 rfl (op_mv (ltb rfl) rfl) ?_)
   refine TriD.c1 rfl (op_iak (ltb rfl) ie40_q rfl rfl (Int.natCast_nonneg _) (ixm (Nat.lt_trans hk hi)) rfl) ?_
   refine TriD.c1 rfl (op_ldk (ltb rfl) lk9_q rfl rfl) ?_
   refine TriD.c1 rfl (op_bin (ltb rfl) rfl rfl rfl) ?_
   refine TriD.nil (by kernel_rfl) (Kept.now ?_)
   refine Tri.cond rfl (fun hc3 => ?_) (fun hc3 => ?_)
   ·refine Tri.seq (Tri.region ?_)
    refine TriL.c1 rfl (op_as (ltb rfl) rfl) ?_
    refine TriL.nil (Tri.ret ?_)
    exact ⟨.inr rfl, (ResOK.r1 rfl (.tmp rfl .nil)).cast (congrArg AV.bool (by grind [once])), rfl⟩
   ·refine Tri.skip (Tri.region ?_)
    refine TriL.c1 rfl (op_mv (ltb rfl) rfl) ?_
    refine TriL.c1 rfl (op_bin (ltb rfl) rfl rfl rfl) ?_
    refine TriL.c1 rfl (op_as (ltb rfl) rfl) ?_
    refine TriL.kept (Kept.seti 4 rfl (inc (by omega)) (Kept.keep [.s 4, .h, .s 0, .s 3] rfl (by decide) (Kept.now ?_)))
    exact ⟨k + 1, by omega, by grind, rfl⟩
  ·have hk := gez hc2
   have hT := any_end (p := fun b => l[i] == b) (l := l.take i) (i := k) (by simp; omega)
   refine Tri.exit (Tri.region ?_)
   refine TriL.c1 rfl (op_mv (ltb rfl) rfl) ?_
   refine TriL.c1 rfl (op_bin (ltb rfl) rfl rfl rfl) ?_
   refine TriL.c1 rfl (op_as (ltb rfl) rfl) ?_
   refine TriL.kept (Kept.seti 3 rfl (inc (by omega)) (Kept.keep [.s 3, .h, .s 0] rfl (by decide) (Kept.now ?_)))
   exact ⟨i + 1, by omega, by grind, rfl⟩
 ·have hi := gem hc1
  have hS := onceFrom_end hi
  refine Tri.exit (Tri.seq (Tri.region ?_))
  refine TriL.c1 rfl (op_as (ltb rfl) rfl) ?_
  refine TriL.nil (Tri.ret ?_)
  exact ⟨.inr rfl, (ResOK.r1 rfl (.tmp rfl .nil)).cast (congrArg AV.bool (by grind [once])), rfl⟩
theorem r_msgIx (s : Sch) (name : Str) (hl : s.msgs.length ≤ 9223372036854775807) : Pure Tryz.prog 114 [s.av, .str name] (.int .i64 (s.msgIx name)) := by
 refine Pure.of_tri Tryz.func114 rfl rfl (ltb rfl) fun H => ?_
 refine Tri.seq (Tri.region ?_)
 refine TriL.c2 rfl (op_box (ltb rfl) rfl rfl rfl) ?_
 refine TriL.c1 rfl (op_as (ltb rfl) rfl) ?_
 refine TriL.nil (Tri.seq (Tri.seq (Tri.region ?_)))
 refine TriL.c1 rfl (op_as (ltb rfl) rfl) ?_
 refine TriL.nil (Tri.blk ?_)
 refine Tri.ofKept (Kept.keep [.s 5, .h, .s 1, .s 2, .b 2] rfl (by decide) (Kept.now ?_))
 -- LOOP 1
 refine Tri.loopk (fun (i : Nat) => [(.s 5, .sv (.v (.int .i64 (i : Int))))]) _ (fun (i : Nat) => ixFrom (fun m : Msg => m.name == name) (s.msgs.drop i) i = s.msgIx name) (fun (i : Nat) => s.msgs.length - i) 0 rfl (by simp [Sch.msgIx]) ?_
 rintro i hI
 refine Tri.seq (Tri.seq (Tri.region ?_))
 refine TriL.c1 rfl (op_mv (ltb rfl) rfl) ?_
 refine TriL.c1 rfl (op_fal (ltb rfl) fo94_1_q rfl) ?_
 refine TriL.c1 rfl (op_ldl (ltb rfl) lk92_q rfl rfl rfl) ?_
 refine TriL.c1 rfl (op_lenl (ltb rfl) un92_q rfl) ?_
 refine TriL.c1 rfl (op_bin (ltb rfl) rfl rfl rfl) ?_
 refine TriL.nil ?_
 refine Tri.cond rfl (fun hc1 => ?_) (fun hc1 => ?_)
 ·have hi := ltm hc1
  have hS := ixFrom_step (p := (fun m : Msg => m.name == name)) hi
  refine Tri.skip (Tri.seq (Tri.blk (Tri.seq (Tri.region ?_))))
  refine TriL.c1 rfl (op_fal (ltb rfl) fo94_1_q rfl) ?_
  refine TriL.c1 rfl (op_ldl (ltb rfl) lk92_q rfl rfl rfl) ?_
  refine TriL.c1 rfl (op_mv (ltb rfl) rfl) ?_
  refine TriL.c1 rfl (op_iak (ltb rfl) ie92_q rfl rfl (Int.natCast_nonneg _) (ixm hi) rfl) ?_
  refine TriL.c1 rfl (op_fak (ltb rfl) fo157_0_q rfl) ?_
  refine TriL.c1 rfl (op_ldk (ltb rfl) lk9_q rfl rfl) ?_
  refine TriL.c1 rfl (op_mv (ltb rfl) rfl) ?_
  refine TriL.c1 rfl (op_bin (ltb rfl) rfl rfl rfl) ?_
  refine TriL.nil ?_
  refine Tri.cond rfl (fun hc2 => ?_) (fun hc2 => ?_)
  ·refine Tri.seq (Tri.region ?_)
   refine TriL.c1 rfl (op_mv (ltb rfl) rfl) ?_
   refine TriL.c1 rfl (op_as (ltb rfl) rfl) ?_
   refine TriL.nil (Tri.ret ?_)
   exact ⟨.inr rfl, (ResOK.r1 rfl (.tmp rfl .nil)).cast (congrArg (AV.int .i64) (by grind [Sch.msgIx])), rfl⟩
  ·refine Tri.skip (Tri.region ?_)
   refine TriL.c1 rfl (op_mv (ltb rfl) rfl) ?_
   refine TriL.c1 rfl (op_bin (ltb rfl) rfl rfl rfl) ?_
   refine TriL.c1 rfl (op_as (ltb rfl) rfl) ?_
   refine TriL.kept (Kept.seti 5 rfl (inc (by omega)) (Kept.keep [.s 5, .h, .s 1, .s 2, .b 2] rfl (by decide) (Kept.now ?_)))
   exact ⟨i + 1, by omega, by grind, rfl⟩
 ·have hi := gem hc1
  have hS := ixFrom_end (p := (fun m : Msg => m.name == name)) hi
  refine Tri.exit (Tri.seq (Tri.region ?_))
  refine TriL.c1 rfl (op_as (ltb rfl) rfl) ?_
  refine TriL.nil (Tri.ret ?_)
  exact ⟨.inr rfl, (ResOK.r1 rfl (.tmp rfl .nil)).cast (congrArg (AV.int .i64) (by grind [Sch.msgIx])), rfl⟩
/- the document: what is asked of a schema. -/
/- the document: names that stand twice, order, what is asked of a schema. -/
/- the document: a schema checked; values: how great, the same, how deep. -/
theorem fn42_q : isFn Tryz.prog 42 = true := by kernel_rfl
theorem fo126_3_q : fo Tryz.prog 126 3 = some 3 := by kernel_rfl
theorem fo44_1_q : fo Tryz.prog 44 1 = some 1 := by kernel_rfl
theorem fo44_2_q : fo Tryz.prog 44 2 = some 2 := by kernel_rfl
theorem fo55_1_q : fo Tryz.prog 55 1 = some 1 := by kernel_rfl
theorem fo59_0_q : fo Tryz.prog 59 0 = some 0 := by kernel_rfl
theorem fo59_1_q : fo Tryz.prog 59 1 = some 1 := by kernel_rfl
theorem ie42_q : ie Tryz.prog 42 = some 2 := by kernel_rfl
theorem ie52_q : ie Tryz.prog 52 = some 3 := by kernel_rfl
theorem ie56_q : ie Tryz.prog 56 = some 2 := by kernel_rfl
theorem ie57_q : ie Tryz.prog 57 = some 4 := by kernel_rfl
theorem lk42_q : lk Tryz.prog 42 = some (false, 1) := by kernel_rfl
theorem lk52_q : lk Tryz.prog 52 = some (false, 1) := by kernel_rfl
theorem lk56_q : lk Tryz.prog 56 = some (false, 1) := by kernel_rfl
theorem lk57_q : lk Tryz.prog 57 = some (false, 1) := by kernel_rfl
theorem lk59_q : lk Tryz.prog 59 = some (true, 2) := by kernel_rfl
theorem un42_q : Tryz.prog.underlying 42 = some (TypeDesc.slice 59) := Tryz.underlying42
theorem un52_q : Tryz.prog.underlying 52 = some (TypeDesc.slice 44) := Tryz.underlying52
theorem un56_q : Tryz.prog.underlying 56 = some (TypeDesc.slice 55) := Tryz.underlying56
theorem un57_q : Tryz.prog.underlying 57 = some (TypeDesc.slice 126) := Tryz.underlying57
theorem r_left1 (t : Tree) (hb : t.big) (ih : ∀ x ∈ t.slots, ∀ v ∈ x.vals, ∀ u ∈ v.m, ∀ n d : Int, Pure Tryz.prog 42 [.agg u.cells, .int .i64 n, .int .i64 d] (.int .i64 (u.left n d))) (n d : Int) : Pure Tryz.prog 42 [.agg t.cells, .int .i64 n, .int .i64 d] (.int .i64 (t.left n d)) := by
 have hb1 := hb.here.s
 have hb2 := hb.here.r
 refine Pure.of_tri Tryz.func42 rfl rfl (ltb rfl) fun H => ?_
 refine Tri.seq (Tri.region ?_)
 refine TriL.c2 rfl (op_box (ltb rfl) rfl rfl rfl) ?_
 refine TriL.c1 rfl (op_as (ltb rfl) rfl) ?_
 refine TriL.nil (Tri.seq (Tri.region ?_))
 refine TriL.c1 rfl (op_mv (ltb rfl) rfl) ?_
 refine TriL.c1 rfl (op_fal (ltb rfl) fo59_1_q rfl) ?_
 refine TriL.c1 rfl (op_ldl (ltb rfl) lk57_q rfl rfl rfl) ?_
 refine TriL.c1 rfl (op_lenl (ltb rfl) un57_q rfl) ?_
 refine TriL.c1 rfl (op_bin (ltb rfl) rfl rfl rfl) ?_
 refine TriL.c1 rfl (op_fal (ltb rfl) fo59_0_q rfl) ?_
 refine TriL.c1 rfl (op_ldl (ltb rfl) lk56_q rfl rfl rfl) ?_
 refine TriL.c1 rfl (op_lenl (ltb rfl) un56_q rfl) ?_
 refine TriL.c1 rfl (op_bin (ltb rfl) rfl rfl rfl) ?_
 refine TriL.c1 rfl (op_as (ltb rfl) rfl) ?_
 refine TriL.nil (Tri.seq (Tri.seq (Tri.region ?_)))
 refine TriL.c1 rfl (op_mv (ltb rfl) rfl) ?_
 refine TriL.c1 rfl (op_bin (ltb rfl) rfl rfl rfl) ?_
 refine TriL.nil ?_
 refine Tri.cond rfl (fun hc1 => ?_) (fun hc1 => ?_)
 ·refine Tri.seq (Tri.region ?_)
  refine TriL.c1 rfl (op_as (ltb rfl) rfl) ?_
  refine TriL.nil (Tri.ret ?_)
  exact ⟨.inr rfl, (ResOK.r1 rfl (.tmp rfl .nil)).cast (congrArg (AV.int .i64) (by grind [Tree.left_eq, leftS_neg, leftV_neg, leftT_neg, leftR_neg])), rfl⟩
 ·refine Tri.skip ?_
  refine Tri.joinu [.h, .s 2, .s 3, .b 3] (fun (m : Int) => [(.s 1, .sv (.v (.int .i64 m)))]) (fun (m : Int) => m = leftR t.rest (w64 (w64 (n - (t.rest.length : Int)) - (t.slots.length : Int)))) rfl ?_ ?_
  ·refine Tri.seq (Tri.region ?_)
   refine TriL.c1 rfl (op_as (ltb rfl) rfl) ?_
   refine TriL.nil (Tri.blk ?_)
   refine Tri.ofKept (Kept.keep [.s 7, .s 1, .h, .s 2, .s 3, .b 3] rfl (by decide) (Kept.now ?_))
   -- LOOP 1
   refine Tri.loopk (fun ((i, m) : Nat × Int) => [(.s 7, .sv (.v (.int .i64 (i : Int)))), (.s 1, .sv (.v (.int .i64 m)))]) _ (fun ((i, m) : Nat × Int) => leftR (t.rest.drop i) m = leftR t.rest (w64 (w64 (n - (t.rest.length : Int)) - (t.slots.length : Int)))) (fun ((i, m) : Nat × Int) => t.rest.length - i) (0, _) rfl (by simp) ?_
   rintro ⟨i, m⟩ hI
   refine Tri.seq (Tri.seq (Tri.region ?_))
   refine TriL.c1 rfl (op_mv (ltb rfl) rfl) ?_
   refine TriL.c1 rfl (op_fal (ltb rfl) fo59_1_q rfl) ?_
   refine TriL.c1 rfl (op_ldl (ltb rfl) lk57_q rfl rfl rfl) ?_
   refine TriL.c1 rfl (op_lenl (ltb rfl) un57_q rfl) ?_
   refine TriL.c1 rfl (op_bin (ltb rfl) rfl rfl rfl) ?_
   refine TriL.c1 rfl (op_mv (ltb rfl) rfl) ?_
   refine TriL.split (d := 27) rfl (fun hg2 => ?_) (fun hg2 => ?_)
   ·have hi := ltm hg2
    have hS := @leftR_step t.rest i m hi
    refine TriL.g1 rfl (ltb rfl) rfl hg2 (op_mv (ltb rfl) rfl) ?_
    refine TriL.g1 rfl (ltb rfl) rfl hg2 (op_bin (ltb rfl) rfl rfl rfl) ?_
    refine TriL.c1 rfl (op_pickt (ltb rfl) rfl hg2 rfl) ?_
    refine TriL.nil ?_
    refine Tri.cond rfl (fun hc3 => ?_) (fun hc3 => ?_)
    ·refine Tri.skip (Tri.seq (Tri.blk (Tri.region ?_)))
     refine TriL.c1 rfl (op_mv (ltb rfl) rfl) ?_
     refine TriL.c1 rfl (op_fal (ltb rfl) fo59_1_q rfl) ?_
     refine TriL.c1 rfl (op_ldl (ltb rfl) lk57_q rfl rfl rfl) ?_
     refine TriL.c1 rfl (op_mv (ltb rfl) rfl) ?_
     refine TriL.c1 rfl (op_iak (ltb rfl) ie57_q rfl rfl (Int.natCast_nonneg _) (ixm hi) rfl) ?_
     refine TriL.c1 rfl (op_fak (ltb rfl) fo126_3_q rfl) ?_
     refine TriL.c1 rfl (op_ldk (ltb rfl) lk9_q rfl rfl) ?_
     refine TriL.c1 rfl (op_lens (ltb rfl) un9_q rfl) ?_
     iterate 2 (refine TriL.c1 rfl (op_bin (ltb rfl) rfl rfl rfl) ?_)
     refine TriL.c1 rfl (op_as (ltb rfl) rfl) ?_
     refine TriL.nil (Tri.region ?_)
     refine TriL.c1 rfl (op_mv (ltb rfl) rfl) ?_
     refine TriL.c1 rfl (op_bin (ltb rfl) rfl rfl rfl) ?_
     refine TriL.c1 rfl (op_as (ltb rfl) rfl) ?_
     refine TriL.kept (Kept.seti 7 rfl (inc (by omega)) (Kept.keep [.s 7, .s 1, .h, .s 2, .s 3, .b 3] rfl (by decide) (Kept.now ?_)))
     exact ⟨(i + 1, _), (by dsimp only; omega), by grind, rfl⟩
    ·refine Tri.ofKept (Kept.keep [.s 1, .h, .s 2, .s 3, .b 3] rfl (by decide) (Kept.now ?_))
     refine Tri.exit ?_
     exact ⟨_, by grind [leftR_neg], rfl⟩
   ·have hi := gem hg2
    have hS := @leftR_end t.rest i m hi
    iterate 2 (refine TriL.skipu rfl rfl (ltb rfl) (ltb rfl) rfl hg2 ?_)
    refine TriL.c1 rfl (op_pickf (ltb rfl) rfl hg2 rfl) ?_
    refine TriL.nil ?_
    refine Tri.condF rfl rfl ?_
    refine Tri.ofKept (Kept.keep [.s 1, .h, .s 2, .s 3, .b 3] rfl (by decide) (Kept.now ?_))
    refine Tri.exit ?_
    exact ⟨_, by grind [leftR_neg], rfl⟩
  ·rintro m hF8
   refine Tri.seq (Tri.seq (Tri.region ?_))
   refine TriL.c1 rfl (op_as (ltb rfl) rfl) ?_
   refine TriL.nil (Tri.blk ?_)
   refine Tri.ofKept (Kept.keep [.s 8, .s 1, .h, .s 2, .s 3, .b 3] rfl (by decide) (Kept.now ?_))
   -- LOOP 2
   refine Tri.loopk (fun ((j, m) : Nat × Int) => [(.s 8, .sv (.v (.int .i64 (j : Int)))), (.s 1, .sv (.v (.int .i64 m)))]) _ (fun ((j, m) : Nat × Int) => leftS (t.slots.drop j) m d = t.left n d) (fun ((j, m) : Nat × Int) => t.slots.length - j) (0, _) rfl (by rw [Tree.left_eq, if_neg (by have := of_decide_eq_false hc1; omega)]; grind) ?_
   rintro ⟨j, m⟩ hI
   refine Tri.seq (Tri.seq (Tri.region ?_))
   refine TriL.c1 rfl (op_mv (ltb rfl) rfl) ?_
   refine TriL.c1 rfl (op_fal (ltb rfl) fo59_0_q rfl) ?_
   refine TriL.c1 rfl (op_ldl (ltb rfl) lk56_q rfl rfl rfl) ?_
   refine TriL.c1 rfl (op_lenl (ltb rfl) un56_q rfl) ?_
   refine TriL.c1 rfl (op_bin (ltb rfl) rfl rfl rfl) ?_
   refine TriL.c1 rfl (op_mv (ltb rfl) rfl) ?_
   refine TriL.split (d := 48) rfl (fun hg4 => ?_) (fun hg4 => ?_)
   ·have hj := ltm hg4
    have hS := @leftS_step t.slots j m d hj
    have hSl := Slot.left_eq (t.slots[j]'hj) m d
    have hv := hb.here.v _ (List.getElem_mem hj)
    refine TriL.g1 rfl (ltb rfl) rfl hg4 (op_mv (ltb rfl) rfl) ?_
    refine TriL.g1 rfl (ltb rfl) rfl hg4 (op_bin (ltb rfl) rfl rfl rfl) ?_
    refine TriL.c1 rfl (op_pickt (ltb rfl) rfl hg4 rfl) ?_
    refine TriL.nil ?_
    refine Tri.cond rfl (fun hc5 => ?_) (fun hc5 => ?_)
    ·refine Tri.skip (Tri.seq (Tri.blk (Tri.seq (Tri.region ?_))))
     refine TriL.c1 rfl (op_mv (ltb rfl) rfl) ?_
     refine TriL.c1 rfl (op_fal (ltb rfl) fo59_0_q rfl) ?_
     refine TriL.c1 rfl (op_ldl (ltb rfl) lk56_q rfl rfl rfl) ?_
     refine TriL.c1 rfl (op_mv (ltb rfl) rfl) ?_
     refine TriL.c1 rfl (op_iak (ltb rfl) ie56_q rfl rfl (Int.natCast_nonneg _) (ixmE Slot.av_eq hj) rfl) ?_
     refine TriL.c1 rfl (op_fak (ltb rfl) fo55_1_q rfl) ?_
     refine TriL.c1 rfl (op_ldk (ltb rfl) lk52_q rfl rfl) ?_
     refine TriL.c1 rfl (op_lenl (ltb rfl) un52_q rfl) ?_
     refine TriL.c1 rfl (op_bin (ltb rfl) rfl rfl rfl) ?_
     refine TriL.c1 rfl (op_as (ltb rfl) rfl) ?_
     refine TriL.nil (Tri.seq (Tri.region ?_))
     refine TriL.c1 rfl (op_as (ltb rfl) rfl) ?_
     refine TriL.nil (Tri.blk ?_)
     refine Tri.ofKept (Kept.keep [.s 9, .s 1, .h, .s 2, .s 3, .b 3, .s 8] rfl (by decide) (Kept.now ?_))
     -- LOOP 3
     refine Tri.loopk (fun ((k, p) : Nat × Int) => [(.s 9, .sv (.v (.int .i64 (k : Int)))), (.s 1, .sv (.v (.int .i64 p)))]) _ (fun ((k, p) : Nat × Int) => leftV ((t.slots[j]'hj).vals.drop k) p d = (t.slots[j]'hj).left m d) (fun ((k, p) : Nat × Int) => (t.slots[j]'hj).vals.length - k) (0, _) rfl (by rw [hSl]; simp) ?_
     rintro ⟨k, p⟩ hI
     refine Tri.seq (Tri.seq (Tri.region ?_))
     refine TriL.c1 rfl (op_mv (ltb rfl) rfl) ?_
     refine TriL.c1 rfl (op_fal (ltb rfl) fo59_0_q rfl) ?_
     refine TriL.c1 rfl (op_ldl (ltb rfl) lk56_q rfl rfl rfl) ?_
     refine TriL.c1 rfl (op_mv (ltb rfl) rfl) ?_
     refine TriL.c1 rfl (op_iak (ltb rfl) ie56_q rfl rfl (Int.natCast_nonneg _) (ixmE Slot.av_eq hj) rfl) ?_
     refine TriL.c1 rfl (op_fak (ltb rfl) fo55_1_q rfl) ?_
     refine TriL.c1 rfl (op_ldk (ltb rfl) lk52_q rfl rfl) ?_
     refine TriL.c1 rfl (op_lenl (ltb rfl) un52_q rfl) ?_
     refine TriL.c1 rfl (op_bin (ltb rfl) rfl rfl rfl) ?_
     refine TriL.c1 rfl (op_mv (ltb rfl) rfl) ?_
     refine TriL.split (d := 72) rfl (fun hg6 => ?_) (fun hg6 => ?_)
     ·have hk := ltm hg6
      have hT := @leftV_step (t.slots[j]'hj).vals k p d hk
      have hVl := Val.left_eq ((t.slots[j]'hj).vals[k]'hk) p d
      have hm := hb.here.m _ (List.getElem_mem hj) _ (List.getElem_mem hk)
      refine TriL.g1 rfl (ltb rfl) rfl hg6 (op_mv (ltb rfl) rfl) ?_
      refine TriL.g1 rfl (ltb rfl) rfl hg6 (op_bin (ltb rfl) rfl rfl rfl) ?_
      refine TriL.c1 rfl (op_pickt (ltb rfl) rfl hg6 rfl) ?_
      refine TriL.nil ?_
      refine Tri.cond rfl (fun hc7 => ?_) (fun hc7 => ?_)
      ·refine Tri.skip (Tri.seq (Tri.blk (Tri.seq (Tri.region ?_))))
       refine TriL.c1 rfl (op_mv (ltb rfl) rfl) ?_
       refine TriL.c1 rfl (op_fal (ltb rfl) fo59_0_q rfl) ?_
       refine TriL.c1 rfl (op_ldl (ltb rfl) lk56_q rfl rfl rfl) ?_
       refine TriL.c1 rfl (op_mv (ltb rfl) rfl) ?_
       refine TriL.c1 rfl (op_iak (ltb rfl) ie56_q rfl rfl (Int.natCast_nonneg _) (ixmE Slot.av_eq hj) rfl) ?_
       refine TriL.c1 rfl (op_fak (ltb rfl) fo55_1_q rfl) ?_
       refine TriL.c1 rfl (op_ldk (ltb rfl) lk52_q rfl rfl) ?_
       refine TriL.c1 rfl (op_mv (ltb rfl) rfl) ?_
       refine TriL.c1 rfl (op_iak (ltb rfl) ie52_q rfl rfl (Int.natCast_nonneg _) (ixmE Val.av_eq hk) rfl) ?_
       refine TriL.c1 rfl (op_fak (ltb rfl) fo44_1_q rfl) ?_
       refine TriL.c1 rfl (op_ldk (ltb rfl) lk9_q rfl rfl) ?_
       refine TriL.c1 rfl (op_lens (ltb rfl) un9_q rfl) ?_
       iterate 2 (refine TriL.c1 rfl (op_bin (ltb rfl) rfl rfl rfl) ?_)
       refine TriL.c1 rfl (op_as (ltb rfl) rfl) ?_
       refine TriL.nil (Tri.seq (Tri.region ?_))
       refine TriL.c1 rfl (op_as (ltb rfl) rfl) ?_
       refine TriL.nil (Tri.blk ?_)
       refine Tri.ofKept (Kept.keep [.s 10, .s 1, .h, .s 2, .s 3, .b 3, .s 8, .s 9] rfl (by decide) (Kept.now ?_))
       -- LOOP 4
       refine Tri.loopk (fun ((l, q) : Nat × Int) => [(.s 10, .sv (.v (.int .i64 (l : Int)))), (.s 1, .sv (.v (.int .i64 q)))]) _ (fun ((l, q) : Nat × Int) => leftT (((t.slots[j]'hj).vals[k]'hk).m.drop l) q d = ((t.slots[j]'hj).vals[k]'hk).left p d) (fun ((l, q) : Nat × Int) => ((t.slots[j]'hj).vals[k]'hk).m.length - l) (0, _) rfl (by rw [hVl]; simp) ?_
       rintro ⟨l, q⟩ hI
       refine Tri.seq (Tri.seq (Tri.region ?_))
       refine TriL.c1 rfl (op_mv (ltb rfl) rfl) ?_
       refine TriL.c1 rfl (op_fal (ltb rfl) fo59_0_q rfl) ?_
       refine TriL.c1 rfl (op_ldl (ltb rfl) lk56_q rfl rfl rfl) ?_
       refine TriL.c1 rfl (op_mv (ltb rfl) rfl) ?_
       refine TriL.c1 rfl (op_iak (ltb rfl) ie56_q rfl rfl (Int.natCast_nonneg _) (ixmE Slot.av_eq hj) rfl) ?_
       refine TriL.c1 rfl (op_fak (ltb rfl) fo55_1_q rfl) ?_
       refine TriL.c1 rfl (op_ldk (ltb rfl) lk52_q rfl rfl) ?_
       refine TriL.c1 rfl (op_mv (ltb rfl) rfl) ?_
       refine TriL.c1 rfl (op_iak (ltb rfl) ie52_q rfl rfl (Int.natCast_nonneg _) (ixmE Val.av_eq hk) rfl) ?_
       refine TriL.c1 rfl (op_fak (ltb rfl) fo44_2_q rfl) ?_
       refine TriL.c1 rfl (op_ldk (ltb rfl) lk42_q rfl rfl) ?_
       refine TriL.c1 rfl (op_lenl (ltb rfl) un42_q rfl) ?_
       refine TriL.c1 rfl (op_bin (ltb rfl) rfl rfl rfl) ?_
       refine TriL.c1 rfl (op_mv (ltb rfl) rfl) ?_
       refine TriL.split (d := 105) rfl (fun hg8 => ?_) (fun hg8 => ?_)
       ·have hl := ltm hg8
        have hU := @leftT_step ((t.slots[j]'hj).vals[k]'hk).m l q d hl
        refine TriL.g1 rfl (ltb rfl) rfl hg8 (op_mv (ltb rfl) rfl) ?_
        refine TriL.g1 rfl (ltb rfl) rfl hg8 (op_bin (ltb rfl) rfl rfl rfl) ?_
        refine TriL.c1 rfl (op_pickt (ltb rfl) rfl hg8 rfl) ?_
        refine TriL.nil ?_
        refine Tri.cond rfl (fun hc9 => ?_) (fun hc9 => ?_)
        ·refine Tri.skip (Tri.seq (Tri.blk (Tri.region ?_)))
         refine TriL.c1 rfl (op_fal (ltb rfl) fo59_0_q rfl) ?_
         refine TriL.c1 rfl (op_ldl (ltb rfl) lk56_q rfl rfl rfl) ?_
         refine TriL.c1 rfl (op_mv (ltb rfl) rfl) ?_
         refine TriL.c1 rfl (op_iak (ltb rfl) ie56_q rfl rfl (Int.natCast_nonneg _) (ixmE Slot.av_eq hj) rfl) ?_
         refine TriL.c1 rfl (op_fak (ltb rfl) fo55_1_q rfl) ?_
         refine TriL.c1 rfl (op_ldk (ltb rfl) lk52_q rfl rfl) ?_
         refine TriL.c1 rfl (op_mv (ltb rfl) rfl) ?_
         refine TriL.c1 rfl (op_iak (ltb rfl) ie52_q rfl rfl (Int.natCast_nonneg _) (ixmE Val.av_eq hk) rfl) ?_
         refine TriL.c1 rfl (op_fak (ltb rfl) fo44_2_q rfl) ?_
         refine TriL.c1 rfl (op_ldk (ltb rfl) lk42_q rfl rfl) ?_
         refine TriL.c1 rfl (op_mv (ltb rfl) rfl) ?_
         refine TriL.c1 rfl (op_iak (ltb rfl) ie42_q rfl rfl (Int.natCast_nonneg _) (ixmE Tree.av_eq hl) rfl) ?_
         refine TriL.c1 rfl (op_ldk (ltb rfl) lk59_q rfl rfl) ?_
         refine TriL.c1 rfl (op_mv (ltb rfl) rfl) ?_
         refine TriL.c1 rfl (op_bin (ltb rfl) rfl rfl rfl) ?_
         refine TriL.c1 rfl (op_mv (ltb rfl) rfl) ?_
         refine TriL.c1 rfl (op_bin (ltb rfl) rfl rfl rfl) ?_
         refine TriL.c1 rfl (op_call (ltb rfl) fn42_q rfl (ih _ (List.getElem_mem hj) _ (List.getElem_mem hk) _ (List.getElem_mem hl) _ _)) ?_
         refine TriL.c1 rfl (op_as (ltb rfl) rfl) ?_
         refine TriL.nil (Tri.region ?_)
         refine TriL.c1 rfl (op_mv (ltb rfl) rfl) ?_
         refine TriL.c1 rfl (op_bin (ltb rfl) rfl rfl rfl) ?_
         refine TriL.c1 rfl (op_as (ltb rfl) rfl) ?_
         refine TriL.kept (Kept.seti 10 rfl (inc (by omega)) (Kept.keep [.s 10, .s 1, .h, .s 2, .s 3, .b 3, .s 8, .s 9] rfl (by decide) (Kept.now ?_)))
         exact ⟨(l + 1, _), (by dsimp only; omega), by grind, rfl⟩
        ·refine Tri.exit (Tri.region ?_)
         refine TriL.c1 rfl (op_mv (ltb rfl) rfl) ?_
         refine TriL.c1 rfl (op_bin (ltb rfl) rfl rfl rfl) ?_
         refine TriL.c1 rfl (op_as (ltb rfl) rfl) ?_
         refine TriL.kept (Kept.seti 9 rfl (inc (by omega)) (Kept.keep [.s 9, .s 1, .h, .s 2, .s 3, .b 3, .s 8] rfl (by decide) (Kept.now ?_)))
         exact ⟨(k + 1, _), (by dsimp only; omega), by grind, rfl⟩
       ·have hl := gem hg8
        have hU := @leftT_end ((t.slots[j]'hj).vals[k]'hk).m l q d hl
        iterate 2 (refine TriL.skipu rfl rfl (ltb rfl) (ltb rfl) rfl hg8 ?_)
        refine TriL.c1 rfl (op_pickf (ltb rfl) rfl hg8 rfl) ?_
        refine TriL.nil ?_
        refine Tri.condF rfl rfl ?_
        refine Tri.exit (Tri.region ?_)
        refine TriL.c1 rfl (op_mv (ltb rfl) rfl) ?_
        refine TriL.c1 rfl (op_bin (ltb rfl) rfl rfl rfl) ?_
        refine TriL.c1 rfl (op_as (ltb rfl) rfl) ?_
        refine TriL.kept (Kept.seti 9 rfl (inc (by omega)) (Kept.keep [.s 9, .s 1, .h, .s 2, .s 3, .b 3, .s 8] rfl (by decide) (Kept.now ?_)))
        exact ⟨(k + 1, _), (by dsimp only; omega), by grind, rfl⟩
      ·refine Tri.exit (Tri.region ?_)
       refine TriL.c1 rfl (op_mv (ltb rfl) rfl) ?_
       refine TriL.c1 rfl (op_bin (ltb rfl) rfl rfl rfl) ?_
       refine TriL.c1 rfl (op_as (ltb rfl) rfl) ?_
       refine TriL.kept (Kept.seti 8 rfl (inc (by omega)) (Kept.keep [.s 8, .s 1, .h, .s 2, .s 3, .b 3] rfl (by decide) (Kept.now ?_)))
       exact ⟨(j + 1, _), (by dsimp only; omega), by grind, rfl⟩
     ·have hk := gem hg6
      have hT := @leftV_end (t.slots[j]'hj).vals k p d hk
      iterate 2 (refine TriL.skipu rfl rfl (ltb rfl) (ltb rfl) rfl hg6 ?_)
      refine TriL.c1 rfl (op_pickf (ltb rfl) rfl hg6 rfl) ?_
      refine TriL.nil ?_
      refine Tri.condF rfl rfl ?_
      refine Tri.exit (Tri.region ?_)
      refine TriL.c1 rfl (op_mv (ltb rfl) rfl) ?_
      refine TriL.c1 rfl (op_bin (ltb rfl) rfl rfl rfl) ?_
      refine TriL.c1 rfl (op_as (ltb rfl) rfl) ?_
      refine TriL.kept (Kept.seti 8 rfl (inc (by omega)) (Kept.keep [.s 8, .s 1, .h, .s 2, .s 3, .b 3] rfl (by decide) (Kept.now ?_)))
      exact ⟨(j + 1, _), (by dsimp only; omega), by grind, rfl⟩
    ·refine Tri.exit (Tri.seq (Tri.region ?_))
     refine TriL.c1 rfl (op_mv (ltb rfl) rfl) ?_
     refine TriL.c1 rfl (op_as (ltb rfl) rfl) ?_
     refine TriL.nil (Tri.ret ?_)
     exact ⟨.inr rfl, (ResOK.r1 rfl (.tmp rfl .nil)).cast (congrArg (AV.int .i64) (by grind [Tree.left_eq, leftS_neg, leftV_neg, leftT_neg, leftR_neg])), rfl⟩
   ·have hj := gem hg4
    have hS := @leftS_end t.slots j m d hj
    iterate 2 (refine TriL.skipu rfl rfl (ltb rfl) (ltb rfl) rfl hg4 ?_)
    refine TriL.c1 rfl (op_pickf (ltb rfl) rfl hg4 rfl) ?_
    refine TriL.nil ?_
    refine Tri.condF rfl rfl ?_
    refine Tri.exit (Tri.seq (Tri.region ?_))
    refine TriL.c1 rfl (op_mv (ltb rfl) rfl) ?_
    refine TriL.c1 rfl (op_as (ltb rfl) rfl) ?_
    refine TriL.nil (Tri.ret ?_)
    exact ⟨.inr rfl, (ResOK.r1 rfl (.tmp rfl .nil)).cast (congrArg (AV.int .i64) (by grind [Tree.left_eq, leftS_neg, leftV_neg, leftT_neg, leftR_neg])), rfl⟩
theorem r_left (t : Tree) (hb : t.big) (n d : Int) : Pure Tryz.prog 42 [.agg t.cells, .int .i64 n, .int .i64 d] (.int .i64 (t.left n d)) :=
 Tree.ind (Q := fun t => t.big → ∀ n d : Int, Pure Tryz.prog 42 [.agg t.cells, .int .i64 n, .int .i64 d] (.int .i64 (t.left n d))) (fun t ih hb n d => r_left1 t hb (fun x hx v hv u hu => ih x hx v hv u hu (hb.sub hu hv hx)) n d) t hb n d
def Tree.small (t : Tree) : Bool := decide (0 ≤ t.left 400 40)
theorem r_tsmall (t : Tree) (hb : t.big) : Pure Tryz.prog 21 [.agg t.cells] (.bool t.small) := by
 refine Pure.of_tri Tryz.func21 rfl rfl (ltb rfl) fun H => ?_
 refine Tri.seq (Tri.region ?_)
 refine TriL.c2 rfl (op_box (ltb rfl) rfl rfl rfl) ?_
 refine TriL.c1 rfl (op_as (ltb rfl) rfl) ?_
 refine TriL.nil (Tri.seq (Tri.region ?_))
 refine TriL.c1 rfl (op_ldl (ltb rfl) lk59_q rfl rfl rfl) ?_
 refine TriL.c1 rfl (op_call (ltb rfl) fn42_q rfl (r_left _ hb _ _)) ?_
 refine TriL.c1 rfl (op_bin (ltb rfl) rfl rfl rfl) ?_
 refine TriL.c1 rfl (op_as (ltb rfl) rfl) ?_
 refine TriL.nil (Tri.ret ?_)
 exact ⟨.inr rfl, (ResOK.r1 rfl (.tmp rfl .nil)).cast rfl, rfl⟩
set_option maxHeartbeats 400000
/- the document: values: the same, how deep. -/
theorem fn41_q : isFn Tryz.prog 41 = true := by kernel_rfl
theorem fo44_0_q : fo Tryz.prog 44 0 = some 0 := by kernel_rfl
theorem lk41_q : lk Tryz.prog 41 = some (false, 1) := by kernel_rfl
theorem eqGuardRw : Tryz.prog.eqGuardType Tryz.prog.depth 126 = false := by kernel_rfl
theorem neqRw_run (a b : Rw) (w : World) : (binOp .neq 126 (.agg #[.int .i64 a.num, .int .i64 a.wire, .int .u64 (a.n : Int), .string ⟨a.s.toArray⟩]) (.agg #[.int .i64 b.num, .int .i64 b.wire, .int .u64 (b.n : Int), .string ⟨b.s.toArray⟩])).run Tryz.prog w = .ok (.bool (!decide (a = b))) w := by
 obtain ⟨a0, a1, a2, a3⟩ := a
 obtain ⟨b0, b1, b2, b3⟩ := b
 go_simp
 by_cases h0 : a0 = b0
 ·by_cases h1 : a1 = b1
  ·by_cases h2 : a2 = b2
   ·by_cases h3 : a3 = b3
    ·simp [h0, h1, h2, h3, Int.natCast_inj]
    ·simp [h0, h1, h2, h3, Int.natCast_inj]
   ·simp [h0, h1, h2, Int.natCast_inj]
  ·simp [h0, h1, Int.natCast_inj]
 ·simp [h0, Int.natCast_inj]
theorem Rw_val {G : Gh} {v : Value} {t : Rw} (h : V G v (.agg t.cells)) : v = (.agg #[.int .i64 t.num, .int .i64 t.wire, .int .u64 (t.n : Int), .string ⟨t.s.toArray⟩]) := by
 unfold Rw.cells at h
 cases h with
 | agg vs cs hl hf hv =>
  obtain ⟨l⟩ := vs
  match l, hl with
  | [x0, x1, x2, x3], _ =>
   have h0 : V G x0 (.int .i64 t.num) := hv 0 _ rfl
   cases h0
   have h1 : V G x1 (.int .i64 t.wire) := hv 1 _ rfl
   cases h1
   have h2 : V G x2 (.int .u64 (t.n : Int)) := hv 2 _ rfl
   cases h2
   have h3 : V G x3 (.str t.s) := hv 3 _ rfl
   cases h3
   rfl
theorem op_nes126 {N : Nat} {s : St} {d : Nat} {ty : TypeId} {pos : String} {af : Array Edge} {g : Option (Nat × Bool)} {t2 : TypeId} {x y : Operand} {u v : AV} (a b : Rw) (hN : d < N) (hx : opv x s = some u) (hy : opv y s = some v) (hu : u = .agg a.cells) (hv : v = .agg b.cells) :
  OpOK Tryz.prog N ⟨some d, .binOp .neq 126 x y t2, ty, pos, af, g⟩ s (rd x ++ rd y) [(.s d, .sv (.v (.bool (!decide (a = b)))))] := by
 subst hu hv
 exact OpOK.val rfl hN fun E G L c w tt hr hR => by
  refine ⟨.bool (!decide (a = b)), ?_, .bool _⟩
  have h1 := Rw_val (opv_sound hr hR.left hx)
  have h2 := Rw_val (opv_sound hr hR.right hy)
  have hgd := run_eqGuard_agg (P := Tryz.prog) w .neq 126 x y #[.int .i64 a.num, .int .i64 a.wire, .int .u64 (a.n : Int), .string ⟨a.s.toArray⟩] #[.int .i64 b.num, .int .i64 b.wire, .int .u64 (b.n : Int), .string ⟨b.s.toArray⟩] eqGuardRw
  simp only [execOp, Sem.run_bind, h1, h2, hgd, Result.andThen_ok, neqRw_run, Sem.run_pure]
theorem r_samevals1 (a b : List Val) (ha : a.length ≤ 9223372036854775807) (hm : ∀ v ∈ a, v.m.length ≤ 9223372036854775807) (ih : ∀ v ∈ a, ∀ u ∈ v.m, ∀ w : Tree, Pure Tryz.prog 41 [.agg u.cells, .agg w.cells] (.bool (eqb u w))) : Pure Tryz.prog 20 [.sl (a.map Val.av), .sl (b.map Val.av)] (.bool (eqb a b)) := by
 refine Pure.of_tri Tryz.func20 rfl rfl (ltb rfl) fun H => ?_
 refine Tri.seq (Tri.region ?_)
 refine TriL.c1 rfl (op_as (ltb rfl) rfl) ?_
 refine TriL.nil ?_
 refine Tri.joinu [.h, .s 0, .s 1] (fun (_ : Unit) => []) (fun (_ : Unit) => a.length = b.length) rfl ?_ ?_
 ·refine Tri.seq (Tri.region ?_)
  refine TriL.c1 rfl (op_mv (ltb rfl) rfl) ?_
  refine TriL.c1 rfl (op_lenl (ltb rfl) un52_q rfl) ?_
  refine TriL.c1 rfl (op_mv (ltb rfl) rfl) ?_
  refine TriL.c1 rfl (op_lenl (ltb rfl) un52_q rfl) ?_
  refine TriL.c1 rfl (op_bin (ltb rfl) rfl rfl rfl) ?_
  refine TriL.nil ?_
  refine Tri.cond rfl (fun hc1 => ?_) (fun hc1 => ?_)
  ·refine Tri.seq (Tri.region ?_)
   refine TriL.c1 rfl (op_as (ltb rfl) rfl) ?_
   refine TriL.nil (Tri.ret ?_)
   exact ⟨.inr rfl, (ResOK.r1 rfl (.tmp rfl .nil)).cast (congrArg AV.bool (by have hE := @eqb_true _ a b; have hF := @eqb_false _ a b; grind [eqb_true, eqb_false])), rfl⟩
  ·refine Tri.ofKept (Kept.keep [.h, .s 0, .s 1] rfl (by decide) (Kept.now ?_))
   refine Tri.skip ?_
   exact ⟨(), by have h : (!((a.map Val.av).length : Int) == ((b.map Val.av).length : Int)) = false := hc1; simp at h; omega, rfl⟩
 ·rintro _ hF3
  refine Tri.seq (Tri.seq (Tri.region ?_))
  refine TriL.c1 rfl (op_as (ltb rfl) rfl) ?_
  refine TriL.nil (Tri.blk ?_)
  refine Tri.ofKept (Kept.keep [.s 5, .h, .s 0, .s 1] rfl (by decide) (Kept.now ?_))
  -- LOOP 1
  refine Tri.loopk (fun (i : Nat) => [(.s 5, .sv (.v (.int .i64 (i : Int))))]) _ (fun (i : Nat) => a.take i = b.take i) (fun (i : Nat) => a.length - i) 0 rfl rfl ?_
  rintro i hI
  refine Tri.seq (Tri.seq (Tri.region ?_))
  iterate 2 (refine TriL.c1 rfl (op_mv (ltb rfl) rfl) ?_)
  refine TriL.c1 rfl (op_lenl (ltb rfl) un52_q rfl) ?_
  refine TriL.c1 rfl (op_bin (ltb rfl) rfl rfl rfl) ?_
  refine TriL.nil ?_
  refine Tri.cond rfl (fun hc2 => ?_) (fun hc2 => ?_)
  ·have hi := ltm hc2
   have hN := @ne_at _ a b i hi (by omega)
   have hm1 := hm _ (List.getElem_mem hi)
   refine Tri.skip (Tri.seq (Tri.blk ?_))
   refine Tri.joinu [.h, .s 0, .s 1, .s 5] (fun (_ : Unit) => []) (fun (_ : Unit) => (a[i]'hi).n = (b[i]'(by omega)).n ∧ (a[i]'hi).s = (b[i]'(by omega)).s ∧ (a[i]'hi).m.length = (b[i]'(by omega)).m.length) rfl ?_ ?_
   ·refine Tri.seq ?_
    refine Tri.drawn mixed rfl ?_
    iterate 2 (refine TriD.c1 rfl (op_mv (ltb rfl) rfl) ?_)
    refine TriD.c1 rfl (op_iak (ltb rfl) ie52_q rfl rfl (Int.natCast_nonneg _) (ixmE Val.av_eq (by omega)) rfl) ?_
    refine TriD.c1 rfl (op_fak (ltb rfl) fo44_0_q rfl) ?_
    refine TriD.c1 rfl (op_ldk (ltb rfl) lk41_q rfl rfl) ?_
    iterate 2 (refine TriD.c1 rfl (op_mv (ltb rfl) rfl) ?_)
    refine TriD.c1 rfl (op_iak (ltb rfl) ie52_q rfl rfl (Int.natCast_nonneg _) (ixmE Val.av_eq (by omega)) rfl) ?_
    refine TriD.c1 rfl (op_fak (ltb rfl) fo44_0_q rfl) ?_
    refine TriD.c1 rfl (op_ldk (ltb rfl) lk41_q rfl rfl) ?_
    refine TriD.c1 rfl (op_bin (ltb rfl) rfl rfl rfl) ?_
    refine TriD.c1 rfl (op_mv (ltb rfl) rfl) ?_
    refine TriD.split (d := 29) rfl (fun hg3 => ?_) (fun hg3 => ?_)
    ·iterate 11 (refine TriD.skipu rfl rfl (ltb rfl) (ltb rfl) rfl hg3 ?_)
     refine TriD.c1 rfl (op_pickt (ltb rfl) rfl hg3 rfl) ?_
     refine TriD.c1 rfl (op_mv (ltb rfl) rfl) ?_
     iterate 13 (refine TriD.skipu rfl rfl (ltb rfl) (ltb rfl) rfl rfl ?_)
     refine TriD.c1 rfl (op_pickt (ltb rfl) rfl rfl rfl) ?_
     refine TriD.nil (by kernel_rfl) (Kept.now ?_)
     refine Tri.condT rfl rfl ?_
     refine Tri.seq (Tri.region ?_)
     refine TriL.c1 rfl (op_as (ltb rfl) rfl) ?_
     refine TriL.nil (Tri.ret ?_)
     exact ⟨.inr rfl, (ResOK.r1 rfl (.tmp rfl .nil)).cast (congrArg AV.bool (by have hE := @eqb_true _ a b; have hF := @eqb_false _ a b; grind [eqb_true, eqb_false])), rfl⟩
    ·iterate 2 (refine TriD.g1 rfl (ltb rfl) rfl hg3 (op_mv (ltb rfl) rfl) ?_)
     refine TriD.g1 rfl (ltb rfl) rfl hg3 (op_iak (ltb rfl) ie52_q rfl rfl (Int.natCast_nonneg _) (ixmE Val.av_eq (by omega)) rfl) ?_
     refine TriD.g1 rfl (ltb rfl) rfl hg3 (op_fak (ltb rfl) fo44_1_q rfl) ?_
     refine TriD.g1 rfl (ltb rfl) rfl hg3 (op_ldk (ltb rfl) lk9_q rfl rfl) ?_
     iterate 2 (refine TriD.g1 rfl (ltb rfl) rfl hg3 (op_mv (ltb rfl) rfl) ?_)
     refine TriD.g1 rfl (ltb rfl) rfl hg3 (op_iak (ltb rfl) ie52_q rfl rfl (Int.natCast_nonneg _) (ixmE Val.av_eq (by omega)) rfl) ?_
     refine TriD.g1 rfl (ltb rfl) rfl hg3 (op_fak (ltb rfl) fo44_1_q rfl) ?_
     refine TriD.g1 rfl (ltb rfl) rfl hg3 (op_ldk (ltb rfl) lk9_q rfl rfl) ?_
     refine TriD.g1 rfl (ltb rfl) rfl hg3 (op_bin (ltb rfl) rfl rfl rfl) ?_
     refine TriD.c1 rfl (op_pickf (ltb rfl) rfl hg3 rfl) ?_
     refine TriD.c1 rfl (op_mv (ltb rfl) rfl) ?_
     refine TriD.split (d := 42) rfl (fun hg4 => ?_) (fun hg4 => ?_)
     ·iterate 13 (refine TriD.skipu rfl rfl (ltb rfl) (ltb rfl) rfl hg4 ?_)
      refine TriD.c1 rfl (op_pickt (ltb rfl) rfl hg4 rfl) ?_
      refine TriD.nil (by kernel_rfl) (Kept.now ?_)
      refine Tri.condT rfl rfl ?_
      refine Tri.seq (Tri.region ?_)
      refine TriL.c1 rfl (op_as (ltb rfl) rfl) ?_
      refine TriL.nil (Tri.ret ?_)
      exact ⟨.inr rfl, (ResOK.r1 rfl (.tmp rfl .nil)).cast (congrArg AV.bool (by have hE := @eqb_true _ a b; have hF := @eqb_false _ a b; grind [eqb_true, eqb_false])), rfl⟩
     ·iterate 2 (refine TriD.g1 rfl (ltb rfl) rfl hg4 (op_mv (ltb rfl) rfl) ?_)
      refine TriD.g1 rfl (ltb rfl) rfl hg4 (op_iak (ltb rfl) ie52_q rfl rfl (Int.natCast_nonneg _) (ixmE Val.av_eq (by omega)) rfl) ?_
      refine TriD.g1 rfl (ltb rfl) rfl hg4 (op_fak (ltb rfl) fo44_2_q rfl) ?_
      refine TriD.g1 rfl (ltb rfl) rfl hg4 (op_ldk (ltb rfl) lk42_q rfl rfl) ?_
      refine TriD.g1 rfl (ltb rfl) rfl hg4 (op_lenl (ltb rfl) un42_q rfl) ?_
      iterate 2 (refine TriD.g1 rfl (ltb rfl) rfl hg4 (op_mv (ltb rfl) rfl) ?_)
      refine TriD.g1 rfl (ltb rfl) rfl hg4 (op_iak (ltb rfl) ie52_q rfl rfl (Int.natCast_nonneg _) (ixmE Val.av_eq (by omega)) rfl) ?_
      refine TriD.g1 rfl (ltb rfl) rfl hg4 (op_fak (ltb rfl) fo44_2_q rfl) ?_
      refine TriD.g1 rfl (ltb rfl) rfl hg4 (op_ldk (ltb rfl) lk42_q rfl rfl) ?_
      refine TriD.g1 rfl (ltb rfl) rfl hg4 (op_lenl (ltb rfl) un42_q rfl) ?_
      refine TriD.g1 rfl (ltb rfl) rfl hg4 (op_bin (ltb rfl) rfl rfl rfl) ?_
      refine TriD.c1 rfl (op_pickf (ltb rfl) rfl hg4 rfl) ?_
      refine TriD.nil (by kernel_rfl) (Kept.now ?_)
      refine Tri.cond rfl (fun hc5 => ?_) (fun hc5 => ?_)
      ·refine Tri.seq (Tri.region ?_)
       refine TriL.c1 rfl (op_as (ltb rfl) rfl) ?_
       refine TriL.nil (Tri.ret ?_)
       exact ⟨.inr rfl, (ResOK.r1 rfl (.tmp rfl .nil)).cast (congrArg AV.bool (by have hE := @eqb_true _ a b; have hF := @eqb_false _ a b; grind [eqb_true, eqb_false])), rfl⟩
      ·refine Tri.ofKept (Kept.keep [.h, .s 0, .s 1, .s 5] rfl (by decide) (Kept.now ?_))
       refine Tri.skip ?_
       exact ⟨(), by grind, rfl⟩
   ·rintro _ hF8
    refine Tri.seq (Tri.region ?_)
    refine TriL.c1 rfl (op_as (ltb rfl) rfl) ?_
    refine TriL.nil (Tri.blk ?_)
    refine Tri.ofKept (Kept.keep [.s 6, .h, .s 0, .s 1, .s 5] rfl (by decide) (Kept.now ?_))
    -- LOOP 2
    refine Tri.loopk (fun (l : Nat) => [(.s 6, .sv (.v (.int .i64 (l : Int))))]) _ (fun (l : Nat) => (a[i]'hi).m.take l = (b[i]'(by omega)).m.take l) (fun (l : Nat) => (a[i]'hi).m.length - l) 0 rfl rfl ?_
    rintro l hL
    refine Tri.seq (Tri.seq (Tri.region ?_))
    iterate 3 (refine TriL.c1 rfl (op_mv (ltb rfl) rfl) ?_)
    refine TriL.c1 rfl (op_iak (ltb rfl) ie52_q rfl rfl (Int.natCast_nonneg _) (ixmE Val.av_eq (by omega)) rfl) ?_
    refine TriL.c1 rfl (op_fak (ltb rfl) fo44_2_q rfl) ?_
    refine TriL.c1 rfl (op_ldk (ltb rfl) lk42_q rfl rfl) ?_
    refine TriL.c1 rfl (op_lenl (ltb rfl) un42_q rfl) ?_
    refine TriL.c1 rfl (op_bin (ltb rfl) rfl rfl rfl) ?_
    refine TriL.nil ?_
    refine Tri.cond rfl (fun hc6 => ?_) (fun hc6 => ?_)
    ·have hl := ltm hc6
     have hM := @ne_at _ (a[i]'hi).m (b[i]'(by omega)).m l hl (by omega)
     refine Tri.skip (Tri.seq (Tri.blk (Tri.seq ?_)))
     refine Tri.drawn mixed rfl ?_
     iterate 2 (refine TriD.c1 rfl (op_mv (ltb rfl) rfl) ?_)
     refine TriD.c1 rfl (op_iak (ltb rfl) ie52_q rfl rfl (Int.natCast_nonneg _) (ixmE Val.av_eq (by omega)) rfl) ?_
     refine TriD.c1 rfl (op_fak (ltb rfl) fo44_2_q rfl) ?_
     refine TriD.c1 rfl (op_ldk (ltb rfl) lk42_q rfl rfl) ?_
     refine TriD.c1 rfl (op_mv (ltb rfl) rfl) ?_
     refine TriD.c1 rfl (op_iak (ltb rfl) ie42_q rfl rfl (Int.natCast_nonneg _) (ixmE Tree.av_eq (by omega)) rfl) ?_
     refine TriD.c1 rfl (op_ldk (ltb rfl) lk59_q rfl rfl) ?_
     iterate 2 (refine TriD.c1 rfl (op_mv (ltb rfl) rfl) ?_)
     refine TriD.c1 rfl (op_iak (ltb rfl) ie52_q rfl rfl (Int.natCast_nonneg _) (ixmE Val.av_eq (by omega)) rfl) ?_
     refine TriD.c1 rfl (op_fak (ltb rfl) fo44_2_q rfl) ?_
     refine TriD.c1 rfl (op_ldk (ltb rfl) lk42_q rfl rfl) ?_
     refine TriD.c1 rfl (op_mv (ltb rfl) rfl) ?_
     refine TriD.c1 rfl (op_iak (ltb rfl) ie42_q rfl rfl (Int.natCast_nonneg _) (ixmE Tree.av_eq (by omega)) rfl) ?_
     refine TriD.c1 rfl (op_ldk (ltb rfl) lk59_q rfl rfl) ?_
     refine TriD.c1 rfl (op_call (ltb rfl) fn41_q rfl (ih _ (List.getElem_mem hi) _ (List.getElem_mem hl) _)) ?_
     refine TriD.c1 rfl (op_un (ltb rfl) rfl rfl) ?_
     refine TriD.nil (by kernel_rfl) (Kept.now ?_)
     refine Tri.cond rfl (fun hc7 => ?_) (fun hc7 => ?_)
     ·refine Tri.seq (Tri.region ?_)
      refine TriL.c1 rfl (op_as (ltb rfl) rfl) ?_
      refine TriL.nil (Tri.ret ?_)
      exact ⟨.inr rfl, (ResOK.r1 rfl (.tmp rfl .nil)).cast (congrArg AV.bool (by have hE := @eqb_true _ a b; have hF := @eqb_false _ a b; grind [eqb_true, eqb_false])), rfl⟩
     ·refine Tri.skip (Tri.region ?_)
      refine TriL.c1 rfl (op_mv (ltb rfl) rfl) ?_
      refine TriL.c1 rfl (op_bin (ltb rfl) rfl rfl rfl) ?_
      refine TriL.c1 rfl (op_as (ltb rfl) rfl) ?_
      refine TriL.kept (Kept.seti 6 rfl (inc (by omega)) (Kept.keep [.s 6, .h, .s 0, .s 1, .s 5] rfl (by decide) (Kept.now ?_)))
      exact ⟨l + 1, by omega, take_eq_step hl (by omega) hL (by grind [eqb_true]), rfl⟩
    ·have hl := gem hc6
     have hE3 := take_eq_end (a := (a[i]'hi).m) (b := (b[i]'(by omega)).m) (by omega) hl hL
     have hQ := Val.ext (a := (a[i]'hi)) (b := (b[i]'(by omega))) hF8.1 hF8.2.1 hE3
     refine Tri.exit (Tri.region ?_)
     refine TriL.c1 rfl (op_mv (ltb rfl) rfl) ?_
     refine TriL.c1 rfl (op_bin (ltb rfl) rfl rfl rfl) ?_
     refine TriL.c1 rfl (op_as (ltb rfl) rfl) ?_
     refine TriL.kept (Kept.seti 5 rfl (inc (by omega)) (Kept.keep [.s 5, .h, .s 0, .s 1] rfl (by decide) (Kept.now ?_)))
     exact ⟨i + 1, by omega, take_eq_step hi (by omega) hI hQ, rfl⟩
  ·have hi := gem hc2
   have hE2 := take_eq_end (a := a) (b := b) (by omega) hi hI
   refine Tri.exit (Tri.seq (Tri.region ?_))
   refine TriL.c1 rfl (op_as (ltb rfl) rfl) ?_
   refine TriL.nil (Tri.ret ?_)
   exact ⟨.inr rfl, (ResOK.r1 rfl (.tmp rfl .nil)).cast (congrArg AV.bool (by have hE := @eqb_true _ a b; have hF := @eqb_false _ a b; grind [eqb_true, eqb_false])), rfl⟩
/- numbers of types, in the program and in the document. -/
theorem asz182_q : asz Tryz.prog 182 = some (16, 3, 1) := by kernel_rfl
theorem fn102_q : isFn Tryz.prog 102 = true := by kernel_rfl
theorem fn110_q : isFn Tryz.prog 110 = true := by kernel_rfl
theorem fn111_q : isFn Tryz.prog 111 = true := by kernel_rfl
theorem fn112_q : isFn Tryz.prog 112 = true := by kernel_rfl
theorem fn147_q : isFn Tryz.prog 147 = true := by kernel_rfl
theorem fn148_q : isFn Tryz.prog 148 = true := by kernel_rfl
theorem fn149_q : isFn Tryz.prog 149 = true := by kernel_rfl
theorem fn64_q : isFn Tryz.prog 64 = true := by kernel_rfl
theorem lk3_q : lk Tryz.prog 3 = some (false, 1) := by kernel_rfl
theorem un2_q : Tryz.prog.underlying 2 = some (TypeDesc.int IntKind.i64) := Tryz.underlying2
theorem un21_q : Tryz.prog.underlying 21 = some (TypeDesc.int IntKind.i32) := Tryz.underlying21
theorem un41_q : Tryz.prog.underlying 41 = some (TypeDesc.int IntKind.u64) := Tryz.underlying41
theorem zA182_q : zeroA Tryz.prog 182 = some [AV.int IntKind.i64 (0), AV.int IntKind.i64 (0), AV.int IntKind.i64 (0), AV.int IntKind.i64 (0), AV.int IntKind.i64 (0), AV.int IntKind.i64 (0), AV.int IntKind.i64 (0), AV.int IntKind.i64 (0), AV.int IntKind.i64 (0), AV.int IntKind.i64 (0), AV.int IntKind.i64 (0), AV.int IntKind.i64 (0), AV.int IntKind.i64 (0), AV.int IntKind.i64 (0), AV.int IntKind.i64 (0), AV.int IntKind.i64 (0)] := by kernel_rfl
theorem r_fits (z : Int) : Pure Tryz.prog 112 [.int .i64 z] (.bool (fitsT z)) := by
 refine Pure.of_tri Tryz.func112 rfl rfl (ltb rfl) fun H => ?_
 refine Tri.seq (Tri.region ?_)
 refine TriL.c1 rfl (op_as (ltb rfl) rfl) ?_
 refine TriL.nil (Tri.seq (Tri.region ?_))
 refine TriL.c1 rfl (op_mv (ltb rfl) rfl) ?_
 refine TriL.c1 rfl (op_bin (ltb rfl) rfl rfl rfl) ?_
 refine TriL.c1 rfl (op_mv (ltb rfl) rfl) ?_
 refine TriL.split (d := 5) rfl (fun hg1 => ?_) (fun hg1 => ?_)
 ·refine TriL.g1 rfl (ltb rfl) rfl hg1 (op_mv (ltb rfl) rfl) ?_
  refine TriL.g1 rfl (ltb rfl) rfl hg1 (op_bin (ltb rfl) rfl rfl rfl) ?_
  refine TriL.c1 rfl (op_pickt (ltb rfl) rfl hg1 rfl) ?_
  refine TriL.c1 rfl (op_as (ltb rfl) rfl) ?_
  refine TriL.nil (Tri.ret ?_)
  exact ⟨.inr rfl, (ResOK.r1 rfl (.tmp rfl .nil)).cast (congrArg AV.bool (by grind [fitsT])), rfl⟩
 ·iterate 2 (refine TriL.skipu rfl rfl (ltb rfl) (ltb rfl) rfl hg1 ?_)
  refine TriL.c1 rfl (op_pickf (ltb rfl) rfl hg1 rfl) ?_
  refine TriL.c1 rfl (op_as (ltb rfl) rfl) ?_
  refine TriL.nil (Tri.ret ?_)
  exact ⟨.inr rfl, (ResOK.r1 rfl (.tmp rfl .nil)).cast (congrArg AV.bool (by grind [fitsT])), rfl⟩
theorem r_may (t : Int) (n : Nat) : Pure Tryz.prog 74 [.int .i64 t, .int .u64 (n : Int)] (.bool (mayT t n)) := by
 refine Pure.of_tri Tryz.func74 rfl rfl (ltb rfl) fun H => ?_
 refine Tri.seq (Tri.region ?_)
 refine TriL.c1 rfl (op_as (ltb rfl) rfl) ?_
 refine TriL.nil (Tri.seq (Tri.seq (Tri.region ?_)))
 refine TriL.c1 rfl (op_mv (ltb rfl) rfl) ?_
 refine TriL.c1 rfl (op_bin (ltb rfl) rfl rfl rfl) ?_
 refine TriL.c1 rfl (op_mv (ltb rfl) rfl) ?_
 refine TriL.split (d := 7) rfl (fun hg1 => ?_) (fun hg1 => ?_)
 ·iterate 2 (refine TriL.skipu rfl rfl (ltb rfl) (ltb rfl) rfl hg1 ?_)
  refine TriL.c1 rfl (op_pickt (ltb rfl) rfl hg1 rfl) ?_
  refine TriL.nil ?_
  refine Tri.condT rfl rfl ?_
  refine Tri.seq (Tri.region ?_)
  refine TriL.c1 rfl (op_as (ltb rfl) rfl) ?_
  refine TriL.nil (Tri.ret ?_)
  exact ⟨.inr rfl, (ResOK.r1 rfl (.tmp rfl .nil)).cast (congrArg AV.bool (by grind [mayT, s64, fitsT])), rfl⟩
 ·refine TriL.g1 rfl (ltb rfl) rfl hg1 (op_mv (ltb rfl) rfl) ?_
  refine TriL.g1 rfl (ltb rfl) rfl hg1 (op_bin (ltb rfl) rfl rfl rfl) ?_
  refine TriL.c1 rfl (op_pickf (ltb rfl) rfl hg1 rfl) ?_
  refine TriL.nil ?_
  refine Tri.cond rfl (fun hc2 => ?_) (fun hc2 => ?_)
  ·refine Tri.seq (Tri.region ?_)
   refine TriL.c1 rfl (op_as (ltb rfl) rfl) ?_
   refine TriL.nil (Tri.ret ?_)
   exact ⟨.inr rfl, (ResOK.r1 rfl (.tmp rfl .nil)).cast (congrArg AV.bool (by grind [mayT, s64, fitsT])), rfl⟩
  ·refine Tri.skip (Tri.seq (Tri.seq (Tri.region ?_)))
   refine TriL.c1 rfl (op_mv (ltb rfl) rfl) ?_
   refine TriL.c1 rfl (op_call (ltb rfl) fn110_q rfl (r_wideT _)) ?_
   refine TriL.nil ?_
   refine Tri.cond rfl (fun hc3 => ?_) (fun hc3 => ?_)
   ·refine Tri.seq (Tri.region ?_)
    refine TriL.c1 rfl (op_as (ltb rfl) rfl) ?_
    refine TriL.nil (Tri.ret ?_)
    exact ⟨.inr rfl, (ResOK.r1 rfl (.tmp rfl .nil)).cast (congrArg AV.bool (by grind [mayT, s64, fitsT])), rfl⟩
   ·refine Tri.skip (Tri.seq (Tri.seq (Tri.region ?_)))
    refine TriL.c1 rfl (op_mv (ltb rfl) rfl) ?_
    refine TriL.c1 rfl (op_call (ltb rfl) fn111_q rfl (r_signT _)) ?_
    refine TriL.nil ?_
    refine Tri.cond rfl (fun hc4 => ?_) (fun hc4 => ?_)
    ·refine Tri.seq (Tri.region ?_)
     refine TriL.c1 rfl (op_mv (ltb rfl) rfl) ?_
     refine TriL.c1 rfl (op_cvi (ltb rfl) un41_q un2_q rfl) ?_
     refine TriL.c1 rfl (op_call (ltb rfl) fn112_q rfl (r_fits _)) ?_
     refine TriL.c1 rfl (op_as (ltb rfl) rfl) ?_
     refine TriL.nil (Tri.ret ?_)
     exact ⟨.inr rfl, (ResOK.r1 rfl (.tmp rfl .nil)).cast (congrArg AV.bool (by grind [mayT, s64, fitsT])), rfl⟩
    ·refine Tri.skip (Tri.seq (Tri.seq (Tri.region ?_)))
     refine TriL.c1 rfl (op_mv (ltb rfl) rfl) ?_
     refine TriL.c1 rfl (op_bin (ltb rfl) rfl rfl rfl) ?_
     refine TriL.c1 rfl (op_mv (ltb rfl) rfl) ?_
     refine TriL.split (d := 20) rfl (fun hg5 => ?_) (fun hg5 => ?_)
     ·iterate 2 (refine TriL.skipu rfl rfl (ltb rfl) (ltb rfl) rfl hg5 ?_)
      refine TriL.c1 rfl (op_pickt (ltb rfl) rfl hg5 rfl) ?_
      refine TriL.nil ?_
      refine Tri.condT rfl rfl ?_
      refine Tri.seq (Tri.region ?_)
      refine TriL.c1 rfl (op_mv (ltb rfl) rfl) ?_
      refine TriL.c1 rfl (op_bin (ltb rfl) rfl rfl rfl) ?_
      refine TriL.c1 rfl (op_as (ltb rfl) rfl) ?_
      refine TriL.nil (Tri.ret ?_)
      exact ⟨.inr rfl, (ResOK.r1 rfl (.tmp rfl .nil)).cast (congrArg AV.bool (by grind [mayT, s64, fitsT])), rfl⟩
     ·refine TriL.g1 rfl (ltb rfl) rfl hg5 (op_mv (ltb rfl) rfl) ?_
      refine TriL.g1 rfl (ltb rfl) rfl hg5 (op_bin (ltb rfl) rfl rfl rfl) ?_
      refine TriL.c1 rfl (op_pickf (ltb rfl) rfl hg5 rfl) ?_
      refine TriL.nil ?_
      refine Tri.cond rfl (fun hc6 => ?_) (fun hc6 => ?_)
      ·refine Tri.seq (Tri.region ?_)
       refine TriL.c1 rfl (op_mv (ltb rfl) rfl) ?_
       refine TriL.c1 rfl (op_bin (ltb rfl) rfl rfl rfl) ?_
       refine TriL.c1 rfl (op_as (ltb rfl) rfl) ?_
       refine TriL.nil (Tri.ret ?_)
       exact ⟨.inr rfl, (ResOK.r1 rfl (.tmp rfl .nil)).cast (congrArg AV.bool (by grind [mayT, s64, fitsT])), rfl⟩
      ·refine Tri.skip (Tri.seq (Tri.seq (Tri.region ?_)))
       refine TriL.c1 rfl (op_mv (ltb rfl) rfl) ?_
       refine TriL.c1 rfl (op_bin (ltb rfl) rfl rfl rfl) ?_
       refine TriL.nil ?_
       refine Tri.cond rfl (fun hc7 => ?_) (fun hc7 => ?_)
       ·refine Tri.seq (Tri.region ?_)
        refine TriL.c1 rfl (op_mv (ltb rfl) rfl) ?_
        refine TriL.c1 rfl (op_bin (ltb rfl) rfl rfl rfl) ?_
        refine TriL.c1 rfl (op_as (ltb rfl) rfl) ?_
        refine TriL.nil (Tri.ret ?_)
        exact ⟨.inr rfl, (ResOK.r1 rfl (.tmp rfl .nil)).cast (congrArg AV.bool (by grind [mayT, s64, fitsT])), rfl⟩
       ·refine Tri.skip (Tri.seq (Tri.region ?_))
        refine TriL.c1 rfl (op_mv (ltb rfl) rfl) ?_
        refine TriL.c1 rfl (op_bin (ltb rfl) rfl rfl rfl) ?_
        refine TriL.c1 rfl (op_as (ltb rfl) rfl) ?_
        refine TriL.nil (Tri.ret ?_)
        exact ⟨.inr rfl, (ResOK.r1 rfl (.tmp rfl .nil)).cast (congrArg AV.bool (by grind [mayT, s64, fitsT])), rfl⟩
theorem p_kind (t : Int) : Pure Tryz.prog 102 [.int .i64 t] (.int .i64 (kindT t)) := by
 refine Pure.of_tri Tryz.func102 rfl rfl (ltb rfl) fun H => ?_
 refine Tri.seq (Tri.region ?_)
 refine TriL.c1 rfl (op_as (ltb rfl) rfl) ?_
 refine TriL.nil (Tri.seq (Tri.seq (Tri.region ?_)))
 refine TriL.c1 rfl (op_mv (ltb rfl) rfl) ?_
 refine TriL.c1 rfl (op_bin (ltb rfl) rfl rfl rfl) ?_
 refine TriL.c1 rfl (op_mv (ltb rfl) rfl) ?_
 refine TriL.split (d := 5) rfl (fun hg1 => ?_) (fun hg1 => ?_)
 ·iterate 2 (refine TriL.skipu rfl rfl (ltb rfl) (ltb rfl) rfl hg1 ?_)
  refine TriL.c1 rfl (op_pickt (ltb rfl) rfl hg1 rfl) ?_
  refine TriL.nil ?_
  refine Tri.condT rfl rfl ?_
  refine Tri.seq (Tri.region ?_)
  refine TriL.c1 rfl (op_as (ltb rfl) rfl) ?_
  refine TriL.nil (Tri.ret ?_)
  exact ⟨.inr rfl, (ResOK.r1 rfl (.tmp rfl .nil)).cast (congrArg (AV.int .i64) (by grind [kindT_out])), rfl⟩
 ·refine TriL.g1 rfl (ltb rfl) rfl hg1 (op_mv (ltb rfl) rfl) ?_
  refine TriL.g1 rfl (ltb rfl) rfl hg1 (op_bin (ltb rfl) rfl rfl rfl) ?_
  refine TriL.c1 rfl (op_pickf (ltb rfl) rfl hg1 rfl) ?_
  refine TriL.nil ?_
  refine Tri.cond rfl (fun hc2 => ?_) (fun hc2 => ?_)
  ·refine Tri.seq (Tri.region ?_)
   refine TriL.c1 rfl (op_as (ltb rfl) rfl) ?_
   refine TriL.nil (Tri.ret ?_)
   exact ⟨.inr rfl, (ResOK.r1 rfl (.tmp rfl .nil)).cast (congrArg (AV.int .i64) (by grind [kindT_out])), rfl⟩
  ·refine Tri.skip (Tri.seq (Tri.region ?_))
   refine TriL.c1 rfl (op_blda (ltb rfl) asz182_q zA182_q rfl rfl) ?_
   refine TriL.c1 rfl (op_mv (ltb rfl) rfl) ?_
   refine TriL.c1 rfl (op_ixa (ltb rfl) asz182_q lk3_q rfl rfl (by grind) (by grind) (kind_cell (by grind) (by grind))) ?_
   refine TriL.c1 rfl (op_as (ltb rfl) rfl) ?_
   refine TriL.nil (Tri.ret ?_)
   exact ⟨.inr rfl, (ResOK.r1 rfl (.tmp rfl .nil)).cast (congrArg (AV.int .i64) (by grind [kindT_out])), rfl⟩
theorem p_numT (t : Int) : Pure Tryz.prog 107 [.int .i64 t] (.bool (numT t)) := by
 refine Pure.of_tri Tryz.func107 rfl rfl (ltb rfl) fun H => ?_
 refine Tri.seq (Tri.region ?_)
 refine TriL.c1 rfl (op_as (ltb rfl) rfl) ?_
 refine TriL.nil (Tri.seq (Tri.region ?_))
 refine TriL.c1 rfl (op_mv (ltb rfl) rfl) ?_
 refine TriL.c1 rfl (op_call (ltb rfl) fn102_q rfl (p_kind _)) ?_
 iterate 2 (refine TriL.c1 rfl (op_bin (ltb rfl) rfl rfl rfl) ?_)
 refine TriL.c1 rfl (op_as (ltb rfl) rfl) ?_
 refine TriL.nil (Tri.ret ?_)
 exact ⟨.inr rfl, (ResOK.r1 rfl (.tmp rfl .nil)).cast (congrArg AV.bool (kind_num t)), rfl⟩
theorem p_wholeT (t : Int) : Pure Tryz.prog 64 [.int .i64 t] (.bool (wholeT t)) := by
 refine Pure.of_tri Tryz.func64 rfl rfl (ltb rfl) fun H => ?_
 refine Tri.seq (Tri.region ?_)
 refine TriL.c1 rfl (op_as (ltb rfl) rfl) ?_
 refine TriL.nil (Tri.seq (Tri.region ?_))
 refine TriL.c1 rfl (op_mv (ltb rfl) rfl) ?_
 refine TriL.c1 rfl (op_call (ltb rfl) fn102_q rfl (p_kind _)) ?_
 iterate 2 (refine TriL.c1 rfl (op_bin (ltb rfl) rfl rfl rfl) ?_)
 refine TriL.c1 rfl (op_as (ltb rfl) rfl) ?_
 refine TriL.nil (Tri.ret ?_)
 exact ⟨.inr rfl, (ResOK.r1 rfl (.tmp rfl .nil)).cast (congrArg AV.bool (kind_whole t)), rfl⟩
theorem p_signT (t : Int) : Pure Tryz.prog 148 [.int .i64 t] (.bool (signT t)) := by
 refine Pure.of_tri Tryz.func148 rfl rfl (ltb rfl) fun H => ?_
 refine Tri.seq (Tri.region ?_)
 refine TriL.c1 rfl (op_as (ltb rfl) rfl) ?_
 refine TriL.nil (Tri.seq (Tri.region ?_))
 refine TriL.c1 rfl (op_mv (ltb rfl) rfl) ?_
 refine TriL.c1 rfl (op_call (ltb rfl) fn102_q rfl (p_kind _)) ?_
 iterate 2 (refine TriL.c1 rfl (op_bin (ltb rfl) rfl rfl rfl) ?_)
 refine TriL.c1 rfl (op_as (ltb rfl) rfl) ?_
 refine TriL.nil (Tri.ret ?_)
 exact ⟨.inr rfl, (ResOK.r1 rfl (.tmp rfl .nil)).cast (congrArg AV.bool (kind_sign t)), rfl⟩
theorem p_wideT (t : Int) : Pure Tryz.prog 147 [.int .i64 t] (.bool (wideT t)) := by
 refine Pure.of_tri Tryz.func147 rfl rfl (ltb rfl) fun H => ?_
 refine Tri.seq (Tri.region ?_)
 refine TriL.c1 rfl (op_as (ltb rfl) rfl) ?_
 refine TriL.nil (Tri.seq (Tri.region ?_))
 refine TriL.c1 rfl (op_mv (ltb rfl) rfl) ?_
 refine TriL.c1 rfl (op_call (ltb rfl) fn102_q rfl (p_kind _)) ?_
 iterate 2 (refine TriL.c1 rfl (op_bin (ltb rfl) rfl rfl rfl) ?_)
 refine TriL.c1 rfl (op_as (ltb rfl) rfl) ?_
 refine TriL.nil (Tri.ret ?_)
 exact ⟨.inr rfl, (ResOK.r1 rfl (.tmp rfl .nil)).cast (congrArg AV.bool (kind_wide t)), rfl⟩
theorem p_fits (z : Int) : Pure Tryz.prog 149 [.int .i64 z] (.bool (fitsT z)) := by
 refine Pure.of_tri Tryz.func149 rfl rfl (ltb rfl) fun H => ?_
 refine Tri.seq (Tri.region ?_)
 refine TriL.c1 rfl (op_as (ltb rfl) rfl) ?_
 refine TriL.nil (Tri.seq (Tri.region ?_))
 refine TriL.c1 rfl (op_mv (ltb rfl) rfl) ?_
 refine TriL.c1 rfl (op_cvi (ltb rfl) un2_q un21_q rfl) ?_
 refine TriL.c1 rfl (op_cvi (ltb rfl) un21_q un2_q rfl) ?_
 refine TriL.c1 rfl (op_mv (ltb rfl) rfl) ?_
 refine TriL.c1 rfl (op_bin (ltb rfl) rfl rfl rfl) ?_
 refine TriL.c1 rfl (op_as (ltb rfl) rfl) ?_
 refine TriL.nil (Tri.ret ?_)
 exact ⟨.inr rfl, (ResOK.r1 rfl (.tmp rfl .nil)).cast (congrArg AV.bool (fits_wrap z)), rfl⟩
theorem p_may (t : Int) (n : Nat) : Pure Tryz.prog 108 [.int .i64 t, .int .u64 (n : Int)] (.bool (mayT t n)) := by
 refine Pure.of_tri Tryz.func108 rfl rfl (ltb rfl) fun H => ?_
 refine Tri.seq (Tri.region ?_)
 refine TriL.c1 rfl (op_as (ltb rfl) rfl) ?_
 refine TriL.nil (Tri.seq (Tri.blk (Tri.seq (Tri.region ?_))))
 refine TriL.c1 rfl (op_mv (ltb rfl) rfl) ?_
 refine TriL.c1 rfl (op_bin (ltb rfl) rfl rfl rfl) ?_
 refine TriL.c1 rfl (op_mv (ltb rfl) rfl) ?_
 refine TriL.split (d := 8) rfl (fun hg1 => ?_) (fun hg1 => ?_)
 ·iterate 2 (refine TriL.skipu rfl rfl (ltb rfl) (ltb rfl) rfl hg1 ?_)
  refine TriL.c1 rfl (op_pickt (ltb rfl) rfl hg1 rfl) ?_
  refine TriL.c1 rfl (op_as (ltb rfl) rfl) ?_
  refine TriL.nil ?_
  refine Tri.condT rfl rfl ?_
  refine Tri.seq (Tri.region ?_)
  refine TriL.c1 rfl (op_as (ltb rfl) rfl) ?_
  refine TriL.nil (Tri.ret ?_)
  exact ⟨.inr rfl, (ResOK.r1 rfl (.tmp rfl .nil)).cast (congrArg AV.bool (by grind [mayT])), rfl⟩
 ·refine TriL.g1 rfl (ltb rfl) rfl hg1 (op_mv (ltb rfl) rfl) ?_
  refine TriL.g1 rfl (ltb rfl) rfl hg1 (op_bin (ltb rfl) rfl rfl rfl) ?_
  refine TriL.c1 rfl (op_pickf (ltb rfl) rfl hg1 rfl) ?_
  refine TriL.c1 rfl (op_as (ltb rfl) rfl) ?_
  refine TriL.nil ?_
  refine Tri.cond rfl (fun hc2 => ?_) (fun hc2 => ?_)
  ·refine Tri.seq (Tri.region ?_)
   refine TriL.c1 rfl (op_as (ltb rfl) rfl) ?_
   refine TriL.nil (Tri.ret ?_)
   exact ⟨.inr rfl, (ResOK.r1 rfl (.tmp rfl .nil)).cast (congrArg AV.bool (by grind [mayT])), rfl⟩
  ·refine Tri.seq (Tri.region ?_)
   refine TriL.c1 rfl (op_mv (ltb rfl) rfl) ?_
   refine TriL.c1 rfl (op_call (ltb rfl) fn147_q rfl (p_wideT _)) ?_
   refine TriL.c1 rfl (op_as (ltb rfl) rfl) ?_
   refine TriL.nil ?_
   refine Tri.cond rfl (fun hc3 => ?_) (fun hc3 => ?_)
   ·refine Tri.seq (Tri.region ?_)
    refine TriL.c1 rfl (op_as (ltb rfl) rfl) ?_
    refine TriL.nil (Tri.ret ?_)
    exact ⟨.inr rfl, (ResOK.r1 rfl (.tmp rfl .nil)).cast (congrArg AV.bool (by grind [mayT])), rfl⟩
   ·refine Tri.seq (Tri.region ?_)
    refine TriL.c1 rfl (op_mv (ltb rfl) rfl) ?_
    refine TriL.c1 rfl (op_call (ltb rfl) fn148_q rfl (p_signT _)) ?_
    refine TriL.c1 rfl (op_as (ltb rfl) rfl) ?_
    refine TriL.nil ?_
    refine Tri.cond rfl (fun hc4 => ?_) (fun hc4 => ?_)
    ·refine Tri.seq (Tri.region ?_)
     refine TriL.c1 rfl (op_mv (ltb rfl) rfl) ?_
     refine TriL.c1 rfl (op_cvi (ltb rfl) un41_q un2_q rfl) ?_
     refine TriL.c1 rfl (op_call (ltb rfl) fn149_q rfl (p_fits _)) ?_
     refine TriL.c1 rfl (op_as (ltb rfl) rfl) ?_
     refine TriL.nil (Tri.ret ?_)
     exact ⟨.inr rfl, (ResOK.r1 rfl (.tmp rfl .nil)).cast (congrArg AV.bool (by have := ty_cases t; grind [mayT, s64])), rfl⟩
    ·refine Tri.seq (Tri.region ?_)
     refine TriL.c1 rfl (op_mv (ltb rfl) rfl) ?_
     refine TriL.c1 rfl (op_call (ltb rfl) fn64_q rfl (p_wholeT _)) ?_
     refine TriL.c1 rfl (op_as (ltb rfl) rfl) ?_
     refine TriL.nil ?_
     refine Tri.cond rfl (fun hc5 => ?_) (fun hc5 => ?_)
     ·refine Tri.seq (Tri.region ?_)
      refine TriL.c1 rfl (op_mv (ltb rfl) rfl) ?_
      refine TriL.c1 rfl (op_shr (ltb rfl) rfl rfl (by decide)) ?_
      refine TriL.c1 rfl (op_bin (ltb rfl) rfl rfl rfl) ?_
      refine TriL.c1 rfl (op_as (ltb rfl) rfl) ?_
      refine TriL.nil (Tri.ret ?_)
      exact ⟨.inr rfl, (ResOK.r1 rfl (.tmp rfl .nil)).cast (congrArg AV.bool (by have h2 : ((((n / 2 ^ (min ((32 : Int)).toNat IntKind.u64.bits) : Nat) : Int)) == 0) = decide (n < 4294967296) := (by rw [show 2 ^ (min ((32 : Int)).toNat IntKind.u64.bits) = 4294967296 by decide, Bool.eq_iff_iff]; simp; omega); rw [h2]; have := ty_cases t; grind [mayT, wholeT, wideT, signT])), rfl⟩
     ·refine Tri.seq (Tri.region ?_)
      refine TriL.c1 rfl (op_mv (ltb rfl) rfl) ?_
      refine TriL.c1 rfl (op_bin (ltb rfl) rfl rfl rfl) ?_
      refine TriL.c1 rfl (op_as (ltb rfl) rfl) ?_
      refine TriL.nil ?_
      refine Tri.cond rfl (fun hc6 => ?_) (fun hc6 => ?_)
      ·refine Tri.seq (Tri.region ?_)
       refine TriL.c1 rfl (op_mv (ltb rfl) rfl) ?_
       refine TriL.c1 rfl (op_bin (ltb rfl) rfl rfl rfl) ?_
       refine TriL.c1 rfl (op_as (ltb rfl) rfl) ?_
       refine TriL.nil (Tri.ret ?_)
       exact ⟨.inr rfl, (ResOK.r1 rfl (.tmp rfl .nil)).cast (congrArg AV.bool (by have := ty_cases t; grind [mayT, wholeT, wideT, signT])), rfl⟩
      ·refine Tri.skip (Tri.seq (Tri.region ?_))
       refine TriL.c1 rfl (op_mv (ltb rfl) rfl) ?_
       refine TriL.c1 rfl (op_bin (ltb rfl) rfl rfl rfl) ?_
       refine TriL.c1 rfl (op_as (ltb rfl) rfl) ?_
       refine TriL.nil (Tri.ret ?_)
       exact ⟨.inr rfl, (ResOK.r1 rfl (.tmp rfl .nil)).cast (congrArg AV.bool (by have := ty_cases t; grind [mayT, wholeT, wideT, signT])), rfl⟩
/- fields and places, in the program and in the document. -/
theorem fn101_q : isFn Tryz.prog 101 = true := by kernel_rfl
theorem fn154_q : isFn Tryz.prog 154 = true := by kernel_rfl
theorem fn178_q : isFn Tryz.prog 178 = true := by kernel_rfl
theorem fn179_q : isFn Tryz.prog 179 = true := by kernel_rfl
theorem fn204_q : isFn Tryz.prog 204 = true := by kernel_rfl
theorem fn205_q : isFn Tryz.prog 205 = true := by kernel_rfl
theorem fn207_q : isFn Tryz.prog 207 = true := by kernel_rfl
theorem fo126_0_q : fo Tryz.prog 126 0 = some 0 := by kernel_rfl
theorem fo126_1_q : fo Tryz.prog 126 1 = some 1 := by kernel_rfl
theorem fo126_2_q : fo Tryz.prog 126 2 = some 2 := by kernel_rfl
theorem fo157_1_q : fo Tryz.prog 157 1 = some 1 := by kernel_rfl
theorem fo96_1_q : fo Tryz.prog 96 1 = some 1 := by kernel_rfl
theorem fo96_2_q : fo Tryz.prog 96 2 = some 2 := by kernel_rfl
theorem fo96_4_q : fo Tryz.prog 96 4 = some 4 := by kernel_rfl
theorem fo96_6_q : fo Tryz.prog 96 6 = some 6 := by kernel_rfl
theorem ie155_q : ie Tryz.prog 155 = some 7 := by kernel_rfl
theorem lk155_q : lk Tryz.prog 155 = some (false, 1) := by kernel_rfl
theorem lk157_q : lk Tryz.prog 157 = some (true, 3) := by kernel_rfl
theorem lk4_q : lk Tryz.prog 4 = some (false, 1) := by kernel_rfl
theorem lk96_q : lk Tryz.prog 96 = some (true, 7) := by kernel_rfl
theorem un155_q : Tryz.prog.underlying 155 = some (TypeDesc.slice 96) := Tryz.underlying155
theorem r_hidden (f : Fld) : Pure Tryz.prog 153 [f.av] (.bool f.hidden) := by
 refine Pure.of_tri Tryz.func153 rfl rfl (ltb rfl) fun H => ?_
 refine Tri.seq (Tri.region ?_)
 refine TriL.c2 rfl (op_box (ltb rfl) rfl rfl rfl) ?_
 refine TriL.c1 rfl (op_as (ltb rfl) rfl) ?_
 refine TriL.nil (Tri.seq (Tri.region ?_))
 refine TriL.c1 rfl (op_fal (ltb rfl) fo96_4_q rfl) ?_
 refine TriL.c1 rfl (op_ldl (ltb rfl) lk4_q rfl rfl rfl) ?_
 refine TriL.c1 rfl (op_un (ltb rfl) rfl rfl) ?_
 refine TriL.c1 rfl (op_mv (ltb rfl) rfl) ?_
 refine TriL.split (d := 6) rfl (fun hg1 => ?_) (fun hg1 => ?_)
 ·refine TriL.g1 rfl (ltb rfl) rfl hg1 (op_fal (ltb rfl) fo96_6_q rfl) ?_
  refine TriL.g1 rfl (ltb rfl) rfl hg1 (op_ldl (ltb rfl) lk9_q rfl rfl rfl) ?_
  refine TriL.g1 rfl (ltb rfl) rfl hg1 (op_bin (ltb rfl) rfl rfl rfl) ?_
  refine TriL.c1 rfl (op_pickt (ltb rfl) rfl hg1 rfl) ?_
  refine TriL.c1 rfl (op_mv (ltb rfl) rfl) ?_
  refine TriL.split (d := 11) rfl (fun hg2 => ?_) (fun hg2 => ?_)
  ·refine TriL.g1 rfl (ltb rfl) rfl hg2 (op_fal (ltb rfl) fo96_2_q rfl) ?_
   refine TriL.g1 rfl (ltb rfl) rfl hg2 (op_ldl (ltb rfl) lk3_q rfl rfl rfl) ?_
   refine TriL.g1 rfl (ltb rfl) rfl hg2 (op_bin (ltb rfl) rfl rfl rfl) ?_
   refine TriL.c1 rfl (op_pickt (ltb rfl) rfl hg2 rfl) ?_
   refine TriL.c1 rfl (op_as (ltb rfl) rfl) ?_
   refine TriL.nil (Tri.ret ?_)
   exact ⟨.inr rfl, (ResOK.r1 rfl (.tmp rfl .nil)).cast (congrArg AV.bool (by grind [Fld.hidden])), rfl⟩
  ·iterate 3 (refine TriL.skipu rfl rfl (ltb rfl) (ltb rfl) rfl hg2 ?_)
   refine TriL.c1 rfl (op_pickf (ltb rfl) rfl hg2 rfl) ?_
   refine TriL.c1 rfl (op_as (ltb rfl) rfl) ?_
   refine TriL.nil (Tri.ret ?_)
   exact ⟨.inr rfl, (ResOK.r1 rfl (.tmp rfl .nil)).cast (congrArg AV.bool (by grind [Fld.hidden])), rfl⟩
 ·iterate 3 (refine TriL.skipu rfl rfl (ltb rfl) (ltb rfl) rfl hg1 ?_)
  refine TriL.c1 rfl (op_pickf (ltb rfl) rfl hg1 rfl) ?_
  refine TriL.c1 rfl (op_mv (ltb rfl) rfl) ?_
  iterate 3 (refine TriL.skipu rfl rfl (ltb rfl) (ltb rfl) rfl rfl ?_)
  refine TriL.c1 rfl (op_pickf (ltb rfl) rfl rfl rfl) ?_
  refine TriL.c1 rfl (op_as (ltb rfl) rfl) ?_
  refine TriL.nil (Tri.ret ?_)
  exact ⟨.inr rfl, (ResOK.r1 rfl (.tmp rfl .nil)).cast (congrArg AV.bool (by grind [Fld.hidden])), rfl⟩
theorem p_hidden (f : Fld) : Pure Tryz.prog 206 [f.av] (.bool f.hidden) := by
 refine Pure.of_tri Tryz.func206 rfl rfl (ltb rfl) fun H => ?_
 refine Tri.seq (Tri.region ?_)
 refine TriL.c2 rfl (op_box (ltb rfl) rfl rfl rfl) ?_
 refine TriL.c1 rfl (op_as (ltb rfl) rfl) ?_
 refine TriL.nil (Tri.seq (Tri.region ?_))
 refine TriL.c1 rfl (op_fal (ltb rfl) fo96_4_q rfl) ?_
 refine TriL.c1 rfl (op_ldl (ltb rfl) lk4_q rfl rfl rfl) ?_
 refine TriL.c1 rfl (op_un (ltb rfl) rfl rfl) ?_
 refine TriL.c1 rfl (op_mv (ltb rfl) rfl) ?_
 refine TriL.split (d := 6) rfl (fun hg1 => ?_) (fun hg1 => ?_)
 ·refine TriL.g1 rfl (ltb rfl) rfl hg1 (op_fal (ltb rfl) fo96_6_q rfl) ?_
  refine TriL.g1 rfl (ltb rfl) rfl hg1 (op_ldl (ltb rfl) lk9_q rfl rfl rfl) ?_
  refine TriL.g1 rfl (ltb rfl) rfl hg1 (op_bin (ltb rfl) rfl rfl rfl) ?_
  refine TriL.c1 rfl (op_pickt (ltb rfl) rfl hg1 rfl) ?_
  refine TriL.c1 rfl (op_mv (ltb rfl) rfl) ?_
  refine TriL.split (d := 11) rfl (fun hg2 => ?_) (fun hg2 => ?_)
  ·refine TriL.g1 rfl (ltb rfl) rfl hg2 (op_fal (ltb rfl) fo96_2_q rfl) ?_
   refine TriL.g1 rfl (ltb rfl) rfl hg2 (op_ldl (ltb rfl) lk3_q rfl rfl rfl) ?_
   refine TriL.g1 rfl (ltb rfl) rfl hg2 (op_bin (ltb rfl) rfl rfl rfl) ?_
   refine TriL.c1 rfl (op_pickt (ltb rfl) rfl hg2 rfl) ?_
   refine TriL.c1 rfl (op_as (ltb rfl) rfl) ?_
   refine TriL.nil (Tri.ret ?_)
   exact ⟨.inr rfl, (ResOK.r1 rfl (.tmp rfl .nil)).cast (congrArg AV.bool (by grind [Fld.hidden])), rfl⟩
  ·iterate 3 (refine TriL.skipu rfl rfl (ltb rfl) (ltb rfl) rfl hg2 ?_)
   refine TriL.c1 rfl (op_pickf (ltb rfl) rfl hg2 rfl) ?_
   refine TriL.c1 rfl (op_as (ltb rfl) rfl) ?_
   refine TriL.nil (Tri.ret ?_)
   exact ⟨.inr rfl, (ResOK.r1 rfl (.tmp rfl .nil)).cast (congrArg AV.bool (by grind [Fld.hidden])), rfl⟩
 ·iterate 3 (refine TriL.skipu rfl rfl (ltb rfl) (ltb rfl) rfl hg1 ?_)
  refine TriL.c1 rfl (op_pickf (ltb rfl) rfl hg1 rfl) ?_
  refine TriL.c1 rfl (op_mv (ltb rfl) rfl) ?_
  iterate 3 (refine TriL.skipu rfl rfl (ltb rfl) (ltb rfl) rfl rfl ?_)
  refine TriL.c1 rfl (op_pickf (ltb rfl) rfl rfl rfl) ?_
  refine TriL.c1 rfl (op_as (ltb rfl) rfl) ?_
  refine TriL.nil (Tri.ret ?_)
  exact ⟨.inr rfl, (ResOK.r1 rfl (.tmp rfl .nil)).cast (congrArg AV.bool (by grind [Fld.hidden])), rfl⟩
theorem r_number (m : Msg) (num : Int) (hl : m.fields.length ≤ 1000) : Pure Tryz.prog 116 [m.av, .int .i64 num] (.int .i64 (m.at num)) := by
 refine Pure.of_tri Tryz.func116 rfl rfl (ltb rfl) fun H => ?_
 refine Tri.seq (Tri.region ?_)
 refine TriL.c2 rfl (op_box (ltb rfl) rfl rfl rfl) ?_
 refine TriL.c1 rfl (op_as (ltb rfl) rfl) ?_
 refine TriL.nil (Tri.seq (Tri.seq (Tri.region ?_)))
 refine TriL.c1 rfl (op_as (ltb rfl) rfl) ?_
 refine TriL.nil (Tri.blk ?_)
 refine Tri.ofKept (Kept.keep [.s 5, .h, .s 1, .s 2, .b 2] rfl (by decide) (Kept.now ?_))
 -- LOOP 1
 refine Tri.loopk (fun (i : Nat) => [(.s 5, .sv (.v (.int .i64 (i : Int))))]) _ (fun (i : Nat) => ixFrom (fun f : Fld => f.num == num) (m.fields.drop i) i = m.at num) (fun (i : Nat) => m.fields.length - i) 0 rfl (by simp [Msg.at]) ?_
 rintro i hI
 refine Tri.seq (Tri.seq (Tri.region ?_))
 refine TriL.c1 rfl (op_mv (ltb rfl) rfl) ?_
 refine TriL.c1 rfl (op_fal (ltb rfl) fo157_1_q rfl) ?_
 refine TriL.c1 rfl (op_ldl (ltb rfl) lk155_q rfl rfl rfl) ?_
 refine TriL.c1 rfl (op_lenl (ltb rfl) un155_q rfl) ?_
 refine TriL.c1 rfl (op_bin (ltb rfl) rfl rfl rfl) ?_
 refine TriL.nil ?_
 refine Tri.cond rfl (fun hc1 => ?_) (fun hc1 => ?_)
 ·have hi := ltm hc1
  have hS := ixFrom_step (p := (fun f : Fld => f.num == num)) hi
  refine Tri.skip (Tri.seq (Tri.blk (Tri.seq (Tri.region ?_))))
  refine TriL.c1 rfl (op_fal (ltb rfl) fo157_1_q rfl) ?_
  refine TriL.c1 rfl (op_ldl (ltb rfl) lk155_q rfl rfl rfl) ?_
  refine TriL.c1 rfl (op_mv (ltb rfl) rfl) ?_
  refine TriL.c1 rfl (op_iak (ltb rfl) ie155_q rfl rfl (Int.natCast_nonneg _) (ixm hi) rfl) ?_
  refine TriL.c1 rfl (op_fak (ltb rfl) fo96_1_q rfl) ?_
  refine TriL.c1 rfl (op_ldk (ltb rfl) lk3_q rfl rfl) ?_
  refine TriL.c1 rfl (op_mv (ltb rfl) rfl) ?_
  refine TriL.c1 rfl (op_bin (ltb rfl) rfl rfl rfl) ?_
  refine TriL.nil ?_
  refine Tri.cond rfl (fun hc2 => ?_) (fun hc2 => ?_)
  ·refine Tri.seq (Tri.region ?_)
   refine TriL.c1 rfl (op_mv (ltb rfl) rfl) ?_
   refine TriL.c1 rfl (op_as (ltb rfl) rfl) ?_
   refine TriL.nil (Tri.ret ?_)
   exact ⟨.inr rfl, (ResOK.r1 rfl (.tmp rfl .nil)).cast (congrArg (AV.int .i64) (by grind [Msg.at])), rfl⟩
  ·refine Tri.skip (Tri.region ?_)
   refine TriL.c1 rfl (op_mv (ltb rfl) rfl) ?_
   refine TriL.c1 rfl (op_bin (ltb rfl) rfl rfl rfl) ?_
   refine TriL.c1 rfl (op_as (ltb rfl) rfl) ?_
   refine TriL.kept (Kept.seti 5 rfl (inc (by omega)) (Kept.keep [.s 5, .h, .s 1, .s 2, .b 2] rfl (by decide) (Kept.now ?_)))
   exact ⟨i + 1, by omega, by grind, rfl⟩
 ·have hi := gem hc1
  have hS := ixFrom_end (p := (fun f : Fld => f.num == num)) hi
  refine Tri.exit (Tri.seq (Tri.region ?_))
  refine TriL.c1 rfl (op_as (ltb rfl) rfl) ?_
  refine TriL.nil (Tri.ret ?_)
  exact ⟨.inr rfl, (ResOK.r1 rfl (.tmp rfl .nil)).cast (congrArg (AV.int .i64) (by grind [Msg.at])), rfl⟩
theorem r_rright (r : Rw) : Pure Tryz.prog 117 [r.av] (.bool r.right) := by
 refine Pure.of_tri Tryz.func117 rfl rfl (ltb rfl) fun H => ?_
 refine Tri.seq (Tri.region ?_)
 refine TriL.c2 rfl (op_box (ltb rfl) rfl rfl rfl) ?_
 refine TriL.c1 rfl (op_as (ltb rfl) rfl) ?_
 refine TriL.nil (Tri.seq (Tri.seq (Tri.region ?_)))
 refine TriL.c1 rfl (op_fal (ltb rfl) fo126_0_q rfl) ?_
 refine TriL.c1 rfl (op_ldl (ltb rfl) lk3_q rfl rfl rfl) ?_
 refine TriL.c1 rfl (op_fal (ltb rfl) fo126_1_q rfl) ?_
 refine TriL.c1 rfl (op_ldl (ltb rfl) lk3_q rfl rfl rfl) ?_
 refine TriL.c1 rfl (op_call (ltb rfl) fn154_q rfl (r_tagOK _ _)) ?_
 refine TriL.c1 rfl (op_un (ltb rfl) rfl rfl) ?_
 refine TriL.nil ?_
 refine Tri.cond rfl (fun hc1 => ?_) (fun hc1 => ?_)
 ·refine Tri.seq (Tri.region ?_)
  refine TriL.c1 rfl (op_as (ltb rfl) rfl) ?_
  refine TriL.nil (Tri.ret ?_)
  exact ⟨.inr rfl, (ResOK.r1 rfl (.tmp rfl .nil)).cast (congrArg AV.bool (by grind [Rw.right])), rfl⟩
 ·refine Tri.skip (Tri.seq (Tri.seq (Tri.region ?_)))
  refine TriL.c1 rfl (op_fal (ltb rfl) fo126_1_q rfl) ?_
  refine TriL.c1 rfl (op_ldl (ltb rfl) lk3_q rfl rfl rfl) ?_
  refine TriL.c1 rfl (op_bin (ltb rfl) rfl rfl rfl) ?_
  refine TriL.nil ?_
  refine Tri.cond rfl (fun hc2 => ?_) (fun hc2 => ?_)
  ·refine Tri.seq (Tri.region ?_)
   refine TriL.c1 rfl (op_fal (ltb rfl) fo126_2_q rfl) ?_
   refine TriL.c1 rfl (op_ldl (ltb rfl) lk41_q rfl rfl rfl) ?_
   refine TriL.c1 rfl (op_bin (ltb rfl) rfl rfl rfl) ?_
   refine TriL.c1 rfl (op_as (ltb rfl) rfl) ?_
   refine TriL.nil (Tri.ret ?_)
   exact ⟨.inr rfl, (ResOK.r1 rfl (.tmp rfl .nil)).cast (congrArg AV.bool (by grind [Rw.right])), rfl⟩
  ·refine Tri.skip (Tri.seq (Tri.region ?_))
   refine TriL.c1 rfl (op_fal (ltb rfl) fo126_3_q rfl) ?_
   refine TriL.c1 rfl (op_ldl (ltb rfl) lk9_q rfl rfl rfl) ?_
   refine TriL.c1 rfl (op_bin (ltb rfl) rfl rfl rfl) ?_
   refine TriL.c1 rfl (op_mv (ltb rfl) rfl) ?_
   refine TriL.split (d := 18) rfl (fun hg3 => ?_) (fun hg3 => ?_)
   ·refine TriL.g1 rfl (ltb rfl) rfl hg3 (op_fal (ltb rfl) fo126_1_q rfl) ?_
    refine TriL.g1 rfl (ltb rfl) rfl hg3 (op_ldl (ltb rfl) lk3_q rfl rfl rfl) ?_
    refine TriL.g1 rfl (ltb rfl) rfl hg3 (op_bin (ltb rfl) rfl rfl rfl) ?_
    refine TriL.g1 rfl (ltb rfl) rfl hg3 (op_mv (ltb rfl) rfl) ?_
    refine TriL.split (d := 22) rfl (fun hg4 => ?_) (fun hg4 => ?_)
    ·iterate 3 (refine TriL.skipu rfl rfl (ltb rfl) (ltb rfl) rfl hg4 ?_)
     refine TriL.g1 rfl (ltb rfl) rfl hg3 (op_pickt (ltb rfl) rfl hg4 rfl) ?_
     refine TriL.c1 rfl (op_pickt (ltb rfl) rfl hg3 rfl) ?_
     refine TriL.c1 rfl (op_as (ltb rfl) rfl) ?_
     refine TriL.nil (Tri.ret ?_)
     exact ⟨.inr rfl, (ResOK.r1 rfl (.tmp rfl .nil)).cast (congrArg AV.bool (by grind [Rw.right])), rfl⟩
    ·refine TriL.g1 rfl (ltb rfl) rfl hg4 (op_fal (ltb rfl) fo126_2_q rfl) ?_
     refine TriL.g1 rfl (ltb rfl) rfl hg4 (op_ldl (ltb rfl) lk41_q rfl rfl rfl) ?_
     refine TriL.g1 rfl (ltb rfl) rfl hg4 (op_bin (ltb rfl) rfl rfl rfl) ?_
     refine TriL.g1 rfl (ltb rfl) rfl hg3 (op_pickf (ltb rfl) rfl hg4 rfl) ?_
     refine TriL.c1 rfl (op_pickt (ltb rfl) rfl hg3 rfl) ?_
     refine TriL.c1 rfl (op_as (ltb rfl) rfl) ?_
     refine TriL.nil (Tri.ret ?_)
     exact ⟨.inr rfl, (ResOK.r1 rfl (.tmp rfl .nil)).cast (congrArg AV.bool (by grind [Rw.right])), rfl⟩
   ·iterate 4 (refine TriL.skipu rfl rfl (ltb rfl) (ltb rfl) rfl hg3 ?_)
    iterate 3 (refine TriL.skipg rfl rfl (ltb rfl) (ltb rfl) rfl ?_)
    refine TriL.skipu rfl rfl (ltb rfl) (ltb rfl) rfl hg3 ?_
    refine TriL.c1 rfl (op_pickf (ltb rfl) rfl hg3 rfl) ?_
    refine TriL.c1 rfl (op_as (ltb rfl) rfl) ?_
    refine TriL.nil (Tri.ret ?_)
    exact ⟨.inr rfl, (ResOK.r1 rfl (.tmp rfl .nil)).cast (congrArg AV.bool (by grind [Rw.right])), rfl⟩
theorem p_tnum (n : Int) : Pure Tryz.prog 101 [.int .i64 n] (.bool (decide (1 ≤ n) && decide (n ≤ 536870911))) := by
 refine Pure.of_tri Tryz.func101 rfl rfl (ltb rfl) fun H => ?_
 refine Tri.seq (Tri.region ?_)
 refine TriL.c1 rfl (op_as (ltb rfl) rfl) ?_
 refine TriL.nil (Tri.seq (Tri.region ?_))
 refine TriL.c1 rfl (op_mv (ltb rfl) rfl) ?_
 refine TriL.c1 rfl (op_bin (ltb rfl) rfl rfl rfl) ?_
 refine TriL.c1 rfl (op_mv (ltb rfl) rfl) ?_
 refine TriL.split (d := 5) rfl (fun hg1 => ?_) (fun hg1 => ?_)
 ·refine TriL.g1 rfl (ltb rfl) rfl hg1 (op_mv (ltb rfl) rfl) ?_
  refine TriL.g1 rfl (ltb rfl) rfl hg1 (op_bin (ltb rfl) rfl rfl rfl) ?_
  refine TriL.c1 rfl (op_pickt (ltb rfl) rfl hg1 rfl) ?_
  refine TriL.c1 rfl (op_as (ltb rfl) rfl) ?_
  refine TriL.nil (Tri.ret ?_)
  exact ⟨.inr rfl, (ResOK.r1 rfl (.tmp rfl .nil)).cast (congrArg AV.bool (by grind [])), rfl⟩
 ·iterate 2 (refine TriL.skipu rfl rfl (ltb rfl) (ltb rfl) rfl hg1 ?_)
  refine TriL.c1 rfl (op_pickf (ltb rfl) rfl hg1 rfl) ?_
  refine TriL.c1 rfl (op_as (ltb rfl) rfl) ?_
  refine TriL.nil (Tri.ret ?_)
  exact ⟨.inr rfl, (ResOK.r1 rfl (.tmp rfl .nil)).cast (congrArg AV.bool (by grind [])), rfl⟩
theorem p_tagOK (n w : Int) : Pure Tryz.prog 207 [.int .i64 n, .int .i64 w] (.bool (tagOK n w)) := by
 refine Pure.of_tri Tryz.func207 rfl rfl (ltb rfl) fun H => ?_
 refine Tri.seq (Tri.region ?_)
 refine TriL.c1 rfl (op_as (ltb rfl) rfl) ?_
 refine TriL.nil (Tri.seq (Tri.region ?_))
 refine TriL.c1 rfl (op_as (ltb rfl) rfl) ?_
 refine TriL.nil (Tri.seq (Tri.seq (Tri.region ?_)))
 refine TriL.c1 rfl (op_mv (ltb rfl) rfl) ?_
 refine TriL.nil (Tri.blk (Tri.seq (Tri.blk (Tri.blk (Tri.blk (Tri.seq (Tri.seq (Tri.seq (Tri.seq (Tri.region ?_))))))))))
 refine TriL.c1 rfl (op_bin (ltb rfl) rfl rfl rfl) ?_
 refine TriL.c1 rfl (op_as (ltb rfl) rfl) ?_
 refine TriL.nil ?_
 refine Tri.cond rfl (fun hc1 => ?_) (fun hc1 => ?_)
 ·refine Tri.skip ?_
  refine Tri.condT rfl hc1 ?_
  refine Tri.exit (Tri.seq (Tri.region ?_))
  refine TriL.c1 rfl (op_as (ltb rfl) rfl) ?_
  refine TriL.nil (Tri.exit (Tri.seq (Tri.region ?_)))
  iterate 2 (refine TriL.c1 rfl (op_mv (ltb rfl) rfl) ?_)
  refine TriL.g1 rfl (ltb rfl) rfl rfl (op_mv (ltb rfl) rfl) ?_
  refine TriL.g1 rfl (ltb rfl) rfl rfl (op_call (ltb rfl) fn101_q rfl (p_tnum _)) ?_
  refine TriL.c1 rfl (op_pickt (ltb rfl) rfl rfl rfl) ?_
  refine TriL.c1 rfl (op_as (ltb rfl) rfl) ?_
  refine TriL.nil (Tri.ret ?_)
  exact ⟨.inr rfl, (ResOK.r1 rfl (.tmp rfl .nil)).cast (congrArg AV.bool (by grind [tagOK])), rfl⟩
 ·-- region 4 tag.go:20
  refine Tri.region ?_
  refine TriL.c1 rfl (op_bin (ltb rfl) rfl rfl rfl) ?_
  refine TriL.c1 rfl (op_as (ltb rfl) rfl) ?_
  refine TriL.nil ?_
  refine Tri.cond rfl (fun hc2 => ?_) (fun hc2 => ?_)
  ·refine Tri.exit (Tri.seq (Tri.region ?_))
   refine TriL.c1 rfl (op_as (ltb rfl) rfl) ?_
   refine TriL.nil (Tri.exit (Tri.seq (Tri.region ?_)))
   iterate 2 (refine TriL.c1 rfl (op_mv (ltb rfl) rfl) ?_)
   refine TriL.g1 rfl (ltb rfl) rfl rfl (op_mv (ltb rfl) rfl) ?_
   refine TriL.g1 rfl (ltb rfl) rfl rfl (op_call (ltb rfl) fn101_q rfl (p_tnum _)) ?_
   refine TriL.c1 rfl (op_pickt (ltb rfl) rfl rfl rfl) ?_
   refine TriL.c1 rfl (op_as (ltb rfl) rfl) ?_
   refine TriL.nil (Tri.ret ?_)
   exact ⟨.inr rfl, (ResOK.r1 rfl (.tmp rfl .nil)).cast (congrArg AV.bool (by grind [tagOK])), rfl⟩
  ·refine Tri.skip (Tri.seq (Tri.seq (Tri.region ?_)))
   refine TriL.c1 rfl (op_bin (ltb rfl) rfl rfl rfl) ?_
   refine TriL.c1 rfl (op_as (ltb rfl) rfl) ?_
   refine TriL.nil ?_
   refine Tri.cond rfl (fun hc3 => ?_) (fun hc3 => ?_)
   ·refine Tri.exit (Tri.seq (Tri.region ?_))
    refine TriL.c1 rfl (op_as (ltb rfl) rfl) ?_
    refine TriL.nil (Tri.exit (Tri.seq (Tri.region ?_)))
    iterate 2 (refine TriL.c1 rfl (op_mv (ltb rfl) rfl) ?_)
    refine TriL.g1 rfl (ltb rfl) rfl rfl (op_mv (ltb rfl) rfl) ?_
    refine TriL.g1 rfl (ltb rfl) rfl rfl (op_call (ltb rfl) fn101_q rfl (p_tnum _)) ?_
    refine TriL.c1 rfl (op_pickt (ltb rfl) rfl rfl rfl) ?_
    refine TriL.c1 rfl (op_as (ltb rfl) rfl) ?_
    refine TriL.nil (Tri.ret ?_)
    exact ⟨.inr rfl, (ResOK.r1 rfl (.tmp rfl .nil)).cast (congrArg AV.bool (by grind [tagOK])), rfl⟩
   ·refine Tri.skip (Tri.seq (Tri.region ?_))
    refine TriL.c1 rfl (op_bin (ltb rfl) rfl rfl rfl) ?_
    refine TriL.c1 rfl (op_as (ltb rfl) rfl) ?_
    refine TriL.nil ?_
    refine Tri.cond rfl (fun hc4 => ?_) (fun hc4 => ?_)
    ·refine Tri.exit (Tri.seq (Tri.region ?_))
     refine TriL.c1 rfl (op_as (ltb rfl) rfl) ?_
     refine TriL.nil (Tri.exit (Tri.seq (Tri.region ?_)))
     iterate 2 (refine TriL.c1 rfl (op_mv (ltb rfl) rfl) ?_)
     refine TriL.g1 rfl (ltb rfl) rfl rfl (op_mv (ltb rfl) rfl) ?_
     refine TriL.g1 rfl (ltb rfl) rfl rfl (op_call (ltb rfl) fn101_q rfl (p_tnum _)) ?_
     refine TriL.c1 rfl (op_pickt (ltb rfl) rfl rfl rfl) ?_
     refine TriL.c1 rfl (op_as (ltb rfl) rfl) ?_
     refine TriL.nil (Tri.ret ?_)
     exact ⟨.inr rfl, (ResOK.r1 rfl (.tmp rfl .nil)).cast (congrArg AV.bool (by grind [tagOK])), rfl⟩
    ·refine Tri.skip (Tri.exit (Tri.seq (Tri.region ?_)))
     iterate 2 (refine TriL.c1 rfl (op_mv (ltb rfl) rfl) ?_)
     iterate 2 (refine TriL.skipu rfl rfl (ltb rfl) (ltb rfl) rfl rfl ?_)
     refine TriL.c1 rfl (op_pickf (ltb rfl) rfl rfl rfl) ?_
     refine TriL.c1 rfl (op_as (ltb rfl) rfl) ?_
     refine TriL.nil (Tri.ret ?_)
     exact ⟨.inr rfl, (ResOK.r1 rfl (.tmp rfl .nil)).cast (congrArg AV.bool (by grind [tagOK])), rfl⟩
theorem p_rright (r : Rw) : Pure Tryz.prog 183 [r.av] (.bool r.right) := by
 have h2 : ((((r.n / 2 ^ (min ((32 : Int)).toNat IntKind.u64.bits) : Nat) : Int)) == 0) = decide (r.n < 4294967296) := (by rw [show 2 ^ (min ((32 : Int)).toNat IntKind.u64.bits) = 4294967296 by decide, Bool.eq_iff_iff]; simp; omega)
 refine Pure.of_tri Tryz.func183 rfl rfl (ltb rfl) fun H => ?_
 refine Tri.seq (Tri.region ?_)
 refine TriL.c2 rfl (op_box (ltb rfl) rfl rfl rfl) ?_
 refine TriL.c1 rfl (op_as (ltb rfl) rfl) ?_
 refine TriL.nil (Tri.seq (Tri.blk (Tri.seq (Tri.region ?_))))
 refine TriL.c1 rfl (op_fal (ltb rfl) fo126_0_q rfl) ?_
 refine TriL.c1 rfl (op_ldl (ltb rfl) lk3_q rfl rfl rfl) ?_
 refine TriL.c1 rfl (op_fal (ltb rfl) fo126_1_q rfl) ?_
 refine TriL.c1 rfl (op_ldl (ltb rfl) lk3_q rfl rfl rfl) ?_
 refine TriL.c1 rfl (op_call (ltb rfl) fn207_q rfl (p_tagOK _ _)) ?_
 refine TriL.c1 rfl (op_un (ltb rfl) rfl rfl) ?_
 refine TriL.c1 rfl (op_as (ltb rfl) rfl) ?_
 refine TriL.nil ?_
 refine Tri.cond rfl (fun hc1 => ?_) (fun hc1 => ?_)
 ·refine Tri.seq (Tri.region ?_)
  refine TriL.c1 rfl (op_as (ltb rfl) rfl) ?_
  refine TriL.nil (Tri.ret ?_)
  exact ⟨.inr rfl, (ResOK.r1 rfl (.tmp rfl .nil)).cast (congrArg AV.bool (by grind [Rw.right])), rfl⟩
 ·refine Tri.seq (Tri.region ?_)
  refine TriL.c1 rfl (op_fal (ltb rfl) fo126_1_q rfl) ?_
  refine TriL.c1 rfl (op_ldl (ltb rfl) lk3_q rfl rfl rfl) ?_
  refine TriL.c1 rfl (op_bin (ltb rfl) rfl rfl rfl) ?_
  refine TriL.c1 rfl (op_as (ltb rfl) rfl) ?_
  refine TriL.nil ?_
  refine Tri.cond rfl (fun hc2 => ?_) (fun hc2 => ?_)
  ·refine Tri.seq (Tri.region ?_)
   refine TriL.c1 rfl (op_fal (ltb rfl) fo126_2_q rfl) ?_
   refine TriL.c1 rfl (op_ldl (ltb rfl) lk41_q rfl rfl rfl) ?_
   refine TriL.c1 rfl (op_bin (ltb rfl) rfl rfl rfl) ?_
   refine TriL.c1 rfl (op_as (ltb rfl) rfl) ?_
   refine TriL.nil (Tri.ret ?_)
   exact ⟨.inr rfl, (ResOK.r1 rfl (.tmp rfl .nil)).cast (congrArg AV.bool (by grind [Rw.right])), rfl⟩
  ·refine Tri.seq (Tri.region ?_)
   refine TriL.c1 rfl (op_fal (ltb rfl) fo126_1_q rfl) ?_
   refine TriL.c1 rfl (op_ldl (ltb rfl) lk3_q rfl rfl rfl) ?_
   refine TriL.c1 rfl (op_bin (ltb rfl) rfl rfl rfl) ?_
   refine TriL.c1 rfl (op_mv (ltb rfl) rfl) ?_
   refine TriL.split (d := 21) rfl (fun hg3 => ?_) (fun hg3 => ?_)
   ·refine TriL.g1 rfl (ltb rfl) rfl hg3 (op_fal (ltb rfl) fo126_2_q rfl) ?_
    refine TriL.g1 rfl (ltb rfl) rfl hg3 (op_ldl (ltb rfl) lk41_q rfl rfl rfl) ?_
    refine TriL.g1 rfl (ltb rfl) rfl hg3 (op_shr (ltb rfl) rfl rfl (by decide)) ?_
    refine TriL.g1 rfl (ltb rfl) rfl hg3 (op_bin (ltb rfl) rfl rfl rfl) ?_
    refine TriL.c1 rfl (op_pickt (ltb rfl) rfl hg3 rfl) ?_
    refine TriL.c1 rfl (op_as (ltb rfl) rfl) ?_
    refine TriL.nil ?_
    refine Tri.cond rfl (fun hc4 => ?_) (fun hc4 => ?_)
    ·refine Tri.seq (Tri.region ?_)
     refine TriL.c1 rfl (op_as (ltb rfl) rfl) ?_
     refine TriL.nil (Tri.ret ?_)
     exact ⟨.inr rfl, (ResOK.r1 rfl (.tmp rfl .nil)).cast (congrArg AV.bool (by grind [Rw.right])), rfl⟩
    ·refine Tri.skip (Tri.seq (Tri.region ?_))
     refine TriL.c1 rfl (op_fal (ltb rfl) fo126_3_q rfl) ?_
     refine TriL.c1 rfl (op_ldl (ltb rfl) lk9_q rfl rfl rfl) ?_
     refine TriL.c1 rfl (op_bin (ltb rfl) rfl rfl rfl) ?_
     refine TriL.c1 rfl (op_as (ltb rfl) rfl) ?_
     refine TriL.nil (Tri.ret ?_)
     exact ⟨.inr rfl, (ResOK.r1 rfl (.tmp rfl .nil)).cast (congrArg AV.bool (by grind [Rw.right])), rfl⟩
   ·iterate 4 (refine TriL.skipu rfl rfl (ltb rfl) (ltb rfl) rfl hg3 ?_)
    refine TriL.c1 rfl (op_pickf (ltb rfl) rfl hg3 rfl) ?_
    refine TriL.c1 rfl (op_as (ltb rfl) rfl) ?_
    refine TriL.nil ?_
    refine Tri.condF rfl rfl ?_
    refine Tri.skip (Tri.seq (Tri.region ?_))
    refine TriL.c1 rfl (op_fal (ltb rfl) fo126_3_q rfl) ?_
    refine TriL.c1 rfl (op_ldl (ltb rfl) lk9_q rfl rfl rfl) ?_
    refine TriL.c1 rfl (op_bin (ltb rfl) rfl rfl rfl) ?_
    refine TriL.c1 rfl (op_as (ltb rfl) rfl) ?_
    refine TriL.nil (Tri.ret ?_)
    exact ⟨.inr rfl, (ResOK.r1 rfl (.tmp rfl .nil)).cast (congrArg AV.bool (by grind [Rw.right])), rfl⟩
theorem p_ixfM (l : List Msg) (hl : l.length ≤ 9223372036854775807) (F : FuncId) (caps : List AV) (p : Msg → Bool) (hF : isFn Tryz.prog F = true) (hp : ∀ x ∈ l, Pure Tryz.prog F ([x.av] ++ caps) (.bool (p x))) : Pure Tryz.prog 178 [.sl (l.map Msg.av), .fn F caps] (.int .i64 (ixFrom p l 0)) := by
 refine Pure.of_tri Tryz.func178 rfl rfl (ltb rfl) fun H => ?_
 refine Tri.seq (Tri.region ?_)
 refine TriL.c1 rfl (op_as (ltb rfl) rfl) ?_
 refine TriL.nil (Tri.seq (Tri.seq (Tri.region ?_)))
 refine TriL.c1 rfl (op_mv (ltb rfl) rfl) ?_
 refine TriL.c1 rfl (op_lenl (ltb rfl) un92_q rfl) ?_
 refine TriL.c1 rfl (op_mv (ltb rfl) rfl) ?_
 refine TriL.nil (Tri.blk ?_)
 refine Tri.ofKept (Kept.keep [.s 8, .h, .s 0, .s 1, .s 7] rfl (by decide) (Kept.now ?_))
 -- LOOP 1
 refine Tri.loopk (fun (i : Nat) => [(.s 8, .sv (.v (.int .i64 (i : Int))))]) _ (fun (i : Nat) => ixFrom p (l.drop i) i = ixFrom p l 0) (fun (i : Nat) => l.length - i) 0 rfl (by simp) ?_
 rintro i hI
 refine Tri.seq (Tri.region ?_)
 refine TriL.c1 rfl (op_bin (ltb rfl) rfl rfl rfl) ?_
 refine TriL.nil (Tri.seq ?_)
 refine Tri.cond rfl (fun hc1 => ?_) (fun hc1 => ?_)
 ·have hi := ltm hc1
  have hS := ixFrom_step (p := p) hi
  refine Tri.skip (Tri.seq (Tri.blk (Tri.seq (Tri.region ?_))))
  refine TriL.c1 rfl (op_mv (ltb rfl) rfl) ?_
  refine TriL.c1 rfl (op_as (ltb rfl) rfl) ?_
  refine TriL.nil (Tri.seq (Tri.region ?_))
  iterate 3 (refine TriL.c1 rfl (op_mv (ltb rfl) rfl) ?_)
  refine TriL.c1 rfl (op_iak (ltb rfl) ie92_q rfl rfl (Int.natCast_nonneg _) (ixm hi) rfl) ?_
  refine TriL.c1 rfl (op_ldk (ltb rfl) lk157_q rfl rfl) ?_
  refine TriL.c1 rfl (op_callc (ltb rfl) hF rfl rfl (hp _ (List.getElem_mem hi))) ?_
  refine TriL.nil ?_
  refine Tri.cond rfl (fun hc2 => ?_) (fun hc2 => ?_)
  ·refine Tri.seq (Tri.region ?_)
   refine TriL.c1 rfl (op_mv (ltb rfl) rfl) ?_
   refine TriL.c1 rfl (op_as (ltb rfl) rfl) ?_
   refine TriL.nil (Tri.ret ?_)
   exact ⟨.inr rfl, (ResOK.r1 rfl (.tmp rfl .nil)).cast (congrArg (AV.int .i64) (by grind [])), rfl⟩
  ·refine Tri.skip (Tri.region ?_)
   refine TriL.c1 rfl (op_bin (ltb rfl) rfl rfl rfl) ?_
   refine TriL.c1 rfl (op_mv (ltb rfl) rfl) ?_
   refine TriL.kept (Kept.seti 8 rfl (inc (by omega)) (Kept.keep [.s 8, .h, .s 0, .s 1, .s 7] rfl (by decide) (Kept.now ?_)))
   exact ⟨i + 1, by omega, by grind, rfl⟩
 ·have hi := gem hc1
  have hS := ixFrom_end (p := p) hi
  refine Tri.exit (Tri.seq (Tri.region ?_))
  refine TriL.c1 rfl (op_as (ltb rfl) rfl) ?_
  refine TriL.nil (Tri.ret ?_)
  exact ⟨.inr rfl, (ResOK.r1 rfl (.tmp rfl .nil)).cast (congrArg (AV.int .i64) (by grind [])), rfl⟩
theorem p_ixfF (l : List Fld) (hl : l.length ≤ 9223372036854775807) (F : FuncId) (caps : List AV) (p : Fld → Bool) (hF : isFn Tryz.prog F = true) (hp : ∀ x ∈ l, Pure Tryz.prog F ([x.av] ++ caps) (.bool (p x))) : Pure Tryz.prog 204 [.sl (l.map Fld.av), .fn F caps] (.int .i64 (ixFrom p l 0)) := by
 refine Pure.of_tri Tryz.func204 rfl rfl (ltb rfl) fun H => ?_
 refine Tri.seq (Tri.region ?_)
 refine TriL.c1 rfl (op_as (ltb rfl) rfl) ?_
 refine TriL.nil (Tri.seq (Tri.seq (Tri.region ?_)))
 refine TriL.c1 rfl (op_mv (ltb rfl) rfl) ?_
 refine TriL.c1 rfl (op_lenl (ltb rfl) un155_q rfl) ?_
 refine TriL.c1 rfl (op_mv (ltb rfl) rfl) ?_
 refine TriL.nil (Tri.blk ?_)
 refine Tri.ofKept (Kept.keep [.s 8, .h, .s 0, .s 1, .s 7] rfl (by decide) (Kept.now ?_))
 -- LOOP 1
 refine Tri.loopk (fun (i : Nat) => [(.s 8, .sv (.v (.int .i64 (i : Int))))]) _ (fun (i : Nat) => ixFrom p (l.drop i) i = ixFrom p l 0) (fun (i : Nat) => l.length - i) 0 rfl (by simp) ?_
 rintro i hI
 refine Tri.seq (Tri.region ?_)
 refine TriL.c1 rfl (op_bin (ltb rfl) rfl rfl rfl) ?_
 refine TriL.nil (Tri.seq ?_)
 refine Tri.cond rfl (fun hc1 => ?_) (fun hc1 => ?_)
 ·have hi := ltm hc1
  have hS := ixFrom_step (p := p) hi
  refine Tri.skip (Tri.seq (Tri.blk (Tri.seq (Tri.region ?_))))
  refine TriL.c1 rfl (op_mv (ltb rfl) rfl) ?_
  refine TriL.c1 rfl (op_as (ltb rfl) rfl) ?_
  refine TriL.nil (Tri.seq (Tri.region ?_))
  iterate 3 (refine TriL.c1 rfl (op_mv (ltb rfl) rfl) ?_)
  refine TriL.c1 rfl (op_iak (ltb rfl) ie155_q rfl rfl (Int.natCast_nonneg _) (ixm hi) rfl) ?_
  refine TriL.c1 rfl (op_ldk (ltb rfl) lk96_q rfl rfl) ?_
  refine TriL.c1 rfl (op_callc (ltb rfl) hF rfl rfl (hp _ (List.getElem_mem hi))) ?_
  refine TriL.nil ?_
  refine Tri.cond rfl (fun hc2 => ?_) (fun hc2 => ?_)
  ·refine Tri.seq (Tri.region ?_)
   refine TriL.c1 rfl (op_mv (ltb rfl) rfl) ?_
   refine TriL.c1 rfl (op_as (ltb rfl) rfl) ?_
   refine TriL.nil (Tri.ret ?_)
   exact ⟨.inr rfl, (ResOK.r1 rfl (.tmp rfl .nil)).cast (congrArg (AV.int .i64) (by grind [])), rfl⟩
  ·refine Tri.skip (Tri.region ?_)
   refine TriL.c1 rfl (op_bin (ltb rfl) rfl rfl rfl) ?_
   refine TriL.c1 rfl (op_mv (ltb rfl) rfl) ?_
   refine TriL.kept (Kept.seti 8 rfl (inc (by omega)) (Kept.keep [.s 8, .h, .s 0, .s 1, .s 7] rfl (by decide) (Kept.now ?_)))
   exact ⟨i + 1, by omega, by grind, rfl⟩
 ·have hi := gem hc1
  have hS := ixFrom_end (p := p) hi
  refine Tri.exit (Tri.seq (Tri.region ?_))
  refine TriL.c1 rfl (op_as (ltb rfl) rfl) ?_
  refine TriL.nil (Tri.ret ?_)
  exact ⟨.inr rfl, (ResOK.r1 rfl (.tmp rfl .nil)).cast (congrArg (AV.int .i64) (by grind [])), rfl⟩
theorem p_fm1 (m : Msg) (name : Str) : Pure Tryz.prog 179 ([m.av] ++ [.kp [.str name]]) (.bool (m.name == name)) := by
 refine Pure.of_tri Tryz.func179 rfl rfl (ltb rfl) fun H => ?_
 refine Tri.seq (Tri.region ?_)
 refine TriL.c2 rfl (op_box (ltb rfl) rfl rfl rfl) ?_
 refine TriL.c1 rfl (op_as (ltb rfl) rfl) ?_
 refine TriL.nil (Tri.seq (Tri.region ?_))
 refine TriL.c1 rfl (op_fal (ltb rfl) fo157_0_q rfl) ?_
 refine TriL.c1 rfl (op_ldl (ltb rfl) lk9_q rfl rfl rfl) ?_
 refine TriL.c1 rfl (op_ldk (ltb rfl) lk9_q rfl rfl) ?_
 refine TriL.c1 rfl (op_bin (ltb rfl) rfl rfl rfl) ?_
 refine TriL.c1 rfl (op_as (ltb rfl) rfl) ?_
 refine TriL.nil (Tri.ret ?_)
 exact ⟨.inr rfl, (ResOK.r1 rfl (.tmp rfl .nil)).cast rfl, rfl⟩
theorem p_fn1 (f : Fld) (num : Int) : Pure Tryz.prog 205 ([f.av] ++ [.kp [.int .i64 num]]) (.bool (f.num == num)) := by
 refine Pure.of_tri Tryz.func205 rfl rfl (ltb rfl) fun H => ?_
 refine Tri.seq (Tri.region ?_)
 refine TriL.c2 rfl (op_box (ltb rfl) rfl rfl rfl) ?_
 refine TriL.c1 rfl (op_as (ltb rfl) rfl) ?_
 refine TriL.nil (Tri.seq (Tri.region ?_))
 refine TriL.c1 rfl (op_fal (ltb rfl) fo96_1_q rfl) ?_
 refine TriL.c1 rfl (op_ldl (ltb rfl) lk3_q rfl rfl rfl) ?_
 refine TriL.c1 rfl (op_ldk (ltb rfl) lk3_q rfl rfl) ?_
 refine TriL.c1 rfl (op_bin (ltb rfl) rfl rfl rfl) ?_
 refine TriL.c1 rfl (op_as (ltb rfl) rfl) ?_
 refine TriL.nil (Tri.ret ?_)
 exact ⟨.inr rfl, (ResOK.r1 rfl (.tmp rfl .nil)).cast rfl, rfl⟩
theorem p_msgIx (s : Sch) (name : Str) (hl : s.msgs.length ≤ 9223372036854775807) : Pure Tryz.prog 150 [s.av, .str name] (.int .i64 (s.msgIx name)) := by
 refine Pure.of_tri Tryz.func150 rfl rfl (ltb rfl) fun H => ?_
 refine Tri.seq (Tri.region ?_)
 iterate 2 (refine TriL.c2 rfl (op_box (ltb rfl) rfl rfl rfl) ?_)
 refine TriL.c1 rfl (op_as (ltb rfl) rfl) ?_
 refine TriL.nil (Tri.seq ?_)
 refine Tri.ofKept (Kept.fzb 3 rfl rfl (Kept.now ?_))
 refine Tri.region ?_
 refine TriL.c1 rfl (op_fal (ltb rfl) fo94_1_q rfl) ?_
 refine TriL.c1 rfl (op_ldl (ltb rfl) lk92_q rfl rfl rfl) ?_
 refine TriL.c1 rfl (op_mkf (ltb rfl) rfl) ?_
 refine TriL.c1 rfl (op_call (ltb rfl) fn178_q rfl (p_ixfM s.msgs hl _ _ (fun m => m.name == name) fn179_q (fun x _ => p_fm1 x name))) ?_
 refine TriL.c1 rfl (op_as (ltb rfl) rfl) ?_
 refine TriL.nil (Tri.ret ?_)
 exact ⟨.inr rfl, (ResOK.r1 rfl (.tmp rfl .nil)).cast rfl, rfl⟩
theorem p_number (m : Msg) (num : Int) (hl : m.fields.length ≤ 1000) : Pure Tryz.prog 180 [m.av, .int .i64 num] (.int .i64 (m.at num)) := by
 refine Pure.of_tri Tryz.func180 rfl rfl (ltb rfl) fun H => ?_
 refine Tri.seq (Tri.region ?_)
 iterate 2 (refine TriL.c2 rfl (op_box (ltb rfl) rfl rfl rfl) ?_)
 refine TriL.c1 rfl (op_as (ltb rfl) rfl) ?_
 refine TriL.nil (Tri.seq ?_)
 refine Tri.ofKept (Kept.fzb 3 rfl rfl (Kept.now ?_))
 refine Tri.region ?_
 refine TriL.c1 rfl (op_fal (ltb rfl) fo157_1_q rfl) ?_
 refine TriL.c1 rfl (op_ldl (ltb rfl) lk155_q rfl rfl rfl) ?_
 refine TriL.c1 rfl (op_mkf (ltb rfl) rfl) ?_
 refine TriL.c1 rfl (op_call (ltb rfl) fn204_q rfl (p_ixfF m.fields (by omega) _ _ (fun f => f.num == num) fn205_q (fun x _ => p_fn1 x num))) ?_
 refine TriL.c1 rfl (op_as (ltb rfl) rfl) ?_
 refine TriL.nil (Tri.ret ?_)
 exact ⟨.inr rfl, (ResOK.r1 rfl (.tmp rfl .nil)).cast rfl, rfl⟩
end Go.Proofs.YtabihkfhoohfnaaGreatDoor.X
