/- unicode/utf8.ValidString: the library's contract laid at this program. No condition. -/
import Derived.Test.YtabihkfhoohfnaaGreatDoorZBD
import Derived.Shelf.Unicode.ValidAny
namespace Go.Proofs
open Go.Shelf
def Tryz.laysVS_ren : Go.Shelf.Ren := ⟨fun | 196 => 75 | 259 => 113 | n => n, fun | 0 => 0 | 3 => 3 | 4 => 4 | 5 => 5 | 9 => 9 | 12 => 12 | 46 => 153 | 53 => 41 | 119 => 149 | 138 => 151 | 139 => 152 | n => n, fun | 3 => 0 | 4 => 1 | n => n⟩
theorem Tryz.laysVS : Go.Proofs.Lays.n196 Tryz.prog Tryz.laysVS_ren := {
 mixed := by kernel_rfl
 f196 := Tryz.func75.trans (congrArg some (by kernel_rfl))
 f259 := Tryz.func113.trans (congrArg some (by kernel_rfl))
 t0 := Tryz.underlying0
 a0 := Tryz.isAgg0
 z0 := Tryz.sizeOf0
 v0 := Tryz.zeroValue0
 t3 := Tryz.underlying3
 a3 := Tryz.isAgg3
 z3 := Tryz.sizeOf3
 v3 := Tryz.zeroValue3
 t4 := Tryz.underlying4
 a4 := Tryz.isAgg4
 z4 := Tryz.sizeOf4
 v4 := Tryz.zeroValue4
 t5 := Tryz.underlying5
 a5 := Tryz.isAgg5
 z5 := Tryz.sizeOf5
 v5 := Tryz.zeroValue5
 t9 := Tryz.underlying9
 a9 := Tryz.isAgg9
 z9 := Tryz.sizeOf9
 v9 := Tryz.zeroValue9
 t12 := Tryz.underlying12
 a12 := Tryz.isAgg12
 z12 := Tryz.sizeOf12
 v12 := Tryz.zeroValue12
 t46 := Tryz.underlying153
 a46 := Tryz.isAgg153
 z46 := Tryz.sizeOf153
 v46 := Tryz.zeroValue153
 t53 := Tryz.underlying41
 a53 := Tryz.isAgg41
 z53 := Tryz.sizeOf41
 v53 := Tryz.zeroValue41
 t119 := Tryz.underlying149
 a119 := Tryz.isAgg149
 z119 := Tryz.sizeOf149
 t138 := Tryz.underlying151
 a138 := Tryz.isAgg151
 z138 := Tryz.sizeOf151
 v138 := Tryz.zeroValue151
 t139 := Tryz.underlying152
 a139 := Tryz.isAgg152
 z139 := Tryz.sizeOf152
 v139 := Tryz.zeroValue152
 g3 := by kernel_rfl
 g4 := by kernel_rfl }
end Go.Proofs
namespace Go.Proofs.YtabihkfhoohfnaaGreatDoor.X
open Go Go.RowKit Go.Proofs
theorem p_validS (s : Str) (hs : s.length ≤ 9223372036854775807) : Pure Tryz.prog 75 [.str s] (.bool (Lib.validD s)) :=
 Pure.of_calls fun G w cargs hg hn hk hV => by
  obtain ⟨x, rfl, hx⟩ := hV.one
  have e := hx.str_eq
  subst e
  refine (Any.utf8_ValidString Tryz.laysVS ⟨s.toArray⟩ w (by simpa [ByteArray.size] using hs) (gokUtf hg)).mono ?_
  rintro e w' ⟨rfl, hb⟩
  exact ⟨_, rfl, .bool _, hb⟩
set_option linter.unusedVariables false
set_option linter.unusedSimpArgs false
set_option linter.unusedSectionVars false
set_option maxRecDepth 100000
/- the document: names, numbers, types, fields. -/
theorem r_wholeT (n : Int) : Pure Tryz.prog 37 [.int .i64 n] (.bool (wholeT n)) := by
 refine Pure.of_tri Tryz.func37 rfl rfl (ltb rfl) fun H => ?_
 refine Tri.seq (Tri.region ?_)
 refine TriL.c1 rfl (op_as (ltb rfl) rfl) ?_
 refine TriL.nil (Tri.seq (Tri.region ?_))
 refine TriL.c1 rfl (op_mv (ltb rfl) rfl) ?_
 refine TriL.c1 rfl (op_bin (ltb rfl) rfl rfl rfl) ?_
 refine TriL.c1 rfl (op_mv (ltb rfl) rfl) ?_
 refine TriL.split (d := 5) rfl (fun hg1 => ?_) (fun hg1 => ?_)
 ·refine TriL.g1 rfl (ltb rfl) rfl hg1 (op_mv (ltb rfl) rfl) ?_
  refine TriL.g1 rfl (ltb rfl) rfl hg1 (op_bin (ltb rfl) rfl rfl rfl) ?_
  refine TriL.c1 rfl (op_pickt (ltb rfl) rfl hg1 rfl) ?_
  refine TriL.c1 rfl (op_mv (ltb rfl) rfl) ?_
  refine TriL.split (d := 9) rfl (fun hg2 => ?_) (fun hg2 => ?_)
  ·iterate 3 (refine TriL.skipu rfl rfl (ltb rfl) (ltb rfl) rfl hg2 ?_)
   iterate 2 (refine TriL.skipg rfl rfl (ltb rfl) (ltb rfl) rfl ?_)
   refine TriL.skipu rfl rfl (ltb rfl) (ltb rfl) rfl hg2 ?_
   refine TriL.c1 rfl (op_pickt (ltb rfl) rfl hg2 rfl) ?_
   refine TriL.c1 rfl (op_as (ltb rfl) rfl) ?_
   refine TriL.nil (Tri.ret ?_)
   exact ⟨.inr rfl, (ResOK.r1 rfl (.tmp rfl .nil)).cast (congrArg AV.bool (by grind [wholeT])), rfl⟩
  ·refine TriL.g1 rfl (ltb rfl) rfl hg2 (op_mv (ltb rfl) rfl) ?_
   refine TriL.g1 rfl (ltb rfl) rfl hg2 (op_bin (ltb rfl) rfl rfl rfl) ?_
   refine TriL.g1 rfl (ltb rfl) rfl hg2 (op_mv (ltb rfl) rfl) ?_
   refine TriL.split (d := 12) rfl (fun hg3 => ?_) (fun hg3 => ?_)
   ·refine TriL.g1 rfl (ltb rfl) rfl hg3 (op_mv (ltb rfl) rfl) ?_
    refine TriL.g1 rfl (ltb rfl) rfl hg3 (op_bin (ltb rfl) rfl rfl rfl) ?_
    refine TriL.g1 rfl (ltb rfl) rfl hg2 (op_pickt (ltb rfl) rfl hg3 rfl) ?_
    refine TriL.c1 rfl (op_pickf (ltb rfl) rfl hg2 rfl) ?_
    refine TriL.c1 rfl (op_as (ltb rfl) rfl) ?_
    refine TriL.nil (Tri.ret ?_)
    exact ⟨.inr rfl, (ResOK.r1 rfl (.tmp rfl .nil)).cast (congrArg AV.bool (by grind [wholeT])), rfl⟩
   ·iterate 2 (refine TriL.skipu rfl rfl (ltb rfl) (ltb rfl) rfl hg3 ?_)
    refine TriL.g1 rfl (ltb rfl) rfl hg2 (op_pickf (ltb rfl) rfl hg3 rfl) ?_
    refine TriL.c1 rfl (op_pickf (ltb rfl) rfl hg2 rfl) ?_
    refine TriL.c1 rfl (op_as (ltb rfl) rfl) ?_
    refine TriL.nil (Tri.ret ?_)
    exact ⟨.inr rfl, (ResOK.r1 rfl (.tmp rfl .nil)).cast (congrArg AV.bool (by grind [wholeT])), rfl⟩
 ·iterate 2 (refine TriL.skipu rfl rfl (ltb rfl) (ltb rfl) rfl hg1 ?_)
  refine TriL.c1 rfl (op_pickf (ltb rfl) rfl hg1 rfl) ?_
  refine TriL.c1 rfl (op_mv (ltb rfl) rfl) ?_
  refine TriL.g1 rfl (ltb rfl) rfl rfl (op_mv (ltb rfl) rfl) ?_
  refine TriL.g1 rfl (ltb rfl) rfl rfl (op_bin (ltb rfl) rfl rfl rfl) ?_
  refine TriL.g1 rfl (ltb rfl) rfl rfl (op_mv (ltb rfl) rfl) ?_
  refine TriL.split (d := 12) rfl (fun hg4 => ?_) (fun hg4 => ?_)
  ·refine TriL.g1 rfl (ltb rfl) rfl hg4 (op_mv (ltb rfl) rfl) ?_
   refine TriL.g1 rfl (ltb rfl) rfl hg4 (op_bin (ltb rfl) rfl rfl rfl) ?_
   refine TriL.g1 rfl (ltb rfl) rfl rfl (op_pickt (ltb rfl) rfl hg4 rfl) ?_
   refine TriL.c1 rfl (op_pickf (ltb rfl) rfl rfl rfl) ?_
   refine TriL.c1 rfl (op_as (ltb rfl) rfl) ?_
   refine TriL.nil (Tri.ret ?_)
   exact ⟨.inr rfl, (ResOK.r1 rfl (.tmp rfl .nil)).cast (congrArg AV.bool (by grind [wholeT])), rfl⟩
  ·iterate 2 (refine TriL.skipu rfl rfl (ltb rfl) (ltb rfl) rfl hg4 ?_)
   refine TriL.g1 rfl (ltb rfl) rfl rfl (op_pickf (ltb rfl) rfl hg4 rfl) ?_
   refine TriL.c1 rfl (op_pickf (ltb rfl) rfl rfl rfl) ?_
   refine TriL.c1 rfl (op_as (ltb rfl) rfl) ?_
   refine TriL.nil (Tri.ret ?_)
   exact ⟨.inr rfl, (ResOK.r1 rfl (.tmp rfl .nil)).cast (congrArg AV.bool (by grind [wholeT])), rfl⟩
theorem r_signT (n : Int) : Pure Tryz.prog 111 [.int .i64 n] (.bool (signT n)) := by
 refine Pure.of_tri Tryz.func111 rfl rfl (ltb rfl) fun H => ?_
 refine Tri.seq (Tri.region ?_)
 refine TriL.c1 rfl (op_as (ltb rfl) rfl) ?_
 refine TriL.nil (Tri.seq (Tri.region ?_))
 refine TriL.c1 rfl (op_mv (ltb rfl) rfl) ?_
 refine TriL.c1 rfl (op_bin (ltb rfl) rfl rfl rfl) ?_
 refine TriL.c1 rfl (op_mv (ltb rfl) rfl) ?_
 refine TriL.split (d := 5) rfl (fun hg1 => ?_) (fun hg1 => ?_)
 ·iterate 2 (refine TriL.skipu rfl rfl (ltb rfl) (ltb rfl) rfl hg1 ?_)
  refine TriL.c1 rfl (op_pickt (ltb rfl) rfl hg1 rfl) ?_
  refine TriL.c1 rfl (op_mv (ltb rfl) rfl) ?_
  iterate 2 (refine TriL.skipu rfl rfl (ltb rfl) (ltb rfl) rfl rfl ?_)
  refine TriL.c1 rfl (op_pickt (ltb rfl) rfl rfl rfl) ?_
  refine TriL.c1 rfl (op_mv (ltb rfl) rfl) ?_
  iterate 2 (refine TriL.skipu rfl rfl (ltb rfl) (ltb rfl) rfl rfl ?_)
  refine TriL.c1 rfl (op_pickt (ltb rfl) rfl rfl rfl) ?_
  refine TriL.c1 rfl (op_mv (ltb rfl) rfl) ?_
  iterate 2 (refine TriL.skipu rfl rfl (ltb rfl) (ltb rfl) rfl rfl ?_)
  refine TriL.c1 rfl (op_pickt (ltb rfl) rfl rfl rfl) ?_
  refine TriL.c1 rfl (op_mv (ltb rfl) rfl) ?_
  iterate 2 (refine TriL.skipu rfl rfl (ltb rfl) (ltb rfl) rfl rfl ?_)
  refine TriL.c1 rfl (op_pickt (ltb rfl) rfl rfl rfl) ?_
  refine TriL.c1 rfl (op_mv (ltb rfl) rfl) ?_
  iterate 2 (refine TriL.skipu rfl rfl (ltb rfl) (ltb rfl) rfl rfl ?_)
  refine TriL.c1 rfl (op_pickt (ltb rfl) rfl rfl rfl) ?_
  refine TriL.c1 rfl (op_as (ltb rfl) rfl) ?_
  refine TriL.nil (Tri.ret ?_)
  exact ⟨.inr rfl, (ResOK.r1 rfl (.tmp rfl .nil)).cast (congrArg AV.bool (by grind [signT])), rfl⟩
 ·refine TriL.g1 rfl (ltb rfl) rfl hg1 (op_mv (ltb rfl) rfl) ?_
  refine TriL.g1 rfl (ltb rfl) rfl hg1 (op_bin (ltb rfl) rfl rfl rfl) ?_
  refine TriL.c1 rfl (op_pickf (ltb rfl) rfl hg1 rfl) ?_
  refine TriL.c1 rfl (op_mv (ltb rfl) rfl) ?_
  refine TriL.split (d := 9) rfl (fun hg2 => ?_) (fun hg2 => ?_)
  ·iterate 2 (refine TriL.skipu rfl rfl (ltb rfl) (ltb rfl) rfl hg2 ?_)
   refine TriL.c1 rfl (op_pickt (ltb rfl) rfl hg2 rfl) ?_
   refine TriL.c1 rfl (op_mv (ltb rfl) rfl) ?_
   iterate 2 (refine TriL.skipu rfl rfl (ltb rfl) (ltb rfl) rfl rfl ?_)
   refine TriL.c1 rfl (op_pickt (ltb rfl) rfl rfl rfl) ?_
   refine TriL.c1 rfl (op_mv (ltb rfl) rfl) ?_
   iterate 2 (refine TriL.skipu rfl rfl (ltb rfl) (ltb rfl) rfl rfl ?_)
   refine TriL.c1 rfl (op_pickt (ltb rfl) rfl rfl rfl) ?_
   refine TriL.c1 rfl (op_mv (ltb rfl) rfl) ?_
   iterate 2 (refine TriL.skipu rfl rfl (ltb rfl) (ltb rfl) rfl rfl ?_)
   refine TriL.c1 rfl (op_pickt (ltb rfl) rfl rfl rfl) ?_
   refine TriL.c1 rfl (op_mv (ltb rfl) rfl) ?_
   iterate 2 (refine TriL.skipu rfl rfl (ltb rfl) (ltb rfl) rfl rfl ?_)
   refine TriL.c1 rfl (op_pickt (ltb rfl) rfl rfl rfl) ?_
   refine TriL.c1 rfl (op_as (ltb rfl) rfl) ?_
   refine TriL.nil (Tri.ret ?_)
   exact ⟨.inr rfl, (ResOK.r1 rfl (.tmp rfl .nil)).cast (congrArg AV.bool (by grind [signT])), rfl⟩
  ·refine TriL.g1 rfl (ltb rfl) rfl hg2 (op_mv (ltb rfl) rfl) ?_
   refine TriL.g1 rfl (ltb rfl) rfl hg2 (op_bin (ltb rfl) rfl rfl rfl) ?_
   refine TriL.c1 rfl (op_pickf (ltb rfl) rfl hg2 rfl) ?_
   refine TriL.c1 rfl (op_mv (ltb rfl) rfl) ?_
   refine TriL.split (d := 13) rfl (fun hg3 => ?_) (fun hg3 => ?_)
   ·iterate 2 (refine TriL.skipu rfl rfl (ltb rfl) (ltb rfl) rfl hg3 ?_)
    refine TriL.c1 rfl (op_pickt (ltb rfl) rfl hg3 rfl) ?_
    refine TriL.c1 rfl (op_mv (ltb rfl) rfl) ?_
    iterate 2 (refine TriL.skipu rfl rfl (ltb rfl) (ltb rfl) rfl rfl ?_)
    refine TriL.c1 rfl (op_pickt (ltb rfl) rfl rfl rfl) ?_
    refine TriL.c1 rfl (op_mv (ltb rfl) rfl) ?_
    iterate 2 (refine TriL.skipu rfl rfl (ltb rfl) (ltb rfl) rfl rfl ?_)
    refine TriL.c1 rfl (op_pickt (ltb rfl) rfl rfl rfl) ?_
    refine TriL.c1 rfl (op_mv (ltb rfl) rfl) ?_
    iterate 2 (refine TriL.skipu rfl rfl (ltb rfl) (ltb rfl) rfl rfl ?_)
    refine TriL.c1 rfl (op_pickt (ltb rfl) rfl rfl rfl) ?_
    refine TriL.c1 rfl (op_as (ltb rfl) rfl) ?_
    refine TriL.nil (Tri.ret ?_)
    exact ⟨.inr rfl, (ResOK.r1 rfl (.tmp rfl .nil)).cast (congrArg AV.bool (by grind [signT])), rfl⟩
   ·refine TriL.g1 rfl (ltb rfl) rfl hg3 (op_mv (ltb rfl) rfl) ?_
    refine TriL.g1 rfl (ltb rfl) rfl hg3 (op_bin (ltb rfl) rfl rfl rfl) ?_
    refine TriL.c1 rfl (op_pickf (ltb rfl) rfl hg3 rfl) ?_
    refine TriL.c1 rfl (op_mv (ltb rfl) rfl) ?_
    refine TriL.split (d := 17) rfl (fun hg4 => ?_) (fun hg4 => ?_)
    ·iterate 2 (refine TriL.skipu rfl rfl (ltb rfl) (ltb rfl) rfl hg4 ?_)
     refine TriL.c1 rfl (op_pickt (ltb rfl) rfl hg4 rfl) ?_
     refine TriL.c1 rfl (op_mv (ltb rfl) rfl) ?_
     iterate 2 (refine TriL.skipu rfl rfl (ltb rfl) (ltb rfl) rfl rfl ?_)
     refine TriL.c1 rfl (op_pickt (ltb rfl) rfl rfl rfl) ?_
     refine TriL.c1 rfl (op_mv (ltb rfl) rfl) ?_
     iterate 2 (refine TriL.skipu rfl rfl (ltb rfl) (ltb rfl) rfl rfl ?_)
     refine TriL.c1 rfl (op_pickt (ltb rfl) rfl rfl rfl) ?_
     refine TriL.c1 rfl (op_as (ltb rfl) rfl) ?_
     refine TriL.nil (Tri.ret ?_)
     exact ⟨.inr rfl, (ResOK.r1 rfl (.tmp rfl .nil)).cast (congrArg AV.bool (by grind [signT])), rfl⟩
    ·refine TriL.g1 rfl (ltb rfl) rfl hg4 (op_mv (ltb rfl) rfl) ?_
     refine TriL.g1 rfl (ltb rfl) rfl hg4 (op_bin (ltb rfl) rfl rfl rfl) ?_
     refine TriL.c1 rfl (op_pickf (ltb rfl) rfl hg4 rfl) ?_
     refine TriL.c1 rfl (op_mv (ltb rfl) rfl) ?_
     refine TriL.split (d := 21) rfl (fun hg5 => ?_) (fun hg5 => ?_)
     ·iterate 2 (refine TriL.skipu rfl rfl (ltb rfl) (ltb rfl) rfl hg5 ?_)
      refine TriL.c1 rfl (op_pickt (ltb rfl) rfl hg5 rfl) ?_
      refine TriL.c1 rfl (op_mv (ltb rfl) rfl) ?_
      iterate 2 (refine TriL.skipu rfl rfl (ltb rfl) (ltb rfl) rfl rfl ?_)
      refine TriL.c1 rfl (op_pickt (ltb rfl) rfl rfl rfl) ?_
      refine TriL.c1 rfl (op_as (ltb rfl) rfl) ?_
      refine TriL.nil (Tri.ret ?_)
      exact ⟨.inr rfl, (ResOK.r1 rfl (.tmp rfl .nil)).cast (congrArg AV.bool (by grind [signT])), rfl⟩
     ·refine TriL.g1 rfl (ltb rfl) rfl hg5 (op_mv (ltb rfl) rfl) ?_
      refine TriL.g1 rfl (ltb rfl) rfl hg5 (op_bin (ltb rfl) rfl rfl rfl) ?_
      refine TriL.c1 rfl (op_pickf (ltb rfl) rfl hg5 rfl) ?_
      refine TriL.c1 rfl (op_mv (ltb rfl) rfl) ?_
      refine TriL.split (d := 25) rfl (fun hg6 => ?_) (fun hg6 => ?_)
      ·iterate 2 (refine TriL.skipu rfl rfl (ltb rfl) (ltb rfl) rfl hg6 ?_)
       refine TriL.c1 rfl (op_pickt (ltb rfl) rfl hg6 rfl) ?_
       refine TriL.c1 rfl (op_as (ltb rfl) rfl) ?_
       refine TriL.nil (Tri.ret ?_)
       exact ⟨.inr rfl, (ResOK.r1 rfl (.tmp rfl .nil)).cast (congrArg AV.bool (by grind [signT])), rfl⟩
      ·refine TriL.g1 rfl (ltb rfl) rfl hg6 (op_mv (ltb rfl) rfl) ?_
       refine TriL.g1 rfl (ltb rfl) rfl hg6 (op_bin (ltb rfl) rfl rfl rfl) ?_
       refine TriL.c1 rfl (op_pickf (ltb rfl) rfl hg6 rfl) ?_
       refine TriL.c1 rfl (op_as (ltb rfl) rfl) ?_
       refine TriL.nil (Tri.ret ?_)
       exact ⟨.inr rfl, (ResOK.r1 rfl (.tmp rfl .nil)).cast (congrArg AV.bool (by grind [signT])), rfl⟩
theorem r_wideT (n : Int) : Pure Tryz.prog 110 [.int .i64 n] (.bool (wideT n)) := by
 refine Pure.of_tri Tryz.func110 rfl rfl (ltb rfl) fun H => ?_
 refine Tri.seq (Tri.region ?_)
 refine TriL.c1 rfl (op_as (ltb rfl) rfl) ?_
 refine TriL.nil (Tri.seq (Tri.region ?_))
 refine TriL.c1 rfl (op_mv (ltb rfl) rfl) ?_
 refine TriL.c1 rfl (op_bin (ltb rfl) rfl rfl rfl) ?_
 refine TriL.c1 rfl (op_mv (ltb rfl) rfl) ?_
 refine TriL.split (d := 5) rfl (fun hg1 => ?_) (fun hg1 => ?_)
 ·iterate 2 (refine TriL.skipu rfl rfl (ltb rfl) (ltb rfl) rfl hg1 ?_)
  refine TriL.c1 rfl (op_pickt (ltb rfl) rfl hg1 rfl) ?_
  refine TriL.c1 rfl (op_mv (ltb rfl) rfl) ?_
  iterate 2 (refine TriL.skipu rfl rfl (ltb rfl) (ltb rfl) rfl rfl ?_)
  refine TriL.c1 rfl (op_pickt (ltb rfl) rfl rfl rfl) ?_
  refine TriL.c1 rfl (op_mv (ltb rfl) rfl) ?_
  iterate 2 (refine TriL.skipu rfl rfl (ltb rfl) (ltb rfl) rfl rfl ?_)
  refine TriL.c1 rfl (op_pickt (ltb rfl) rfl rfl rfl) ?_
  refine TriL.c1 rfl (op_mv (ltb rfl) rfl) ?_
  iterate 2 (refine TriL.skipu rfl rfl (ltb rfl) (ltb rfl) rfl rfl ?_)
  refine TriL.c1 rfl (op_pickt (ltb rfl) rfl rfl rfl) ?_
  refine TriL.c1 rfl (op_as (ltb rfl) rfl) ?_
  refine TriL.nil (Tri.ret ?_)
  exact ⟨.inr rfl, (ResOK.r1 rfl (.tmp rfl .nil)).cast (congrArg AV.bool (by grind [wideT])), rfl⟩
 ·refine TriL.g1 rfl (ltb rfl) rfl hg1 (op_mv (ltb rfl) rfl) ?_
  refine TriL.g1 rfl (ltb rfl) rfl hg1 (op_bin (ltb rfl) rfl rfl rfl) ?_
  refine TriL.c1 rfl (op_pickf (ltb rfl) rfl hg1 rfl) ?_
  refine TriL.c1 rfl (op_mv (ltb rfl) rfl) ?_
  refine TriL.split (d := 9) rfl (fun hg2 => ?_) (fun hg2 => ?_)
  ·iterate 2 (refine TriL.skipu rfl rfl (ltb rfl) (ltb rfl) rfl hg2 ?_)
   refine TriL.c1 rfl (op_pickt (ltb rfl) rfl hg2 rfl) ?_
   refine TriL.c1 rfl (op_mv (ltb rfl) rfl) ?_
   iterate 2 (refine TriL.skipu rfl rfl (ltb rfl) (ltb rfl) rfl rfl ?_)
   refine TriL.c1 rfl (op_pickt (ltb rfl) rfl rfl rfl) ?_
   refine TriL.c1 rfl (op_mv (ltb rfl) rfl) ?_
   iterate 2 (refine TriL.skipu rfl rfl (ltb rfl) (ltb rfl) rfl rfl ?_)
   refine TriL.c1 rfl (op_pickt (ltb rfl) rfl rfl rfl) ?_
   refine TriL.c1 rfl (op_as (ltb rfl) rfl) ?_
   refine TriL.nil (Tri.ret ?_)
   exact ⟨.inr rfl, (ResOK.r1 rfl (.tmp rfl .nil)).cast (congrArg AV.bool (by grind [wideT])), rfl⟩
  ·refine TriL.g1 rfl (ltb rfl) rfl hg2 (op_mv (ltb rfl) rfl) ?_
   refine TriL.g1 rfl (ltb rfl) rfl hg2 (op_bin (ltb rfl) rfl rfl rfl) ?_
   refine TriL.c1 rfl (op_pickf (ltb rfl) rfl hg2 rfl) ?_
   refine TriL.c1 rfl (op_mv (ltb rfl) rfl) ?_
   refine TriL.split (d := 13) rfl (fun hg3 => ?_) (fun hg3 => ?_)
   ·iterate 2 (refine TriL.skipu rfl rfl (ltb rfl) (ltb rfl) rfl hg3 ?_)
    refine TriL.c1 rfl (op_pickt (ltb rfl) rfl hg3 rfl) ?_
    refine TriL.c1 rfl (op_mv (ltb rfl) rfl) ?_
    iterate 2 (refine TriL.skipu rfl rfl (ltb rfl) (ltb rfl) rfl rfl ?_)
    refine TriL.c1 rfl (op_pickt (ltb rfl) rfl rfl rfl) ?_
    refine TriL.c1 rfl (op_as (ltb rfl) rfl) ?_
    refine TriL.nil (Tri.ret ?_)
    exact ⟨.inr rfl, (ResOK.r1 rfl (.tmp rfl .nil)).cast (congrArg AV.bool (by grind [wideT])), rfl⟩
   ·refine TriL.g1 rfl (ltb rfl) rfl hg3 (op_mv (ltb rfl) rfl) ?_
    refine TriL.g1 rfl (ltb rfl) rfl hg3 (op_bin (ltb rfl) rfl rfl rfl) ?_
    refine TriL.c1 rfl (op_pickf (ltb rfl) rfl hg3 rfl) ?_
    refine TriL.c1 rfl (op_mv (ltb rfl) rfl) ?_
    refine TriL.split (d := 17) rfl (fun hg4 => ?_) (fun hg4 => ?_)
    ·iterate 2 (refine TriL.skipu rfl rfl (ltb rfl) (ltb rfl) rfl hg4 ?_)
     refine TriL.c1 rfl (op_pickt (ltb rfl) rfl hg4 rfl) ?_
     refine TriL.c1 rfl (op_as (ltb rfl) rfl) ?_
     refine TriL.nil (Tri.ret ?_)
     exact ⟨.inr rfl, (ResOK.r1 rfl (.tmp rfl .nil)).cast (congrArg AV.bool (by grind [wideT])), rfl⟩
    ·refine TriL.g1 rfl (ltb rfl) rfl hg4 (op_mv (ltb rfl) rfl) ?_
     refine TriL.g1 rfl (ltb rfl) rfl hg4 (op_bin (ltb rfl) rfl rfl rfl) ?_
     refine TriL.c1 rfl (op_pickf (ltb rfl) rfl hg4 rfl) ?_
     refine TriL.c1 rfl (op_as (ltb rfl) rfl) ?_
     refine TriL.nil (Tri.ret ?_)
     exact ⟨.inr rfl, (ResOK.r1 rfl (.tmp rfl .nil)).cast (congrArg AV.bool (by grind [wideT])), rfl⟩
/- the document: names, lists, fields. -/
/- the document: what is asked of a schema. -/
/- the document: names that stand twice, order, what is asked of a schema. -/
/- the document: a schema checked; values: how great, the same, how deep. -/
set_option maxHeartbeats 400000
/- the document: values: the same, how deep. -/
theorem fn41_q : isFn Tryz.prog 41 = true := by kernel_rfl
theorem fo44_0_q : fo Tryz.prog 44 0 = some 0 := by kernel_rfl
theorem fo44_1_q : fo Tryz.prog 44 1 = some 1 := by kernel_rfl
theorem fo44_2_q : fo Tryz.prog 44 2 = some 2 := by kernel_rfl
theorem ie42_q : ie Tryz.prog 42 = some 2 := by kernel_rfl
theorem ie52_q : ie Tryz.prog 52 = some 3 := by kernel_rfl
theorem lk41_q : lk Tryz.prog 41 = some (false, 1) := by kernel_rfl
theorem lk42_q : lk Tryz.prog 42 = some (false, 1) := by kernel_rfl
theorem lk59_q : lk Tryz.prog 59 = some (true, 2) := by kernel_rfl
theorem lk9_q : lk Tryz.prog 9 = some (false, 1) := by kernel_rfl
theorem un42_q : Tryz.prog.underlying 42 = some (TypeDesc.slice 59) := Tryz.underlying42
theorem un52_q : Tryz.prog.underlying 52 = some (TypeDesc.slice 44) := Tryz.underlying52
theorem eqGuardRw : Tryz.prog.eqGuardType Tryz.prog.depth 126 = false := by kernel_rfl
theorem neqRw_run (a b : Rw) (w : World) : (binOp .neq 126 (.agg #[.int .i64 a.num, .int .i64 a.wire, .int .u64 (a.n : Int), .string ⟨a.s.toArray⟩]) (.agg #[.int .i64 b.num, .int .i64 b.wire, .int .u64 (b.n : Int), .string ⟨b.s.toArray⟩])).run Tryz.prog w = .ok (.bool (!decide (a = b))) w := by
 obtain ⟨a0, a1, a2, a3⟩ := a
 obtain ⟨b0, b1, b2, b3⟩ := b
 go_simp
 by_cases h0 : a0 = b0
 ·by_cases h1 : a1 = b1
  ·by_cases h2 : a2 = b2
   ·by_cases h3 : a3 = b3
    ·simp [h0, h1, h2, h3, Int.natCast_inj]
    ·simp [h0, h1, h2, h3, Int.natCast_inj]
   ·simp [h0, h1, h2, Int.natCast_inj]
  ·simp [h0, h1, Int.natCast_inj]
 ·simp [h0, Int.natCast_inj]
theorem Rw_val {G : Gh} {v : Value} {t : Rw} (h : V G v (.agg t.cells)) : v = (.agg #[.int .i64 t.num, .int .i64 t.wire, .int .u64 (t.n : Int), .string ⟨t.s.toArray⟩]) := by
 unfold Rw.cells at h
 cases h with
 | agg vs cs hl hf hv =>
  obtain ⟨l⟩ := vs
  match l, hl with
  | [x0, x1, x2, x3], _ =>
   have h0 : V G x0 (.int .i64 t.num) := hv 0 _ rfl
   cases h0
   have h1 : V G x1 (.int .i64 t.wire) := hv 1 _ rfl
   cases h1
   have h2 : V G x2 (.int .u64 (t.n : Int)) := hv 2 _ rfl
   cases h2
   have h3 : V G x3 (.str t.s) := hv 3 _ rfl
   cases h3
   rfl
theorem op_nes126 {N : Nat} {s : St} {d : Nat} {ty : TypeId} {pos : String} {af : Array Edge} {g : Option (Nat × Bool)} {t2 : TypeId} {x y : Operand} {u v : AV} (a b : Rw) (hN : d < N) (hx : opv x s = some u) (hy : opv y s = some v) (hu : u = .agg a.cells) (hv : v = .agg b.cells) :
  OpOK Tryz.prog N ⟨some d, .binOp .neq 126 x y t2, ty, pos, af, g⟩ s (rd x ++ rd y) [(.s d, .sv (.v (.bool (!decide (a = b)))))] := by
 subst hu hv
 exact OpOK.val rfl hN fun E G L c w tt hr hR => by
  refine ⟨.bool (!decide (a = b)), ?_, .bool _⟩
  have h1 := Rw_val (opv_sound hr hR.left hx)
  have h2 := Rw_val (opv_sound hr hR.right hy)
  have hgd := run_eqGuard_agg (P := Tryz.prog) w .neq 126 x y #[.int .i64 a.num, .int .i64 a.wire, .int .u64 (a.n : Int), .string ⟨a.s.toArray⟩] #[.int .i64 b.num, .int .i64 b.wire, .int .u64 (b.n : Int), .string ⟨b.s.toArray⟩] eqGuardRw
  simp only [execOp, Sem.run_bind, h1, h2, hgd, Result.andThen_ok, neqRw_run, Sem.run_pure]
theorem r_samevals1 (a b : List Val) (ha : a.length ≤ 9223372036854775807) (hm : ∀ v ∈ a, v.m.length ≤ 9223372036854775807) (ih : ∀ v ∈ a, ∀ u ∈ v.m, ∀ w : Tree, Pure Tryz.prog 41 [.agg u.cells, .agg w.cells] (.bool (eqb u w))) : Pure Tryz.prog 20 [.sl (a.map Val.av), .sl (b.map Val.av)] (.bool (eqb a b)) := by
 refine Pure.of_tri Tryz.func20 rfl rfl (ltb rfl) fun H => ?_
 refine Tri.seq (Tri.region ?_)
 refine TriL.c1 rfl (op_as (ltb rfl) rfl) ?_
 refine TriL.nil ?_
 refine Tri.joinu [.h, .s 0, .s 1] (fun (_ : Unit) => []) (fun (_ : Unit) => a.length = b.length) rfl ?_ ?_
 ·refine Tri.seq (Tri.region ?_)
  refine TriL.c1 rfl (op_mv (ltb rfl) rfl) ?_
  refine TriL.c1 rfl (op_lenl (ltb rfl) un52_q rfl) ?_
  refine TriL.c1 rfl (op_mv (ltb rfl) rfl) ?_
  refine TriL.c1 rfl (op_lenl (ltb rfl) un52_q rfl) ?_
  refine TriL.c1 rfl (op_bin (ltb rfl) rfl rfl rfl) ?_
  refine TriL.nil ?_
  refine Tri.cond rfl (fun hc1 => ?_) (fun hc1 => ?_)
  ·refine Tri.seq (Tri.region ?_)
   refine TriL.c1 rfl (op_as (ltb rfl) rfl) ?_
   refine TriL.nil (Tri.ret ?_)
   exact ⟨.inr rfl, (ResOK.r1 rfl (.tmp rfl .nil)).cast (congrArg AV.bool (by have hE := @eqb_true _ a b; have hF := @eqb_false _ a b; grind [eqb_true, eqb_false])), rfl⟩
  ·refine Tri.ofKept (Kept.keep [.h, .s 0, .s 1] rfl (by decide) (Kept.now ?_))
   refine Tri.skip ?_
   exact ⟨(), by have h : (!((a.map Val.av).length : Int) == ((b.map Val.av).length : Int)) = false := hc1; simp at h; omega, rfl⟩
 ·rintro _ hF3
  refine Tri.seq (Tri.seq (Tri.region ?_))
  refine TriL.c1 rfl (op_as (ltb rfl) rfl) ?_
  refine TriL.nil (Tri.blk ?_)
  refine Tri.ofKept (Kept.keep [.s 5, .h, .s 0, .s 1] rfl (by decide) (Kept.now ?_))
  -- LOOP 1
  refine Tri.loopk (fun (i : Nat) => [(.s 5, .sv (.v (.int .i64 (i : Int))))]) _ (fun (i : Nat) => a.take i = b.take i) (fun (i : Nat) => a.length - i) 0 rfl rfl ?_
  rintro i hI
  refine Tri.seq (Tri.seq (Tri.region ?_))
  iterate 2 (refine TriL.c1 rfl (op_mv (ltb rfl) rfl) ?_)
  refine TriL.c1 rfl (op_lenl (ltb rfl) un52_q rfl) ?_
  refine TriL.c1 rfl (op_bin (ltb rfl) rfl rfl rfl) ?_
  refine TriL.nil ?_
  refine Tri.cond rfl (fun hc2 => ?_) (fun hc2 => ?_)
  ·have hi := ltm hc2
   have hN := @ne_at _ a b i hi (by omega)
   have hm1 := hm _ (List.getElem_mem hi)
   refine Tri.skip (Tri.seq (Tri.blk ?_))
   refine Tri.joinu [.h, .s 0, .s 1, .s 5] (fun (_ : Unit) => []) (fun (_ : Unit) => (a[i]'hi).n = (b[i]'(by omega)).n ∧ (a[i]'hi).s = (b[i]'(by omega)).s ∧ (a[i]'hi).m.length = (b[i]'(by omega)).m.length) rfl ?_ ?_
   ·refine Tri.seq ?_
    refine Tri.drawn mixed rfl ?_
    iterate 2 (refine TriD.c1 rfl (op_mv (ltb rfl) rfl) ?_)
    refine TriD.c1 rfl (op_iak (ltb rfl) ie52_q rfl rfl (Int.natCast_nonneg _) (ixmE Val.av_eq (by omega)) rfl) ?_
    refine TriD.c1 rfl (op_fak (ltb rfl) fo44_0_q rfl) ?_
    refine TriD.c1 rfl (op_ldk (ltb rfl) lk41_q rfl rfl) ?_
    iterate 2 (refine TriD.c1 rfl (op_mv (ltb rfl) rfl) ?_)
    refine TriD.c1 rfl (op_iak (ltb rfl) ie52_q rfl rfl (Int.natCast_nonneg _) (ixmE Val.av_eq (by omega)) rfl) ?_
    refine TriD.c1 rfl (op_fak (ltb rfl) fo44_0_q rfl) ?_
    refine TriD.c1 rfl (op_ldk (ltb rfl) lk41_q rfl rfl) ?_
    refine TriD.c1 rfl (op_bin (ltb rfl) rfl rfl rfl) ?_
    refine TriD.c1 rfl (op_mv (ltb rfl) rfl) ?_
    refine TriD.split (d := 29) rfl (fun hg3 => ?_) (fun hg3 => ?_)
    ·iterate 11 (refine TriD.skipu rfl rfl (ltb rfl) (ltb rfl) rfl hg3 ?_)
     refine TriD.c1 rfl (op_pickt (ltb rfl) rfl hg3 rfl) ?_
     refine TriD.c1 rfl (op_mv (ltb rfl) rfl) ?_
     iterate 13 (refine TriD.skipu rfl rfl (ltb rfl) (ltb rfl) rfl rfl ?_)
     refine TriD.c1 rfl (op_pickt (ltb rfl) rfl rfl rfl) ?_
     refine TriD.nil (by kernel_rfl) (Kept.now ?_)
     refine Tri.condT rfl rfl ?_
     refine Tri.seq (Tri.region ?_)
     refine TriL.c1 rfl (op_as (ltb rfl) rfl) ?_
     refine TriL.nil (Tri.ret ?_)
     exact ⟨.inr rfl, (ResOK.r1 rfl (.tmp rfl .nil)).cast (congrArg AV.bool (by have hE := @eqb_true _ a b; have hF := @eqb_false _ a b; grind [eqb_true, eqb_false])), rfl⟩
    ·iterate 2 (refine TriD.g1 rfl (ltb rfl) rfl hg3 (op_mv (ltb rfl) rfl) ?_)
     refine TriD.g1 rfl (ltb rfl) rfl hg3 (op_iak (ltb rfl) ie52_q rfl rfl (Int.natCast_nonneg _) (ixmE Val.av_eq (by omega)) rfl) ?_
     refine TriD.g1 rfl (ltb rfl) rfl hg3 (op_fak (ltb rfl) fo44_1_q rfl) ?_
     refine TriD.g1 rfl (ltb rfl) rfl hg3 (op_ldk (ltb rfl) lk9_q rfl rfl) ?_
     iterate 2 (refine TriD.g1 rfl (ltb rfl) rfl hg3 (op_mv (ltb rfl) rfl) ?_)
     refine TriD.g1 rfl (ltb rfl) rfl hg3 (op_iak (ltb rfl) ie52_q rfl rfl (Int.natCast_nonneg _) (ixmE Val.av_eq (by omega)) rfl) ?_
     refine TriD.g1 rfl (ltb rfl) rfl hg3 (op_fak (ltb rfl) fo44_1_q rfl) ?_
     refine TriD.g1 rfl (ltb rfl) rfl hg3 (op_ldk (ltb rfl) lk9_q rfl rfl) ?_
     refine TriD.g1 rfl (ltb rfl) rfl hg3 (op_bin (ltb rfl) rfl rfl rfl) ?_
     refine TriD.c1 rfl (op_pickf (ltb rfl) rfl hg3 rfl) ?_
     refine TriD.c1 rfl (op_mv (ltb rfl) rfl) ?_
     refine TriD.split (d := 42) rfl (fun hg4 => ?_) (fun hg4 => ?_)
     ·iterate 13 (refine TriD.skipu rfl rfl (ltb rfl) (ltb rfl) rfl hg4 ?_)
      refine TriD.c1 rfl (op_pickt (ltb rfl) rfl hg4 rfl) ?_
      refine TriD.nil (by kernel_rfl) (Kept.now ?_)
      refine Tri.condT rfl rfl ?_
      refine Tri.seq (Tri.region ?_)
      refine TriL.c1 rfl (op_as (ltb rfl) rfl) ?_
      refine TriL.nil (Tri.ret ?_)
      exact ⟨.inr rfl, (ResOK.r1 rfl (.tmp rfl .nil)).cast (congrArg AV.bool (by have hE := @eqb_true _ a b; have hF := @eqb_false _ a b; grind [eqb_true, eqb_false])), rfl⟩
     ·iterate 2 (refine TriD.g1 rfl (ltb rfl) rfl hg4 (op_mv (ltb rfl) rfl) ?_)
      refine TriD.g1 rfl (ltb rfl) rfl hg4 (op_iak (ltb rfl) ie52_q rfl rfl (Int.natCast_nonneg _) (ixmE Val.av_eq (by omega)) rfl) ?_
      refine TriD.g1 rfl (ltb rfl) rfl hg4 (op_fak (ltb rfl) fo44_2_q rfl) ?_
      refine TriD.g1 rfl (ltb rfl) rfl hg4 (op_ldk (ltb rfl) lk42_q rfl rfl) ?_
      refine TriD.g1 rfl (ltb rfl) rfl hg4 (op_lenl (ltb rfl) un42_q rfl) ?_
      iterate 2 (refine TriD.g1 rfl (ltb rfl) rfl hg4 (op_mv (ltb rfl) rfl) ?_)
      refine TriD.g1 rfl (ltb rfl) rfl hg4 (op_iak (ltb rfl) ie52_q rfl rfl (Int.natCast_nonneg _) (ixmE Val.av_eq (by omega)) rfl) ?_
      refine TriD.g1 rfl (ltb rfl) rfl hg4 (op_fak (ltb rfl) fo44_2_q rfl) ?_
      refine TriD.g1 rfl (ltb rfl) rfl hg4 (op_ldk (ltb rfl) lk42_q rfl rfl) ?_
      refine TriD.g1 rfl (ltb rfl) rfl hg4 (op_lenl (ltb rfl) un42_q rfl) ?_
      refine TriD.g1 rfl (ltb rfl) rfl hg4 (op_bin (ltb rfl) rfl rfl rfl) ?_
      refine TriD.c1 rfl (op_pickf (ltb rfl) rfl hg4 rfl) ?_
      refine TriD.nil (by kernel_rfl) (Kept.now ?_)
      refine Tri.cond rfl (fun hc5 => ?_) (fun hc5 => ?_)
      ·refine Tri.seq (Tri.region ?_)
       refine TriL.c1 rfl (op_as (ltb rfl) rfl) ?_
       refine TriL.nil (Tri.ret ?_)
       exact ⟨.inr rfl, (ResOK.r1 rfl (.tmp rfl .nil)).cast (congrArg AV.bool (by have hE := @eqb_true _ a b; have hF := @eqb_false _ a b; grind [eqb_true, eqb_false])), rfl⟩
      ·refine Tri.ofKept (Kept.keep [.h, .s 0, .s 1, .s 5] rfl (by decide) (Kept.now ?_))
       refine Tri.skip ?_
       exact ⟨(), by grind, rfl⟩
   ·rintro _ hF8
    refine Tri.seq (Tri.region ?_)
    refine TriL.c1 rfl (op_as (ltb rfl) rfl) ?_
    refine TriL.nil (Tri.blk ?_)
    refine Tri.ofKept (Kept.keep [.s 6, .h, .s 0, .s 1, .s 5] rfl (by decide) (Kept.now ?_))
    -- LOOP 2
    refine Tri.loopk (fun (l : Nat) => [(.s 6, .sv (.v (.int .i64 (l : Int))))]) _ (fun (l : Nat) => (a[i]'hi).m.take l = (b[i]'(by omega)).m.take l) (fun (l : Nat) => (a[i]'hi).m.length - l) 0 rfl rfl ?_
    rintro l hL
    refine Tri.seq (Tri.seq (Tri.region ?_))
    iterate 3 (refine TriL.c1 rfl (op_mv (ltb rfl) rfl) ?_)
    refine TriL.c1 rfl (op_iak (ltb rfl) ie52_q rfl rfl (Int.natCast_nonneg _) (ixmE Val.av_eq (by omega)) rfl) ?_
    refine TriL.c1 rfl (op_fak (ltb rfl) fo44_2_q rfl) ?_
    refine TriL.c1 rfl (op_ldk (ltb rfl) lk42_q rfl rfl) ?_
    refine TriL.c1 rfl (op_lenl (ltb rfl) un42_q rfl) ?_
    refine TriL.c1 rfl (op_bin (ltb rfl) rfl rfl rfl) ?_
    refine TriL.nil ?_
    refine Tri.cond rfl (fun hc6 => ?_) (fun hc6 => ?_)
    ·have hl := ltm hc6
     have hM := @ne_at _ (a[i]'hi).m (b[i]'(by omega)).m l hl (by omega)
     refine Tri.skip (Tri.seq (Tri.blk (Tri.seq ?_)))
     refine Tri.drawn mixed rfl ?_
     iterate 2 (refine TriD.c1 rfl (op_mv (ltb rfl) rfl) ?_)
     refine TriD.c1 rfl (op_iak (ltb rfl) ie52_q rfl rfl (Int.natCast_nonneg _) (ixmE Val.av_eq (by omega)) rfl) ?_
     refine TriD.c1 rfl (op_fak (ltb rfl) fo44_2_q rfl) ?_
     refine TriD.c1 rfl (op_ldk (ltb rfl) lk42_q rfl rfl) ?_
     refine TriD.c1 rfl (op_mv (ltb rfl) rfl) ?_
     refine TriD.c1 rfl (op_iak (ltb rfl) ie42_q rfl rfl (Int.natCast_nonneg _) (ixmE Tree.av_eq (by omega)) rfl) ?_
     refine TriD.c1 rfl (op_ldk (ltb rfl) lk59_q rfl rfl) ?_
     iterate 2 (refine TriD.c1 rfl (op_mv (ltb rfl) rfl) ?_)
     refine TriD.c1 rfl (op_iak (ltb rfl) ie52_q rfl rfl (Int.natCast_nonneg _) (ixmE Val.av_eq (by omega)) rfl) ?_
     refine TriD.c1 rfl (op_fak (ltb rfl) fo44_2_q rfl) ?_
     refine TriD.c1 rfl (op_ldk (ltb rfl) lk42_q rfl rfl) ?_
     refine TriD.c1 rfl (op_mv (ltb rfl) rfl) ?_
     refine TriD.c1 rfl (op_iak (ltb rfl) ie42_q rfl rfl (Int.natCast_nonneg _) (ixmE Tree.av_eq (by omega)) rfl) ?_
     refine TriD.c1 rfl (op_ldk (ltb rfl) lk59_q rfl rfl) ?_
     refine TriD.c1 rfl (op_call (ltb rfl) fn41_q rfl (ih _ (List.getElem_mem hi) _ (List.getElem_mem hl) _)) ?_
     refine TriD.c1 rfl (op_un (ltb rfl) rfl rfl) ?_
     refine TriD.nil (by kernel_rfl) (Kept.now ?_)
     refine Tri.cond rfl (fun hc7 => ?_) (fun hc7 => ?_)
     ·refine Tri.seq (Tri.region ?_)
      refine TriL.c1 rfl (op_as (ltb rfl) rfl) ?_
      refine TriL.nil (Tri.ret ?_)
      exact ⟨.inr rfl, (ResOK.r1 rfl (.tmp rfl .nil)).cast (congrArg AV.bool (by have hE := @eqb_true _ a b; have hF := @eqb_false _ a b; grind [eqb_true, eqb_false])), rfl⟩
     ·refine Tri.skip (Tri.region ?_)
      refine TriL.c1 rfl (op_mv (ltb rfl) rfl) ?_
      refine TriL.c1 rfl (op_bin (ltb rfl) rfl rfl rfl) ?_
      refine TriL.c1 rfl (op_as (ltb rfl) rfl) ?_
      refine TriL.kept (Kept.seti 6 rfl (inc (by omega)) (Kept.keep [.s 6, .h, .s 0, .s 1, .s 5] rfl (by decide) (Kept.now ?_)))
      exact ⟨l + 1, by omega, take_eq_step hl (by omega) hL (by grind [eqb_true]), rfl⟩
    ·have hl := gem hc6
     have hE3 := take_eq_end (a := (a[i]'hi).m) (b := (b[i]'(by omega)).m) (by omega) hl hL
     have hQ := Val.ext (a := (a[i]'hi)) (b := (b[i]'(by omega))) hF8.1 hF8.2.1 hE3
     refine Tri.exit (Tri.region ?_)
     refine TriL.c1 rfl (op_mv (ltb rfl) rfl) ?_
     refine TriL.c1 rfl (op_bin (ltb rfl) rfl rfl rfl) ?_
     refine TriL.c1 rfl (op_as (ltb rfl) rfl) ?_
     refine TriL.kept (Kept.seti 5 rfl (inc (by omega)) (Kept.keep [.s 5, .h, .s 0, .s 1] rfl (by decide) (Kept.now ?_)))
     exact ⟨i + 1, by omega, take_eq_step hi (by omega) hI hQ, rfl⟩
  ·have hi := gem hc2
   have hE2 := take_eq_end (a := a) (b := b) (by omega) hi hI
   refine Tri.exit (Tri.seq (Tri.region ?_))
   refine TriL.c1 rfl (op_as (ltb rfl) rfl) ?_
   refine TriL.nil (Tri.ret ?_)
   exact ⟨.inr rfl, (ResOK.r1 rfl (.tmp rfl .nil)).cast (congrArg AV.bool (by have hE := @eqb_true _ a b; have hF := @eqb_false _ a b; grind [eqb_true, eqb_false])), rfl⟩
/- numbers of types, in the program and in the document. -/
theorem asz182_q : asz Tryz.prog 182 = some (16, 3, 1) := by kernel_rfl
theorem fn102_q : isFn Tryz.prog 102 = true := by kernel_rfl
theorem fn110_q : isFn Tryz.prog 110 = true := by kernel_rfl
theorem fn111_q : isFn Tryz.prog 111 = true := by kernel_rfl
theorem fn112_q : isFn Tryz.prog 112 = true := by kernel_rfl
theorem fn147_q : isFn Tryz.prog 147 = true := by kernel_rfl
theorem fn148_q : isFn Tryz.prog 148 = true := by kernel_rfl
theorem fn149_q : isFn Tryz.prog 149 = true := by kernel_rfl
theorem fn64_q : isFn Tryz.prog 64 = true := by kernel_rfl
theorem lk3_q : lk Tryz.prog 3 = some (false, 1) := by kernel_rfl
theorem un2_q : Tryz.prog.underlying 2 = some (TypeDesc.int IntKind.i64) := Tryz.underlying2
theorem un21_q : Tryz.prog.underlying 21 = some (TypeDesc.int IntKind.i32) := Tryz.underlying21
theorem un41_q : Tryz.prog.underlying 41 = some (TypeDesc.int IntKind.u64) := Tryz.underlying41
theorem zA182_q : zeroA Tryz.prog 182 = some [AV.int IntKind.i64 (0), AV.int IntKind.i64 (0), AV.int IntKind.i64 (0), AV.int IntKind.i64 (0), AV.int IntKind.i64 (0), AV.int IntKind.i64 (0), AV.int IntKind.i64 (0), AV.int IntKind.i64 (0), AV.int IntKind.i64 (0), AV.int IntKind.i64 (0), AV.int IntKind.i64 (0), AV.int IntKind.i64 (0), AV.int IntKind.i64 (0), AV.int IntKind.i64 (0), AV.int IntKind.i64 (0), AV.int IntKind.i64 (0)] := by kernel_rfl
theorem r_fits (z : Int) : Pure Tryz.prog 112 [.int .i64 z] (.bool (fitsT z)) := by
 refine Pure.of_tri Tryz.func112 rfl rfl (ltb rfl) fun H => ?_
 refine Tri.seq (Tri.region ?_)
 refine TriL.c1 rfl (op_as (ltb rfl) rfl) ?_
 refine TriL.nil (Tri.seq (Tri.region ?_))
 refine TriL.c1 rfl (op_mv (ltb rfl) rfl) ?_
 refine TriL.c1 rfl (op_bin (ltb rfl) rfl rfl rfl) ?_
 refine TriL.c1 rfl (op_mv (ltb rfl) rfl) ?_
 refine TriL.split (d := 5) rfl (fun hg1 => ?_) (fun hg1 => ?_)
 ·refine TriL.g1 rfl (ltb rfl) rfl hg1 (op_mv (ltb rfl) rfl) ?_
  refine TriL.g1 rfl (ltb rfl) rfl hg1 (op_bin (ltb rfl) rfl rfl rfl) ?_
  refine TriL.c1 rfl (op_pickt (ltb rfl) rfl hg1 rfl) ?_
  refine TriL.c1 rfl (op_as (ltb rfl) rfl) ?_
  refine TriL.nil (Tri.ret ?_)
  exact ⟨.inr rfl, (ResOK.r1 rfl (.tmp rfl .nil)).cast (congrArg AV.bool (by grind [fitsT])), rfl⟩
 ·iterate 2 (refine TriL.skipu rfl rfl (ltb rfl) (ltb rfl) rfl hg1 ?_)
  refine TriL.c1 rfl (op_pickf (ltb rfl) rfl hg1 rfl) ?_
  refine TriL.c1 rfl (op_as (ltb rfl) rfl) ?_
  refine TriL.nil (Tri.ret ?_)
  exact ⟨.inr rfl, (ResOK.r1 rfl (.tmp rfl .nil)).cast (congrArg AV.bool (by grind [fitsT])), rfl⟩
theorem r_may (t : Int) (n : Nat) : Pure Tryz.prog 74 [.int .i64 t, .int .u64 (n : Int)] (.bool (mayT t n)) := by
 refine Pure.of_tri Tryz.func74 rfl rfl (ltb rfl) fun H => ?_
 refine Tri.seq (Tri.region ?_)
 refine TriL.c1 rfl (op_as (ltb rfl) rfl) ?_
 refine TriL.nil (Tri.seq (Tri.seq (Tri.region ?_)))
 refine TriL.c1 rfl (op_mv (ltb rfl) rfl) ?_
 refine TriL.c1 rfl (op_bin (ltb rfl) rfl rfl rfl) ?_
 refine TriL.c1 rfl (op_mv (ltb rfl) rfl) ?_
 refine TriL.split (d := 7) rfl (fun hg1 => ?_) (fun hg1 => ?_)
 ·iterate 2 (refine TriL.skipu rfl rfl (ltb rfl) (ltb rfl) rfl hg1 ?_)
  refine TriL.c1 rfl (op_pickt (ltb rfl) rfl hg1 rfl) ?_
  refine TriL.nil ?_
  refine Tri.condT rfl rfl ?_
  refine Tri.seq (Tri.region ?_)
  refine TriL.c1 rfl (op_as (ltb rfl) rfl) ?_
  refine TriL.nil (Tri.ret ?_)
  exact ⟨.inr rfl, (ResOK.r1 rfl (.tmp rfl .nil)).cast (congrArg AV.bool (by grind [mayT, s64, fitsT])), rfl⟩
 ·refine TriL.g1 rfl (ltb rfl) rfl hg1 (op_mv (ltb rfl) rfl) ?_
  refine TriL.g1 rfl (ltb rfl) rfl hg1 (op_bin (ltb rfl) rfl rfl rfl) ?_
  refine TriL.c1 rfl (op_pickf (ltb rfl) rfl hg1 rfl) ?_
  refine TriL.nil ?_
  refine Tri.cond rfl (fun hc2 => ?_) (fun hc2 => ?_)
  ·refine Tri.seq (Tri.region ?_)
   refine TriL.c1 rfl (op_as (ltb rfl) rfl) ?_
   refine TriL.nil (Tri.ret ?_)
   exact ⟨.inr rfl, (ResOK.r1 rfl (.tmp rfl .nil)).cast (congrArg AV.bool (by grind [mayT, s64, fitsT])), rfl⟩
  ·refine Tri.skip (Tri.seq (Tri.seq (Tri.region ?_)))
   refine TriL.c1 rfl (op_mv (ltb rfl) rfl) ?_
   refine TriL.c1 rfl (op_call (ltb rfl) fn110_q rfl (r_wideT _)) ?_
   refine TriL.nil ?_
   refine Tri.cond rfl (fun hc3 => ?_) (fun hc3 => ?_)
   ·refine Tri.seq (Tri.region ?_)
    refine TriL.c1 rfl (op_as (ltb rfl) rfl) ?_
    refine TriL.nil (Tri.ret ?_)
    exact ⟨.inr rfl, (ResOK.r1 rfl (.tmp rfl .nil)).cast (congrArg AV.bool (by grind [mayT, s64, fitsT])), rfl⟩
   ·refine Tri.skip (Tri.seq (Tri.seq (Tri.region ?_)))
    refine TriL.c1 rfl (op_mv (ltb rfl) rfl) ?_
    refine TriL.c1 rfl (op_call (ltb rfl) fn111_q rfl (r_signT _)) ?_
    refine TriL.nil ?_
    refine Tri.cond rfl (fun hc4 => ?_) (fun hc4 => ?_)
    ·refine Tri.seq (Tri.region ?_)
     refine TriL.c1 rfl (op_mv (ltb rfl) rfl) ?_
     refine TriL.c1 rfl (op_cvi (ltb rfl) un41_q un2_q rfl) ?_
     refine TriL.c1 rfl (op_call (ltb rfl) fn112_q rfl (r_fits _)) ?_
     refine TriL.c1 rfl (op_as (ltb rfl) rfl) ?_
     refine TriL.nil (Tri.ret ?_)
     exact ⟨.inr rfl, (ResOK.r1 rfl (.tmp rfl .nil)).cast (congrArg AV.bool (by grind [mayT, s64, fitsT])), rfl⟩
    ·refine Tri.skip (Tri.seq (Tri.seq (Tri.region ?_)))
     refine TriL.c1 rfl (op_mv (ltb rfl) rfl) ?_
     refine TriL.c1 rfl (op_bin (ltb rfl) rfl rfl rfl) ?_
     refine TriL.c1 rfl (op_mv (ltb rfl) rfl) ?_
     refine TriL.split (d := 20) rfl (fun hg5 => ?_) (fun hg5 => ?_)
     ·iterate 2 (refine TriL.skipu rfl rfl (ltb rfl) (ltb rfl) rfl hg5 ?_)
      refine TriL.c1 rfl (op_pickt (ltb rfl) rfl hg5 rfl) ?_
      refine TriL.nil ?_
      refine Tri.condT rfl rfl ?_
      refine Tri.seq (Tri.region ?_)
      refine TriL.c1 rfl (op_mv (ltb rfl) rfl) ?_
      refine TriL.c1 rfl (op_bin (ltb rfl) rfl rfl rfl) ?_
      refine TriL.c1 rfl (op_as (ltb rfl) rfl) ?_
      refine TriL.nil (Tri.ret ?_)
      exact ⟨.inr rfl, (ResOK.r1 rfl (.tmp rfl .nil)).cast (congrArg AV.bool (by grind [mayT, s64, fitsT])), rfl⟩
     ·refine TriL.g1 rfl (ltb rfl) rfl hg5 (op_mv (ltb rfl) rfl) ?_
      refine TriL.g1 rfl (ltb rfl) rfl hg5 (op_bin (ltb rfl) rfl rfl rfl) ?_
      refine TriL.c1 rfl (op_pickf (ltb rfl) rfl hg5 rfl) ?_
      refine TriL.nil ?_
      refine Tri.cond rfl (fun hc6 => ?_) (fun hc6 => ?_)
      ·refine Tri.seq (Tri.region ?_)
       refine TriL.c1 rfl (op_mv (ltb rfl) rfl) ?_
       refine TriL.c1 rfl (op_bin (ltb rfl) rfl rfl rfl) ?_
       refine TriL.c1 rfl (op_as (ltb rfl) rfl) ?_
       refine TriL.nil (Tri.ret ?_)
       exact ⟨.inr rfl, (ResOK.r1 rfl (.tmp rfl .nil)).cast (congrArg AV.bool (by grind [mayT, s64, fitsT])), rfl⟩
      ·refine Tri.skip (Tri.seq (Tri.seq (Tri.region ?_)))
       refine TriL.c1 rfl (op_mv (ltb rfl) rfl) ?_
       refine TriL.c1 rfl (op_bin (ltb rfl) rfl rfl rfl) ?_
       refine TriL.nil ?_
       refine Tri.cond rfl (fun hc7 => ?_) (fun hc7 => ?_)
       ·refine Tri.seq (Tri.region ?_)
        refine TriL.c1 rfl (op_mv (ltb rfl) rfl) ?_
        refine TriL.c1 rfl (op_bin (ltb rfl) rfl rfl rfl) ?_
        refine TriL.c1 rfl (op_as (ltb rfl) rfl) ?_
        refine TriL.nil (Tri.ret ?_)
        exact ⟨.inr rfl, (ResOK.r1 rfl (.tmp rfl .nil)).cast (congrArg AV.bool (by grind [mayT, s64, fitsT])), rfl⟩
       ·refine Tri.skip (Tri.seq (Tri.region ?_))
        refine TriL.c1 rfl (op_mv (ltb rfl) rfl) ?_
        refine TriL.c1 rfl (op_bin (ltb rfl) rfl rfl rfl) ?_
        refine TriL.c1 rfl (op_as (ltb rfl) rfl) ?_
        refine TriL.nil (Tri.ret ?_)
        exact ⟨.inr rfl, (ResOK.r1 rfl (.tmp rfl .nil)).cast (congrArg AV.bool (by grind [mayT, s64, fitsT])), rfl⟩
theorem p_kind (t : Int) : Pure Tryz.prog 102 [.int .i64 t] (.int .i64 (kindT t)) := by
 refine Pure.of_tri Tryz.func102 rfl rfl (ltb rfl) fun H => ?_
 refine Tri.seq (Tri.region ?_)
 refine TriL.c1 rfl (op_as (ltb rfl) rfl) ?_
 refine TriL.nil (Tri.seq (Tri.seq (Tri.region ?_)))
 refine TriL.c1 rfl (op_mv (ltb rfl) rfl) ?_
 refine TriL.c1 rfl (op_bin (ltb rfl) rfl rfl rfl) ?_
 refine TriL.c1 rfl (op_mv (ltb rfl) rfl) ?_
 refine TriL.split (d := 5) rfl (fun hg1 => ?_) (fun hg1 => ?_)
 ·iterate 2 (refine TriL.skipu rfl rfl (ltb rfl) (ltb rfl) rfl hg1 ?_)
  refine TriL.c1 rfl (op_pickt (ltb rfl) rfl hg1 rfl) ?_
  refine TriL.nil ?_
  refine Tri.condT rfl rfl ?_
  refine Tri.seq (Tri.region ?_)
  refine TriL.c1 rfl (op_as (ltb rfl) rfl) ?_
  refine TriL.nil (Tri.ret ?_)
  exact ⟨.inr rfl, (ResOK.r1 rfl (.tmp rfl .nil)).cast (congrArg (AV.int .i64) (by grind [kindT_out])), rfl⟩
 ·refine TriL.g1 rfl (ltb rfl) rfl hg1 (op_mv (ltb rfl) rfl) ?_
  refine TriL.g1 rfl (ltb rfl) rfl hg1 (op_bin (ltb rfl) rfl rfl rfl) ?_
  refine TriL.c1 rfl (op_pickf (ltb rfl) rfl hg1 rfl) ?_
  refine TriL.nil ?_
  refine Tri.cond rfl (fun hc2 => ?_) (fun hc2 => ?_)
  ·refine Tri.seq (Tri.region ?_)
   refine TriL.c1 rfl (op_as (ltb rfl) rfl) ?_
   refine TriL.nil (Tri.ret ?_)
   exact ⟨.inr rfl, (ResOK.r1 rfl (.tmp rfl .nil)).cast (congrArg (AV.int .i64) (by grind [kindT_out])), rfl⟩
  ·refine Tri.skip (Tri.seq (Tri.region ?_))
   refine TriL.c1 rfl (op_blda (ltb rfl) asz182_q zA182_q rfl rfl) ?_
   refine TriL.c1 rfl (op_mv (ltb rfl) rfl) ?_
   refine TriL.c1 rfl (op_ixa (ltb rfl) asz182_q lk3_q rfl rfl (by grind) (by grind) (kind_cell (by grind) (by grind))) ?_
   refine TriL.c1 rfl (op_as (ltb rfl) rfl) ?_
   refine TriL.nil (Tri.ret ?_)
   exact ⟨.inr rfl, (ResOK.r1 rfl (.tmp rfl .nil)).cast (congrArg (AV.int .i64) (by grind [kindT_out])), rfl⟩
theorem p_numT (t : Int) : Pure Tryz.prog 107 [.int .i64 t] (.bool (numT t)) := by
 refine Pure.of_tri Tryz.func107 rfl rfl (ltb rfl) fun H => ?_
 refine Tri.seq (Tri.region ?_)
 refine TriL.c1 rfl (op_as (ltb rfl) rfl) ?_
 refine TriL.nil (Tri.seq (Tri.region ?_))
 refine TriL.c1 rfl (op_mv (ltb rfl) rfl) ?_
 refine TriL.c1 rfl (op_call (ltb rfl) fn102_q rfl (p_kind _)) ?_
 iterate 2 (refine TriL.c1 rfl (op_bin (ltb rfl) rfl rfl rfl) ?_)
 refine TriL.c1 rfl (op_as (ltb rfl) rfl) ?_
 refine TriL.nil (Tri.ret ?_)
 exact ⟨.inr rfl, (ResOK.r1 rfl (.tmp rfl .nil)).cast (congrArg AV.bool (kind_num t)), rfl⟩
theorem p_wholeT (t : Int) : Pure Tryz.prog 64 [.int .i64 t] (.bool (wholeT t)) := by
 refine Pure.of_tri Tryz.func64 rfl rfl (ltb rfl) fun H => ?_
 refine Tri.seq (Tri.region ?_)
 refine TriL.c1 rfl (op_as (ltb rfl) rfl) ?_
 refine TriL.nil (Tri.seq (Tri.region ?_))
 refine TriL.c1 rfl (op_mv (ltb rfl) rfl) ?_
 refine TriL.c1 rfl (op_call (ltb rfl) fn102_q rfl (p_kind _)) ?_
 iterate 2 (refine TriL.c1 rfl (op_bin (ltb rfl) rfl rfl rfl) ?_)
 refine TriL.c1 rfl (op_as (ltb rfl) rfl) ?_
 refine TriL.nil (Tri.ret ?_)
 exact ⟨.inr rfl, (ResOK.r1 rfl (.tmp rfl .nil)).cast (congrArg AV.bool (kind_whole t)), rfl⟩
theorem p_signT (t : Int) : Pure Tryz.prog 148 [.int .i64 t] (.bool (signT t)) := by
 refine Pure.of_tri Tryz.func148 rfl rfl (ltb rfl) fun H => ?_
 refine Tri.seq (Tri.region ?_)
 refine TriL.c1 rfl (op_as (ltb rfl) rfl) ?_
 refine TriL.nil (Tri.seq (Tri.region ?_))
 refine TriL.c1 rfl (op_mv (ltb rfl) rfl) ?_
 refine TriL.c1 rfl (op_call (ltb rfl) fn102_q rfl (p_kind _)) ?_
 iterate 2 (refine TriL.c1 rfl (op_bin (ltb rfl) rfl rfl rfl) ?_)
 refine TriL.c1 rfl (op_as (ltb rfl) rfl) ?_
 refine TriL.nil (Tri.ret ?_)
 exact ⟨.inr rfl, (ResOK.r1 rfl (.tmp rfl .nil)).cast (congrArg AV.bool (kind_sign t)), rfl⟩
theorem p_wideT (t : Int) : Pure Tryz.prog 147 [.int .i64 t] (.bool (wideT t)) := by
 refine Pure.of_tri Tryz.func147 rfl rfl (ltb rfl) fun H => ?_
 refine Tri.seq (Tri.region ?_)
 refine TriL.c1 rfl (op_as (ltb rfl) rfl) ?_
 refine TriL.nil (Tri.seq (Tri.region ?_))
 refine TriL.c1 rfl (op_mv (ltb rfl) rfl) ?_
 refine TriL.c1 rfl (op_call (ltb rfl) fn102_q rfl (p_kind _)) ?_
 iterate 2 (refine TriL.c1 rfl (op_bin (ltb rfl) rfl rfl rfl) ?_)
 refine TriL.c1 rfl (op_as (ltb rfl) rfl) ?_
 refine TriL.nil (Tri.ret ?_)
 exact ⟨.inr rfl, (ResOK.r1 rfl (.tmp rfl .nil)).cast (congrArg AV.bool (kind_wide t)), rfl⟩
theorem p_fits (z : Int) : Pure Tryz.prog 149 [.int .i64 z] (.bool (fitsT z)) := by
 refine Pure.of_tri Tryz.func149 rfl rfl (ltb rfl) fun H => ?_
 refine Tri.seq (Tri.region ?_)
 refine TriL.c1 rfl (op_as (ltb rfl) rfl) ?_
 refine TriL.nil (Tri.seq (Tri.region ?_))
 refine TriL.c1 rfl (op_mv (ltb rfl) rfl) ?_
 refine TriL.c1 rfl (op_cvi (ltb rfl) un2_q un21_q rfl) ?_
 refine TriL.c1 rfl (op_cvi (ltb rfl) un21_q un2_q rfl) ?_
 refine TriL.c1 rfl (op_mv (ltb rfl) rfl) ?_
 refine TriL.c1 rfl (op_bin (ltb rfl) rfl rfl rfl) ?_
 refine TriL.c1 rfl (op_as (ltb rfl) rfl) ?_
 refine TriL.nil (Tri.ret ?_)
 exact ⟨.inr rfl, (ResOK.r1 rfl (.tmp rfl .nil)).cast (congrArg AV.bool (fits_wrap z)), rfl⟩
theorem p_may (t : Int) (n : Nat) : Pure Tryz.prog 108 [.int .i64 t, .int .u64 (n : Int)] (.bool (mayT t n)) := by
 refine Pure.of_tri Tryz.func108 rfl rfl (ltb rfl) fun H => ?_
 refine Tri.seq (Tri.region ?_)
 refine TriL.c1 rfl (op_as (ltb rfl) rfl) ?_
 refine TriL.nil (Tri.seq (Tri.blk (Tri.seq (Tri.region ?_))))
 refine TriL.c1 rfl (op_mv (ltb rfl) rfl) ?_
 refine TriL.c1 rfl (op_bin (ltb rfl) rfl rfl rfl) ?_
 refine TriL.c1 rfl (op_mv (ltb rfl) rfl) ?_
 refine TriL.split (d := 8) rfl (fun hg1 => ?_) (fun hg1 => ?_)
 ·iterate 2 (refine TriL.skipu rfl rfl (ltb rfl) (ltb rfl) rfl hg1 ?_)
  refine TriL.c1 rfl (op_pickt (ltb rfl) rfl hg1 rfl) ?_
  refine TriL.c1 rfl (op_as (ltb rfl) rfl) ?_
  refine TriL.nil ?_
  refine Tri.condT rfl rfl ?_
  refine Tri.seq (Tri.region ?_)
  refine TriL.c1 rfl (op_as (ltb rfl) rfl) ?_
  refine TriL.nil (Tri.ret ?_)
  exact ⟨.inr rfl, (ResOK.r1 rfl (.tmp rfl .nil)).cast (congrArg AV.bool (by grind [mayT])), rfl⟩
 ·refine TriL.g1 rfl (ltb rfl) rfl hg1 (op_mv (ltb rfl) rfl) ?_
  refine TriL.g1 rfl (ltb rfl) rfl hg1 (op_bin (ltb rfl) rfl rfl rfl) ?_
  refine TriL.c1 rfl (op_pickf (ltb rfl) rfl hg1 rfl) ?_
  refine TriL.c1 rfl (op_as (ltb rfl) rfl) ?_
  refine TriL.nil ?_
  refine Tri.cond rfl (fun hc2 => ?_) (fun hc2 => ?_)
  ·refine Tri.seq (Tri.region ?_)
   refine TriL.c1 rfl (op_as (ltb rfl) rfl) ?_
   refine TriL.nil (Tri.ret ?_)
   exact ⟨.inr rfl, (ResOK.r1 rfl (.tmp rfl .nil)).cast (congrArg AV.bool (by grind [mayT])), rfl⟩
  ·refine Tri.seq (Tri.region ?_)
   refine TriL.c1 rfl (op_mv (ltb rfl) rfl) ?_
   refine TriL.c1 rfl (op_call (ltb rfl) fn147_q rfl (p_wideT _)) ?_
   refine TriL.c1 rfl (op_as (ltb rfl) rfl) ?_
   refine TriL.nil ?_
   refine Tri.cond rfl (fun hc3 => ?_) (fun hc3 => ?_)
   ·refine Tri.seq (Tri.region ?_)
    refine TriL.c1 rfl (op_as (ltb rfl) rfl) ?_
    refine TriL.nil (Tri.ret ?_)
    exact ⟨.inr rfl, (ResOK.r1 rfl (.tmp rfl .nil)).cast (congrArg AV.bool (by grind [mayT])), rfl⟩
   ·refine Tri.seq (Tri.region ?_)
    refine TriL.c1 rfl (op_mv (ltb rfl) rfl) ?_
    refine TriL.c1 rfl (op_call (ltb rfl) fn148_q rfl (p_signT _)) ?_
    refine TriL.c1 rfl (op_as (ltb rfl) rfl) ?_
    refine TriL.nil ?_
    refine Tri.cond rfl (fun hc4 => ?_) (fun hc4 => ?_)
    ·refine Tri.seq (Tri.region ?_)
     refine TriL.c1 rfl (op_mv (ltb rfl) rfl) ?_
     refine TriL.c1 rfl (op_cvi (ltb rfl) un41_q un2_q rfl) ?_
     refine TriL.c1 rfl (op_call (ltb rfl) fn149_q rfl (p_fits _)) ?_
     refine TriL.c1 rfl (op_as (ltb rfl) rfl) ?_
     refine TriL.nil (Tri.ret ?_)
     exact ⟨.inr rfl, (ResOK.r1 rfl (.tmp rfl .nil)).cast (congrArg AV.bool (by have := ty_cases t; grind [mayT, s64])), rfl⟩
    ·refine Tri.seq (Tri.region ?_)
     refine TriL.c1 rfl (op_mv (ltb rfl) rfl) ?_
     refine TriL.c1 rfl (op_call (ltb rfl) fn64_q rfl (p_wholeT _)) ?_
     refine TriL.c1 rfl (op_as (ltb rfl) rfl) ?_
     refine TriL.nil ?_
     refine Tri.cond rfl (fun hc5 => ?_) (fun hc5 => ?_)
     ·refine Tri.seq (Tri.region ?_)
      refine TriL.c1 rfl (op_mv (ltb rfl) rfl) ?_
      refine TriL.c1 rfl (op_shr (ltb rfl) rfl rfl (by decide)) ?_
      refine TriL.c1 rfl (op_bin (ltb rfl) rfl rfl rfl) ?_
      refine TriL.c1 rfl (op_as (ltb rfl) rfl) ?_
      refine TriL.nil (Tri.ret ?_)
      exact ⟨.inr rfl, (ResOK.r1 rfl (.tmp rfl .nil)).cast (congrArg AV.bool (by have h2 : ((((n / 2 ^ (min ((32 : Int)).toNat IntKind.u64.bits) : Nat) : Int)) == 0) = decide (n < 4294967296) := (by rw [show 2 ^ (min ((32 : Int)).toNat IntKind.u64.bits) = 4294967296 by decide, Bool.eq_iff_iff]; simp; omega); rw [h2]; have := ty_cases t; grind [mayT, wholeT, wideT, signT])), rfl⟩
     ·refine Tri.seq (Tri.region ?_)
      refine TriL.c1 rfl (op_mv (ltb rfl) rfl) ?_
      refine TriL.c1 rfl (op_bin (ltb rfl) rfl rfl rfl) ?_
      refine TriL.c1 rfl (op_as (ltb rfl) rfl) ?_
      refine TriL.nil ?_
      refine Tri.cond rfl (fun hc6 => ?_) (fun hc6 => ?_)
      ·refine Tri.seq (Tri.region ?_)
       refine TriL.c1 rfl (op_mv (ltb rfl) rfl) ?_
       refine TriL.c1 rfl (op_bin (ltb rfl) rfl rfl rfl) ?_
       refine TriL.c1 rfl (op_as (ltb rfl) rfl) ?_
       refine TriL.nil (Tri.ret ?_)
       exact ⟨.inr rfl, (ResOK.r1 rfl (.tmp rfl .nil)).cast (congrArg AV.bool (by have := ty_cases t; grind [mayT, wholeT, wideT, signT])), rfl⟩
      ·refine Tri.skip (Tri.seq (Tri.region ?_))
       refine TriL.c1 rfl (op_mv (ltb rfl) rfl) ?_
       refine TriL.c1 rfl (op_bin (ltb rfl) rfl rfl rfl) ?_
       refine TriL.c1 rfl (op_as (ltb rfl) rfl) ?_
       refine TriL.nil (Tri.ret ?_)
       exact ⟨.inr rfl, (ResOK.r1 rfl (.tmp rfl .nil)).cast (congrArg AV.bool (by have := ty_cases t; grind [mayT, wholeT, wideT, signT])), rfl⟩
/- fields and places, in the program and in the document. -/
theorem fn101_q : isFn Tryz.prog 101 = true := by kernel_rfl
theorem fn178_q : isFn Tryz.prog 178 = true := by kernel_rfl
theorem fn179_q : isFn Tryz.prog 179 = true := by kernel_rfl
theorem fn204_q : isFn Tryz.prog 204 = true := by kernel_rfl
theorem fn205_q : isFn Tryz.prog 205 = true := by kernel_rfl
theorem fn207_q : isFn Tryz.prog 207 = true := by kernel_rfl
theorem fo126_0_q : fo Tryz.prog 126 0 = some 0 := by kernel_rfl
theorem fo126_1_q : fo Tryz.prog 126 1 = some 1 := by kernel_rfl
theorem fo126_2_q : fo Tryz.prog 126 2 = some 2 := by kernel_rfl
theorem fo126_3_q : fo Tryz.prog 126 3 = some 3 := by kernel_rfl
theorem fo157_0_q : fo Tryz.prog 157 0 = some 0 := by kernel_rfl
theorem fo157_1_q : fo Tryz.prog 157 1 = some 1 := by kernel_rfl
theorem fo94_1_q : fo Tryz.prog 94 1 = some 1 := by kernel_rfl
theorem fo96_1_q : fo Tryz.prog 96 1 = some 1 := by kernel_rfl
theorem fo96_2_q : fo Tryz.prog 96 2 = some 2 := by kernel_rfl
theorem fo96_4_q : fo Tryz.prog 96 4 = some 4 := by kernel_rfl
theorem fo96_6_q : fo Tryz.prog 96 6 = some 6 := by kernel_rfl
theorem ie155_q : ie Tryz.prog 155 = some 7 := by kernel_rfl
theorem ie92_q : ie Tryz.prog 92 = some 3 := by kernel_rfl
theorem lk155_q : lk Tryz.prog 155 = some (false, 1) := by kernel_rfl
theorem lk157_q : lk Tryz.prog 157 = some (true, 3) := by kernel_rfl
theorem lk4_q : lk Tryz.prog 4 = some (false, 1) := by kernel_rfl
theorem lk92_q : lk Tryz.prog 92 = some (false, 1) := by kernel_rfl
theorem lk96_q : lk Tryz.prog 96 = some (true, 7) := by kernel_rfl
theorem un155_q : Tryz.prog.underlying 155 = some (TypeDesc.slice 96) := Tryz.underlying155
theorem un92_q : Tryz.prog.underlying 92 = some (TypeDesc.slice 157) := Tryz.underlying92
theorem p_hidden (f : Fld) : Pure Tryz.prog 206 [f.av] (.bool f.hidden) := by
 refine Pure.of_tri Tryz.func206 rfl rfl (ltb rfl) fun H => ?_
 refine Tri.seq (Tri.region ?_)
 refine TriL.c2 rfl (op_box (ltb rfl) rfl rfl rfl) ?_
 refine TriL.c1 rfl (op_as (ltb rfl) rfl) ?_
 refine TriL.nil (Tri.seq (Tri.region ?_))
 refine TriL.c1 rfl (op_fal (ltb rfl) fo96_4_q rfl) ?_
 refine TriL.c1 rfl (op_ldl (ltb rfl) lk4_q rfl rfl rfl) ?_
 refine TriL.c1 rfl (op_un (ltb rfl) rfl rfl) ?_
 refine TriL.c1 rfl (op_mv (ltb rfl) rfl) ?_
 refine TriL.split (d := 6) rfl (fun hg1 => ?_) (fun hg1 => ?_)
 ·refine TriL.g1 rfl (ltb rfl) rfl hg1 (op_fal (ltb rfl) fo96_6_q rfl) ?_
  refine TriL.g1 rfl (ltb rfl) rfl hg1 (op_ldl (ltb rfl) lk9_q rfl rfl rfl) ?_
  refine TriL.g1 rfl (ltb rfl) rfl hg1 (op_bin (ltb rfl) rfl rfl rfl) ?_
  refine TriL.c1 rfl (op_pickt (ltb rfl) rfl hg1 rfl) ?_
  refine TriL.c1 rfl (op_mv (ltb rfl) rfl) ?_
  refine TriL.split (d := 11) rfl (fun hg2 => ?_) (fun hg2 => ?_)
  ·refine TriL.g1 rfl (ltb rfl) rfl hg2 (op_fal (ltb rfl) fo96_2_q rfl) ?_
   refine TriL.g1 rfl (ltb rfl) rfl hg2 (op_ldl (ltb rfl) lk3_q rfl rfl rfl) ?_
   refine TriL.g1 rfl (ltb rfl) rfl hg2 (op_bin (ltb rfl) rfl rfl rfl) ?_
   refine TriL.c1 rfl (op_pickt (ltb rfl) rfl hg2 rfl) ?_
   refine TriL.c1 rfl (op_as (ltb rfl) rfl) ?_
   refine TriL.nil (Tri.ret ?_)
   exact ⟨.inr rfl, (ResOK.r1 rfl (.tmp rfl .nil)).cast (congrArg AV.bool (by grind [Fld.hidden])), rfl⟩
  ·iterate 3 (refine TriL.skipu rfl rfl (ltb rfl) (ltb rfl) rfl hg2 ?_)
   refine TriL.c1 rfl (op_pickf (ltb rfl) rfl hg2 rfl) ?_
   refine TriL.c1 rfl (op_as (ltb rfl) rfl) ?_
   refine TriL.nil (Tri.ret ?_)
   exact ⟨.inr rfl, (ResOK.r1 rfl (.tmp rfl .nil)).cast (congrArg AV.bool (by grind [Fld.hidden])), rfl⟩
 ·iterate 3 (refine TriL.skipu rfl rfl (ltb rfl) (ltb rfl) rfl hg1 ?_)
  refine TriL.c1 rfl (op_pickf (ltb rfl) rfl hg1 rfl) ?_
  refine TriL.c1 rfl (op_mv (ltb rfl) rfl) ?_
  iterate 3 (refine TriL.skipu rfl rfl (ltb rfl) (ltb rfl) rfl rfl ?_)
  refine TriL.c1 rfl (op_pickf (ltb rfl) rfl rfl rfl) ?_
  refine TriL.c1 rfl (op_as (ltb rfl) rfl) ?_
  refine TriL.nil (Tri.ret ?_)
  exact ⟨.inr rfl, (ResOK.r1 rfl (.tmp rfl .nil)).cast (congrArg AV.bool (by grind [Fld.hidden])), rfl⟩
theorem p_tnum (n : Int) : Pure Tryz.prog 101 [.int .i64 n] (.bool (decide (1 ≤ n) && decide (n ≤ 536870911))) := by
 refine Pure.of_tri Tryz.func101 rfl rfl (ltb rfl) fun H => ?_
 refine Tri.seq (Tri.region ?_)
 refine TriL.c1 rfl (op_as (ltb rfl) rfl) ?_
 refine TriL.nil (Tri.seq (Tri.region ?_))
 refine TriL.c1 rfl (op_mv (ltb rfl) rfl) ?_
 refine TriL.c1 rfl (op_bin (ltb rfl) rfl rfl rfl) ?_
 refine TriL.c1 rfl (op_mv (ltb rfl) rfl) ?_
 refine TriL.split (d := 5) rfl (fun hg1 => ?_) (fun hg1 => ?_)
 ·refine TriL.g1 rfl (ltb rfl) rfl hg1 (op_mv (ltb rfl) rfl) ?_
  refine TriL.g1 rfl (ltb rfl) rfl hg1 (op_bin (ltb rfl) rfl rfl rfl) ?_
  refine TriL.c1 rfl (op_pickt (ltb rfl) rfl hg1 rfl) ?_
  refine TriL.c1 rfl (op_as (ltb rfl) rfl) ?_
  refine TriL.nil (Tri.ret ?_)
  exact ⟨.inr rfl, (ResOK.r1 rfl (.tmp rfl .nil)).cast (congrArg AV.bool (by grind [])), rfl⟩
 ·iterate 2 (refine TriL.skipu rfl rfl (ltb rfl) (ltb rfl) rfl hg1 ?_)
  refine TriL.c1 rfl (op_pickf (ltb rfl) rfl hg1 rfl) ?_
  refine TriL.c1 rfl (op_as (ltb rfl) rfl) ?_
  refine TriL.nil (Tri.ret ?_)
  exact ⟨.inr rfl, (ResOK.r1 rfl (.tmp rfl .nil)).cast (congrArg AV.bool (by grind [])), rfl⟩
theorem p_tagOK (n w : Int) : Pure Tryz.prog 207 [.int .i64 n, .int .i64 w] (.bool (tagOK n w)) := by
 refine Pure.of_tri Tryz.func207 rfl rfl (ltb rfl) fun H => ?_
 refine Tri.seq (Tri.region ?_)
 refine TriL.c1 rfl (op_as (ltb rfl) rfl) ?_
 refine TriL.nil (Tri.seq (Tri.region ?_))
 refine TriL.c1 rfl (op_as (ltb rfl) rfl) ?_
 refine TriL.nil (Tri.seq (Tri.seq (Tri.region ?_)))
 refine TriL.c1 rfl (op_mv (ltb rfl) rfl) ?_
 refine TriL.nil (Tri.blk (Tri.seq (Tri.blk (Tri.blk (Tri.blk (Tri.seq (Tri.seq (Tri.seq (Tri.seq (Tri.region ?_))))))))))
 refine TriL.c1 rfl (op_bin (ltb rfl) rfl rfl rfl) ?_
 refine TriL.c1 rfl (op_as (ltb rfl) rfl) ?_
 refine TriL.nil ?_
 refine Tri.cond rfl (fun hc1 => ?_) (fun hc1 => ?_)
 ·refine Tri.skip ?_
  refine Tri.condT rfl hc1 ?_
  refine Tri.exit (Tri.seq (Tri.region ?_))
  refine TriL.c1 rfl (op_as (ltb rfl) rfl) ?_
  refine TriL.nil (Tri.exit (Tri.seq (Tri.region ?_)))
  iterate 2 (refine TriL.c1 rfl (op_mv (ltb rfl) rfl) ?_)
  refine TriL.g1 rfl (ltb rfl) rfl rfl (op_mv (ltb rfl) rfl) ?_
  refine TriL.g1 rfl (ltb rfl) rfl rfl (op_call (ltb rfl) fn101_q rfl (p_tnum _)) ?_
  refine TriL.c1 rfl (op_pickt (ltb rfl) rfl rfl rfl) ?_
  refine TriL.c1 rfl (op_as (ltb rfl) rfl) ?_
  refine TriL.nil (Tri.ret ?_)
  exact ⟨.inr rfl, (ResOK.r1 rfl (.tmp rfl .nil)).cast (congrArg AV.bool (by grind [tagOK])), rfl⟩
 ·-- region 4 tag.go:20
  refine Tri.region ?_
  refine TriL.c1 rfl (op_bin (ltb rfl) rfl rfl rfl) ?_
  refine TriL.c1 rfl (op_as (ltb rfl) rfl) ?_
  refine TriL.nil ?_
  refine Tri.cond rfl (fun hc2 => ?_) (fun hc2 => ?_)
  ·refine Tri.exit (Tri.seq (Tri.region ?_))
   refine TriL.c1 rfl (op_as (ltb rfl) rfl) ?_
   refine TriL.nil (Tri.exit (Tri.seq (Tri.region ?_)))
   iterate 2 (refine TriL.c1 rfl (op_mv (ltb rfl) rfl) ?_)
   refine TriL.g1 rfl (ltb rfl) rfl rfl (op_mv (ltb rfl) rfl) ?_
   refine TriL.g1 rfl (ltb rfl) rfl rfl (op_call (ltb rfl) fn101_q rfl (p_tnum _)) ?_
   refine TriL.c1 rfl (op_pickt (ltb rfl) rfl rfl rfl) ?_
   refine TriL.c1 rfl (op_as (ltb rfl) rfl) ?_
   refine TriL.nil (Tri.ret ?_)
   exact ⟨.inr rfl, (ResOK.r1 rfl (.tmp rfl .nil)).cast (congrArg AV.bool (by grind [tagOK])), rfl⟩
  ·refine Tri.skip (Tri.seq (Tri.seq (Tri.region ?_)))
   refine TriL.c1 rfl (op_bin (ltb rfl) rfl rfl rfl) ?_
   refine TriL.c1 rfl (op_as (ltb rfl) rfl) ?_
   refine TriL.nil ?_
   refine Tri.cond rfl (fun hc3 => ?_) (fun hc3 => ?_)
   ·refine Tri.exit (Tri.seq (Tri.region ?_))
    refine TriL.c1 rfl (op_as (ltb rfl) rfl) ?_
    refine TriL.nil (Tri.exit (Tri.seq (Tri.region ?_)))
    iterate 2 (refine TriL.c1 rfl (op_mv (ltb rfl) rfl) ?_)
    refine TriL.g1 rfl (ltb rfl) rfl rfl (op_mv (ltb rfl) rfl) ?_
    refine TriL.g1 rfl (ltb rfl) rfl rfl (op_call (ltb rfl) fn101_q rfl (p_tnum _)) ?_
    refine TriL.c1 rfl (op_pickt (ltb rfl) rfl rfl rfl) ?_
    refine TriL.c1 rfl (op_as (ltb rfl) rfl) ?_
    refine TriL.nil (Tri.ret ?_)
    exact ⟨.inr rfl, (ResOK.r1 rfl (.tmp rfl .nil)).cast (congrArg AV.bool (by grind [tagOK])), rfl⟩
   ·refine Tri.skip (Tri.seq (Tri.region ?_))
    refine TriL.c1 rfl (op_bin (ltb rfl) rfl rfl rfl) ?_
    refine TriL.c1 rfl (op_as (ltb rfl) rfl) ?_
    refine TriL.nil ?_
    refine Tri.cond rfl (fun hc4 => ?_) (fun hc4 => ?_)
    ·refine Tri.exit (Tri.seq (Tri.region ?_))
     refine TriL.c1 rfl (op_as (ltb rfl) rfl) ?_
     refine TriL.nil (Tri.exit (Tri.seq (Tri.region ?_)))
     iterate 2 (refine TriL.c1 rfl (op_mv (ltb rfl) rfl) ?_)
     refine TriL.g1 rfl (ltb rfl) rfl rfl (op_mv (ltb rfl) rfl) ?_
     refine TriL.g1 rfl (ltb rfl) rfl rfl (op_call (ltb rfl) fn101_q rfl (p_tnum _)) ?_
     refine TriL.c1 rfl (op_pickt (ltb rfl) rfl rfl rfl) ?_
     refine TriL.c1 rfl (op_as (ltb rfl) rfl) ?_
     refine TriL.nil (Tri.ret ?_)
     exact ⟨.inr rfl, (ResOK.r1 rfl (.tmp rfl .nil)).cast (congrArg AV.bool (by grind [tagOK])), rfl⟩
    ·refine Tri.skip (Tri.exit (Tri.seq (Tri.region ?_)))
     iterate 2 (refine TriL.c1 rfl (op_mv (ltb rfl) rfl) ?_)
     iterate 2 (refine TriL.skipu rfl rfl (ltb rfl) (ltb rfl) rfl rfl ?_)
     refine TriL.c1 rfl (op_pickf (ltb rfl) rfl rfl rfl) ?_
     refine TriL.c1 rfl (op_as (ltb rfl) rfl) ?_
     refine TriL.nil (Tri.ret ?_)
     exact ⟨.inr rfl, (ResOK.r1 rfl (.tmp rfl .nil)).cast (congrArg AV.bool (by grind [tagOK])), rfl⟩
theorem p_rright (r : Rw) : Pure Tryz.prog 183 [r.av] (.bool r.right) := by
 have h2 : ((((r.n / 2 ^ (min ((32 : Int)).toNat IntKind.u64.bits) : Nat) : Int)) == 0) = decide (r.n < 4294967296) := (by rw [show 2 ^ (min ((32 : Int)).toNat IntKind.u64.bits) = 4294967296 by decide, Bool.eq_iff_iff]; simp; omega)
 refine Pure.of_tri Tryz.func183 rfl rfl (ltb rfl) fun H => ?_
 refine Tri.seq (Tri.region ?_)
 refine TriL.c2 rfl (op_box (ltb rfl) rfl rfl rfl) ?_
 refine TriL.c1 rfl (op_as (ltb rfl) rfl) ?_
 refine TriL.nil (Tri.seq (Tri.blk (Tri.seq (Tri.region ?_))))
 refine TriL.c1 rfl (op_fal (ltb rfl) fo126_0_q rfl) ?_
 refine TriL.c1 rfl (op_ldl (ltb rfl) lk3_q rfl rfl rfl) ?_
 refine TriL.c1 rfl (op_fal (ltb rfl) fo126_1_q rfl) ?_
 refine TriL.c1 rfl (op_ldl (ltb rfl) lk3_q rfl rfl rfl) ?_
 refine TriL.c1 rfl (op_call (ltb rfl) fn207_q rfl (p_tagOK _ _)) ?_
 refine TriL.c1 rfl (op_un (ltb rfl) rfl rfl) ?_
 refine TriL.c1 rfl (op_as (ltb rfl) rfl) ?_
 refine TriL.nil ?_
 refine Tri.cond rfl (fun hc1 => ?_) (fun hc1 => ?_)
 ·refine Tri.seq (Tri.region ?_)
  refine TriL.c1 rfl (op_as (ltb rfl) rfl) ?_
  refine TriL.nil (Tri.ret ?_)
  exact ⟨.inr rfl, (ResOK.r1 rfl (.tmp rfl .nil)).cast (congrArg AV.bool (by grind [Rw.right])), rfl⟩
 ·refine Tri.seq (Tri.region ?_)
  refine TriL.c1 rfl (op_fal (ltb rfl) fo126_1_q rfl) ?_
  refine TriL.c1 rfl (op_ldl (ltb rfl) lk3_q rfl rfl rfl) ?_
  refine TriL.c1 rfl (op_bin (ltb rfl) rfl rfl rfl) ?_
  refine TriL.c1 rfl (op_as (ltb rfl) rfl) ?_
  refine TriL.nil ?_
  refine Tri.cond rfl (fun hc2 => ?_) (fun hc2 => ?_)
  ·refine Tri.seq (Tri.region ?_)
   refine TriL.c1 rfl (op_fal (ltb rfl) fo126_2_q rfl) ?_
   refine TriL.c1 rfl (op_ldl (ltb rfl) lk41_q rfl rfl rfl) ?_
   refine TriL.c1 rfl (op_bin (ltb rfl) rfl rfl rfl) ?_
   refine TriL.c1 rfl (op_as (ltb rfl) rfl) ?_
   refine TriL.nil (Tri.ret ?_)
   exact ⟨.inr rfl, (ResOK.r1 rfl (.tmp rfl .nil)).cast (congrArg AV.bool (by grind [Rw.right])), rfl⟩
  ·refine Tri.seq (Tri.region ?_)
   refine TriL.c1 rfl (op_fal (ltb rfl) fo126_1_q rfl) ?_
   refine TriL.c1 rfl (op_ldl (ltb rfl) lk3_q rfl rfl rfl) ?_
   refine TriL.c1 rfl (op_bin (ltb rfl) rfl rfl rfl) ?_
   refine TriL.c1 rfl (op_mv (ltb rfl) rfl) ?_
   refine TriL.split (d := 21) rfl (fun hg3 => ?_) (fun hg3 => ?_)
   ·refine TriL.g1 rfl (ltb rfl) rfl hg3 (op_fal (ltb rfl) fo126_2_q rfl) ?_
    refine TriL.g1 rfl (ltb rfl) rfl hg3 (op_ldl (ltb rfl) lk41_q rfl rfl rfl) ?_
    refine TriL.g1 rfl (ltb rfl) rfl hg3 (op_shr (ltb rfl) rfl rfl (by decide)) ?_
    refine TriL.g1 rfl (ltb rfl) rfl hg3 (op_bin (ltb rfl) rfl rfl rfl) ?_
    refine TriL.c1 rfl (op_pickt (ltb rfl) rfl hg3 rfl) ?_
    refine TriL.c1 rfl (op_as (ltb rfl) rfl) ?_
    refine TriL.nil ?_
    refine Tri.cond rfl (fun hc4 => ?_) (fun hc4 => ?_)
    ·refine Tri.seq (Tri.region ?_)
     refine TriL.c1 rfl (op_as (ltb rfl) rfl) ?_
     refine TriL.nil (Tri.ret ?_)
     exact ⟨.inr rfl, (ResOK.r1 rfl (.tmp rfl .nil)).cast (congrArg AV.bool (by grind [Rw.right])), rfl⟩
    ·refine Tri.skip (Tri.seq (Tri.region ?_))
     refine TriL.c1 rfl (op_fal (ltb rfl) fo126_3_q rfl) ?_
     refine TriL.c1 rfl (op_ldl (ltb rfl) lk9_q rfl rfl rfl) ?_
     refine TriL.c1 rfl (op_bin (ltb rfl) rfl rfl rfl) ?_
     refine TriL.c1 rfl (op_as (ltb rfl) rfl) ?_
     refine TriL.nil (Tri.ret ?_)
     exact ⟨.inr rfl, (ResOK.r1 rfl (.tmp rfl .nil)).cast (congrArg AV.bool (by grind [Rw.right])), rfl⟩
   ·iterate 4 (refine TriL.skipu rfl rfl (ltb rfl) (ltb rfl) rfl hg3 ?_)
    refine TriL.c1 rfl (op_pickf (ltb rfl) rfl hg3 rfl) ?_
    refine TriL.c1 rfl (op_as (ltb rfl) rfl) ?_
    refine TriL.nil ?_
    refine Tri.condF rfl rfl ?_
    refine Tri.skip (Tri.seq (Tri.region ?_))
    refine TriL.c1 rfl (op_fal (ltb rfl) fo126_3_q rfl) ?_
    refine TriL.c1 rfl (op_ldl (ltb rfl) lk9_q rfl rfl rfl) ?_
    refine TriL.c1 rfl (op_bin (ltb rfl) rfl rfl rfl) ?_
    refine TriL.c1 rfl (op_as (ltb rfl) rfl) ?_
    refine TriL.nil (Tri.ret ?_)
    exact ⟨.inr rfl, (ResOK.r1 rfl (.tmp rfl .nil)).cast (congrArg AV.bool (by grind [Rw.right])), rfl⟩
theorem p_ixfM (l : List Msg) (hl : l.length ≤ 9223372036854775807) (F : FuncId) (caps : List AV) (p : Msg → Bool) (hF : isFn Tryz.prog F = true) (hp : ∀ x ∈ l, Pure Tryz.prog F ([x.av] ++ caps) (.bool (p x))) : Pure Tryz.prog 178 [.sl (l.map Msg.av), .fn F caps] (.int .i64 (ixFrom p l 0)) := by
 refine Pure.of_tri Tryz.func178 rfl rfl (ltb rfl) fun H => ?_
 refine Tri.seq (Tri.region ?_)
 refine TriL.c1 rfl (op_as (ltb rfl) rfl) ?_
 refine TriL.nil (Tri.seq (Tri.seq (Tri.region ?_)))
 refine TriL.c1 rfl (op_mv (ltb rfl) rfl) ?_
 refine TriL.c1 rfl (op_lenl (ltb rfl) un92_q rfl) ?_
 refine TriL.c1 rfl (op_mv (ltb rfl) rfl) ?_
 refine TriL.nil (Tri.blk ?_)
 refine Tri.ofKept (Kept.keep [.s 8, .h, .s 0, .s 1, .s 7] rfl (by decide) (Kept.now ?_))
 -- LOOP 1
 refine Tri.loopk (fun (i : Nat) => [(.s 8, .sv (.v (.int .i64 (i : Int))))]) _ (fun (i : Nat) => ixFrom p (l.drop i) i = ixFrom p l 0) (fun (i : Nat) => l.length - i) 0 rfl (by simp) ?_
 rintro i hI
 refine Tri.seq (Tri.region ?_)
 refine TriL.c1 rfl (op_bin (ltb rfl) rfl rfl rfl) ?_
 refine TriL.nil (Tri.seq ?_)
 refine Tri.cond rfl (fun hc1 => ?_) (fun hc1 => ?_)
 ·have hi := ltm hc1
  have hS := ixFrom_step (p := p) hi
  refine Tri.skip (Tri.seq (Tri.blk (Tri.seq (Tri.region ?_))))
  refine TriL.c1 rfl (op_mv (ltb rfl) rfl) ?_
  refine TriL.c1 rfl (op_as (ltb rfl) rfl) ?_
  refine TriL.nil (Tri.seq (Tri.region ?_))
  iterate 3 (refine TriL.c1 rfl (op_mv (ltb rfl) rfl) ?_)
  refine TriL.c1 rfl (op_iak (ltb rfl) ie92_q rfl rfl (Int.natCast_nonneg _) (ixm hi) rfl) ?_
  refine TriL.c1 rfl (op_ldk (ltb rfl) lk157_q rfl rfl) ?_
  refine TriL.c1 rfl (op_callc (ltb rfl) hF rfl rfl (hp _ (List.getElem_mem hi))) ?_
  refine TriL.nil ?_
  refine Tri.cond rfl (fun hc2 => ?_) (fun hc2 => ?_)
  ·refine Tri.seq (Tri.region ?_)
   refine TriL.c1 rfl (op_mv (ltb rfl) rfl) ?_
   refine TriL.c1 rfl (op_as (ltb rfl) rfl) ?_
   refine TriL.nil (Tri.ret ?_)
   exact ⟨.inr rfl, (ResOK.r1 rfl (.tmp rfl .nil)).cast (congrArg (AV.int .i64) (by grind [])), rfl⟩
  ·refine Tri.skip (Tri.region ?_)
   refine TriL.c1 rfl (op_bin (ltb rfl) rfl rfl rfl) ?_
   refine TriL.c1 rfl (op_mv (ltb rfl) rfl) ?_
   refine TriL.kept (Kept.seti 8 rfl (inc (by omega)) (Kept.keep [.s 8, .h, .s 0, .s 1, .s 7] rfl (by decide) (Kept.now ?_)))
   exact ⟨i + 1, by omega, by grind, rfl⟩
 ·have hi := gem hc1
  have hS := ixFrom_end (p := p) hi
  refine Tri.exit (Tri.seq (Tri.region ?_))
  refine TriL.c1 rfl (op_as (ltb rfl) rfl) ?_
  refine TriL.nil (Tri.ret ?_)
  exact ⟨.inr rfl, (ResOK.r1 rfl (.tmp rfl .nil)).cast (congrArg (AV.int .i64) (by grind [])), rfl⟩
theorem p_ixfF (l : List Fld) (hl : l.length ≤ 9223372036854775807) (F : FuncId) (caps : List AV) (p : Fld → Bool) (hF : isFn Tryz.prog F = true) (hp : ∀ x ∈ l, Pure Tryz.prog F ([x.av] ++ caps) (.bool (p x))) : Pure Tryz.prog 204 [.sl (l.map Fld.av), .fn F caps] (.int .i64 (ixFrom p l 0)) := by
 refine Pure.of_tri Tryz.func204 rfl rfl (ltb rfl) fun H => ?_
 refine Tri.seq (Tri.region ?_)
 refine TriL.c1 rfl (op_as (ltb rfl) rfl) ?_
 refine TriL.nil (Tri.seq (Tri.seq (Tri.region ?_)))
 refine TriL.c1 rfl (op_mv (ltb rfl) rfl) ?_
 refine TriL.c1 rfl (op_lenl (ltb rfl) un155_q rfl) ?_
 refine TriL.c1 rfl (op_mv (ltb rfl) rfl) ?_
 refine TriL.nil (Tri.blk ?_)
 refine Tri.ofKept (Kept.keep [.s 8, .h, .s 0, .s 1, .s 7] rfl (by decide) (Kept.now ?_))
 -- LOOP 1
 refine Tri.loopk (fun (i : Nat) => [(.s 8, .sv (.v (.int .i64 (i : Int))))]) _ (fun (i : Nat) => ixFrom p (l.drop i) i = ixFrom p l 0) (fun (i : Nat) => l.length - i) 0 rfl (by simp) ?_
 rintro i hI
 refine Tri.seq (Tri.region ?_)
 refine TriL.c1 rfl (op_bin (ltb rfl) rfl rfl rfl) ?_
 refine TriL.nil (Tri.seq ?_)
 refine Tri.cond rfl (fun hc1 => ?_) (fun hc1 => ?_)
 ·have hi := ltm hc1
  have hS := ixFrom_step (p := p) hi
  refine Tri.skip (Tri.seq (Tri.blk (Tri.seq (Tri.region ?_))))
  refine TriL.c1 rfl (op_mv (ltb rfl) rfl) ?_
  refine TriL.c1 rfl (op_as (ltb rfl) rfl) ?_
  refine TriL.nil (Tri.seq (Tri.region ?_))
  iterate 3 (refine TriL.c1 rfl (op_mv (ltb rfl) rfl) ?_)
  refine TriL.c1 rfl (op_iak (ltb rfl) ie155_q rfl rfl (Int.natCast_nonneg _) (ixm hi) rfl) ?_
  refine TriL.c1 rfl (op_ldk (ltb rfl) lk96_q rfl rfl) ?_
  refine TriL.c1 rfl (op_callc (ltb rfl) hF rfl rfl (hp _ (List.getElem_mem hi))) ?_
  refine TriL.nil ?_
  refine Tri.cond rfl (fun hc2 => ?_) (fun hc2 => ?_)
  ·refine Tri.seq (Tri.region ?_)
   refine TriL.c1 rfl (op_mv (ltb rfl) rfl) ?_
   refine TriL.c1 rfl (op_as (ltb rfl) rfl) ?_
   refine TriL.nil (Tri.ret ?_)
   exact ⟨.inr rfl, (ResOK.r1 rfl (.tmp rfl .nil)).cast (congrArg (AV.int .i64) (by grind [])), rfl⟩
  ·refine Tri.skip (Tri.region ?_)
   refine TriL.c1 rfl (op_bin (ltb rfl) rfl rfl rfl) ?_
   refine TriL.c1 rfl (op_mv (ltb rfl) rfl) ?_
   refine TriL.kept (Kept.seti 8 rfl (inc (by omega)) (Kept.keep [.s 8, .h, .s 0, .s 1, .s 7] rfl (by decide) (Kept.now ?_)))
   exact ⟨i + 1, by omega, by grind, rfl⟩
 ·have hi := gem hc1
  have hS := ixFrom_end (p := p) hi
  refine Tri.exit (Tri.seq (Tri.region ?_))
  refine TriL.c1 rfl (op_as (ltb rfl) rfl) ?_
  refine TriL.nil (Tri.ret ?_)
  exact ⟨.inr rfl, (ResOK.r1 rfl (.tmp rfl .nil)).cast (congrArg (AV.int .i64) (by grind [])), rfl⟩
theorem p_fm1 (m : Msg) (name : Str) : Pure Tryz.prog 179 ([m.av] ++ [.kp [.str name]]) (.bool (m.name == name)) := by
 refine Pure.of_tri Tryz.func179 rfl rfl (ltb rfl) fun H => ?_
 refine Tri.seq (Tri.region ?_)
 refine TriL.c2 rfl (op_box (ltb rfl) rfl rfl rfl) ?_
 refine TriL.c1 rfl (op_as (ltb rfl) rfl) ?_
 refine TriL.nil (Tri.seq (Tri.region ?_))
 refine TriL.c1 rfl (op_fal (ltb rfl) fo157_0_q rfl) ?_
 refine TriL.c1 rfl (op_ldl (ltb rfl) lk9_q rfl rfl rfl) ?_
 refine TriL.c1 rfl (op_ldk (ltb rfl) lk9_q rfl rfl) ?_
 refine TriL.c1 rfl (op_bin (ltb rfl) rfl rfl rfl) ?_
 refine TriL.c1 rfl (op_as (ltb rfl) rfl) ?_
 refine TriL.nil (Tri.ret ?_)
 exact ⟨.inr rfl, (ResOK.r1 rfl (.tmp rfl .nil)).cast rfl, rfl⟩
theorem p_fn1 (f : Fld) (num : Int) : Pure Tryz.prog 205 ([f.av] ++ [.kp [.int .i64 num]]) (.bool (f.num == num)) := by
 refine Pure.of_tri Tryz.func205 rfl rfl (ltb rfl) fun H => ?_
 refine Tri.seq (Tri.region ?_)
 refine TriL.c2 rfl (op_box (ltb rfl) rfl rfl rfl) ?_
 refine TriL.c1 rfl (op_as (ltb rfl) rfl) ?_
 refine TriL.nil (Tri.seq (Tri.region ?_))
 refine TriL.c1 rfl (op_fal (ltb rfl) fo96_1_q rfl) ?_
 refine TriL.c1 rfl (op_ldl (ltb rfl) lk3_q rfl rfl rfl) ?_
 refine TriL.c1 rfl (op_ldk (ltb rfl) lk3_q rfl rfl) ?_
 refine TriL.c1 rfl (op_bin (ltb rfl) rfl rfl rfl) ?_
 refine TriL.c1 rfl (op_as (ltb rfl) rfl) ?_
 refine TriL.nil (Tri.ret ?_)
 exact ⟨.inr rfl, (ResOK.r1 rfl (.tmp rfl .nil)).cast rfl, rfl⟩
theorem p_msgIx (s : Sch) (name : Str) (hl : s.msgs.length ≤ 9223372036854775807) : Pure Tryz.prog 150 [s.av, .str name] (.int .i64 (s.msgIx name)) := by
 refine Pure.of_tri Tryz.func150 rfl rfl (ltb rfl) fun H => ?_
 refine Tri.seq (Tri.region ?_)
 iterate 2 (refine TriL.c2 rfl (op_box (ltb rfl) rfl rfl rfl) ?_)
 refine TriL.c1 rfl (op_as (ltb rfl) rfl) ?_
 refine TriL.nil (Tri.seq ?_)
 refine Tri.ofKept (Kept.fzb 3 rfl rfl (Kept.now ?_))
 refine Tri.region ?_
 refine TriL.c1 rfl (op_fal (ltb rfl) fo94_1_q rfl) ?_
 refine TriL.c1 rfl (op_ldl (ltb rfl) lk92_q rfl rfl rfl) ?_
 refine TriL.c1 rfl (op_mkf (ltb rfl) rfl) ?_
 refine TriL.c1 rfl (op_call (ltb rfl) fn178_q rfl (p_ixfM s.msgs hl _ _ (fun m => m.name == name) fn179_q (fun x _ => p_fm1 x name))) ?_
 refine TriL.c1 rfl (op_as (ltb rfl) rfl) ?_
 refine TriL.nil (Tri.ret ?_)
 exact ⟨.inr rfl, (ResOK.r1 rfl (.tmp rfl .nil)).cast rfl, rfl⟩
theorem p_number (m : Msg) (num : Int) (hl : m.fields.length ≤ 1000) : Pure Tryz.prog 180 [m.av, .int .i64 num] (.int .i64 (m.at num)) := by
 refine Pure.of_tri Tryz.func180 rfl rfl (ltb rfl) fun H => ?_
 refine Tri.seq (Tri.region ?_)
 iterate 2 (refine TriL.c2 rfl (op_box (ltb rfl) rfl rfl rfl) ?_)
 refine TriL.c1 rfl (op_as (ltb rfl) rfl) ?_
 refine TriL.nil (Tri.seq ?_)
 refine Tri.ofKept (Kept.fzb 3 rfl rfl (Kept.now ?_))
 refine Tri.region ?_
 refine TriL.c1 rfl (op_fal (ltb rfl) fo157_1_q rfl) ?_
 refine TriL.c1 rfl (op_ldl (ltb rfl) lk155_q rfl rfl rfl) ?_
 refine TriL.c1 rfl (op_mkf (ltb rfl) rfl) ?_
 refine TriL.c1 rfl (op_call (ltb rfl) fn204_q rfl (p_ixfF m.fields (by omega) _ _ (fun f => f.num == num) fn205_q (fun x _ => p_fn1 x num))) ?_
 refine TriL.c1 rfl (op_as (ltb rfl) rfl) ?_
 refine TriL.nil (Tri.ret ?_)
 exact ⟨.inr rfl, (ResOK.r1 rfl (.tmp rfl .nil)).cast rfl, rfl⟩
/- which values are values of a message of a schema, in the program. -/
theorem fn107_q : isFn Tryz.prog 107 = true := by kernel_rfl
theorem fn108_q : isFn Tryz.prog 108 = true := by kernel_rfl
theorem fn109_q : isFn Tryz.prog 109 = true := by kernel_rfl
theorem fn180_q : isFn Tryz.prog 180 = true := by kernel_rfl
theorem fn181_q : isFn Tryz.prog 181 = true := by kernel_rfl
theorem fn182_q : isFn Tryz.prog 182 = true := by kernel_rfl
theorem fn183_q : isFn Tryz.prog 183 = true := by kernel_rfl
theorem fn206_q : isFn Tryz.prog 206 = true := by kernel_rfl
theorem fn69_q : isFn Tryz.prog 69 = true := by kernel_rfl
theorem fn75_q : isFn Tryz.prog 75 = true := by kernel_rfl
theorem fo55_0_q : fo Tryz.prog 55 0 = some 0 := by kernel_rfl
theorem fo55_1_q : fo Tryz.prog 55 1 = some 1 := by kernel_rfl
theorem fo96_3_q : fo Tryz.prog 96 3 = some 3 := by kernel_rfl
theorem ie56_q : ie Tryz.prog 56 = some 2 := by kernel_rfl
theorem ie57_q : ie Tryz.prog 57 = some 4 := by kernel_rfl
theorem lk126_q : lk Tryz.prog 126 = some (true, 4) := by kernel_rfl
theorem lk44_q : lk Tryz.prog 44 = some (true, 3) := by kernel_rfl
theorem lk52_q : lk Tryz.prog 52 = some (false, 1) := by kernel_rfl
theorem lk55_q : lk Tryz.prog 55 = some (true, 2) := by kernel_rfl
theorem lk94_q : lk Tryz.prog 94 = some (true, 2) := by kernel_rfl
theorem un205_q : Tryz.prog.underlying 205 = some (TypeDesc.map 9 3) := Tryz.underlying205
theorem un3_q : Tryz.prog.underlying 3 = some (TypeDesc.int IntKind.i64) := Tryz.underlying3
theorem un56_q : Tryz.prog.underlying 56 = some (TypeDesc.slice 55) := Tryz.underlying56
theorem un57_q : Tryz.prog.underlying 57 = some (TypeDesc.slice 126) := Tryz.underlying57
theorem un9_q : Tryz.prog.underlying 9 = some TypeDesc.string := Tryz.underlying9
theorem zA126_q : zeroA Tryz.prog 126 = some [AV.int IntKind.i64 (0), AV.int IntKind.i64 (0), AV.int IntKind.u64 (0), AV.str []] := by kernel_rfl
theorem zA44_q : zeroA Tryz.prog 44 = some [AV.int IntKind.u64 (0), AV.str [], AV.sl []] := by kernel_rfl
theorem zA55_q : zeroA Tryz.prog 55 = some [AV.int IntKind.i64 (0), AV.sl []] := by kernel_rfl
theorem zv3_q : ∀ w, (zeroValue 3).run Tryz.prog w = .ok (.int .i64 0) w := fun w => by kernel_rfl
theorem p_val (s : Sch) (f : Fld) (v : Val) (hvs : v.s.length ≤ 9223372036854775807) (ih : ∀ u ∈ v.m, ∀ name : Str, Pure Tryz.prog 109 [s.av, .str name, .agg u.cells] (.bool (u.ok s name))) : Pure Tryz.prog 69 [s.av, f.av, .agg v.cells] (.bool (v.ok s f)) := by
 have hE := Val.ok_eq s f v
 have hT1 := @treeOk1_one s f.ref v.m
 have hT0 := @treeOk1_no s f.ref v.m
 refine Pure.of_tri Tryz.func69 rfl rfl (ltb rfl) fun H => ?_
 refine Tri.seq (Tri.region ?_)
 iterate 3 (refine TriL.c2 rfl (op_box (ltb rfl) rfl rfl rfl) ?_)
 refine TriL.c1 rfl (op_as (ltb rfl) rfl) ?_
 refine TriL.nil ?_
 refine Tri.joinu [.h, .s 3, .b 3, .s 4, .b 4, .s 5, .b 5] (fun (pl : Bool) => [(.s 7, .sv (.v (.bool pl)))]) (fun (pl : Bool) => pl = (decide (v.n = 0) && decide (v.m.length = 0))) rfl ?_ ?_
 ·-- region 1 valid.go:16
  refine Tri.region ?_
  refine TriL.c1 rfl (op_fal (ltb rfl) fo44_0_q rfl) ?_
  refine TriL.c1 rfl (op_ldl (ltb rfl) lk41_q rfl rfl rfl) ?_
  refine TriL.c1 rfl (op_bin (ltb rfl) rfl rfl rfl) ?_
  refine TriL.c1 rfl (op_mv (ltb rfl) rfl) ?_
  refine TriL.split (d := 11) rfl (fun hg1 => ?_) (fun hg1 => ?_)
  ·refine TriL.g1 rfl (ltb rfl) rfl hg1 (op_fal (ltb rfl) fo44_2_q rfl) ?_
   refine TriL.g1 rfl (ltb rfl) rfl hg1 (op_ldl (ltb rfl) lk42_q rfl rfl rfl) ?_
   refine TriL.g1 rfl (ltb rfl) rfl hg1 (op_lenl (ltb rfl) un42_q rfl) ?_
   refine TriL.g1 rfl (ltb rfl) rfl hg1 (op_bin (ltb rfl) rfl rfl rfl) ?_
   refine TriL.c1 rfl (op_pickt (ltb rfl) rfl hg1 rfl) ?_
   refine TriL.c1 rfl (op_as (ltb rfl) rfl) ?_
   refine TriL.kept (Kept.keep [.s 7, .h, .s 3, .b 3, .s 4, .b 4, .s 5, .b 5] rfl (by decide) (Kept.now ?_))
   exact ⟨_, by grind, rfl⟩
  ·iterate 4 (refine TriL.skipu rfl rfl (ltb rfl) (ltb rfl) rfl hg1 ?_)
   refine TriL.c1 rfl (op_pickf (ltb rfl) rfl hg1 rfl) ?_
   refine TriL.c1 rfl (op_as (ltb rfl) rfl) ?_
   refine TriL.kept (Kept.keep [.s 7, .h, .s 3, .b 3, .s 4, .b 4, .s 5, .b 5] rfl (by decide) (Kept.now ?_))
   exact ⟨_, by grind, rfl⟩
 ·rintro pl hF2
  refine Tri.seq (Tri.blk (Tri.seq (Tri.region ?_)))
  refine TriL.c1 rfl (op_fal (ltb rfl) fo96_2_q rfl) ?_
  refine TriL.c1 rfl (op_ldl (ltb rfl) lk3_q rfl rfl rfl) ?_
  refine TriL.c1 rfl (op_call (ltb rfl) fn107_q rfl (p_numT _)) ?_
  refine TriL.c1 rfl (op_as (ltb rfl) rfl) ?_
  refine TriL.nil ?_
  refine Tri.cond rfl (fun hc2 => ?_) (fun hc2 => ?_)
  ·refine Tri.seq (Tri.region ?_)
   refine TriL.c1 rfl (op_fal (ltb rfl) fo96_2_q rfl) ?_
   refine TriL.c1 rfl (op_ldl (ltb rfl) lk3_q rfl rfl rfl) ?_
   refine TriL.c1 rfl (op_fal (ltb rfl) fo44_0_q rfl) ?_
   refine TriL.c1 rfl (op_ldl (ltb rfl) lk41_q rfl rfl rfl) ?_
   refine TriL.c1 rfl (op_call (ltb rfl) fn108_q rfl (p_may _ _)) ?_
   refine TriL.c1 rfl (op_mv (ltb rfl) rfl) ?_
   refine TriL.split (d := 26) rfl (fun hg3 => ?_) (fun hg3 => ?_)
   ·refine TriL.g1 rfl (ltb rfl) rfl hg3 (op_fal (ltb rfl) fo44_1_q rfl) ?_
    refine TriL.g1 rfl (ltb rfl) rfl hg3 (op_ldl (ltb rfl) lk9_q rfl rfl rfl) ?_
    refine TriL.g1 rfl (ltb rfl) rfl hg3 (op_bin (ltb rfl) rfl rfl rfl) ?_
    refine TriL.c1 rfl (op_pickt (ltb rfl) rfl hg3 rfl) ?_
    refine TriL.c1 rfl (op_mv (ltb rfl) rfl) ?_
    refine TriL.split (d := 31) rfl (fun hg4 => ?_) (fun hg4 => ?_)
    ·refine TriL.g1 rfl (ltb rfl) rfl hg4 (op_fal (ltb rfl) fo44_2_q rfl) ?_
     refine TriL.g1 rfl (ltb rfl) rfl hg4 (op_ldl (ltb rfl) lk42_q rfl rfl rfl) ?_
     refine TriL.g1 rfl (ltb rfl) rfl hg4 (op_lenl (ltb rfl) un42_q rfl) ?_
     refine TriL.g1 rfl (ltb rfl) rfl hg4 (op_bin (ltb rfl) rfl rfl rfl) ?_
     refine TriL.c1 rfl (op_pickt (ltb rfl) rfl hg4 rfl) ?_
     refine TriL.c1 rfl (op_as (ltb rfl) rfl) ?_
     refine TriL.nil (Tri.ret ?_)
     exact ⟨.inr rfl, (ResOK.r1 rfl (.tmp rfl .nil)).cast (congrArg AV.bool (by grind [])), rfl⟩
    ·iterate 4 (refine TriL.skipu rfl rfl (ltb rfl) (ltb rfl) rfl hg4 ?_)
     refine TriL.c1 rfl (op_pickf (ltb rfl) rfl hg4 rfl) ?_
     refine TriL.c1 rfl (op_as (ltb rfl) rfl) ?_
     refine TriL.nil (Tri.ret ?_)
     exact ⟨.inr rfl, (ResOK.r1 rfl (.tmp rfl .nil)).cast (congrArg AV.bool (by grind [])), rfl⟩
   ·iterate 3 (refine TriL.skipu rfl rfl (ltb rfl) (ltb rfl) rfl hg3 ?_)
    refine TriL.c1 rfl (op_pickf (ltb rfl) rfl hg3 rfl) ?_
    refine TriL.c1 rfl (op_mv (ltb rfl) rfl) ?_
    iterate 4 (refine TriL.skipu rfl rfl (ltb rfl) (ltb rfl) rfl rfl ?_)
    refine TriL.c1 rfl (op_pickf (ltb rfl) rfl rfl rfl) ?_
    refine TriL.c1 rfl (op_as (ltb rfl) rfl) ?_
    refine TriL.nil (Tri.ret ?_)
    exact ⟨.inr rfl, (ResOK.r1 rfl (.tmp rfl .nil)).cast (congrArg AV.bool (by grind [])), rfl⟩
  ·refine Tri.seq (Tri.region ?_)
   refine TriL.c1 rfl (op_fal (ltb rfl) fo96_2_q rfl) ?_
   refine TriL.c1 rfl (op_ldl (ltb rfl) lk3_q rfl rfl rfl) ?_
   refine TriL.c1 rfl (op_bin (ltb rfl) rfl rfl rfl) ?_
   refine TriL.c1 rfl (op_as (ltb rfl) rfl) ?_
   refine TriL.nil ?_
   refine Tri.cond rfl (fun hc5 => ?_) (fun hc5 => ?_)
   ·refine Tri.seq (Tri.region ?_)
    iterate 2 (refine TriL.c1 rfl (op_mv (ltb rfl) rfl) ?_)
    refine TriL.split (d := 42) rfl (fun hg6 => ?_) (fun hg6 => ?_)
    ·refine TriL.g1 rfl (ltb rfl) rfl hg6 (op_fal (ltb rfl) fo44_1_q rfl) ?_
     refine TriL.g1 rfl (ltb rfl) rfl hg6 (op_ldl (ltb rfl) lk9_q rfl rfl rfl) ?_
     refine TriL.g1 rfl (ltb rfl) rfl hg6 (op_call (ltb rfl) fn75_q rfl (p_validS _ hvs)) ?_
     refine TriL.c1 rfl (op_pickt (ltb rfl) rfl hg6 rfl) ?_
     refine TriL.c1 rfl (op_as (ltb rfl) rfl) ?_
     refine TriL.nil (Tri.ret ?_)
     exact ⟨.inr rfl, (ResOK.r1 rfl (.tmp rfl .nil)).cast (congrArg AV.bool (by grind [])), rfl⟩
    ·iterate 3 (refine TriL.skipu rfl rfl (ltb rfl) (ltb rfl) rfl hg6 ?_)
     refine TriL.c1 rfl (op_pickf (ltb rfl) rfl hg6 rfl) ?_
     refine TriL.c1 rfl (op_as (ltb rfl) rfl) ?_
     refine TriL.nil (Tri.ret ?_)
     exact ⟨.inr rfl, (ResOK.r1 rfl (.tmp rfl .nil)).cast (congrArg AV.bool (by grind [])), rfl⟩
   ·refine Tri.seq (Tri.region ?_)
    refine TriL.c1 rfl (op_fal (ltb rfl) fo96_2_q rfl) ?_
    refine TriL.c1 rfl (op_ldl (ltb rfl) lk3_q rfl rfl rfl) ?_
    refine TriL.c1 rfl (op_bin (ltb rfl) rfl rfl rfl) ?_
    refine TriL.c1 rfl (op_as (ltb rfl) rfl) ?_
    refine TriL.nil ?_
    refine Tri.cond rfl (fun hc7 => ?_) (fun hc7 => ?_)
    ·refine Tri.seq (Tri.region ?_)
     refine TriL.c1 rfl (op_mv (ltb rfl) rfl) ?_
     refine TriL.c1 rfl (op_as (ltb rfl) rfl) ?_
     refine TriL.nil (Tri.ret ?_)
     exact ⟨.inr rfl, (ResOK.r1 rfl (.tmp rfl .nil)).cast (congrArg AV.bool (by grind [])), rfl⟩
    ·refine Tri.seq (Tri.region ?_)
     refine TriL.c1 rfl (op_fal (ltb rfl) fo96_2_q rfl) ?_
     refine TriL.c1 rfl (op_ldl (ltb rfl) lk3_q rfl rfl rfl) ?_
     refine TriL.c1 rfl (op_bin (ltb rfl) rfl rfl rfl) ?_
     refine TriL.c1 rfl (op_as (ltb rfl) rfl) ?_
     refine TriL.nil ?_
     refine Tri.cond rfl (fun hc8 => ?_) (fun hc8 => ?_)
     ·refine Tri.seq ?_
      refine Tri.drawn mixed rfl ?_
      refine TriD.c1 rfl (op_fal (ltb rfl) fo44_0_q rfl) ?_
      refine TriD.c1 rfl (op_ldl (ltb rfl) lk41_q rfl rfl rfl) ?_
      refine TriD.c1 rfl (op_bin (ltb rfl) rfl rfl rfl) ?_
      refine TriD.c1 rfl (op_mv (ltb rfl) rfl) ?_
      refine TriD.split (d := 59) rfl (fun hg9 => ?_) (fun hg9 => ?_)
      ·refine TriD.g1 rfl (ltb rfl) rfl hg9 (op_fal (ltb rfl) fo44_1_q rfl) ?_
       refine TriD.g1 rfl (ltb rfl) rfl hg9 (op_ldl (ltb rfl) lk9_q rfl rfl rfl) ?_
       refine TriD.g1 rfl (ltb rfl) rfl hg9 (op_bin (ltb rfl) rfl rfl rfl) ?_
       refine TriD.c1 rfl (op_pickt (ltb rfl) rfl hg9 rfl) ?_
       refine TriD.c1 rfl (op_mv (ltb rfl) rfl) ?_
       refine TriD.split (d := 64) rfl (fun hg10 => ?_) (fun hg10 => ?_)
       ·refine TriD.g1 rfl (ltb rfl) rfl hg10 (op_fal (ltb rfl) fo44_2_q rfl) ?_
        refine TriD.g1 rfl (ltb rfl) rfl hg10 (op_ldl (ltb rfl) lk42_q rfl rfl rfl) ?_
        refine TriD.g1 rfl (ltb rfl) rfl hg10 (op_lenl (ltb rfl) un42_q rfl) ?_
        refine TriD.g1 rfl (ltb rfl) rfl hg10 (op_bin (ltb rfl) rfl rfl rfl) ?_
        refine TriD.c1 rfl (op_pickt (ltb rfl) rfl hg10 rfl) ?_
        refine TriD.c1 rfl (op_mv (ltb rfl) rfl) ?_
        refine TriD.split (d := 70) rfl (fun hg11 => ?_) (fun hg11 => ?_)
        ·refine TriD.g1 rfl (ltb rfl) rfl hg11 (op_ldl (ltb rfl) lk94_q rfl rfl rfl) ?_
         refine TriD.g1 rfl (ltb rfl) rfl hg11 (op_fal (ltb rfl) fo96_3_q rfl) ?_
         refine TriD.g1 rfl (ltb rfl) rfl hg11 (op_ldl (ltb rfl) lk9_q rfl rfl rfl) ?_
         refine TriD.g1 rfl (ltb rfl) rfl hg11 (op_fal (ltb rfl) fo44_2_q rfl) ?_
         refine TriD.g1 rfl (ltb rfl) rfl hg11 (op_ldl (ltb rfl) lk42_q rfl rfl rfl) ?_
         refine TriD.g1 rfl (ltb rfl) rfl hg11 (op_iak (ltb rfl) ie42_q rfl rfl (by decide) (ixmE (i := 0) Tree.av_eq (by grind)) rfl) ?_
         refine TriD.g1 rfl (ltb rfl) rfl hg11 (op_ldk (ltb rfl) lk59_q rfl rfl) ?_
         refine TriD.g1 rfl (ltb rfl) rfl hg11 (op_call (ltb rfl) fn109_q rfl (ih _ (List.getElem_mem (by grind)) _)) ?_
         refine TriD.c1 rfl (op_pickt (ltb rfl) rfl hg11 rfl) ?_
         refine TriD.c1 rfl (op_as (ltb rfl) rfl) ?_
         refine TriD.nil (by kernel_rfl) (Kept.now ?_)
         refine Tri.ret ?_
         exact ⟨.inr rfl, (ResOK.r1 rfl (.tmp rfl .nil)).cast (congrArg AV.bool (by have hm1 : v.m.length = 1 := (by have h := hg11; simp at h; omega); have hq := hT1 hm1; have h0 : v.n = 0 := (by simpa using hg9); have hs0 : v.s = [] := (by simpa using hg10); have hty : f.ty = 15 := (by simpa using hc8); have hnt : numT 15 = false := (by decide); rw [hE, if_neg (by simp [hc2]), if_neg (by omega), if_neg (by omega), if_pos hty, hq, h0, hs0]; simp)), rfl⟩
        ·iterate 8 (refine TriD.skipu rfl rfl (ltb rfl) (ltb rfl) rfl hg11 ?_)
         refine TriD.c1 rfl (op_pickf (ltb rfl) rfl hg11 rfl) ?_
         refine TriD.c1 rfl (op_as (ltb rfl) rfl) ?_
         refine TriD.nil (by kernel_rfl) (Kept.now ?_)
         refine Tri.ret ?_
         exact ⟨.inr rfl, (ResOK.r1 rfl (.tmp rfl .nil)).cast (congrArg AV.bool (by grind [])), rfl⟩
       ·iterate 4 (refine TriD.skipu rfl rfl (ltb rfl) (ltb rfl) rfl hg10 ?_)
        refine TriD.c1 rfl (op_pickf (ltb rfl) rfl hg10 rfl) ?_
        refine TriD.c1 rfl (op_mv (ltb rfl) rfl) ?_
        iterate 8 (refine TriD.skipu rfl rfl (ltb rfl) (ltb rfl) rfl rfl ?_)
        refine TriD.c1 rfl (op_pickf (ltb rfl) rfl rfl rfl) ?_
        refine TriD.c1 rfl (op_as (ltb rfl) rfl) ?_
        refine TriD.nil (by kernel_rfl) (Kept.now ?_)
        refine Tri.ret ?_
        exact ⟨.inr rfl, (ResOK.r1 rfl (.tmp rfl .nil)).cast (congrArg AV.bool (by grind [])), rfl⟩
      ·iterate 3 (refine TriD.skipu rfl rfl (ltb rfl) (ltb rfl) rfl hg9 ?_)
       refine TriD.c1 rfl (op_pickf (ltb rfl) rfl hg9 rfl) ?_
       refine TriD.c1 rfl (op_mv (ltb rfl) rfl) ?_
       iterate 4 (refine TriD.skipu rfl rfl (ltb rfl) (ltb rfl) rfl rfl ?_)
       refine TriD.c1 rfl (op_pickf (ltb rfl) rfl rfl rfl) ?_
       refine TriD.c1 rfl (op_mv (ltb rfl) rfl) ?_
       iterate 8 (refine TriD.skipu rfl rfl (ltb rfl) (ltb rfl) rfl rfl ?_)
       refine TriD.c1 rfl (op_pickf (ltb rfl) rfl rfl rfl) ?_
       refine TriD.c1 rfl (op_as (ltb rfl) rfl) ?_
       refine TriD.nil (by kernel_rfl) (Kept.now ?_)
       refine Tri.ret ?_
       exact ⟨.inr rfl, (ResOK.r1 rfl (.tmp rfl .nil)).cast (congrArg AV.bool (by grind [])), rfl⟩
     ·refine Tri.skip (Tri.seq (Tri.region ?_))
      refine TriL.c1 rfl (op_as (ltb rfl) rfl) ?_
      refine TriL.nil (Tri.ret ?_)
      exact ⟨.inr rfl, (ResOK.r1 rfl (.tmp rfl .nil)).cast (congrArg AV.bool (by grind [])), rfl⟩
theorem p_vals (s : Sch) (f : Fld) (l : List Val) (hl : l.length ≤ 9223372036854775807) (hvs : ∀ v ∈ l, v.s.length ≤ 9223372036854775807) (ih : ∀ v ∈ l, ∀ u ∈ v.m, ∀ name : Str, Pure Tryz.prog 109 [s.av, .str name, .agg u.cells] (.bool (u.ok s name))) : Pure Tryz.prog 181 [s.av, f.av, .sl (l.map Val.av)] (.bool (decide (0 < l.length) && (f.rep || decide (l.length = 1)) && l.all fun v => v.ok s f && (!f.hidden || (!decide (v.n = 0) || !(v.s == []))))) := by
 refine Pure.of_tri Tryz.func181 rfl rfl (ltb rfl) fun H => ?_
 refine Tri.seq (Tri.region ?_)
 iterate 2 (refine TriL.c2 rfl (op_box (ltb rfl) rfl rfl rfl) ?_)
 refine TriL.c1 rfl (op_as (ltb rfl) rfl) ?_
 refine TriL.nil ?_
 refine Tri.joinu [.h, .s 2, .s 3, .b 3, .s 4, .b 4] (fun (_ : Unit) => []) (fun (_ : Unit) => 0 < l.length ∧ (f.rep = true ∨ l.length = 1)) rfl ?_ ?_
 ·refine Tri.seq (Tri.region ?_)
  refine TriL.c1 rfl (op_mv (ltb rfl) rfl) ?_
  refine TriL.c1 rfl (op_lenl (ltb rfl) un52_q rfl) ?_
  refine TriL.c1 rfl (op_bin (ltb rfl) rfl rfl rfl) ?_
  refine TriL.c1 rfl (op_mv (ltb rfl) rfl) ?_
  refine TriL.split (d := 12) rfl (fun hg1 => ?_) (fun hg1 => ?_)
  ·iterate 4 (refine TriL.skipu rfl rfl (ltb rfl) (ltb rfl) rfl hg1 ?_)
   iterate 3 (refine TriL.skipg rfl rfl (ltb rfl) (ltb rfl) rfl ?_)
   refine TriL.skipu rfl rfl (ltb rfl) (ltb rfl) rfl hg1 ?_
   refine TriL.c1 rfl (op_pickt (ltb rfl) rfl hg1 rfl) ?_
   refine TriL.nil ?_
   refine Tri.condT rfl rfl ?_
   refine Tri.seq (Tri.region ?_)
   refine TriL.c1 rfl (op_as (ltb rfl) rfl) ?_
   refine TriL.nil (Tri.ret ?_)
   exact ⟨.inr rfl, (ResOK.r1 rfl (.tmp rfl .nil)).cast (congrArg AV.bool (by grind [])), rfl⟩
  ·refine TriL.g1 rfl (ltb rfl) rfl hg1 (op_fal (ltb rfl) fo96_4_q rfl) ?_
   refine TriL.g1 rfl (ltb rfl) rfl hg1 (op_ldl (ltb rfl) lk4_q rfl rfl rfl) ?_
   refine TriL.g1 rfl (ltb rfl) rfl hg1 (op_un (ltb rfl) rfl rfl) ?_
   refine TriL.g1 rfl (ltb rfl) rfl hg1 (op_mv (ltb rfl) rfl) ?_
   refine TriL.split (d := 16) rfl (fun hg2 => ?_) (fun hg2 => ?_)
   ·refine TriL.g1 rfl (ltb rfl) rfl hg2 (op_mv (ltb rfl) rfl) ?_
    refine TriL.g1 rfl (ltb rfl) rfl hg2 (op_lenl (ltb rfl) un52_q rfl) ?_
    refine TriL.g1 rfl (ltb rfl) rfl hg2 (op_bin (ltb rfl) rfl rfl rfl) ?_
    refine TriL.g1 rfl (ltb rfl) rfl hg1 (op_pickt (ltb rfl) rfl hg2 rfl) ?_
    refine TriL.c1 rfl (op_pickf (ltb rfl) rfl hg1 rfl) ?_
    refine TriL.nil ?_
    refine Tri.cond rfl (fun hc3 => ?_) (fun hc3 => ?_)
    ·refine Tri.seq (Tri.region ?_)
     refine TriL.c1 rfl (op_as (ltb rfl) rfl) ?_
     refine TriL.nil (Tri.ret ?_)
     exact ⟨.inr rfl, (ResOK.r1 rfl (.tmp rfl .nil)).cast (congrArg AV.bool (by grind [])), rfl⟩
    ·refine Tri.ofKept (Kept.keep [.h, .s 2, .s 3, .b 3, .s 4, .b 4] rfl (by decide) (Kept.now ?_))
     refine Tri.skip ?_
     exact ⟨(), by grind, rfl⟩
   ·iterate 3 (refine TriL.skipu rfl rfl (ltb rfl) (ltb rfl) rfl hg2 ?_)
    refine TriL.g1 rfl (ltb rfl) rfl hg1 (op_pickf (ltb rfl) rfl hg2 rfl) ?_
    refine TriL.c1 rfl (op_pickf (ltb rfl) rfl hg1 rfl) ?_
    refine TriL.nil ?_
    refine Tri.condF rfl rfl ?_
    refine Tri.ofKept (Kept.keep [.h, .s 2, .s 3, .b 3, .s 4, .b 4] rfl (by decide) (Kept.now ?_))
    refine Tri.skip ?_
    exact ⟨(), by grind, rfl⟩
 ·rintro _ hF3
  refine Tri.seq (Tri.seq (Tri.region ?_))
  refine TriL.c1 rfl (op_mv (ltb rfl) rfl) ?_
  refine TriL.c1 rfl (op_lenl (ltb rfl) un52_q rfl) ?_
  refine TriL.c1 rfl (op_mv (ltb rfl) rfl) ?_
  refine TriL.nil (Tri.blk ?_)
  refine Tri.ofKept (Kept.keep [.s 24, .h, .s 3, .b 3, .s 4, .b 4, .s 22, .s 23] rfl (by decide) (Kept.now ?_))
  -- LOOP 1
  refine Tri.loopk (fun (i : Nat) => [(.s 24, .sv (.v (.int .i64 (i : Int))))]) _ (fun (i : Nat) => (l.drop i).all (fun v => v.ok s f && (!f.hidden || (!decide (v.n = 0) || !(v.s == [])))) = l.all (fun v => v.ok s f && (!f.hidden || (!decide (v.n = 0) || !(v.s == []))))) (fun (i : Nat) => l.length - i) 0 rfl (by simp) ?_
  rintro i hI
  refine Tri.seq (Tri.region ?_)
  refine TriL.c1 rfl (op_bin (ltb rfl) rfl rfl rfl) ?_
  refine TriL.nil (Tri.seq ?_)
  refine Tri.cond rfl (fun hc4 => ?_) (fun hc4 => ?_)
  ·have hi := ltm hc4
   have hS := all_step (p := fun v : Val => v.ok s f && (!f.hidden || (!decide (v.n = 0) || !(v.s == [])))) hi
   refine Tri.skip (Tri.seq (Tri.blk (Tri.seq (Tri.region ?_))))
   refine TriL.c1 rfl (op_iak (ltb rfl) ie52_q rfl rfl (Int.natCast_nonneg _) (ixmE Val.av_eq hi) rfl) ?_
   refine TriL.c1 rfl (op_ldk (ltb rfl) lk44_q rfl rfl) ?_
   refine TriL.c2 rfl (op_all (ltb rfl) zA44_q rfl) ?_
   refine TriL.c1 rfl (op_stl lk44_q rfl rfl rfl rfl rfl (leb rfl)) ?_
   refine TriL.nil (Tri.seq (Tri.region ?_))
   refine TriL.c1 rfl (op_ldl (ltb rfl) lk94_q rfl rfl rfl) ?_
   refine TriL.c1 rfl (op_ldl (ltb rfl) lk96_q rfl rfl rfl) ?_
   refine TriL.c1 rfl (op_ldl (ltb rfl) lk44_q rfl rfl rfl) ?_
   refine TriL.c1 rfl (op_call (ltb rfl) fn69_q rfl (p_val _ _ _ (hvs _ (List.getElem_mem hi)) (ih _ (List.getElem_mem hi)))) ?_
   refine TriL.c1 rfl (op_un (ltb rfl) rfl rfl) ?_
   refine TriL.c1 rfl (op_mv (ltb rfl) rfl) ?_
   refine TriL.split (d := 33) rfl (fun hg5 => ?_) (fun hg5 => ?_)
   ·iterate 3 (refine TriL.skipu rfl rfl (ltb rfl) (ltb rfl) rfl hg5 ?_)
    iterate 3 (refine TriL.skipg rfl rfl (ltb rfl) (ltb rfl) rfl ?_)
    iterate 2 (refine TriL.skipu rfl rfl (ltb rfl) (ltb rfl) rfl hg5 ?_)
    iterate 3 (refine TriL.skipg rfl rfl (ltb rfl) (ltb rfl) rfl ?_)
    refine TriL.skipu rfl rfl (ltb rfl) (ltb rfl) rfl hg5 ?_
    refine TriL.c1 rfl (op_pickt (ltb rfl) rfl hg5 rfl) ?_
    refine TriL.nil ?_
    refine Tri.condT rfl rfl ?_
    refine Tri.seq (Tri.region ?_)
    refine TriL.c1 rfl (op_as (ltb rfl) rfl) ?_
    refine TriL.nil (Tri.ret ?_)
    exact ⟨.inr rfl, (ResOK.r1 rfl (.tmp rfl .nil)).cast (congrArg AV.bool (by grind [])), rfl⟩
   ·refine TriL.g1 rfl (ltb rfl) rfl hg5 (op_ldl (ltb rfl) lk96_q rfl rfl rfl) ?_
    refine TriL.g1 rfl (ltb rfl) rfl hg5 (op_call (ltb rfl) fn206_q rfl (p_hidden _)) ?_
    refine TriL.g1 rfl (ltb rfl) rfl hg5 (op_mv (ltb rfl) rfl) ?_
    refine TriL.split (d := 36) rfl (fun hg6 => ?_) (fun hg6 => ?_)
    ·refine TriL.g1 rfl (ltb rfl) rfl hg6 (op_fal (ltb rfl) fo44_0_q rfl) ?_
     refine TriL.g1 rfl (ltb rfl) rfl hg6 (op_ldl (ltb rfl) lk41_q rfl rfl rfl) ?_
     refine TriL.g1 rfl (ltb rfl) rfl hg6 (op_bin (ltb rfl) rfl rfl rfl) ?_
     refine TriL.g1 rfl (ltb rfl) rfl hg5 (op_pickt (ltb rfl) rfl hg6 rfl) ?_
     refine TriL.g1 rfl (ltb rfl) rfl hg5 (op_mv (ltb rfl) rfl) ?_
     refine TriL.split (d := 41) rfl (fun hg7 => ?_) (fun hg7 => ?_)
     ·refine TriL.g1 rfl (ltb rfl) rfl hg7 (op_fal (ltb rfl) fo44_1_q rfl) ?_
      refine TriL.g1 rfl (ltb rfl) rfl hg7 (op_ldl (ltb rfl) lk9_q rfl rfl rfl) ?_
      refine TriL.g1 rfl (ltb rfl) rfl hg7 (op_bin (ltb rfl) rfl rfl rfl) ?_
      refine TriL.g1 rfl (ltb rfl) rfl hg5 (op_pickt (ltb rfl) rfl hg7 rfl) ?_
      refine TriL.c1 rfl (op_pickf (ltb rfl) rfl hg5 rfl) ?_
      refine TriL.nil ?_
      refine Tri.cond rfl (fun hc8 => ?_) (fun hc8 => ?_)
      ·refine Tri.seq (Tri.region ?_)
       refine TriL.c1 rfl (op_as (ltb rfl) rfl) ?_
       refine TriL.nil (Tri.ret ?_)
       exact ⟨.inr rfl, (ResOK.r1 rfl (.tmp rfl .nil)).cast (congrArg AV.bool (by grind [])), rfl⟩
      ·refine Tri.skip (Tri.region ?_)
       refine TriL.c1 rfl (op_bin (ltb rfl) rfl rfl rfl) ?_
       refine TriL.c1 rfl (op_mv (ltb rfl) rfl) ?_
       refine TriL.kept (Kept.seti 24 rfl (inc (by omega)) (Kept.keep [.s 24, .h, .s 3, .b 3, .s 4, .b 4, .s 22, .s 23] rfl (by decide) (Kept.now ?_)))
       exact ⟨i + 1, by omega, by grind, rfl⟩
     ·iterate 3 (refine TriL.skipu rfl rfl (ltb rfl) (ltb rfl) rfl hg7 ?_)
      refine TriL.g1 rfl (ltb rfl) rfl hg5 (op_pickf (ltb rfl) rfl hg7 rfl) ?_
      refine TriL.c1 rfl (op_pickf (ltb rfl) rfl hg5 rfl) ?_
      refine TriL.nil ?_
      refine Tri.condF rfl rfl ?_
      refine Tri.skip (Tri.region ?_)
      refine TriL.c1 rfl (op_bin (ltb rfl) rfl rfl rfl) ?_
      refine TriL.c1 rfl (op_mv (ltb rfl) rfl) ?_
      refine TriL.kept (Kept.seti 24 rfl (inc (by omega)) (Kept.keep [.s 24, .h, .s 3, .b 3, .s 4, .b 4, .s 22, .s 23] rfl (by decide) (Kept.now ?_)))
      exact ⟨i + 1, by omega, by grind, rfl⟩
    ·iterate 3 (refine TriL.skipu rfl rfl (ltb rfl) (ltb rfl) rfl hg6 ?_)
     refine TriL.g1 rfl (ltb rfl) rfl hg5 (op_pickf (ltb rfl) rfl hg6 rfl) ?_
     refine TriL.g1 rfl (ltb rfl) rfl hg5 (op_mv (ltb rfl) rfl) ?_
     iterate 3 (refine TriL.skipu rfl rfl (ltb rfl) (ltb rfl) rfl rfl ?_)
     refine TriL.g1 rfl (ltb rfl) rfl hg5 (op_pickf (ltb rfl) rfl rfl rfl) ?_
     refine TriL.c1 rfl (op_pickf (ltb rfl) rfl hg5 rfl) ?_
     refine TriL.nil ?_
     refine Tri.condF rfl rfl ?_
     refine Tri.skip (Tri.region ?_)
     refine TriL.c1 rfl (op_bin (ltb rfl) rfl rfl rfl) ?_
     refine TriL.c1 rfl (op_mv (ltb rfl) rfl) ?_
     refine TriL.kept (Kept.seti 24 rfl (inc (by omega)) (Kept.keep [.s 24, .h, .s 3, .b 3, .s 4, .b 4, .s 22, .s 23] rfl (by decide) (Kept.now ?_)))
     exact ⟨i + 1, by omega, by grind, rfl⟩
  ·have hi := gem hc4
   have hS := all_end (p := fun v : Val => v.ok s f && (!f.hidden || (!decide (v.n = 0) || !(v.s == [])))) hi
   refine Tri.exit (Tri.seq (Tri.region ?_))
   refine TriL.c1 rfl (op_as (ltb rfl) rfl) ?_
   refine TriL.nil (Tri.ret ?_)
   exact ⟨.inr rfl, (ResOK.r1 rfl (.tmp rfl .nil)).cast (congrArg AV.bool (by grind [])), rfl⟩
theorem p_restk (m : Msg) (r : Rw) (hl : m.fields.length ≤ 1000) : Pure Tryz.prog 182 ([r.av] ++ [.kp m.cells]) (.bool (decide (0 ≤ m.at r.num))) := by
 refine Pure.of_tri Tryz.func182 rfl rfl (ltb rfl) fun H => ?_
 refine Tri.seq (Tri.region ?_)
 refine TriL.c2 rfl (op_box (ltb rfl) rfl rfl rfl) ?_
 refine TriL.c1 rfl (op_as (ltb rfl) rfl) ?_
 refine TriL.nil (Tri.seq (Tri.region ?_))
 refine TriL.c1 rfl (op_ldk (ltb rfl) lk157_q rfl rfl) ?_
 refine TriL.c1 rfl (op_fal (ltb rfl) fo126_0_q rfl) ?_
 refine TriL.c1 rfl (op_ldl (ltb rfl) lk3_q rfl rfl rfl) ?_
 refine TriL.c1 rfl (op_call (ltb rfl) fn180_q rfl (p_number _ _ (by omega))) ?_
 refine TriL.c1 rfl (op_bin (ltb rfl) rfl rfl rfl) ?_
 refine TriL.c1 rfl (op_as (ltb rfl) rfl) ?_
 refine TriL.nil (Tri.ret ?_)
 exact ⟨.inr rfl, (ResOK.r1 rfl (.tmp rfl .nil)).cast rfl, rfl⟩
theorem p_rest (m : Msg) (l : List Rw) (hl : l.length ≤ 9223372036854775807) (hm : m.fields.length ≤ 1000) : Pure Tryz.prog 152 [m.av, .sl (l.map Rw.av)] (.bool (l.all (restOK m))) := by
 refine Pure.of_tri Tryz.func152 rfl rfl (ltb rfl) fun H => ?_
 refine Tri.seq (Tri.region ?_)
 refine TriL.c2 rfl (op_box (ltb rfl) rfl rfl rfl) ?_
 refine TriL.c1 rfl (op_as (ltb rfl) rfl) ?_
 refine TriL.nil (Tri.seq ?_)
 refine Tri.ofKept (Kept.fzb 2 rfl rfl (Kept.now ?_))
 refine Tri.region ?_
 refine TriL.c1 rfl (op_mkf (ltb rfl) rfl) ?_
 refine TriL.c1 rfl (op_as (ltb rfl) rfl) ?_
 refine TriL.nil (Tri.seq (Tri.seq (Tri.region ?_)))
 refine TriL.c1 rfl (op_mv (ltb rfl) rfl) ?_
 refine TriL.c1 rfl (op_lenl (ltb rfl) un57_q rfl) ?_
 refine TriL.c1 rfl (op_mv (ltb rfl) rfl) ?_
 refine TriL.nil (Tri.blk ?_)
 refine Tri.ofKept (Kept.keep [.s 11, .h, .s 5, .s 9, .s 10] rfl (by decide) (Kept.now ?_))
 -- LOOP 1
 refine Tri.loopk (fun (i : Nat) => [(.s 11, .sv (.v (.int .i64 (i : Int))))]) _ (fun (i : Nat) => (l.drop i).all (restOK m) = l.all (restOK m)) (fun (i : Nat) => l.length - i) 0 rfl (by simp) ?_
 rintro i hI
 refine Tri.seq (Tri.region ?_)
 refine TriL.c1 rfl (op_bin (ltb rfl) rfl rfl rfl) ?_
 refine TriL.nil (Tri.seq ?_)
 refine Tri.cond rfl (fun hc1 => ?_) (fun hc1 => ?_)
 ·have hi := ltm hc1
  have hS := all_step (p := restOK m) hi
  have hA := m.at_cases (l[i]'hi).num
  refine Tri.skip (Tri.seq (Tri.blk (Tri.seq (Tri.region ?_))))
  refine TriL.c1 rfl (op_iak (ltb rfl) ie57_q rfl rfl (Int.natCast_nonneg _) (ixm hi) rfl) ?_
  refine TriL.c1 rfl (op_ldk (ltb rfl) lk126_q rfl rfl) ?_
  refine TriL.c2 rfl (op_all (ltb rfl) zA126_q rfl) ?_
  refine TriL.c1 rfl (op_stl lk126_q rfl rfl rfl rfl rfl (leb rfl)) ?_
  refine TriL.nil (Tri.seq (Tri.region ?_))
  refine TriL.c1 rfl (op_ldl (ltb rfl) lk126_q rfl rfl rfl) ?_
  refine TriL.c1 rfl (op_call (ltb rfl) fn183_q rfl (p_rright _)) ?_
  refine TriL.c1 rfl (op_un (ltb rfl) rfl rfl) ?_
  refine TriL.c1 rfl (op_mv (ltb rfl) rfl) ?_
  refine TriL.split (d := 18) rfl (fun hg2 => ?_) (fun hg2 => ?_)
  ·iterate 3 (refine TriL.skipu rfl rfl (ltb rfl) (ltb rfl) rfl hg2 ?_)
   refine TriL.c1 rfl (op_pickt (ltb rfl) rfl hg2 rfl) ?_
   refine TriL.nil ?_
   refine Tri.condT rfl rfl ?_
   refine Tri.seq (Tri.region ?_)
   refine TriL.c1 rfl (op_as (ltb rfl) rfl) ?_
   refine TriL.nil (Tri.ret ?_)
   exact ⟨.inr rfl, (ResOK.r1 rfl (.tmp rfl .nil)).cast (congrArg AV.bool (by grind [restOK])), rfl⟩
  ·refine TriL.g1 rfl (ltb rfl) rfl hg2 (op_mv (ltb rfl) rfl) ?_
   refine TriL.g1 rfl (ltb rfl) rfl hg2 (op_ldl (ltb rfl) lk126_q rfl rfl rfl) ?_
   refine TriL.g1 rfl (ltb rfl) rfl hg2 (op_callc (ltb rfl) fn182_q rfl rfl (p_restk m (l[i]'hi) hm)) ?_
   refine TriL.c1 rfl (op_pickf (ltb rfl) rfl hg2 rfl) ?_
   refine TriL.nil ?_
   refine Tri.cond rfl (fun hc3 => ?_) (fun hc3 => ?_)
   ·refine Tri.seq (Tri.region ?_)
    refine TriL.c1 rfl (op_as (ltb rfl) rfl) ?_
    refine TriL.nil (Tri.ret ?_)
    exact ⟨.inr rfl, (ResOK.r1 rfl (.tmp rfl .nil)).cast (congrArg AV.bool (by grind [restOK])), rfl⟩
   ·refine Tri.skip (Tri.region ?_)
    refine TriL.c1 rfl (op_bin (ltb rfl) rfl rfl rfl) ?_
    refine TriL.c1 rfl (op_mv (ltb rfl) rfl) ?_
    refine TriL.kept (Kept.seti 11 rfl (inc (by omega)) (Kept.keep [.s 11, .h, .s 5, .s 9, .s 10] rfl (by decide) (Kept.now ?_)))
    exact ⟨i + 1, by omega, by grind [restOK], rfl⟩
 ·have hi := gem hc1
  have hS := all_end (p := restOK m) hi
  refine Tri.exit (Tri.seq (Tri.region ?_))
  refine TriL.c1 rfl (op_as (ltb rfl) rfl) ?_
  refine TriL.nil (Tri.ret ?_)
  exact ⟨.inr rfl, (ResOK.r1 rfl (.tmp rfl .nil)).cast (congrArg AV.bool (by grind [restOK])), rfl⟩
theorem p_slots (s : Sch) (m : Msg) (l : List Slot) (hl : l.length ≤ 9223372036854775807) (hm : m.fields.length ≤ 1000) (ho : ∀ f ∈ m.fields, f.one.length ≤ 1000) (hvals : ∀ x ∈ l, ∀ f : Fld, Pure Tryz.prog 181 [s.av, f.av, .sl (x.vals.map Val.av)] (.bool (decide (0 < x.vals.length) && (f.rep || decide (x.vals.length = 1)) && x.vals.all fun v => v.ok s f && (!f.hidden || (!decide (v.n = 0) || !(v.s == [])))))) : Pure Tryz.prog 151 [s.av, m.av, .sl (l.map Slot.av)] (.bool (slotsOk s m l none [])) := by
 refine Pure.of_tri Tryz.func151 rfl rfl (ltb rfl) fun H => ?_
 refine Tri.seq (Tri.region ?_)
 iterate 2 (refine TriL.c2 rfl (op_box (ltb rfl) rfl rfl rfl) ?_)
 refine TriL.c1 rfl (op_as (ltb rfl) rfl) ?_
 refine TriL.nil (Tri.seq (Tri.region ?_))
 refine TriL.c2 rfl (op_mkm (kt := 9) (et := 3) (ltb rfl) rfl) ?_
 refine TriL.c1 rfl (op_as (ltb rfl) rfl) ?_
 refine TriL.nil (Tri.seq (Tri.seq (Tri.region ?_)))
 refine TriL.c1 rfl (op_mv (ltb rfl) rfl) ?_
 refine TriL.c1 rfl (op_lenl (ltb rfl) un56_q rfl) ?_
 refine TriL.c1 rfl (op_mv (ltb rfl) rfl) ?_
 refine TriL.nil (Tri.blk ?_)
 refine Tri.ofKept (Kept.keep [.s 15, .b 12, .h, .s 2, .s 3, .b 3, .s 4, .b 4, .s 7, .s 13, .s 14] rfl (by decide) (Kept.now ?_))
 -- LOOP 1
 refine Tri.loopk (fun ((i, f) : Nat × (List UInt8 → Int)) => [(.s 15, .sv (.v (.int .i64 (i : Int)))), (.b 12, .raw (MapSI Tryz.prog 9 3 i f))]) _ (fun ((i, f) : Nat × (List UInt8 → Int)) => (∀ key, f key = ((((l.take i).map m.oneOf).count key : Nat) : Int)) ∧ slotsAt s m l i = slotsOk s m l none []) (fun ((i, f) : Nat × (List UInt8 → Int)) => l.length - i) (0, fun _ => 0) rfl ⟨by simp, slotsAt_zero s m l⟩ ?_
 rintro ⟨i, f⟩ ⟨hf, hI⟩
 refine Tri.seq (Tri.region ?_)
 refine TriL.c1 rfl (op_bin (ltb rfl) rfl rfl rfl) ?_
 refine TriL.nil (Tri.seq ?_)
 refine Tri.cond rfl (fun hc1 => ?_) (fun hc1 => ?_)
 ·have hi := ltm hc1
  have hS := @slotsAt_step s m l i hi
  refine Tri.skip (Tri.seq (Tri.blk (Tri.seq (Tri.region ?_))))
  refine TriL.c1 rfl (op_mv (ltb rfl) rfl) ?_
  refine TriL.c1 rfl (op_iak (ltb rfl) ie56_q rfl rfl (Int.natCast_nonneg _) (ixmE Slot.av_eq hi) rfl) ?_
  refine TriL.c1 rfl (op_ldk (ltb rfl) lk55_q rfl rfl) ?_
  refine TriL.c2 rfl (op_all (ltb rfl) zA55_q rfl) ?_
  refine TriL.c1 rfl (op_as (ltb rfl) rfl) ?_
  refine TriL.c1 rfl (op_stl lk55_q rfl rfl rfl rfl rfl (leb rfl)) ?_
  refine TriL.nil (Tri.seq (Tri.region ?_))
  refine TriL.c1 rfl (op_ldl (ltb rfl) lk157_q rfl rfl rfl) ?_
  refine TriL.c1 rfl (op_fal (ltb rfl) fo55_0_q rfl) ?_
  refine TriL.c1 rfl (op_ldl (ltb rfl) lk3_q rfl rfl rfl) ?_
  refine TriL.c1 rfl (op_call (ltb rfl) fn180_q rfl (p_number _ _ (by omega))) ?_
  refine TriL.c1 rfl (op_as (ltb rfl) rfl) ?_
  refine TriL.nil ?_
  refine Tri.joinu [.h, .s 2, .s 3, .b 3, .s 4, .b 4, .s 7, .b 12, .s 10, .s 13, .s 14, .s 15] (fun (_ : Unit) => []) (fun (_ : Unit) => decide (m.at (l[i]'hi).num < 0) = false ∧ (match lastN l i with | none => true | some n => decide (n < (l[i]'hi).num)) = true ∧ (l[i]'hi).ok s m = true) rfl ?_ ?_
  ·refine Tri.seq ?_
   refine Tri.drawn mixed rfl ?_
   refine TriD.c1 rfl (op_mv (ltb rfl) rfl) ?_
   refine TriD.c1 rfl (op_bin (ltb rfl) rfl rfl rfl) ?_
   refine TriD.c1 rfl (op_mv (ltb rfl) rfl) ?_
   refine TriD.split (d := 26) rfl (fun hg2 => ?_) (fun hg2 => ?_)
   ·iterate 3 (refine TriD.skipu rfl rfl (ltb rfl) (ltb rfl) rfl hg2 ?_)
    iterate 9 (refine TriD.skipg rfl rfl (ltb rfl) (ltb rfl) rfl ?_)
    refine TriD.skipu rfl rfl (ltb rfl) (ltb rfl) rfl hg2 ?_
    refine TriD.c1 rfl (op_pickt (ltb rfl) rfl hg2 rfl) ?_
    refine TriD.c1 rfl (op_mv (ltb rfl) rfl) ?_
    iterate 10 (refine TriD.skipu rfl rfl (ltb rfl) (ltb rfl) rfl rfl ?_)
    refine TriD.c1 rfl (op_pickt (ltb rfl) rfl rfl rfl) ?_
    refine TriD.nil (by kernel_rfl) (Kept.now ?_)
    refine Tri.condT rfl rfl ?_
    refine Tri.seq (Tri.region ?_)
    refine TriL.c1 rfl (op_as (ltb rfl) rfl) ?_
    refine TriL.nil (Tri.ret ?_)
    exact ⟨.inr rfl, (ResOK.r1 rfl (.tmp rfl .nil)).cast (congrArg AV.bool (by have hO : (l[i]'hi).ok s m = false := (by rw [Slot.ok_eq, Msg.at_no hg2]); grind)), rfl⟩
   ·refine TriD.g1 rfl (ltb rfl) rfl hg2 (op_mv (ltb rfl) rfl) ?_
    refine TriD.g1 rfl (ltb rfl) rfl hg2 (op_bin (ltb rfl) rfl rfl rfl) ?_
    refine TriD.g1 rfl (ltb rfl) rfl hg2 (op_mv (ltb rfl) rfl) ?_
    refine TriD.split (d := 29) rfl (fun hg3 => ?_) (fun hg3 => ?_)
    ·iterate 2 (refine TriD.g1 rfl (ltb rfl) rfl hg3 (op_mv (ltb rfl) rfl) ?_)
     refine TriD.g1 rfl (ltb rfl) rfl hg3 (op_bin (ltb rfl) rfl rfl rfl) ?_
     refine TriD.g1 rfl (ltb rfl) rfl hg3 (op_iak (ltb rfl) ie56_q rfl rfl (by rw [dec1 (by have := of_decide_eq_true hg3; omega) (by omega)]; exact Int.natCast_nonneg _) (ixmE1 Slot.av_eq (dec1 (by have := of_decide_eq_true hg3; omega) (by omega)) (show i - 1 < l.length by omega)) rfl) ?_
     refine TriD.g1 rfl (ltb rfl) rfl hg3 (op_fak (ltb rfl) fo55_0_q rfl) ?_
     refine TriD.g1 rfl (ltb rfl) rfl hg3 (op_ldk (ltb rfl) lk3_q rfl rfl) ?_
     refine TriD.g1 rfl (ltb rfl) rfl hg3 (op_fal (ltb rfl) fo55_0_q rfl) ?_
     refine TriD.g1 rfl (ltb rfl) rfl hg3 (op_ldl (ltb rfl) lk3_q rfl rfl rfl) ?_
     refine TriD.g1 rfl (ltb rfl) rfl hg3 (op_bin (ltb rfl) rfl rfl rfl) ?_
     refine TriD.g1 rfl (ltb rfl) rfl hg2 (op_pickt (ltb rfl) rfl hg3 rfl) ?_
     refine TriD.c1 rfl (op_pickf (ltb rfl) rfl hg2 rfl) ?_
     refine TriD.c1 rfl (op_mv (ltb rfl) rfl) ?_
     refine TriD.split (d := 41) rfl (fun hg4 => ?_) (fun hg4 => ?_)
     ·iterate 10 (refine TriD.skipu rfl rfl (ltb rfl) (ltb rfl) rfl hg4 ?_)
      refine TriD.c1 rfl (op_pickt (ltb rfl) rfl hg4 rfl) ?_
      refine TriD.nil (by kernel_rfl) (Kept.now ?_)
      refine Tri.condT rfl rfl ?_
      refine Tri.seq (Tri.region ?_)
      refine TriL.c1 rfl (op_as (ltb rfl) rfl) ?_
      refine TriL.nil (Tri.ret ?_)
      exact ⟨.inr rfl, (ResOK.r1 rfl (.tmp rfl .nil)).cast (congrArg AV.bool (by rw [lastN_pos (by have := of_decide_eq_true hg3; omega) hi] at hS; grind)), rfl⟩
     ·refine TriD.g1 rfl (ltb rfl) rfl hg4 (op_ldl (ltb rfl) lk94_q rfl rfl rfl) ?_
      refine TriD.g1 rfl (ltb rfl) rfl hg4 (op_fal (ltb rfl) fo157_1_q rfl) ?_
      refine TriD.g1 rfl (ltb rfl) rfl hg4 (op_ldl (ltb rfl) lk155_q rfl rfl rfl) ?_
      refine TriD.g1 rfl (ltb rfl) rfl hg4 (op_mv (ltb rfl) rfl) ?_
      refine TriD.g1 rfl (ltb rfl) rfl hg4 (op_iak (ltb rfl) ie155_q rfl rfl (Msg.at_nn hg2) (ixm1 (Msg.at_eq hg2) (Msg.at_lt hg2)) rfl) ?_
      refine TriD.g1 rfl (ltb rfl) rfl hg4 (op_ldk (ltb rfl) lk96_q rfl rfl) ?_
      refine TriD.g1 rfl (ltb rfl) rfl hg4 (op_fal (ltb rfl) fo55_1_q rfl) ?_
      refine TriD.g1 rfl (ltb rfl) rfl hg4 (op_ldl (ltb rfl) lk52_q rfl rfl rfl) ?_
      refine TriD.g1 rfl (ltb rfl) rfl hg4 (op_call (ltb rfl) fn181_q rfl (hvals _ (List.getElem_mem hi) _)) ?_
      refine TriD.g1 rfl (ltb rfl) rfl hg4 (op_un (ltb rfl) rfl rfl) ?_
      refine TriD.c1 rfl (op_pickf (ltb rfl) rfl hg4 rfl) ?_
      refine TriD.nil (by kernel_rfl) (Kept.now ?_)
      refine Tri.cond rfl (fun hc5 => ?_) (fun hc5 => ?_)
      ·refine Tri.seq (Tri.region ?_)
       refine TriL.c1 rfl (op_as (ltb rfl) rfl) ?_
       refine TriL.nil (Tri.ret ?_)
       exact ⟨.inr rfl, (ResOK.r1 rfl (.tmp rfl .nil)).cast (congrArg AV.bool (by have hO : (l[i]'hi).ok s m = false := (by rw [Slot.ok_vals (Msg.at_fix hg2)]; exact ntr hc5); grind)), rfl⟩
      ·refine Tri.ofKept (Kept.keep [.h, .s 2, .s 3, .b 3, .s 4, .b 4, .s 7, .b 12, .s 10, .s 13, .s 14, .s 15] rfl (by decide) (Kept.now ?_))
       refine Tri.skip ?_
       exact ⟨(), ⟨hg2, by rw [lastN_pos (by have := of_decide_eq_true hg3; omega) hi]; simpa using hg4, by rw [Slot.ok_vals (Msg.at_fix hg2)]; exact nfl hc5⟩, rfl⟩
    ·iterate 9 (refine TriD.skipu rfl rfl (ltb rfl) (ltb rfl) rfl hg3 ?_)
     refine TriD.g1 rfl (ltb rfl) rfl hg2 (op_pickf (ltb rfl) rfl hg3 rfl) ?_
     refine TriD.c1 rfl (op_pickf (ltb rfl) rfl hg2 rfl) ?_
     refine TriD.c1 rfl (op_mv (ltb rfl) rfl) ?_
     refine TriD.g1 rfl (ltb rfl) rfl rfl (op_ldl (ltb rfl) lk94_q rfl rfl rfl) ?_
     refine TriD.g1 rfl (ltb rfl) rfl rfl (op_fal (ltb rfl) fo157_1_q rfl) ?_
     refine TriD.g1 rfl (ltb rfl) rfl rfl (op_ldl (ltb rfl) lk155_q rfl rfl rfl) ?_
     refine TriD.g1 rfl (ltb rfl) rfl rfl (op_mv (ltb rfl) rfl) ?_
     refine TriD.g1 rfl (ltb rfl) rfl rfl (op_iak (ltb rfl) ie155_q rfl rfl (Msg.at_nn hg2) (ixm1 (Msg.at_eq hg2) (Msg.at_lt hg2)) rfl) ?_
     refine TriD.g1 rfl (ltb rfl) rfl rfl (op_ldk (ltb rfl) lk96_q rfl rfl) ?_
     refine TriD.g1 rfl (ltb rfl) rfl rfl (op_fal (ltb rfl) fo55_1_q rfl) ?_
     refine TriD.g1 rfl (ltb rfl) rfl rfl (op_ldl (ltb rfl) lk52_q rfl rfl rfl) ?_
     refine TriD.g1 rfl (ltb rfl) rfl rfl (op_call (ltb rfl) fn181_q rfl (hvals _ (List.getElem_mem hi) _)) ?_
     refine TriD.g1 rfl (ltb rfl) rfl rfl (op_un (ltb rfl) rfl rfl) ?_
     refine TriD.c1 rfl (op_pickf (ltb rfl) rfl rfl rfl) ?_
     refine TriD.nil (by kernel_rfl) (Kept.now ?_)
     refine Tri.cond rfl (fun hc6 => ?_) (fun hc6 => ?_)
     ·refine Tri.seq (Tri.region ?_)
      refine TriL.c1 rfl (op_as (ltb rfl) rfl) ?_
      refine TriL.nil (Tri.ret ?_)
      exact ⟨.inr rfl, (ResOK.r1 rfl (.tmp rfl .nil)).cast (congrArg AV.bool (by have hO : (l[i]'hi).ok s m = false := (by rw [Slot.ok_vals (Msg.at_fix hg2)]; exact ntr hc6); grind)), rfl⟩
     ·refine Tri.ofKept (Kept.keep [.h, .s 2, .s 3, .b 3, .s 4, .b 4, .s 7, .b 12, .s 10, .s 13, .s 14, .s 15] rfl (by decide) (Kept.now ?_))
      refine Tri.skip ?_
      exact ⟨(), ⟨hg2, by have h0 : i = 0 := (by have := of_decide_eq_false hg3; omega); subst h0; rw [lastN_zero], by rw [Slot.ok_vals (Msg.at_fix hg2)]; exact nfl hc6⟩, rfl⟩
  ·rintro _ hF8
   refine Tri.seq (Tri.region ?_)
   refine TriL.c1 rfl (op_fal (ltb rfl) fo157_1_q rfl) ?_
   refine TriL.c1 rfl (op_ldl (ltb rfl) lk155_q rfl rfl rfl) ?_
   refine TriL.c1 rfl (op_mv (ltb rfl) rfl) ?_
   refine TriL.c1 rfl (op_iak (ltb rfl) ie155_q rfl rfl (Msg.at_nn hF8.1) (ixm1 (Msg.at_eq hF8.1) (Msg.at_lt hF8.1)) rfl) ?_
   refine TriL.c1 rfl (op_fak (ltb rfl) fo96_6_q rfl) ?_
   refine TriL.c1 rfl (op_ldk (ltb rfl) lk9_q rfl rfl) ?_
   refine TriL.c1 rfl (op_as (ltb rfl) rfl) ?_
   refine TriL.nil (Tri.seq (Tri.region ?_))
   iterate 2 (refine TriL.c1 rfl (op_mv (ltb rfl) rfl) ?_)
   refine TriL.c1 rfl (op_lku (ltb rfl) un205_q un9_q un3_q zv3_q rfl rfl rfl (by have := ho _ (List.getElem_mem (Msg.at_lt hF8.1)); omega)) ?_
   refine TriL.c1 rfl (op_bin (ltb rfl) rfl rfl rfl) ?_
   refine TriL.c1 rfl (op_mpu un205_q un9_q un3_q rfl rfl rfl rfl (by have := ho _ (List.getElem_mem (Msg.at_lt hF8.1)); omega) (by omega) (wf64 _)) ?_
   refine TriL.nil (Tri.seq (Tri.region ?_))
   refine TriL.c1 rfl (op_mv (ltb rfl) rfl) ?_
   refine TriL.c1 rfl (op_bin (ltb rfl) rfl rfl rfl) ?_
   refine TriL.c1 rfl (op_mv (ltb rfl) rfl) ?_
   refine TriL.split (d := 65) rfl (fun hg7 => ?_) (fun hg7 => ?_)
   ·iterate 2 (refine TriL.g1 rfl (ltb rfl) rfl hg7 (op_mv (ltb rfl) rfl) ?_)
    refine TriL.g1 rfl (ltb rfl) rfl hg7 (op_lku (ltb rfl) un205_q un9_q un3_q zv3_q rfl rfl rfl (by have := ho _ (List.getElem_mem (Msg.at_lt hF8.1)); omega)) ?_
    refine TriL.g1 rfl (ltb rfl) rfl hg7 (op_bin (ltb rfl) rfl rfl rfl) ?_
    refine TriL.c1 rfl (op_pickt (ltb rfl) rfl hg7 rfl) ?_
    refine TriL.nil ?_
    refine Tri.cond rfl (fun hc8 => ?_) (fun hc8 => ?_)
    ·refine Tri.seq (Tri.region ?_)
     refine TriL.c1 rfl (op_as (ltb rfl) rfl) ?_
     refine TriL.nil (Tri.ret ?_)
     exact ⟨.inr rfl, (ResOK.r1 rfl (.tmp rfl .nil)).cast (congrArg AV.bool (by have hN := @cnt_new m l i f (m.fields[m.ixN (l[i]'hi).num]'(Msg.at_lt hF8.1)).one hf (by omega); have hX : (1 < IntKind.i64.wrap (f (m.fields[m.ixN (l[i]'hi).num]'(Msg.at_lt hF8.1)).one + 1)) := (by simpa using hc8); have hQ : newOne ((l.take i).map m.oneOf) (m.oneOf (l[i]'hi)) = false := (by rw [oneOf_fix (Msg.at_fix hF8.1)]; unfold newOne; rw [← hN]; simp [hX]; simpa using hg7); grind)), rfl⟩
    ·refine Tri.skip (Tri.region ?_)
     refine TriL.c1 rfl (op_bin (ltb rfl) rfl rfl rfl) ?_
     refine TriL.c1 rfl (op_mv (ltb rfl) rfl) ?_
     refine TriL.kept (Kept.seti 15 rfl (inc (by omega)) (Kept.keep [.s 15, .b 12, .h, .s 2, .s 3, .b 3, .s 4, .b 4, .s 7, .s 13, .s 14] rfl (by decide) (Kept.now ?_)))
     have hN := @cnt_new m l i f (m.fields[m.ixN (l[i]'hi).num]'(Msg.at_lt hF8.1)).one hf (by omega)
     have hX : ¬ (1 < IntKind.i64.wrap (f (m.fields[m.ixN (l[i]'hi).num]'(Msg.at_lt hF8.1)).one + 1)) := by simpa using hc8
     have hQ : newOne ((l.take i).map m.oneOf) (m.oneOf (l[i]'hi)) = true := by rw [oneOf_fix (Msg.at_fix hF8.1)]; unfold newOne; rw [← hN]; simp [hX]
     exact ⟨(i + 1, _), (by dsimp only; omega), ⟨cnt_step hi hf (oneOf_fix (Msg.at_fix hF8.1)) (by omega), by grind⟩, rfl⟩
   ·iterate 4 (refine TriL.skipu rfl rfl (ltb rfl) (ltb rfl) rfl hg7 ?_)
    refine TriL.c1 rfl (op_pickf (ltb rfl) rfl hg7 rfl) ?_
    refine TriL.nil ?_
    refine Tri.condF rfl rfl ?_
    refine Tri.skip (Tri.region ?_)
    refine TriL.c1 rfl (op_bin (ltb rfl) rfl rfl rfl) ?_
    refine TriL.c1 rfl (op_mv (ltb rfl) rfl) ?_
    refine TriL.kept (Kept.seti 15 rfl (inc (by omega)) (Kept.keep [.s 15, .b 12, .h, .s 2, .s 3, .b 3, .s 4, .b 4, .s 7, .s 13, .s 14] rfl (by decide) (Kept.now ?_)))
    have hQ : newOne ((l.take i).map m.oneOf) (m.oneOf (l[i]'hi)) = true := by rw [oneOf_fix (Msg.at_fix hF8.1)]; unfold newOne; simp at hg7; simp [hg7]
    exact ⟨(i + 1, _), (by dsimp only; omega), ⟨cnt_step hi hf (oneOf_fix (Msg.at_fix hF8.1)) (by omega), by grind⟩, rfl⟩
 ·have hi := gem hc1
  have hS := @slotsAt_end s m l i hi
  refine Tri.exit (Tri.seq (Tri.region ?_))
  refine TriL.c1 rfl (op_as (ltb rfl) rfl) ?_
  refine TriL.nil (Tri.ret ?_)
  exact ⟨.inr rfl, (ResOK.r1 rfl (.tmp rfl .nil)).cast (congrArg AV.bool (by grind [])), rfl⟩
/- which values are values of a message of a schema, in the program and in the document. -/
theorem fn150_q : isFn Tryz.prog 150 = true := by kernel_rfl
theorem fn151_q : isFn Tryz.prog 151 = true := by kernel_rfl
theorem fn152_q : isFn Tryz.prog 152 = true := by kernel_rfl
theorem fo59_0_q : fo Tryz.prog 59 0 = some 0 := by kernel_rfl
theorem fo59_1_q : fo Tryz.prog 59 1 = some 1 := by kernel_rfl
theorem lk56_q : lk Tryz.prog 56 = some (false, 1) := by kernel_rfl
theorem lk57_q : lk Tryz.prog 57 = some (false, 1) := by kernel_rfl
theorem p_tree1 (s : Sch) (hs : s.fine) (name : Str) (t : Tree) (hb : t.big) (ih : ∀ x ∈ t.slots, ∀ v ∈ x.vals, ∀ u ∈ v.m, ∀ name : Str, Pure Tryz.prog 109 [s.av, .str name, .agg u.cells] (.bool (u.ok s name))) : Pure Tryz.prog 109 [s.av, .str name, .agg t.cells] (.bool (t.ok s name)) := by
 have hsm := hs.m
 have hT := t.ok_eq s name
 refine Pure.of_tri Tryz.func109 rfl rfl (ltb rfl) fun H => ?_
 refine Tri.seq (Tri.region ?_)
 iterate 2 (refine TriL.c2 rfl (op_box (ltb rfl) rfl rfl rfl) ?_)
 refine TriL.c1 rfl (op_as (ltb rfl) rfl) ?_
 refine TriL.nil (Tri.seq (Tri.region ?_))
 refine TriL.c1 rfl (op_ldl (ltb rfl) lk94_q rfl rfl rfl) ?_
 refine TriL.c1 rfl (op_mv (ltb rfl) rfl) ?_
 refine TriL.c1 rfl (op_call (ltb rfl) fn150_q rfl (p_msgIx _ _ (by omega))) ?_
 refine TriL.c1 rfl (op_as (ltb rfl) rfl) ?_
 refine TriL.nil (Tri.seq ?_)
 refine Tri.drawn mixed rfl ?_
 refine TriD.c1 rfl (op_mv (ltb rfl) rfl) ?_
 refine TriD.c1 rfl (op_bin (ltb rfl) rfl rfl rfl) ?_
 refine TriD.c1 rfl (op_mv (ltb rfl) rfl) ?_
 refine TriD.split (d := 13) rfl (fun hg1 => ?_) (fun hg1 => ?_)
 ·refine TriD.g1 rfl (ltb rfl) rfl hg1 (op_ldl (ltb rfl) lk94_q rfl rfl rfl) ?_
  refine TriD.g1 rfl (ltb rfl) rfl hg1 (op_fal (ltb rfl) fo94_1_q rfl) ?_
  refine TriD.g1 rfl (ltb rfl) rfl hg1 (op_ldl (ltb rfl) lk92_q rfl rfl rfl) ?_
  refine TriD.g1 rfl (ltb rfl) rfl hg1 (op_mv (ltb rfl) rfl) ?_
  refine TriD.g1 rfl (ltb rfl) rfl hg1 (op_iak (ltb rfl) ie92_q rfl rfl (Sch.ix_nn (dge hg1)) (ixm1 (Sch.ix_eq (dge hg1)) (Sch.ix_lt (dge hg1))) rfl) ?_
  refine TriD.g1 rfl (ltb rfl) rfl hg1 (op_ldk (ltb rfl) lk157_q rfl rfl) ?_
  refine TriD.g1 rfl (ltb rfl) rfl hg1 (op_fal (ltb rfl) fo59_0_q rfl) ?_
  refine TriD.g1 rfl (ltb rfl) rfl hg1 (op_ldl (ltb rfl) lk56_q rfl rfl rfl) ?_
  refine TriD.g1 rfl (ltb rfl) rfl hg1 (op_call (ltb rfl) fn151_q rfl (p_slots _ _ _ hb.here.s (hs.f _ (List.getElem_mem (Sch.ix_lt (dge hg1)))) (hs.o _ (List.getElem_mem (Sch.ix_lt (dge hg1)))) (fun x hx f => p_vals _ _ _ (hb.here.v _ hx) (hb.here.vs _ hx) (ih _ hx)))) ?_
  refine TriD.c1 rfl (op_pickt (ltb rfl) rfl hg1 rfl) ?_
  refine TriD.c1 rfl (op_mv (ltb rfl) rfl) ?_
  refine TriD.split (d := 24) rfl (fun hg2 => ?_) (fun hg2 => ?_)
  ·refine TriD.g1 rfl (ltb rfl) rfl hg2 (op_fal (ltb rfl) fo94_1_q rfl) ?_
   refine TriD.g1 rfl (ltb rfl) rfl hg2 (op_ldl (ltb rfl) lk92_q rfl rfl rfl) ?_
   refine TriD.g1 rfl (ltb rfl) rfl hg2 (op_mv (ltb rfl) rfl) ?_
   refine TriD.g1 rfl (ltb rfl) rfl hg2 (op_iak (ltb rfl) ie92_q rfl rfl (Sch.ix_nn (dge hg1)) (ixm1 (Sch.ix_eq (dge hg1)) (Sch.ix_lt (dge hg1))) rfl) ?_
   refine TriD.g1 rfl (ltb rfl) rfl hg2 (op_ldk (ltb rfl) lk157_q rfl rfl) ?_
   refine TriD.g1 rfl (ltb rfl) rfl hg2 (op_fal (ltb rfl) fo59_1_q rfl) ?_
   refine TriD.g1 rfl (ltb rfl) rfl hg2 (op_ldl (ltb rfl) lk57_q rfl rfl rfl) ?_
   refine TriD.g1 rfl (ltb rfl) rfl hg2 (op_call (ltb rfl) fn152_q rfl (p_rest _ _ hb.here.r (hs.f _ (List.getElem_mem (Sch.ix_lt (dge hg1)))))) ?_
   refine TriD.c1 rfl (op_pickt (ltb rfl) rfl hg2 rfl) ?_
   refine TriD.c1 rfl (op_as (ltb rfl) rfl) ?_
   refine TriD.nil (by kernel_rfl) (Kept.now ?_)
   refine Tri.ret ?_
   exact ⟨.inr rfl, (ResOK.r1 rfl (.tmp rfl .nil)).cast (congrArg AV.bool (by rw [hT, Sch.ix_at (dge hg1)]; grind)), rfl⟩
  ·iterate 8 (refine TriD.skipu rfl rfl (ltb rfl) (ltb rfl) rfl hg2 ?_)
   refine TriD.c1 rfl (op_pickf (ltb rfl) rfl hg2 rfl) ?_
   refine TriD.c1 rfl (op_as (ltb rfl) rfl) ?_
   refine TriD.nil (by kernel_rfl) (Kept.now ?_)
   refine Tri.ret ?_
   exact ⟨.inr rfl, (ResOK.r1 rfl (.tmp rfl .nil)).cast (congrArg AV.bool (by rw [hT, Sch.ix_at (dge hg1)]; grind)), rfl⟩
 ·iterate 9 (refine TriD.skipu rfl rfl (ltb rfl) (ltb rfl) rfl hg1 ?_)
  refine TriD.c1 rfl (op_pickf (ltb rfl) rfl hg1 rfl) ?_
  refine TriD.c1 rfl (op_mv (ltb rfl) rfl) ?_
  iterate 8 (refine TriD.skipu rfl rfl (ltb rfl) (ltb rfl) rfl rfl ?_)
  refine TriD.c1 rfl (op_pickf (ltb rfl) rfl rfl rfl) ?_
  refine TriD.c1 rfl (op_as (ltb rfl) rfl) ?_
  refine TriD.nil (by kernel_rfl) (Kept.now ?_)
  refine Tri.ret ?_
  exact ⟨.inr rfl, (ResOK.r1 rfl (.tmp rfl .nil)).cast (congrArg AV.bool (by rw [hT, Sch.ix_no (dlt hg1)])), rfl⟩
theorem p_tree (s : Sch) (hs : s.fine) (t : Tree) (hb : t.big) (name : Str) : Pure Tryz.prog 109 [s.av, .str name, .agg t.cells] (.bool (t.ok s name)) :=
 Tree.ind (Q := fun t => t.big → ∀ name : Str, Pure Tryz.prog 109 [s.av, .str name, .agg t.cells] (.bool (t.ok s name))) (fun t ih hb name => p_tree1 s hs name t hb (fun x hx v hv u hu => ih x hx v hv u hu (hb.sub hu hv hx))) t hb name
/- how deep a value is, in the program. -/
/- Numbers and bytes. No condition. -/
theorem wr64 {n : Int} (h0 : -9223372036854775808 ≤ n) (h : n < 9223372036854775808) : IntKind.i64.wrap n = n := by simp only [IntKind.wrap, IntKind.bits, IntKind.signed]; simp; omega
theorem bsl_len (l : List UInt8) : (bsl l).length = l.length := by simp [bsl]
theorem bsl_app (l m : List UInt8) : bsl (l ++ m) = bsl l ++ bsl m := by simp [bsl]

theorem get_at {l : List UInt8} {p : Nat} {c : UInt8} (h : l[p]? = some c) : (⟨l.toArray⟩ : ByteArray).get! (p + 0) = c := by
 show (l.toArray)[p + 0]! = c
 rw [Nat.add_zero, getElem!_def]
 simp [h]
theorem dec_lo {l : List UInt8} {p : Nat} {c : UInt8} (h : l[p]? = some c) (hc : c.toNat < 128) : dec l p = (c.toNat, 1) := by
 unfold dec Utf8.decode
 simp only [get_at h]
 rw [if_pos hc]
theorem dec_hi {l : List UInt8} {p : Nat} {c : UInt8} (h : l[p]? = some c) (hc : ¬ c.toNat < 128) : 128 ≤ (dec l p).1 ∧ (dec l p).1 < 2147483648 := by
 unfold dec Utf8.decode
 simp only [get_at h]
 rw [if_neg hc]
 have hv := c.toNat_lt
 (repeat' split) <;> simp only [Utf8.runeError, Bool.and_eq_true, decide_eq_true_eq, ge_iff_le] at * <;> omega

def rebox (k : Nat) (cells : List Sv) : St → St
 | [] => []
 | (c, v) :: s => (c, if c = .b k then .bx cells else v) :: rebox k cells s
/- Lists of bytes that are the same. No condition. -/
end Go.Proofs.YtabihkfhoohfnaaGreatDoor.X
