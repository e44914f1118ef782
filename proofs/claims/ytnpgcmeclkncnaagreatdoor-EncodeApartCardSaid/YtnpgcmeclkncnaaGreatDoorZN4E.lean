/- unicode/utf8.ValidString: the library's contract laid at this program. No condition. -/
import Derived.Test.YtnpgcmeclkncnaaGreatDoorZN4D
import Derived.Shelf.Unicode.ValidAny
namespace Go.Proofs
open Go.Shelf
def Tryz.laysVS_ren : Go.Shelf.Ren := ⟨fun | 196 => 162 | 259 => 199 | n => n, fun | 0 => 0 | 3 => 3 | 4 => 4 | 5 => 5 | 9 => 9 | 12 => 12 | 46 => 228 | 53 => 84 | 119 => 250 | 138 => 252 | 139 => 253 | n => n, fun | 3 => 0 | 4 => 1 | n => n⟩
theorem Tryz.laysVS : Go.Proofs.Lays.n196 Tryz.prog Tryz.laysVS_ren := {
  mixed := by kernel_rfl
  f196 := Tryz.func162.trans (congrArg some (by kernel_rfl))
  f259 := Tryz.func199.trans (congrArg some (by kernel_rfl))
  t0 := Tryz.underlying0
  a0 := Tryz.isAgg0
  z0 := Tryz.sizeOf0
  v0 := Tryz.zeroValue0
  t3 := Tryz.underlying3
  a3 := Tryz.isAgg3
  z3 := Tryz.sizeOf3
  v3 := Tryz.zeroValue3
  t4 := Tryz.underlying4
  a4 := Tryz.isAgg4
  z4 := Tryz.sizeOf4
  v4 := Tryz.zeroValue4
  t5 := Tryz.underlying5
  a5 := Tryz.isAgg5
  z5 := Tryz.sizeOf5
  v5 := Tryz.zeroValue5
  t9 := Tryz.underlying9
  a9 := Tryz.isAgg9
  z9 := Tryz.sizeOf9
  v9 := Tryz.zeroValue9
  t12 := Tryz.underlying12
  a12 := Tryz.isAgg12
  z12 := Tryz.sizeOf12
  v12 := Tryz.zeroValue12
  t46 := Tryz.underlying228
  a46 := Tryz.isAgg228
  z46 := Tryz.sizeOf228
  v46 := Tryz.zeroValue228
  t53 := Tryz.underlying84
  a53 := Tryz.isAgg84
  z53 := Tryz.sizeOf84
  v53 := Tryz.zeroValue84
  t119 := Tryz.underlying250
  a119 := Tryz.isAgg250
  z119 := Tryz.sizeOf250
  t138 := Tryz.underlying252
  a138 := Tryz.isAgg252
  z138 := Tryz.sizeOf252
  v138 := Tryz.zeroValue252
  t139 := Tryz.underlying253
  a139 := Tryz.isAgg253
  z139 := Tryz.sizeOf253
  v139 := Tryz.zeroValue253
  g3 := by kernel_rfl
  g4 := by kernel_rfl }
end Go.Proofs
namespace Go.Proofs.YtnpgcmeclkncnaaGreatDoor.X
open Go Go.RowKit Go.Proofs
theorem p_validS (s : Str) (hs : s.length ≤ 9223372036854775807) : Pure Tryz.prog 162 [.str s] (.bool (Lib.validD s)) :=
  Pure.of_calls fun G w cargs hg hn hk hV => by
    obtain ⟨x, rfl, hx⟩ := hV.one
    have e := hx.str_eq
    subst e
    refine (Any.utf8_ValidString Tryz.laysVS ⟨s.toArray⟩ w (by simpa [ByteArray.size] using hs) hg).mono ?_
    rintro e w' ⟨rfl, hb⟩
    exact ⟨_, rfl, .bool _, hb⟩
end Go.Proofs.YtnpgcmeclkncnaaGreatDoor.X
/- the document: names, numbers, types, fields. -/
set_option linter.unusedVariables false
set_option linter.unusedSimpArgs false
set_option linter.unusedSectionVars false
set_option maxRecDepth 100000
namespace Go.Proofs.YtnpgcmeclkncnaaGreatDoor.X
open Go Go.RowKit Go.Proofs
theorem fn142_M1 : isFn Tryz.prog 142 = true := by kernel_rfl
theorem se112_M1 : se Tryz.prog 112 = some (9, 1, 16) := by kernel_rfl
theorem zAe112_M1 : zeroA Tryz.prog 9 = some [AV.str []] := by kernel_rfl
theorem r_fnum (n : Int) : Pure Tryz.prog 123 [.int .i64 n] (.bool (fnum n)) := by
  refine Pure.of_tri Tryz.func123 rfl rfl (ltb rfl) fun H => ?_
  refine Tri.seq ?_
  refine Tri.region ?_
  refine TriL.c1 rfl (op_as (ltb rfl) rfl) ?_
  refine TriL.nil ?_
  refine Tri.seq ?_
  refine Tri.region ?_
  refine TriL.c1 rfl (op_mv (ltb rfl) rfl) ?_
  refine TriL.c1 rfl (op_bin (ltb rfl) rfl rfl rfl) ?_
  refine TriL.c1 rfl (op_mv (ltb rfl) rfl) ?_
  refine TriL.split (d := 5) rfl (fun hg1 => ?_) (fun hg1 => ?_)
  · refine TriL.g1 rfl (ltb rfl) rfl hg1 (op_mv (ltb rfl) rfl) ?_
    refine TriL.g1 rfl (ltb rfl) rfl hg1 (op_bin (ltb rfl) rfl rfl rfl) ?_
    refine TriL.c1 rfl (op_pickt (ltb rfl) rfl hg1 rfl) ?_
    refine TriL.c1 rfl (op_mv (ltb rfl) rfl) ?_
    refine TriL.split (d := 9) rfl (fun hg2 => ?_) (fun hg2 => ?_)
    · refine TriL.g1 rfl (ltb rfl) rfl hg2 (op_mv (ltb rfl) rfl) ?_
      refine TriL.g1 rfl (ltb rfl) rfl hg2 (op_bin (ltb rfl) rfl rfl rfl) ?_
      refine TriL.g1 rfl (ltb rfl) rfl hg2 (op_mv (ltb rfl) rfl) ?_
      refine TriL.split (d := 12) rfl (fun hg3 => ?_) (fun hg3 => ?_)
      · refine TriL.skipu rfl rfl (ltb rfl) (ltb rfl) rfl hg3 ?_
        refine TriL.skipu rfl rfl (ltb rfl) (ltb rfl) rfl hg3 ?_
        refine TriL.g1 rfl (ltb rfl) rfl hg2 (op_pickt (ltb rfl) rfl hg3 rfl) ?_
        refine TriL.c1 rfl (op_pickt (ltb rfl) rfl hg2 rfl) ?_
        refine TriL.c1 rfl (op_as (ltb rfl) rfl) ?_
        refine TriL.nil ?_
        refine Tri.ret ?_
        exact ⟨.inr rfl, (ResOK.r1 rfl (.tmp rfl .nil)).cast (congrArg AV.bool (by grind [fnum])), rfl⟩
      · refine TriL.g1 rfl (ltb rfl) rfl hg3 (op_mv (ltb rfl) rfl) ?_
        refine TriL.g1 rfl (ltb rfl) rfl hg3 (op_bin (ltb rfl) rfl rfl rfl) ?_
        refine TriL.g1 rfl (ltb rfl) rfl hg2 (op_pickf (ltb rfl) rfl hg3 rfl) ?_
        refine TriL.c1 rfl (op_pickt (ltb rfl) rfl hg2 rfl) ?_
        refine TriL.c1 rfl (op_as (ltb rfl) rfl) ?_
        refine TriL.nil ?_
        refine Tri.ret ?_
        exact ⟨.inr rfl, (ResOK.r1 rfl (.tmp rfl .nil)).cast (congrArg AV.bool (by grind [fnum])), rfl⟩
    · refine TriL.skipu rfl rfl (ltb rfl) (ltb rfl) rfl hg2 ?_
      refine TriL.skipu rfl rfl (ltb rfl) (ltb rfl) rfl hg2 ?_
      refine TriL.skipu rfl rfl (ltb rfl) (ltb rfl) rfl hg2 ?_
      refine TriL.skipg rfl rfl (ltb rfl) (ltb rfl) rfl ?_
      refine TriL.skipg rfl rfl (ltb rfl) (ltb rfl) rfl ?_
      refine TriL.skipu rfl rfl (ltb rfl) (ltb rfl) rfl hg2 ?_
      refine TriL.c1 rfl (op_pickf (ltb rfl) rfl hg2 rfl) ?_
      refine TriL.c1 rfl (op_as (ltb rfl) rfl) ?_
      refine TriL.nil ?_
      refine Tri.ret ?_
      exact ⟨.inr rfl, (ResOK.r1 rfl (.tmp rfl .nil)).cast (congrArg AV.bool (by grind [fnum])), rfl⟩
  · refine TriL.skipu rfl rfl (ltb rfl) (ltb rfl) rfl hg1 ?_
    refine TriL.skipu rfl rfl (ltb rfl) (ltb rfl) rfl hg1 ?_
    refine TriL.c1 rfl (op_pickf (ltb rfl) rfl hg1 rfl) ?_
    refine TriL.c1 rfl (op_mv (ltb rfl) rfl) ?_
    refine TriL.skipu rfl rfl (ltb rfl) (ltb rfl) rfl rfl ?_
    refine TriL.skipu rfl rfl (ltb rfl) (ltb rfl) rfl rfl ?_
    refine TriL.skipu rfl rfl (ltb rfl) (ltb rfl) rfl rfl ?_
    refine TriL.skipg rfl rfl (ltb rfl) (ltb rfl) rfl ?_
    refine TriL.skipg rfl rfl (ltb rfl) (ltb rfl) rfl ?_
    refine TriL.skipu rfl rfl (ltb rfl) (ltb rfl) rfl rfl ?_
    refine TriL.c1 rfl (op_pickf (ltb rfl) rfl rfl rfl) ?_
    refine TriL.c1 rfl (op_as (ltb rfl) rfl) ?_
    refine TriL.nil ?_
    refine Tri.ret ?_
    exact ⟨.inr rfl, (ResOK.r1 rfl (.tmp rfl .nil)).cast (congrArg AV.bool (by grind [fnum])), rfl⟩
theorem r_wholeT (n : Int) : Pure Tryz.prog 142 [.int .i64 n] (.bool (wholeT n)) := by
  refine Pure.of_tri Tryz.func142 rfl rfl (ltb rfl) fun H => ?_
  refine Tri.seq ?_
  refine Tri.region ?_
  refine TriL.c1 rfl (op_as (ltb rfl) rfl) ?_
  refine TriL.nil ?_
  refine Tri.seq ?_
  refine Tri.region ?_
  refine TriL.c1 rfl (op_mv (ltb rfl) rfl) ?_
  refine TriL.c1 rfl (op_bin (ltb rfl) rfl rfl rfl) ?_
  refine TriL.c1 rfl (op_mv (ltb rfl) rfl) ?_
  refine TriL.split (d := 5) rfl (fun hg1 => ?_) (fun hg1 => ?_)
  · refine TriL.g1 rfl (ltb rfl) rfl hg1 (op_mv (ltb rfl) rfl) ?_
    refine TriL.g1 rfl (ltb rfl) rfl hg1 (op_bin (ltb rfl) rfl rfl rfl) ?_
    refine TriL.c1 rfl (op_pickt (ltb rfl) rfl hg1 rfl) ?_
    refine TriL.c1 rfl (op_mv (ltb rfl) rfl) ?_
    refine TriL.split (d := 9) rfl (fun hg2 => ?_) (fun hg2 => ?_)
    · refine TriL.skipu rfl rfl (ltb rfl) (ltb rfl) rfl hg2 ?_
      refine TriL.skipu rfl rfl (ltb rfl) (ltb rfl) rfl hg2 ?_
      refine TriL.skipu rfl rfl (ltb rfl) (ltb rfl) rfl hg2 ?_
      refine TriL.skipg rfl rfl (ltb rfl) (ltb rfl) rfl ?_
      refine TriL.skipg rfl rfl (ltb rfl) (ltb rfl) rfl ?_
      refine TriL.skipu rfl rfl (ltb rfl) (ltb rfl) rfl hg2 ?_
      refine TriL.c1 rfl (op_pickt (ltb rfl) rfl hg2 rfl) ?_
      refine TriL.c1 rfl (op_as (ltb rfl) rfl) ?_
      refine TriL.nil ?_
      refine Tri.ret ?_
      exact ⟨.inr rfl, (ResOK.r1 rfl (.tmp rfl .nil)).cast (congrArg AV.bool (by grind [wholeT])), rfl⟩
    · refine TriL.g1 rfl (ltb rfl) rfl hg2 (op_mv (ltb rfl) rfl) ?_
      refine TriL.g1 rfl (ltb rfl) rfl hg2 (op_bin (ltb rfl) rfl rfl rfl) ?_
      refine TriL.g1 rfl (ltb rfl) rfl hg2 (op_mv (ltb rfl) rfl) ?_
      refine TriL.split (d := 12) rfl (fun hg3 => ?_) (fun hg3 => ?_)
      · refine TriL.g1 rfl (ltb rfl) rfl hg3 (op_mv (ltb rfl) rfl) ?_
        refine TriL.g1 rfl (ltb rfl) rfl hg3 (op_bin (ltb rfl) rfl rfl rfl) ?_
        refine TriL.g1 rfl (ltb rfl) rfl hg2 (op_pickt (ltb rfl) rfl hg3 rfl) ?_
        refine TriL.c1 rfl (op_pickf (ltb rfl) rfl hg2 rfl) ?_
        refine TriL.c1 rfl (op_as (ltb rfl) rfl) ?_
        refine TriL.nil ?_
        refine Tri.ret ?_
        exact ⟨.inr rfl, (ResOK.r1 rfl (.tmp rfl .nil)).cast (congrArg AV.bool (by grind [wholeT])), rfl⟩
      · refine TriL.skipu rfl rfl (ltb rfl) (ltb rfl) rfl hg3 ?_
        refine TriL.skipu rfl rfl (ltb rfl) (ltb rfl) rfl hg3 ?_
        refine TriL.g1 rfl (ltb rfl) rfl hg2 (op_pickf (ltb rfl) rfl hg3 rfl) ?_
        refine TriL.c1 rfl (op_pickf (ltb rfl) rfl hg2 rfl) ?_
        refine TriL.c1 rfl (op_as (ltb rfl) rfl) ?_
        refine TriL.nil ?_
        refine Tri.ret ?_
        exact ⟨.inr rfl, (ResOK.r1 rfl (.tmp rfl .nil)).cast (congrArg AV.bool (by grind [wholeT])), rfl⟩
  · refine TriL.skipu rfl rfl (ltb rfl) (ltb rfl) rfl hg1 ?_
    refine TriL.skipu rfl rfl (ltb rfl) (ltb rfl) rfl hg1 ?_
    refine TriL.c1 rfl (op_pickf (ltb rfl) rfl hg1 rfl) ?_
    refine TriL.c1 rfl (op_mv (ltb rfl) rfl) ?_
    refine TriL.g1 rfl (ltb rfl) rfl rfl (op_mv (ltb rfl) rfl) ?_
    refine TriL.g1 rfl (ltb rfl) rfl rfl (op_bin (ltb rfl) rfl rfl rfl) ?_
    refine TriL.g1 rfl (ltb rfl) rfl rfl (op_mv (ltb rfl) rfl) ?_
    refine TriL.split (d := 12) rfl (fun hg4 => ?_) (fun hg4 => ?_)
    · refine TriL.g1 rfl (ltb rfl) rfl hg4 (op_mv (ltb rfl) rfl) ?_
      refine TriL.g1 rfl (ltb rfl) rfl hg4 (op_bin (ltb rfl) rfl rfl rfl) ?_
      refine TriL.g1 rfl (ltb rfl) rfl rfl (op_pickt (ltb rfl) rfl hg4 rfl) ?_
      refine TriL.c1 rfl (op_pickf (ltb rfl) rfl rfl rfl) ?_
      refine TriL.c1 rfl (op_as (ltb rfl) rfl) ?_
      refine TriL.nil ?_
      refine Tri.ret ?_
      exact ⟨.inr rfl, (ResOK.r1 rfl (.tmp rfl .nil)).cast (congrArg AV.bool (by grind [wholeT])), rfl⟩
    · refine TriL.skipu rfl rfl (ltb rfl) (ltb rfl) rfl hg4 ?_
      refine TriL.skipu rfl rfl (ltb rfl) (ltb rfl) rfl hg4 ?_
      refine TriL.g1 rfl (ltb rfl) rfl rfl (op_pickf (ltb rfl) rfl hg4 rfl) ?_
      refine TriL.c1 rfl (op_pickf (ltb rfl) rfl rfl rfl) ?_
      refine TriL.c1 rfl (op_as (ltb rfl) rfl) ?_
      refine TriL.nil ?_
      refine Tri.ret ?_
      exact ⟨.inr rfl, (ResOK.r1 rfl (.tmp rfl .nil)).cast (congrArg AV.bool (by grind [wholeT])), rfl⟩
theorem r_numT (n : Int) : Pure Tryz.prog 124 [.int .i64 n] (.bool (numT n)) := by
  refine Pure.of_tri Tryz.func124 rfl rfl (ltb rfl) fun H => ?_
  refine Tri.seq ?_
  refine Tri.region ?_
  refine TriL.c1 rfl (op_as (ltb rfl) rfl) ?_
  refine TriL.nil ?_
  refine Tri.seq ?_
  refine Tri.region ?_
  refine TriL.c1 rfl (op_mv (ltb rfl) rfl) ?_
  refine TriL.c1 rfl (op_call (ltb rfl) fn142_M1 rfl (r_wholeT _)) ?_
  refine TriL.c1 rfl (op_mv (ltb rfl) rfl) ?_
  refine TriL.split (d := 5) rfl (fun hg1 => ?_) (fun hg1 => ?_)
  · refine TriL.skipu rfl rfl (ltb rfl) (ltb rfl) rfl hg1 ?_
    refine TriL.skipu rfl rfl (ltb rfl) (ltb rfl) rfl hg1 ?_
    refine TriL.c1 rfl (op_pickt (ltb rfl) rfl hg1 rfl) ?_
    refine TriL.c1 rfl (op_mv (ltb rfl) rfl) ?_
    refine TriL.skipu rfl rfl (ltb rfl) (ltb rfl) rfl rfl ?_
    refine TriL.skipu rfl rfl (ltb rfl) (ltb rfl) rfl rfl ?_
    refine TriL.c1 rfl (op_pickt (ltb rfl) rfl rfl rfl) ?_
    refine TriL.c1 rfl (op_as (ltb rfl) rfl) ?_
    refine TriL.nil ?_
    refine Tri.ret ?_
    exact ⟨.inr rfl, (ResOK.r1 rfl (.tmp rfl .nil)).cast (congrArg AV.bool (by grind [numT])), rfl⟩
  · refine TriL.g1 rfl (ltb rfl) rfl hg1 (op_mv (ltb rfl) rfl) ?_
    refine TriL.g1 rfl (ltb rfl) rfl hg1 (op_bin (ltb rfl) rfl rfl rfl) ?_
    refine TriL.c1 rfl (op_pickf (ltb rfl) rfl hg1 rfl) ?_
    refine TriL.c1 rfl (op_mv (ltb rfl) rfl) ?_
    refine TriL.split (d := 9) rfl (fun hg2 => ?_) (fun hg2 => ?_)
    · refine TriL.skipu rfl rfl (ltb rfl) (ltb rfl) rfl hg2 ?_
      refine TriL.skipu rfl rfl (ltb rfl) (ltb rfl) rfl hg2 ?_
      refine TriL.c1 rfl (op_pickt (ltb rfl) rfl hg2 rfl) ?_
      refine TriL.c1 rfl (op_as (ltb rfl) rfl) ?_
      refine TriL.nil ?_
      refine Tri.ret ?_
      exact ⟨.inr rfl, (ResOK.r1 rfl (.tmp rfl .nil)).cast (congrArg AV.bool (by grind [numT])), rfl⟩
    · refine TriL.g1 rfl (ltb rfl) rfl hg2 (op_mv (ltb rfl) rfl) ?_
      refine TriL.g1 rfl (ltb rfl) rfl hg2 (op_bin (ltb rfl) rfl rfl rfl) ?_
      refine TriL.c1 rfl (op_pickf (ltb rfl) rfl hg2 rfl) ?_
      refine TriL.c1 rfl (op_as (ltb rfl) rfl) ?_
      refine TriL.nil ?_
      refine Tri.ret ?_
      exact ⟨.inr rfl, (ResOK.r1 rfl (.tmp rfl .nil)).cast (congrArg AV.bool (by grind [numT])), rfl⟩
theorem r_letter (c : UInt8) : Pure Tryz.prog 121 [.int .u8 (c.toNat : Int)] (.bool (letter c)) := by
  refine Pure.of_tri Tryz.func121 rfl rfl (ltb rfl) fun H => ?_
  refine Tri.seq ?_
  refine Tri.region ?_
  refine TriL.c1 rfl (op_as (ltb rfl) rfl) ?_
  refine TriL.nil ?_
  refine Tri.seq ?_
  refine Tri.region ?_
  refine TriL.c1 rfl (op_mv (ltb rfl) rfl) ?_
  refine TriL.c1 rfl (op_bin (ltb rfl) rfl rfl rfl) ?_
  refine TriL.c1 rfl (op_mv (ltb rfl) rfl) ?_
  refine TriL.split (d := 5) rfl (fun hg1 => ?_) (fun hg1 => ?_)
  · refine TriL.g1 rfl (ltb rfl) rfl hg1 (op_mv (ltb rfl) rfl) ?_
    refine TriL.g1 rfl (ltb rfl) rfl hg1 (op_bin (ltb rfl) rfl rfl rfl) ?_
    refine TriL.c1 rfl (op_pickt (ltb rfl) rfl hg1 rfl) ?_
    refine TriL.c1 rfl (op_mv (ltb rfl) rfl) ?_
    refine TriL.split (d := 9) rfl (fun hg2 => ?_) (fun hg2 => ?_)
    · refine TriL.skipu rfl rfl (ltb rfl) (ltb rfl) rfl hg2 ?_
      refine TriL.skipu rfl rfl (ltb rfl) (ltb rfl) rfl hg2 ?_
      refine TriL.skipu rfl rfl (ltb rfl) (ltb rfl) rfl hg2 ?_
      refine TriL.skipg rfl rfl (ltb rfl) (ltb rfl) rfl ?_
      refine TriL.skipg rfl rfl (ltb rfl) (ltb rfl) rfl ?_
      refine TriL.skipu rfl rfl (ltb rfl) (ltb rfl) rfl hg2 ?_
      refine TriL.c1 rfl (op_pickt (ltb rfl) rfl hg2 rfl) ?_
      refine TriL.c1 rfl (op_as (ltb rfl) rfl) ?_
      refine TriL.nil ?_
      refine Tri.ret ?_
      exact ⟨.inr rfl, (ResOK.r1 rfl (.tmp rfl .nil)).cast (congrArg AV.bool (by grind [letter])), rfl⟩
    · refine TriL.g1 rfl (ltb rfl) rfl hg2 (op_mv (ltb rfl) rfl) ?_
      refine TriL.g1 rfl (ltb rfl) rfl hg2 (op_bin (ltb rfl) rfl rfl rfl) ?_
      refine TriL.g1 rfl (ltb rfl) rfl hg2 (op_mv (ltb rfl) rfl) ?_
      refine TriL.split (d := 12) rfl (fun hg3 => ?_) (fun hg3 => ?_)
      · refine TriL.g1 rfl (ltb rfl) rfl hg3 (op_mv (ltb rfl) rfl) ?_
        refine TriL.g1 rfl (ltb rfl) rfl hg3 (op_bin (ltb rfl) rfl rfl rfl) ?_
        refine TriL.g1 rfl (ltb rfl) rfl hg2 (op_pickt (ltb rfl) rfl hg3 rfl) ?_
        refine TriL.c1 rfl (op_pickf (ltb rfl) rfl hg2 rfl) ?_
        refine TriL.c1 rfl (op_as (ltb rfl) rfl) ?_
        refine TriL.nil ?_
        refine Tri.ret ?_
        exact ⟨.inr rfl, (ResOK.r1 rfl (.tmp rfl .nil)).cast (congrArg AV.bool (by grind [letter])), rfl⟩
      · refine TriL.skipu rfl rfl (ltb rfl) (ltb rfl) rfl hg3 ?_
        refine TriL.skipu rfl rfl (ltb rfl) (ltb rfl) rfl hg3 ?_
        refine TriL.g1 rfl (ltb rfl) rfl hg2 (op_pickf (ltb rfl) rfl hg3 rfl) ?_
        refine TriL.c1 rfl (op_pickf (ltb rfl) rfl hg2 rfl) ?_
        refine TriL.c1 rfl (op_as (ltb rfl) rfl) ?_
        refine TriL.nil ?_
        refine Tri.ret ?_
        exact ⟨.inr rfl, (ResOK.r1 rfl (.tmp rfl .nil)).cast (congrArg AV.bool (by grind [letter])), rfl⟩
  · refine TriL.skipu rfl rfl (ltb rfl) (ltb rfl) rfl hg1 ?_
    refine TriL.skipu rfl rfl (ltb rfl) (ltb rfl) rfl hg1 ?_
    refine TriL.c1 rfl (op_pickf (ltb rfl) rfl hg1 rfl) ?_
    refine TriL.c1 rfl (op_mv (ltb rfl) rfl) ?_
    refine TriL.g1 rfl (ltb rfl) rfl rfl (op_mv (ltb rfl) rfl) ?_
    refine TriL.g1 rfl (ltb rfl) rfl rfl (op_bin (ltb rfl) rfl rfl rfl) ?_
    refine TriL.g1 rfl (ltb rfl) rfl rfl (op_mv (ltb rfl) rfl) ?_
    refine TriL.split (d := 12) rfl (fun hg4 => ?_) (fun hg4 => ?_)
    · refine TriL.g1 rfl (ltb rfl) rfl hg4 (op_mv (ltb rfl) rfl) ?_
      refine TriL.g1 rfl (ltb rfl) rfl hg4 (op_bin (ltb rfl) rfl rfl rfl) ?_
      refine TriL.g1 rfl (ltb rfl) rfl rfl (op_pickt (ltb rfl) rfl hg4 rfl) ?_
      refine TriL.c1 rfl (op_pickf (ltb rfl) rfl rfl rfl) ?_
      refine TriL.c1 rfl (op_as (ltb rfl) rfl) ?_
      refine TriL.nil ?_
      refine Tri.ret ?_
      exact ⟨.inr rfl, (ResOK.r1 rfl (.tmp rfl .nil)).cast (congrArg AV.bool (by grind [letter])), rfl⟩
    · refine TriL.skipu rfl rfl (ltb rfl) (ltb rfl) rfl hg4 ?_
      refine TriL.skipu rfl rfl (ltb rfl) (ltb rfl) rfl hg4 ?_
      refine TriL.g1 rfl (ltb rfl) rfl rfl (op_pickf (ltb rfl) rfl hg4 rfl) ?_
      refine TriL.c1 rfl (op_pickf (ltb rfl) rfl rfl rfl) ?_
      refine TriL.c1 rfl (op_as (ltb rfl) rfl) ?_
      refine TriL.nil ?_
      refine Tri.ret ?_
      exact ⟨.inr rfl, (ResOK.r1 rfl (.tmp rfl .nil)).cast (congrArg AV.bool (by grind [letter])), rfl⟩
theorem r_words : Pure Tryz.prog 122 [] (.sl (wordsL.map .str)) := by
  refine Pure.of_tri Tryz.func122 rfl rfl (Nat.zero_le _) fun H => ?_
  refine Tri.seq ?_
  refine Tri.region ?_
  refine TriL.c1 rfl (op_as (ltb rfl) rfl) ?_
  refine TriL.nil ?_
  refine Tri.seq ?_
  refine Tri.region ?_
  refine TriL.c1 rfl (op_lit («as» := [_, _, _, _, _, _, _, _, _, _, _, _, _, _, _, _, _, _, _, _, _, _, _, _, _, _, _, _, _, _, _, _, _, _, _]) (ltb rfl) se112_M1 zAe112_M1 rfl rfl rfl (leb rfl)) ?_
  refine TriL.c1 rfl (op_as (ltb rfl) rfl) ?_
  refine TriL.nil ?_
  refine Tri.ret ?_
  exact ⟨.inr rfl, (ResOK.r1 rfl (.tmp rfl .nil)).cast rfl, rfl⟩
end Go.Proofs.YtnpgcmeclkncnaaGreatDoor.X
/- the document: names, lists, fields. -/
set_option linter.unusedVariables false
set_option linter.unusedSimpArgs false
set_option linter.unusedSectionVars false
set_option maxRecDepth 100000
namespace Go.Proofs.YtnpgcmeclkncnaaGreatDoor.X
open Go Go.RowKit Go.Proofs
theorem fn121_M2 : isFn Tryz.prog 121 = true := by kernel_rfl
theorem fn122_M2 : isFn Tryz.prog 122 = true := by kernel_rfl
theorem fn123_M2 : isFn Tryz.prog 123 = true := by kernel_rfl
theorem fn124_M2 : isFn Tryz.prog 124 = true := by kernel_rfl
theorem fn69_M2 : isFn Tryz.prog 69 = true := by kernel_rfl
theorem fo25_0_M2 : fo Tryz.prog 25 0 = some 0 := by kernel_rfl
theorem fo25_1_M2 : fo Tryz.prog 25 1 = some 1 := by kernel_rfl
theorem fo78_0_M2 : fo Tryz.prog 78 0 = some 0 := by kernel_rfl
theorem fo94_0_M2 : fo Tryz.prog 94 0 = some 0 := by kernel_rfl
theorem fo98_0_M2 : fo Tryz.prog 98 0 = some 0 := by kernel_rfl
theorem fo98_1_M2 : fo Tryz.prog 98 1 = some 1 := by kernel_rfl
theorem fo98_2_M2 : fo Tryz.prog 98 2 = some 2 := by kernel_rfl
theorem fo98_3_M2 : fo Tryz.prog 98 3 = some 3 := by kernel_rfl
theorem fo98_4_M2 : fo Tryz.prog 98 4 = some 4 := by kernel_rfl
theorem fo98_5_M2 : fo Tryz.prog 98 5 = some 5 := by kernel_rfl
theorem fo98_6_M2 : fo Tryz.prog 98 6 = some 6 := by kernel_rfl
theorem ie112_M2 : ie Tryz.prog 112 = some 1 := by kernel_rfl
theorem ie22_M2 : ie Tryz.prog 22 = some 2 := by kernel_rfl
theorem ie23_M2 : ie Tryz.prog 23 = some 3 := by kernel_rfl
theorem ie67_M2 : ie Tryz.prog 67 = some 1 := by kernel_rfl
theorem lk22_M2 : lk Tryz.prog 22 = some (false, 1) := by kernel_rfl
theorem lk23_M2 : lk Tryz.prog 23 = some (false, 1) := by kernel_rfl
theorem lk3_M2 : lk Tryz.prog 3 = some (false, 1) := by kernel_rfl
theorem lk4_M2 : lk Tryz.prog 4 = some (false, 1) := by kernel_rfl
theorem lk9_M2 : lk Tryz.prog 9 = some (false, 1) := by kernel_rfl
theorem un112_M2 : Tryz.prog.underlying 112 = some (TypeDesc.slice 9) := Tryz.underlying112
theorem un22_M2 : Tryz.prog.underlying 22 = some (TypeDesc.slice 94) := Tryz.underlying22
theorem un23_M2 : Tryz.prog.underlying 23 = some (TypeDesc.slice 78) := Tryz.underlying23
theorem un67_M2 : Tryz.prog.underlying 67 = some (TypeDesc.slice 3) := Tryz.underlying67
theorem un9_M2 : Tryz.prog.underlying 9 = some TypeDesc.string := Tryz.underlying9
theorem r_nameOK (s : Str) : Pure Tryz.prog 69 [.str s] (.bool (nameOK s)) := by
  refine Pure.of_tri Tryz.func69 rfl rfl (ltb rfl) fun H => ?_
  refine Tri.seq ?_
  refine Tri.region ?_
  refine TriL.c1 rfl (op_as (ltb rfl) rfl) ?_
  refine TriL.nil ?_
  refine Tri.seq ?_
  refine Tri.seq ?_
  refine Tri.region ?_
  refine TriL.c1 rfl (op_mv (ltb rfl) rfl) ?_
  refine TriL.c1 rfl (op_lens (ltb rfl) un9_M2 rfl) ?_
  refine TriL.c1 rfl (op_bin (ltb rfl) rfl rfl rfl) ?_
  refine TriL.c1 rfl (op_mv (ltb rfl) rfl) ?_
  refine TriL.split (d := 9) rfl (fun hg1 => ?_) (fun hg1 => ?_)
  · refine TriL.skipu rfl rfl (ltb rfl) (ltb rfl) rfl hg1 ?_
    refine TriL.skipu rfl rfl (ltb rfl) (ltb rfl) rfl hg1 ?_
    refine TriL.skipu rfl rfl (ltb rfl) (ltb rfl) rfl hg1 ?_
    refine TriL.c1 rfl (op_pickt (ltb rfl) rfl hg1 rfl) ?_
    refine TriL.c1 rfl (op_mv (ltb rfl) rfl) ?_
    refine TriL.skipu rfl rfl (ltb rfl) (ltb rfl) rfl rfl ?_
    refine TriL.skipu rfl rfl (ltb rfl) (ltb rfl) rfl rfl ?_
    refine TriL.skipu rfl rfl (ltb rfl) (ltb rfl) rfl rfl ?_
    refine TriL.skipu rfl rfl (ltb rfl) (ltb rfl) rfl rfl ?_
    refine TriL.c1 rfl (op_pickt (ltb rfl) rfl rfl rfl) ?_
    refine TriL.nil ?_
    refine Tri.condT rfl rfl ?_
    refine Tri.seq ?_
    refine Tri.region ?_
    refine TriL.c1 rfl (op_as (ltb rfl) rfl) ?_
    refine TriL.nil ?_
    refine Tri.ret ?_
    exact ⟨.inr rfl, (ResOK.r1 rfl (.tmp rfl .nil)).cast (congrArg AV.bool (by grind [nameOK, idc])), rfl⟩
  · refine TriL.g1 rfl (ltb rfl) rfl hg1 (op_mv (ltb rfl) rfl) ?_
    refine TriL.g1 rfl (ltb rfl) rfl hg1 (op_lens (ltb rfl) un9_M2 rfl) ?_
    refine TriL.g1 rfl (ltb rfl) rfl hg1 (op_bin (ltb rfl) rfl rfl rfl) ?_
    refine TriL.c1 rfl (op_pickf (ltb rfl) rfl hg1 rfl) ?_
    refine TriL.c1 rfl (op_mv (ltb rfl) rfl) ?_
    refine TriL.split (d := 14) rfl (fun hg2 => ?_) (fun hg2 => ?_)
    · refine TriL.skipu rfl rfl (ltb rfl) (ltb rfl) rfl hg2 ?_
      refine TriL.skipu rfl rfl (ltb rfl) (ltb rfl) rfl hg2 ?_
      refine TriL.skipu rfl rfl (ltb rfl) (ltb rfl) rfl hg2 ?_
      refine TriL.skipu rfl rfl (ltb rfl) (ltb rfl) rfl hg2 ?_
      refine TriL.c1 rfl (op_pickt (ltb rfl) rfl hg2 rfl) ?_
      refine TriL.nil ?_
      refine Tri.condT rfl rfl ?_
      refine Tri.seq ?_
      refine Tri.region ?_
      refine TriL.c1 rfl (op_as (ltb rfl) rfl) ?_
      refine TriL.nil ?_
      refine Tri.ret ?_
      exact ⟨.inr rfl, (ResOK.r1 rfl (.tmp rfl .nil)).cast (congrArg AV.bool (by grind [nameOK, idc])), rfl⟩
    · refine TriL.g1 rfl (ltb rfl) rfl hg2 (op_mv (ltb rfl) rfl) ?_
      refine TriL.g1 rfl (ltb rfl) rfl hg2 (op_ixs (ltb rfl) un9_M2 rfl rfl (by decide) (show s[0]? = some (s.headD 0) by cases s with | nil => simp at hg2 hg1 | cons a l => rfl)) ?_
      refine TriL.g1 rfl (ltb rfl) rfl hg2 (op_call (ltb rfl) fn121_M2 rfl (r_letter _)) ?_
      refine TriL.g1 rfl (ltb rfl) rfl hg2 (op_un (ltb rfl) rfl rfl) ?_
      refine TriL.c1 rfl (op_pickf (ltb rfl) rfl hg2 rfl) ?_
      refine TriL.nil ?_
      refine Tri.cond rfl (fun hc3 => ?_) (fun hc3 => ?_)
      · refine Tri.seq ?_
        refine Tri.region ?_
        refine TriL.c1 rfl (op_as (ltb rfl) rfl) ?_
        refine TriL.nil ?_
        refine Tri.ret ?_
        exact ⟨.inr rfl, (ResOK.r1 rfl (.tmp rfl .nil)).cast (congrArg AV.bool (by grind [nameOK, idc])), rfl⟩
      · refine Tri.skip ?_
        refine Tri.seq ?_
        refine Tri.seq ?_
        refine Tri.region ?_
        refine TriL.c1 rfl (op_as (ltb rfl) rfl) ?_
        refine TriL.nil ?_
        refine Tri.blk ?_
        refine Tri.ofKept (Kept.keep [.s 3, .h, .s 0] rfl (by decide) (Kept.now ?_))
        -- LOOP 1
        refine Tri.loopk (fun (i : Nat) => [(.s 3, .sv (.v (.int .i64 (i : Int))))]) _ (fun (i : Nat) => (s.drop i).all idc = s.all idc) (fun (i : Nat) => s.length - i) 0 rfl (by simp) ?_
        rintro i hI
        refine Tri.seq ?_
        refine Tri.seq ?_
        refine Tri.region ?_
        refine TriL.c1 rfl (op_mv (ltb rfl) rfl) ?_
        refine TriL.c1 rfl (op_mv (ltb rfl) rfl) ?_
        refine TriL.c1 rfl (op_lens (ltb rfl) un9_M2 rfl) ?_
        refine TriL.c1 rfl (op_bin (ltb rfl) rfl rfl rfl) ?_
        refine TriL.nil ?_
        refine Tri.cond rfl (fun hc4 => ?_) (fun hc4 => ?_)
        · have hi := lts hc4
          have hS := all_step (p := idc) hi
          have hL : s.length ≤ 12 := by have := of_decide_eq_false hg2; omega
          refine Tri.skip ?_
          refine Tri.seq ?_
          refine Tri.blk ?_
          refine Tri.seq ?_
          refine Tri.region ?_
          refine TriL.c1 rfl (op_mv (ltb rfl) rfl) ?_
          refine TriL.c1 rfl (op_mv (ltb rfl) rfl) ?_
          refine TriL.c1 rfl (op_ixs (ltb rfl) un9_M2 rfl rfl (Int.natCast_nonneg _) (ixs hi)) ?_
          refine TriL.c1 rfl (op_call (ltb rfl) fn121_M2 rfl (r_letter _)) ?_
          refine TriL.c1 rfl (op_un (ltb rfl) rfl rfl) ?_
          refine TriL.c1 rfl (op_mv (ltb rfl) rfl) ?_
          refine TriL.split (d := 31) rfl (fun hg5 => ?_) (fun hg5 => ?_)
          · refine TriL.g1 rfl (ltb rfl) rfl hg5 (op_mv (ltb rfl) rfl) ?_
            refine TriL.g1 rfl (ltb rfl) rfl hg5 (op_mv (ltb rfl) rfl) ?_
            refine TriL.g1 rfl (ltb rfl) rfl hg5 (op_ixs (ltb rfl) un9_M2 rfl rfl (Int.natCast_nonneg _) (ixs hi)) ?_
            refine TriL.g1 rfl (ltb rfl) rfl hg5 (op_bin (ltb rfl) rfl rfl rfl) ?_
            refine TriL.g1 rfl (ltb rfl) rfl hg5 (op_mv (ltb rfl) rfl) ?_
            refine TriL.split (d := 36) rfl (fun hg6 => ?_) (fun hg6 => ?_)
            · refine TriL.skipu rfl rfl (ltb rfl) (ltb rfl) rfl hg6 ?_
              refine TriL.skipu rfl rfl (ltb rfl) (ltb rfl) rfl hg6 ?_
              refine TriL.skipu rfl rfl (ltb rfl) (ltb rfl) rfl hg6 ?_
              refine TriL.skipu rfl rfl (ltb rfl) (ltb rfl) rfl hg6 ?_
              refine TriL.g1 rfl (ltb rfl) rfl hg5 (op_pickt (ltb rfl) rfl hg6 rfl) ?_
              refine TriL.c1 rfl (op_pickt (ltb rfl) rfl hg5 rfl) ?_
              refine TriL.c1 rfl (op_mv (ltb rfl) rfl) ?_
              refine TriL.g1 rfl (ltb rfl) rfl rfl (op_mv (ltb rfl) rfl) ?_
              refine TriL.g1 rfl (ltb rfl) rfl rfl (op_mv (ltb rfl) rfl) ?_
              refine TriL.g1 rfl (ltb rfl) rfl rfl (op_ixs (ltb rfl) un9_M2 rfl rfl (Int.natCast_nonneg _) (ixs hi)) ?_
              refine TriL.g1 rfl (ltb rfl) rfl rfl (op_bin (ltb rfl) rfl rfl rfl) ?_
              refine TriL.c1 rfl (op_pickt (ltb rfl) rfl rfl rfl) ?_
              refine TriL.nil ?_
              refine Tri.cond rfl (fun hc7 => ?_) (fun hc7 => ?_)
              · refine Tri.seq ?_
                refine Tri.region ?_
                refine TriL.c1 rfl (op_as (ltb rfl) rfl) ?_
                refine TriL.nil ?_
                refine Tri.ret ?_
                exact ⟨.inr rfl, (ResOK.r1 rfl (.tmp rfl .nil)).cast (congrArg AV.bool (by grind [nameOK, idc])), rfl⟩
              · refine Tri.skip ?_
                refine Tri.region ?_
                refine TriL.c1 rfl (op_mv (ltb rfl) rfl) ?_
                refine TriL.c1 rfl (op_bin (ltb rfl) rfl rfl rfl) ?_
                refine TriL.c1 rfl (op_as (ltb rfl) rfl) ?_
                refine TriL.kept (Kept.seti 3 rfl (inc (by omega)) (Kept.keep [.s 3, .h, .s 0] rfl (by decide) (Kept.now ?_)))
                exact ⟨i + 1, by omega, by grind [idc], rfl⟩
            · refine TriL.g1 rfl (ltb rfl) rfl hg6 (op_mv (ltb rfl) rfl) ?_
              refine TriL.g1 rfl (ltb rfl) rfl hg6 (op_mv (ltb rfl) rfl) ?_
              refine TriL.g1 rfl (ltb rfl) rfl hg6 (op_ixs (ltb rfl) un9_M2 rfl rfl (Int.natCast_nonneg _) (ixs hi)) ?_
              refine TriL.g1 rfl (ltb rfl) rfl hg6 (op_bin (ltb rfl) rfl rfl rfl) ?_
              refine TriL.g1 rfl (ltb rfl) rfl hg5 (op_pickf (ltb rfl) rfl hg6 rfl) ?_
              refine TriL.c1 rfl (op_pickt (ltb rfl) rfl hg5 rfl) ?_
              refine TriL.c1 rfl (op_mv (ltb rfl) rfl) ?_
              refine TriL.split (d := 43) rfl (fun hg8 => ?_) (fun hg8 => ?_)
              · refine TriL.g1 rfl (ltb rfl) rfl hg8 (op_mv (ltb rfl) rfl) ?_
                refine TriL.g1 rfl (ltb rfl) rfl hg8 (op_mv (ltb rfl) rfl) ?_
                refine TriL.g1 rfl (ltb rfl) rfl hg8 (op_ixs (ltb rfl) un9_M2 rfl rfl (Int.natCast_nonneg _) (ixs hi)) ?_
                refine TriL.g1 rfl (ltb rfl) rfl hg8 (op_bin (ltb rfl) rfl rfl rfl) ?_
                refine TriL.c1 rfl (op_pickt (ltb rfl) rfl hg8 rfl) ?_
                refine TriL.nil ?_
                refine Tri.cond rfl (fun hc9 => ?_) (fun hc9 => ?_)
                · refine Tri.seq ?_
                  refine Tri.region ?_
                  refine TriL.c1 rfl (op_as (ltb rfl) rfl) ?_
                  refine TriL.nil ?_
                  refine Tri.ret ?_
                  exact ⟨.inr rfl, (ResOK.r1 rfl (.tmp rfl .nil)).cast (congrArg AV.bool (by grind [nameOK, idc])), rfl⟩
                · refine Tri.skip ?_
                  refine Tri.region ?_
                  refine TriL.c1 rfl (op_mv (ltb rfl) rfl) ?_
                  refine TriL.c1 rfl (op_bin (ltb rfl) rfl rfl rfl) ?_
                  refine TriL.c1 rfl (op_as (ltb rfl) rfl) ?_
                  refine TriL.kept (Kept.seti 3 rfl (inc (by omega)) (Kept.keep [.s 3, .h, .s 0] rfl (by decide) (Kept.now ?_)))
                  exact ⟨i + 1, by omega, by grind [idc], rfl⟩
              · refine TriL.skipu rfl rfl (ltb rfl) (ltb rfl) rfl hg8 ?_
                refine TriL.skipu rfl rfl (ltb rfl) (ltb rfl) rfl hg8 ?_
                refine TriL.skipu rfl rfl (ltb rfl) (ltb rfl) rfl hg8 ?_
                refine TriL.skipu rfl rfl (ltb rfl) (ltb rfl) rfl hg8 ?_
                refine TriL.c1 rfl (op_pickf (ltb rfl) rfl hg8 rfl) ?_
                refine TriL.nil ?_
                refine Tri.condF rfl rfl ?_
                refine Tri.skip ?_
                refine Tri.region ?_
                refine TriL.c1 rfl (op_mv (ltb rfl) rfl) ?_
                refine TriL.c1 rfl (op_bin (ltb rfl) rfl rfl rfl) ?_
                refine TriL.c1 rfl (op_as (ltb rfl) rfl) ?_
                refine TriL.kept (Kept.seti 3 rfl (inc (by omega)) (Kept.keep [.s 3, .h, .s 0] rfl (by decide) (Kept.now ?_)))
                exact ⟨i + 1, by omega, by grind [idc], rfl⟩
          · refine TriL.skipu rfl rfl (ltb rfl) (ltb rfl) rfl hg5 ?_
            refine TriL.skipu rfl rfl (ltb rfl) (ltb rfl) rfl hg5 ?_
            refine TriL.skipu rfl rfl (ltb rfl) (ltb rfl) rfl hg5 ?_
            refine TriL.skipu rfl rfl (ltb rfl) (ltb rfl) rfl hg5 ?_
            refine TriL.skipu rfl rfl (ltb rfl) (ltb rfl) rfl hg5 ?_
            refine TriL.skipg rfl rfl (ltb rfl) (ltb rfl) rfl ?_
            refine TriL.skipg rfl rfl (ltb rfl) (ltb rfl) rfl ?_
            refine TriL.skipg rfl rfl (ltb rfl) (ltb rfl) rfl ?_
            refine TriL.skipg rfl rfl (ltb rfl) (ltb rfl) rfl ?_
            refine TriL.skipu rfl rfl (ltb rfl) (ltb rfl) rfl hg5 ?_
            refine TriL.c1 rfl (op_pickf (ltb rfl) rfl hg5 rfl) ?_
            refine TriL.c1 rfl (op_mv (ltb rfl) rfl) ?_
            refine TriL.skipu rfl rfl (ltb rfl) (ltb rfl) rfl rfl ?_
            refine TriL.skipu rfl rfl (ltb rfl) (ltb rfl) rfl rfl ?_
            refine TriL.skipu rfl rfl (ltb rfl) (ltb rfl) rfl rfl ?_
            refine TriL.skipu rfl rfl (ltb rfl) (ltb rfl) rfl rfl ?_
            refine TriL.c1 rfl (op_pickf (ltb rfl) rfl rfl rfl) ?_
            refine TriL.nil ?_
            refine Tri.condF rfl rfl ?_
            refine Tri.skip ?_
            refine Tri.region ?_
            refine TriL.c1 rfl (op_mv (ltb rfl) rfl) ?_
            refine TriL.c1 rfl (op_bin (ltb rfl) rfl rfl rfl) ?_
            refine TriL.c1 rfl (op_as (ltb rfl) rfl) ?_
            refine TriL.kept (Kept.seti 3 rfl (inc (by omega)) (Kept.keep [.s 3, .h, .s 0] rfl (by decide) (Kept.now ?_)))
            exact ⟨i + 1, by omega, by grind [idc], rfl⟩
        · have hi := ges hc4
          have hS := all_end (p := idc) hi
          refine Tri.exit ?_
          refine Tri.seq ?_
          refine Tri.region ?_
          refine TriL.c1 rfl (op_call (ltb rfl) fn122_M2 rfl r_words) ?_
          refine TriL.c1 rfl (op_as (ltb rfl) rfl) ?_
          refine TriL.nil ?_
          refine Tri.seq ?_
          refine Tri.seq ?_
          refine Tri.region ?_
          refine TriL.c1 rfl (op_as (ltb rfl) rfl) ?_
          refine TriL.nil ?_
          refine Tri.blk ?_
          refine Tri.ofKept (Kept.keep [.s 5, .h, .s 0, .s 4] rfl (by decide) (Kept.now ?_))
          -- LOOP 2
          refine Tri.loopk (fun (j : Nat) => [(.s 5, .sv (.v (.int .i64 (j : Int))))]) _ (fun (j : Nat) => (wordsL.drop j).all (fun w => !(w == s)) = wordsL.all (fun w => !(w == s))) (fun (j : Nat) => wordsL.length - j) 0 rfl (by simp) ?_
          rintro j hJ
          refine Tri.seq ?_
          refine Tri.seq ?_
          refine Tri.region ?_
          refine TriL.c1 rfl (op_mv (ltb rfl) rfl) ?_
          refine TriL.c1 rfl (op_mv (ltb rfl) rfl) ?_
          refine TriL.c1 rfl (op_lenl (ltb rfl) un112_M2 rfl) ?_
          refine TriL.c1 rfl (op_bin (ltb rfl) rfl rfl rfl) ?_
          refine TriL.nil ?_
          refine Tri.cond rfl (fun hc10 => ?_) (fun hc10 => ?_)
          · have hj := ltm hc10
            have hT := all_step (p := fun w => !(w == s)) hj
            have hW : wordsL.length = 35 := rfl
            refine Tri.skip ?_
            refine Tri.seq ?_
            refine Tri.blk ?_
            refine Tri.seq ?_
            refine Tri.region ?_
            refine TriL.c1 rfl (op_mv (ltb rfl) rfl) ?_
            refine TriL.c1 rfl (op_mv (ltb rfl) rfl) ?_
            refine TriL.c1 rfl (op_iak (ltb rfl) ie112_M2 rfl rfl (Int.natCast_nonneg _) (ixm hj) rfl) ?_
            refine TriL.c1 rfl (op_ldk (ltb rfl) lk9_M2 rfl rfl) ?_
            refine TriL.c1 rfl (op_mv (ltb rfl) rfl) ?_
            refine TriL.c1 rfl (op_bin (ltb rfl) rfl rfl rfl) ?_
            refine TriL.nil ?_
            refine Tri.cond rfl (fun hc11 => ?_) (fun hc11 => ?_)
            · refine Tri.seq ?_
              refine Tri.region ?_
              refine TriL.c1 rfl (op_as (ltb rfl) rfl) ?_
              refine TriL.nil ?_
              refine Tri.ret ?_
              exact ⟨.inr rfl, (ResOK.r1 rfl (.tmp rfl .nil)).cast (congrArg AV.bool (by grind [nameOK, idc])), rfl⟩
            · refine Tri.skip ?_
              refine Tri.region ?_
              refine TriL.c1 rfl (op_mv (ltb rfl) rfl) ?_
              refine TriL.c1 rfl (op_bin (ltb rfl) rfl rfl rfl) ?_
              refine TriL.c1 rfl (op_as (ltb rfl) rfl) ?_
              refine TriL.kept (Kept.seti 5 rfl (inc (by omega)) (Kept.keep [.s 5, .h, .s 0, .s 4] rfl (by decide) (Kept.now ?_)))
              exact ⟨j + 1, by omega, by grind, rfl⟩
          · have hj := gem hc10
            have hT := all_end (p := fun w => !(w == s)) hj
            refine Tri.exit ?_
            refine Tri.seq ?_
            refine Tri.region ?_
            refine TriL.c1 rfl (op_as (ltb rfl) rfl) ?_
            refine TriL.nil ?_
            refine Tri.ret ?_
            exact ⟨.inr rfl, (ResOK.r1 rfl (.tmp rfl .nil)).cast (congrArg AV.bool (by grind [nameOK, idc])), rfl⟩
theorem r_once (l : List Str) (hl : l.length ≤ 9223372036854775807) : Pure Tryz.prog 71 [.sl (l.map .str)] (.bool (once l)) := by
  refine Pure.of_tri Tryz.func71 rfl rfl (ltb rfl) fun H => ?_
  refine Tri.seq ?_
  refine Tri.region ?_
  refine TriL.c1 rfl (op_as (ltb rfl) rfl) ?_
  refine TriL.nil ?_
  refine Tri.seq ?_
  refine Tri.seq ?_
  refine Tri.region ?_
  refine TriL.c1 rfl (op_as (ltb rfl) rfl) ?_
  refine TriL.nil ?_
  refine Tri.blk ?_
  refine Tri.ofKept (Kept.keep [.s 3, .h, .s 0] rfl (by decide) (Kept.now ?_))
  -- LOOP 1
  refine Tri.loopk (fun (i : Nat) => [(.s 3, .sv (.v (.int .i64 (i : Int))))]) _ (fun (i : Nat) => onceFrom l (l.drop i) i = once l) (fun (i : Nat) => l.length - i) 0 rfl (by simp [once]) ?_
  rintro i hI
  refine Tri.seq ?_
  refine Tri.seq ?_
  refine Tri.region ?_
  refine TriL.c1 rfl (op_mv (ltb rfl) rfl) ?_
  refine TriL.c1 rfl (op_mv (ltb rfl) rfl) ?_
  refine TriL.c1 rfl (op_lenl (ltb rfl) un112_M2 rfl) ?_
  refine TriL.c1 rfl (op_bin (ltb rfl) rfl rfl rfl) ?_
  refine TriL.nil ?_
  refine Tri.cond rfl (fun hc1 => ?_) (fun hc1 => ?_)
  · have hi := ltm hc1
    have hS := onceFrom_step hi
    refine Tri.skip ?_
    refine Tri.seq ?_
    refine Tri.blk ?_
    refine Tri.seq ?_
    refine Tri.region ?_
    refine TriL.c1 rfl (op_as (ltb rfl) rfl) ?_
    refine TriL.nil ?_
    refine Tri.blk ?_
    refine Tri.ofKept (Kept.keep [.s 4, .h, .s 0, .s 3] rfl (by decide) (Kept.now ?_))
    -- LOOP 2
    refine Tri.loopk (fun (k : Nat) => [(.s 4, .sv (.v (.int .i64 (k : Int))))]) _ (fun (k : Nat) => ((l.take i).drop k).any (fun b => l[i] == b) = (l.take i).any (fun b => l[i] == b)) (fun (k : Nat) => i - k) 0 rfl (by simp) ?_
    rintro k hK
    refine Tri.seq ?_
    refine Tri.seq ?_
    refine Tri.region ?_
    refine TriL.c1 rfl (op_mv (ltb rfl) rfl) ?_
    refine TriL.c1 rfl (op_mv (ltb rfl) rfl) ?_
    refine TriL.c1 rfl (op_bin (ltb rfl) rfl rfl rfl) ?_
    refine TriL.nil ?_
    refine Tri.cond rfl (fun hc2 => ?_) (fun hc2 => ?_)
    · have hk := ltz hc2
      have hT := any_step (p := fun b => l[i] == b) (l := l.take i) (i := k) (by simp; omega)
      have hG : (l.take i)[k]'(by simp; omega) = l[k]'(by omega) := by simp
      refine Tri.skip ?_
      refine Tri.seq ?_
      refine Tri.blk ?_
      refine Tri.seq ?_
      refine Tri.drawn mixed rfl ?_
      refine TriD.c1 rfl (op_mv (ltb rfl) rfl) ?_
      refine TriD.c1 rfl (op_mv (ltb rfl) rfl) ?_
      refine TriD.c1 rfl (op_iak (ltb rfl) ie112_M2 rfl rfl (Int.natCast_nonneg _) (ixm hi) rfl) ?_
      refine TriD.c1 rfl (op_ldk (ltb rfl) lk9_M2 rfl rfl) ?_
      refine TriD.c1 rfl (op_mv (ltb rfl) rfl) ?_
      refine TriD.c1 rfl (op_mv (ltb rfl) rfl) ?_
      refine TriD.c1 rfl (op_iak (ltb rfl) ie112_M2 rfl rfl (Int.natCast_nonneg _) (ixm (Nat.lt_trans hk hi)) rfl) ?_
      refine TriD.c1 rfl (op_ldk (ltb rfl) lk9_M2 rfl rfl) ?_
      refine TriD.c1 rfl (op_bin (ltb rfl) rfl rfl rfl) ?_
      refine TriD.nil (by kernel_rfl) (Kept.now ?_)
      refine Tri.cond rfl (fun hc3 => ?_) (fun hc3 => ?_)
      · refine Tri.seq ?_
        refine Tri.region ?_
        refine TriL.c1 rfl (op_as (ltb rfl) rfl) ?_
        refine TriL.nil ?_
        refine Tri.ret ?_
        exact ⟨.inr rfl, (ResOK.r1 rfl (.tmp rfl .nil)).cast (congrArg AV.bool (by grind [once])), rfl⟩
      · refine Tri.skip ?_
        refine Tri.region ?_
        refine TriL.c1 rfl (op_mv (ltb rfl) rfl) ?_
        refine TriL.c1 rfl (op_bin (ltb rfl) rfl rfl rfl) ?_
        refine TriL.c1 rfl (op_as (ltb rfl) rfl) ?_
        refine TriL.kept (Kept.seti 4 rfl (inc (by omega)) (Kept.keep [.s 4, .h, .s 0, .s 3] rfl (by decide) (Kept.now ?_)))
        exact ⟨k + 1, by omega, by grind, rfl⟩
    · have hk := gez hc2
      have hT := any_end (p := fun b => l[i] == b) (l := l.take i) (i := k) (by simp; omega)
      refine Tri.exit ?_
      refine Tri.region ?_
      refine TriL.c1 rfl (op_mv (ltb rfl) rfl) ?_
      refine TriL.c1 rfl (op_bin (ltb rfl) rfl rfl rfl) ?_
      refine TriL.c1 rfl (op_as (ltb rfl) rfl) ?_
      refine TriL.kept (Kept.seti 3 rfl (inc (by omega)) (Kept.keep [.s 3, .h, .s 0] rfl (by decide) (Kept.now ?_)))
      exact ⟨i + 1, by omega, by grind, rfl⟩
  · have hi := gem hc1
    have hS := onceFrom_end hi
    refine Tri.exit ?_
    refine Tri.seq ?_
    refine Tri.region ?_
    refine TriL.c1 rfl (op_as (ltb rfl) rfl) ?_
    refine TriL.nil ?_
    refine Tri.ret ?_
    exact ⟨.inr rfl, (ResOK.r1 rfl (.tmp rfl .nil)).cast (congrArg AV.bool (by grind [once])), rfl⟩
theorem r_riseS (l : List Str) (hl : l.length ≤ 9223372036854775807) : Pure Tryz.prog 73 [.sl (l.map .str)] (.bool (riseS l)) := by
  refine Pure.of_tri Tryz.func73 rfl rfl (ltb rfl) fun H => ?_
  refine Tri.seq ?_
  refine Tri.region ?_
  refine TriL.c1 rfl (op_as (ltb rfl) rfl) ?_
  refine TriL.nil ?_
  refine Tri.seq ?_
  refine Tri.seq ?_
  refine Tri.region ?_
  refine TriL.c1 rfl (op_as (ltb rfl) rfl) ?_
  refine TriL.nil ?_
  refine Tri.blk ?_
  refine Tri.ofKept (Kept.keep [.s 3, .h, .s 0] rfl (by decide) (Kept.now ?_))
  -- LOOP 1
  refine Tri.loopk (fun (i : Nat) => [(.s 3, .sv (.v (.int .i64 (i : Int))))]) _ (fun (i : Nat) => 0 < i ∧ riseS (l.drop (i - 1)) = riseS l) (fun (i : Nat) => l.length - i) 1 rfl (by simp) ?_
  rintro i hI
  refine Tri.seq ?_
  refine Tri.seq ?_
  refine Tri.region ?_
  refine TriL.c1 rfl (op_mv (ltb rfl) rfl) ?_
  refine TriL.c1 rfl (op_mv (ltb rfl) rfl) ?_
  refine TriL.c1 rfl (op_lenl (ltb rfl) un112_M2 rfl) ?_
  refine TriL.c1 rfl (op_bin (ltb rfl) rfl rfl rfl) ?_
  refine TriL.nil ?_
  refine Tri.cond rfl (fun hc1 => ?_) (fun hc1 => ?_)
  · have hi := ltm hc1
    have hS := riseS_step hI.1 hi
    refine Tri.skip ?_
    refine Tri.seq ?_
    refine Tri.blk ?_
    refine Tri.seq ?_
    refine Tri.drawn mixed rfl ?_
    refine TriD.c1 rfl (op_mv (ltb rfl) rfl) ?_
    refine TriD.c1 rfl (op_mv (ltb rfl) rfl) ?_
    refine TriD.c1 rfl (op_bin (ltb rfl) rfl rfl rfl) ?_
    refine TriD.c1 rfl (op_iak (ltb rfl) ie112_M2 rfl rfl (by rw [dec1 hI.1 (by omega)]; exact Int.natCast_nonneg _) (ixm1 (dec1 hI.1 (by omega)) (show i - 1 < l.length by omega)) rfl) ?_
    refine TriD.c1 rfl (op_ldk (ltb rfl) lk9_M2 rfl rfl) ?_
    refine TriD.c1 rfl (op_mv (ltb rfl) rfl) ?_
    refine TriD.c1 rfl (op_mv (ltb rfl) rfl) ?_
    refine TriD.c1 rfl (op_iak (ltb rfl) ie112_M2 rfl rfl (Int.natCast_nonneg _) (ixm hi) rfl) ?_
    refine TriD.c1 rfl (op_ldk (ltb rfl) lk9_M2 rfl rfl) ?_
    refine TriD.c1 rfl (op_bin (ltb rfl) rfl rfl rfl) ?_
    refine TriD.nil (by kernel_rfl) (Kept.now ?_)
    refine Tri.cond rfl (fun hc2 => ?_) (fun hc2 => ?_)
    · refine Tri.seq ?_
      refine Tri.region ?_
      refine TriL.c1 rfl (op_as (ltb rfl) rfl) ?_
      refine TriL.nil ?_
      refine Tri.ret ?_
      exact ⟨.inr rfl, (ResOK.r1 rfl (.tmp rfl .nil)).cast (congrArg AV.bool (by grind [])), rfl⟩
    · refine Tri.skip ?_
      refine Tri.region ?_
      refine TriL.c1 rfl (op_mv (ltb rfl) rfl) ?_
      refine TriL.c1 rfl (op_bin (ltb rfl) rfl rfl rfl) ?_
      refine TriL.c1 rfl (op_as (ltb rfl) rfl) ?_
      refine TriL.kept (Kept.seti 3 rfl (inc (by omega)) (Kept.keep [.s 3, .h, .s 0] rfl (by decide) (Kept.now ?_)))
      exact ⟨i + 1, by omega, ⟨by omega, by grind⟩, rfl⟩
  · have hi := gem hc1
    have hS := riseS_end hI.1 hi
    refine Tri.exit ?_
    refine Tri.seq ?_
    refine Tri.region ?_
    refine TriL.c1 rfl (op_as (ltb rfl) rfl) ?_
    refine TriL.nil ?_
    refine Tri.ret ?_
    exact ⟨.inr rfl, (ResOK.r1 rfl (.tmp rfl .nil)).cast (congrArg AV.bool (by grind [])), rfl⟩
theorem r_rises (l : List Int) (hl : l.length ≤ 9223372036854775807) : Pure Tryz.prog 72 [.sl (l.map iAV)] (.bool (rises l)) := by
  refine Pure.of_tri Tryz.func72 rfl rfl (ltb rfl) fun H => ?_
  refine Tri.seq ?_
  refine Tri.region ?_
  refine TriL.c1 rfl (op_as (ltb rfl) rfl) ?_
  refine TriL.nil ?_
  refine Tri.seq ?_
  refine Tri.seq ?_
  refine Tri.region ?_
  refine TriL.c1 rfl (op_as (ltb rfl) rfl) ?_
  refine TriL.nil ?_
  refine Tri.blk ?_
  refine Tri.ofKept (Kept.keep [.s 3, .h, .s 0] rfl (by decide) (Kept.now ?_))
  -- LOOP 1
  refine Tri.loopk (fun (i : Nat) => [(.s 3, .sv (.v (.int .i64 (i : Int))))]) _ (fun (i : Nat) => 0 < i ∧ rises (l.drop (i - 1)) = rises l) (fun (i : Nat) => l.length - i) 1 rfl (by simp) ?_
  rintro i hI
  refine Tri.seq ?_
  refine Tri.seq ?_
  refine Tri.region ?_
  refine TriL.c1 rfl (op_mv (ltb rfl) rfl) ?_
  refine TriL.c1 rfl (op_mv (ltb rfl) rfl) ?_
  refine TriL.c1 rfl (op_lenl (ltb rfl) un67_M2 rfl) ?_
  refine TriL.c1 rfl (op_bin (ltb rfl) rfl rfl rfl) ?_
  refine TriL.nil ?_
  refine Tri.cond rfl (fun hc1 => ?_) (fun hc1 => ?_)
  · have hi := ltm hc1
    have hS := rises_step hI.1 hi
    refine Tri.skip ?_
    refine Tri.seq ?_
    refine Tri.blk ?_
    refine Tri.seq ?_
    refine Tri.drawn mixed rfl ?_
    refine TriD.c1 rfl (op_mv (ltb rfl) rfl) ?_
    refine TriD.c1 rfl (op_mv (ltb rfl) rfl) ?_
    refine TriD.c1 rfl (op_bin (ltb rfl) rfl rfl rfl) ?_
    refine TriD.c1 rfl (op_iak (ltb rfl) ie67_M2 rfl rfl (by rw [dec1 hI.1 (by omega)]; exact Int.natCast_nonneg _) (ixm1 (dec1 hI.1 (by omega)) (show i - 1 < l.length by omega)) rfl) ?_
    refine TriD.c1 rfl (op_ldk (ltb rfl) lk3_M2 rfl rfl) ?_
    refine TriD.c1 rfl (op_mv (ltb rfl) rfl) ?_
    refine TriD.c1 rfl (op_mv (ltb rfl) rfl) ?_
    refine TriD.c1 rfl (op_iak (ltb rfl) ie67_M2 rfl rfl (Int.natCast_nonneg _) (ixm hi) rfl) ?_
    refine TriD.c1 rfl (op_ldk (ltb rfl) lk3_M2 rfl rfl) ?_
    refine TriD.c1 rfl (op_bin (ltb rfl) rfl rfl rfl) ?_
    refine TriD.nil (by kernel_rfl) (Kept.now ?_)
    refine Tri.cond rfl (fun hc2 => ?_) (fun hc2 => ?_)
    · refine Tri.seq ?_
      refine Tri.region ?_
      refine TriL.c1 rfl (op_as (ltb rfl) rfl) ?_
      refine TriL.nil ?_
      refine Tri.ret ?_
      exact ⟨.inr rfl, (ResOK.r1 rfl (.tmp rfl .nil)).cast (congrArg AV.bool (by grind [])), rfl⟩
    · refine Tri.skip ?_
      refine Tri.region ?_
      refine TriL.c1 rfl (op_mv (ltb rfl) rfl) ?_
      refine TriL.c1 rfl (op_bin (ltb rfl) rfl rfl rfl) ?_
      refine TriL.c1 rfl (op_as (ltb rfl) rfl) ?_
      refine TriL.kept (Kept.seti 3 rfl (inc (by omega)) (Kept.keep [.s 3, .h, .s 0] rfl (by decide) (Kept.now ?_)))
      exact ⟨i + 1, by omega, ⟨by omega, by grind⟩, rfl⟩
  · have hi := gem hc1
    have hS := rises_end hI.1 hi
    refine Tri.exit ?_
    refine Tri.seq ?_
    refine Tri.region ?_
    refine TriL.c1 rfl (op_as (ltb rfl) rfl) ?_
    refine TriL.nil ?_
    refine Tri.ret ?_
    exact ⟨.inr rfl, (ResOK.r1 rfl (.tmp rfl .nil)).cast (congrArg AV.bool (by grind [])), rfl⟩
theorem r_has (l : List Int) (n : Int) (hl : l.length ≤ 9223372036854775807) : Pure Tryz.prog 75 [.sl (l.map iAV), .int .i64 n] (.bool (l.any (· == n))) := by
  refine Pure.of_tri Tryz.func75 rfl rfl (ltb rfl) fun H => ?_
  refine Tri.seq ?_
  refine Tri.region ?_
  refine TriL.c1 rfl (op_as (ltb rfl) rfl) ?_
  refine TriL.nil ?_
  refine Tri.seq ?_
  refine Tri.seq ?_
  refine Tri.region ?_
  refine TriL.c1 rfl (op_as (ltb rfl) rfl) ?_
  refine TriL.nil ?_
  refine Tri.blk ?_
  refine Tri.ofKept (Kept.keep [.s 5, .h, .s 0, .s 1] rfl (by decide) (Kept.now ?_))
  -- LOOP 1
  refine Tri.loopk (fun (i : Nat) => [(.s 5, .sv (.v (.int .i64 (i : Int))))]) _ (fun (i : Nat) => (l.drop i).any (· == n) = l.any (· == n)) (fun (i : Nat) => l.length - i) 0 rfl (by simp) ?_
  rintro i hI
  refine Tri.seq ?_
  refine Tri.seq ?_
  refine Tri.region ?_
  refine TriL.c1 rfl (op_mv (ltb rfl) rfl) ?_
  refine TriL.c1 rfl (op_mv (ltb rfl) rfl) ?_
  refine TriL.c1 rfl (op_lenl (ltb rfl) un67_M2 rfl) ?_
  refine TriL.c1 rfl (op_bin (ltb rfl) rfl rfl rfl) ?_
  refine TriL.nil ?_
  refine Tri.cond rfl (fun hc1 => ?_) (fun hc1 => ?_)
  · have hi := ltm hc1
    have hS := any_step (p := (· == n)) hi
    refine Tri.skip ?_
    refine Tri.seq ?_
    refine Tri.blk ?_
    refine Tri.seq ?_
    refine Tri.region ?_
    refine TriL.c1 rfl (op_mv (ltb rfl) rfl) ?_
    refine TriL.c1 rfl (op_mv (ltb rfl) rfl) ?_
    refine TriL.c1 rfl (op_iak (ltb rfl) ie67_M2 rfl rfl (Int.natCast_nonneg _) (ixm hi) rfl) ?_
    refine TriL.c1 rfl (op_ldk (ltb rfl) lk3_M2 rfl rfl) ?_
    refine TriL.c1 rfl (op_mv (ltb rfl) rfl) ?_
    refine TriL.c1 rfl (op_bin (ltb rfl) rfl rfl rfl) ?_
    refine TriL.nil ?_
    refine Tri.cond rfl (fun hc2 => ?_) (fun hc2 => ?_)
    · refine Tri.seq ?_
      refine Tri.region ?_
      refine TriL.c1 rfl (op_as (ltb rfl) rfl) ?_
      refine TriL.nil ?_
      refine Tri.ret ?_
      exact ⟨.inr rfl, (ResOK.r1 rfl (.tmp rfl .nil)).cast (congrArg AV.bool (by grind [])), rfl⟩
    · refine Tri.skip ?_
      refine Tri.region ?_
      refine TriL.c1 rfl (op_mv (ltb rfl) rfl) ?_
      refine TriL.c1 rfl (op_bin (ltb rfl) rfl rfl rfl) ?_
      refine TriL.c1 rfl (op_as (ltb rfl) rfl) ?_
      refine TriL.kept (Kept.seti 5 rfl (inc (by omega)) (Kept.keep [.s 5, .h, .s 0, .s 1] rfl (by decide) (Kept.now ?_)))
      exact ⟨i + 1, by omega, by grind, rfl⟩
  · have hi := gem hc1
    have hS := any_end (p := (· == n)) hi
    refine Tri.exit ?_
    refine Tri.seq ?_
    refine Tri.region ?_
    refine TriL.c1 rfl (op_as (ltb rfl) rfl) ?_
    refine TriL.nil ?_
    refine Tri.ret ?_
    exact ⟨.inr rfl, (ResOK.r1 rfl (.tmp rfl .nil)).cast (congrArg AV.bool (by grind [])), rfl⟩
theorem r_msgIx (s : Sch) (name : Str) (hl : s.msgs.length ≤ 9223372036854775807) : Pure Tryz.prog 52 [s.av, .str name] (.int .i64 (s.msgIx name)) := by
  refine Pure.of_tri Tryz.func52 rfl rfl (ltb rfl) fun H => ?_
  refine Tri.seq ?_
  refine Tri.region ?_
  refine TriL.c2 rfl (op_box (ltb rfl) rfl rfl rfl) ?_
  refine TriL.c1 rfl (op_as (ltb rfl) rfl) ?_
  refine TriL.nil ?_
  refine Tri.seq ?_
  refine Tri.seq ?_
  refine Tri.region ?_
  refine TriL.c1 rfl (op_as (ltb rfl) rfl) ?_
  refine TriL.nil ?_
  refine Tri.blk ?_
  refine Tri.ofKept (Kept.keep [.s 5, .h, .s 1, .s 2, .b 2] rfl (by decide) (Kept.now ?_))
  -- LOOP 1
  refine Tri.loopk (fun (i : Nat) => [(.s 5, .sv (.v (.int .i64 (i : Int))))]) _ (fun (i : Nat) => ixFrom (fun m : Msg => m.name == name) (s.msgs.drop i) i = s.msgIx name) (fun (i : Nat) => s.msgs.length - i) 0 rfl (by simp [Sch.msgIx]) ?_
  rintro i hI
  refine Tri.seq ?_
  refine Tri.seq ?_
  refine Tri.region ?_
  refine TriL.c1 rfl (op_mv (ltb rfl) rfl) ?_
  refine TriL.c1 rfl (op_fal (ltb rfl) fo25_1_M2 rfl) ?_
  refine TriL.c1 rfl (op_ldl (ltb rfl) lk23_M2 rfl rfl rfl) ?_
  refine TriL.c1 rfl (op_lenl (ltb rfl) un23_M2 rfl) ?_
  refine TriL.c1 rfl (op_bin (ltb rfl) rfl rfl rfl) ?_
  refine TriL.nil ?_
  refine Tri.cond rfl (fun hc1 => ?_) (fun hc1 => ?_)
  · have hi := ltm hc1
    have hS := ixFrom_step (p := (fun m : Msg => m.name == name)) hi
    refine Tri.skip ?_
    refine Tri.seq ?_
    refine Tri.blk ?_
    refine Tri.seq ?_
    refine Tri.region ?_
    refine TriL.c1 rfl (op_fal (ltb rfl) fo25_1_M2 rfl) ?_
    refine TriL.c1 rfl (op_ldl (ltb rfl) lk23_M2 rfl rfl rfl) ?_
    refine TriL.c1 rfl (op_mv (ltb rfl) rfl) ?_
    refine TriL.c1 rfl (op_iak (ltb rfl) ie23_M2 rfl rfl (Int.natCast_nonneg _) (ixm hi) rfl) ?_
    refine TriL.c1 rfl (op_fak (ltb rfl) fo78_0_M2 rfl) ?_
    refine TriL.c1 rfl (op_ldk (ltb rfl) lk9_M2 rfl rfl) ?_
    refine TriL.c1 rfl (op_mv (ltb rfl) rfl) ?_
    refine TriL.c1 rfl (op_bin (ltb rfl) rfl rfl rfl) ?_
    refine TriL.nil ?_
    refine Tri.cond rfl (fun hc2 => ?_) (fun hc2 => ?_)
    · refine Tri.seq ?_
      refine Tri.region ?_
      refine TriL.c1 rfl (op_mv (ltb rfl) rfl) ?_
      refine TriL.c1 rfl (op_as (ltb rfl) rfl) ?_
      refine TriL.nil ?_
      refine Tri.ret ?_
      exact ⟨.inr rfl, (ResOK.r1 rfl (.tmp rfl .nil)).cast (congrArg (AV.int .i64) (by grind [Sch.msgIx])), rfl⟩
    · refine Tri.skip ?_
      refine Tri.region ?_
      refine TriL.c1 rfl (op_mv (ltb rfl) rfl) ?_
      refine TriL.c1 rfl (op_bin (ltb rfl) rfl rfl rfl) ?_
      refine TriL.c1 rfl (op_as (ltb rfl) rfl) ?_
      refine TriL.kept (Kept.seti 5 rfl (inc (by omega)) (Kept.keep [.s 5, .h, .s 1, .s 2, .b 2] rfl (by decide) (Kept.now ?_)))
      exact ⟨i + 1, by omega, by grind, rfl⟩
  · have hi := gem hc1
    have hS := ixFrom_end (p := (fun m : Msg => m.name == name)) hi
    refine Tri.exit ?_
    refine Tri.seq ?_
    refine Tri.region ?_
    refine TriL.c1 rfl (op_as (ltb rfl) rfl) ?_
    refine TriL.nil ?_
    refine Tri.ret ?_
    exact ⟨.inr rfl, (ResOK.r1 rfl (.tmp rfl .nil)).cast (congrArg (AV.int .i64) (by grind [Sch.msgIx])), rfl⟩
theorem r_enumIx (s : Sch) (name : Str) (hl : s.enums.length ≤ 9223372036854775807) : Pure Tryz.prog 76 [s.av, .str name] (.int .i64 (s.enumIx name)) := by
  refine Pure.of_tri Tryz.func76 rfl rfl (ltb rfl) fun H => ?_
  refine Tri.seq ?_
  refine Tri.region ?_
  refine TriL.c2 rfl (op_box (ltb rfl) rfl rfl rfl) ?_
  refine TriL.c1 rfl (op_as (ltb rfl) rfl) ?_
  refine TriL.nil ?_
  refine Tri.seq ?_
  refine Tri.seq ?_
  refine Tri.region ?_
  refine TriL.c1 rfl (op_as (ltb rfl) rfl) ?_
  refine TriL.nil ?_
  refine Tri.blk ?_
  refine Tri.ofKept (Kept.keep [.s 5, .h, .s 1, .s 2, .b 2] rfl (by decide) (Kept.now ?_))
  -- LOOP 1
  refine Tri.loopk (fun (i : Nat) => [(.s 5, .sv (.v (.int .i64 (i : Int))))]) _ (fun (i : Nat) => ixFrom (fun m : Enm => m.name == name) (s.enums.drop i) i = s.enumIx name) (fun (i : Nat) => s.enums.length - i) 0 rfl (by simp [Sch.enumIx]) ?_
  rintro i hI
  refine Tri.seq ?_
  refine Tri.seq ?_
  refine Tri.region ?_
  refine TriL.c1 rfl (op_mv (ltb rfl) rfl) ?_
  refine TriL.c1 rfl (op_fal (ltb rfl) fo25_0_M2 rfl) ?_
  refine TriL.c1 rfl (op_ldl (ltb rfl) lk22_M2 rfl rfl rfl) ?_
  refine TriL.c1 rfl (op_lenl (ltb rfl) un22_M2 rfl) ?_
  refine TriL.c1 rfl (op_bin (ltb rfl) rfl rfl rfl) ?_
  refine TriL.nil ?_
  refine Tri.cond rfl (fun hc1 => ?_) (fun hc1 => ?_)
  · have hi := ltm hc1
    have hS := ixFrom_step (p := (fun m : Enm => m.name == name)) hi
    refine Tri.skip ?_
    refine Tri.seq ?_
    refine Tri.blk ?_
    refine Tri.seq ?_
    refine Tri.region ?_
    refine TriL.c1 rfl (op_fal (ltb rfl) fo25_0_M2 rfl) ?_
    refine TriL.c1 rfl (op_ldl (ltb rfl) lk22_M2 rfl rfl rfl) ?_
    refine TriL.c1 rfl (op_mv (ltb rfl) rfl) ?_
    refine TriL.c1 rfl (op_iak (ltb rfl) ie22_M2 rfl rfl (Int.natCast_nonneg _) (ixm hi) rfl) ?_
    refine TriL.c1 rfl (op_fak (ltb rfl) fo94_0_M2 rfl) ?_
    refine TriL.c1 rfl (op_ldk (ltb rfl) lk9_M2 rfl rfl) ?_
    refine TriL.c1 rfl (op_mv (ltb rfl) rfl) ?_
    refine TriL.c1 rfl (op_bin (ltb rfl) rfl rfl rfl) ?_
    refine TriL.nil ?_
    refine Tri.cond rfl (fun hc2 => ?_) (fun hc2 => ?_)
    · refine Tri.seq ?_
      refine Tri.region ?_
      refine TriL.c1 rfl (op_mv (ltb rfl) rfl) ?_
      refine TriL.c1 rfl (op_as (ltb rfl) rfl) ?_
      refine TriL.nil ?_
      refine Tri.ret ?_
      exact ⟨.inr rfl, (ResOK.r1 rfl (.tmp rfl .nil)).cast (congrArg (AV.int .i64) (by grind [Sch.enumIx])), rfl⟩
    · refine Tri.skip ?_
      refine Tri.region ?_
      refine TriL.c1 rfl (op_mv (ltb rfl) rfl) ?_
      refine TriL.c1 rfl (op_bin (ltb rfl) rfl rfl rfl) ?_
      refine TriL.c1 rfl (op_as (ltb rfl) rfl) ?_
      refine TriL.kept (Kept.seti 5 rfl (inc (by omega)) (Kept.keep [.s 5, .h, .s 1, .s 2, .b 2] rfl (by decide) (Kept.now ?_)))
      exact ⟨i + 1, by omega, by grind, rfl⟩
  · have hi := gem hc1
    have hS := ixFrom_end (p := (fun m : Enm => m.name == name)) hi
    refine Tri.exit ?_
    refine Tri.seq ?_
    refine Tri.region ?_
    refine TriL.c1 rfl (op_as (ltb rfl) rfl) ?_
    refine TriL.nil ?_
    refine Tri.ret ?_
    exact ⟨.inr rfl, (ResOK.r1 rfl (.tmp rfl .nil)).cast (congrArg (AV.int .i64) (by grind [Sch.enumIx])), rfl⟩
theorem r_fchk (f : Fld) : Pure Tryz.prog 70 [f.av] (.int .i64 f.chk) := by
  refine Pure.of_tri Tryz.func70 rfl rfl (ltb rfl) fun H => ?_
  refine Tri.seq ?_
  refine Tri.region ?_
  refine TriL.c2 rfl (op_box (ltb rfl) rfl rfl rfl) ?_
  refine TriL.c1 rfl (op_as (ltb rfl) rfl) ?_
  refine TriL.nil ?_
  refine Tri.joinu [.h, .s 1, .b 1] (fun (_ : Unit) => []) (fun (_ : Unit) => nameOK f.name = true ∧ (f.one = [] ∨ nameOK f.one = true)) rfl ?_ ?_
  · refine Tri.seq ?_
    refine Tri.region ?_
    refine TriL.c1 rfl (op_fal (ltb rfl) fo98_0_M2 rfl) ?_
    refine TriL.c1 rfl (op_ldl (ltb rfl) lk9_M2 rfl rfl rfl) ?_
    refine TriL.c1 rfl (op_call (ltb rfl) fn69_M2 rfl (r_nameOK _)) ?_
    refine TriL.c1 rfl (op_un (ltb rfl) rfl rfl) ?_
    refine TriL.c1 rfl (op_mv (ltb rfl) rfl) ?_
    refine TriL.split (d := 7) rfl (fun hg1 => ?_) (fun hg1 => ?_)
    · refine TriL.skipu rfl rfl (ltb rfl) (ltb rfl) rfl hg1 ?_
      refine TriL.skipu rfl rfl (ltb rfl) (ltb rfl) rfl hg1 ?_
      refine TriL.skipu rfl rfl (ltb rfl) (ltb rfl) rfl hg1 ?_
      refine TriL.skipu rfl rfl (ltb rfl) (ltb rfl) rfl hg1 ?_
      refine TriL.skipg rfl rfl (ltb rfl) (ltb rfl) rfl ?_
      refine TriL.skipg rfl rfl (ltb rfl) (ltb rfl) rfl ?_
      refine TriL.skipg rfl rfl (ltb rfl) (ltb rfl) rfl ?_
      refine TriL.skipg rfl rfl (ltb rfl) (ltb rfl) rfl ?_
      refine TriL.skipu rfl rfl (ltb rfl) (ltb rfl) rfl hg1 ?_
      refine TriL.c1 rfl (op_pickt (ltb rfl) rfl hg1 rfl) ?_
      refine TriL.nil ?_
      refine Tri.condT rfl rfl ?_
      refine Tri.seq ?_
      refine Tri.region ?_
      refine TriL.c1 rfl (op_as (ltb rfl) rfl) ?_
      refine TriL.nil ?_
      refine Tri.ret ?_
      exact ⟨.inr rfl, (ResOK.r1 rfl (.tmp rfl .nil)).cast (congrArg (AV.int .i64) (by grind [Fld.chk])), rfl⟩
    · refine TriL.g1 rfl (ltb rfl) rfl hg1 (op_fal (ltb rfl) fo98_6_M2 rfl) ?_
      refine TriL.g1 rfl (ltb rfl) rfl hg1 (op_ldl (ltb rfl) lk9_M2 rfl rfl rfl) ?_
      refine TriL.g1 rfl (ltb rfl) rfl hg1 (op_bin (ltb rfl) rfl rfl rfl) ?_
      refine TriL.g1 rfl (ltb rfl) rfl hg1 (op_mv (ltb rfl) rfl) ?_
      refine TriL.split (d := 11) rfl (fun hg2 => ?_) (fun hg2 => ?_)
      · refine TriL.g1 rfl (ltb rfl) rfl hg2 (op_fal (ltb rfl) fo98_6_M2 rfl) ?_
        refine TriL.g1 rfl (ltb rfl) rfl hg2 (op_ldl (ltb rfl) lk9_M2 rfl rfl rfl) ?_
        refine TriL.g1 rfl (ltb rfl) rfl hg2 (op_call (ltb rfl) fn69_M2 rfl (r_nameOK _)) ?_
        refine TriL.g1 rfl (ltb rfl) rfl hg2 (op_un (ltb rfl) rfl rfl) ?_
        refine TriL.g1 rfl (ltb rfl) rfl hg1 (op_pickt (ltb rfl) rfl hg2 rfl) ?_
        refine TriL.c1 rfl (op_pickf (ltb rfl) rfl hg1 rfl) ?_
        refine TriL.nil ?_
        refine Tri.cond rfl (fun hc3 => ?_) (fun hc3 => ?_)
        · refine Tri.seq ?_
          refine Tri.region ?_
          refine TriL.c1 rfl (op_as (ltb rfl) rfl) ?_
          refine TriL.nil ?_
          refine Tri.ret ?_
          exact ⟨.inr rfl, (ResOK.r1 rfl (.tmp rfl .nil)).cast (congrArg (AV.int .i64) (by grind [Fld.chk])), rfl⟩
        · refine Tri.ofKept (Kept.keep [.h, .s 1, .b 1] rfl (by decide) (Kept.now ?_))
          refine Tri.skip ?_
          exact ⟨(), by grind, rfl⟩
      · refine TriL.skipu rfl rfl (ltb rfl) (ltb rfl) rfl hg2 ?_
        refine TriL.skipu rfl rfl (ltb rfl) (ltb rfl) rfl hg2 ?_
        refine TriL.skipu rfl rfl (ltb rfl) (ltb rfl) rfl hg2 ?_
        refine TriL.skipu rfl rfl (ltb rfl) (ltb rfl) rfl hg2 ?_
        refine TriL.g1 rfl (ltb rfl) rfl hg1 (op_pickf (ltb rfl) rfl hg2 rfl) ?_
        refine TriL.c1 rfl (op_pickf (ltb rfl) rfl hg1 rfl) ?_
        refine TriL.nil ?_
        refine Tri.condF rfl rfl ?_
        refine Tri.ofKept (Kept.keep [.h, .s 1, .b 1] rfl (by decide) (Kept.now ?_))
        refine Tri.skip ?_
        exact ⟨(), by grind, rfl⟩
  · rintro _ hF3
    refine Tri.joinu [.h, .s 1, .b 1] (fun (_ : Unit) => []) (fun (_ : Unit) => ((f.ty = 14 ∨ f.ty = 15) ∧ nameOK f.ref = true) ∨ (¬ (f.ty = 14 ∨ f.ty = 15) ∧ f.ref = [])) rfl ?_ ?_
    · refine Tri.seq ?_
      refine Tri.region ?_
      refine TriL.c1 rfl (op_fal (ltb rfl) fo98_2_M2 rfl) ?_
      refine TriL.c1 rfl (op_ldl (ltb rfl) lk3_M2 rfl rfl rfl) ?_
      refine TriL.c1 rfl (op_bin (ltb rfl) rfl rfl rfl) ?_
      refine TriL.c1 rfl (op_mv (ltb rfl) rfl) ?_
      refine TriL.split (d := 21) rfl (fun hg4 => ?_) (fun hg4 => ?_)
      · refine TriL.skipu rfl rfl (ltb rfl) (ltb rfl) rfl hg4 ?_
        refine TriL.skipu rfl rfl (ltb rfl) (ltb rfl) rfl hg4 ?_
        refine TriL.skipu rfl rfl (ltb rfl) (ltb rfl) rfl hg4 ?_
        refine TriL.c1 rfl (op_pickt (ltb rfl) rfl hg4 rfl) ?_
        refine TriL.nil ?_
        refine Tri.condT rfl rfl ?_
        refine Tri.seq ?_
        refine Tri.region ?_
        refine TriL.c1 rfl (op_fal (ltb rfl) fo98_3_M2 rfl) ?_
        refine TriL.c1 rfl (op_ldl (ltb rfl) lk9_M2 rfl rfl rfl) ?_
        refine TriL.c1 rfl (op_call (ltb rfl) fn69_M2 rfl (r_nameOK _)) ?_
        refine TriL.c1 rfl (op_un (ltb rfl) rfl rfl) ?_
        refine TriL.nil ?_
        refine Tri.cond rfl (fun hc5 => ?_) (fun hc5 => ?_)
        · refine Tri.seq ?_
          refine Tri.region ?_
          refine TriL.c1 rfl (op_as (ltb rfl) rfl) ?_
          refine TriL.nil ?_
          refine Tri.ret ?_
          exact ⟨.inr rfl, (ResOK.r1 rfl (.tmp rfl .nil)).cast (congrArg (AV.int .i64) (by grind [Fld.chk])), rfl⟩
        · refine Tri.ofKept (Kept.keep [.h, .s 1, .b 1] rfl (by decide) (Kept.now ?_))
          refine Tri.skip ?_
          exact ⟨(), by grind, rfl⟩
      · refine TriL.g1 rfl (ltb rfl) rfl hg4 (op_fal (ltb rfl) fo98_2_M2 rfl) ?_
        refine TriL.g1 rfl (ltb rfl) rfl hg4 (op_ldl (ltb rfl) lk3_M2 rfl rfl rfl) ?_
        refine TriL.g1 rfl (ltb rfl) rfl hg4 (op_bin (ltb rfl) rfl rfl rfl) ?_
        refine TriL.c1 rfl (op_pickf (ltb rfl) rfl hg4 rfl) ?_
        refine TriL.nil ?_
        refine Tri.cond rfl (fun hc6 => ?_) (fun hc6 => ?_)
        · refine Tri.seq ?_
          refine Tri.region ?_
          refine TriL.c1 rfl (op_fal (ltb rfl) fo98_3_M2 rfl) ?_
          refine TriL.c1 rfl (op_ldl (ltb rfl) lk9_M2 rfl rfl rfl) ?_
          refine TriL.c1 rfl (op_call (ltb rfl) fn69_M2 rfl (r_nameOK _)) ?_
          refine TriL.c1 rfl (op_un (ltb rfl) rfl rfl) ?_
          refine TriL.nil ?_
          refine Tri.cond rfl (fun hc7 => ?_) (fun hc7 => ?_)
          · refine Tri.seq ?_
            refine Tri.region ?_
            refine TriL.c1 rfl (op_as (ltb rfl) rfl) ?_
            refine TriL.nil ?_
            refine Tri.ret ?_
            exact ⟨.inr rfl, (ResOK.r1 rfl (.tmp rfl .nil)).cast (congrArg (AV.int .i64) (by grind [Fld.chk])), rfl⟩
          · refine Tri.ofKept (Kept.keep [.h, .s 1, .b 1] rfl (by decide) (Kept.now ?_))
            refine Tri.skip ?_
            exact ⟨(), by grind, rfl⟩
        · refine Tri.seq ?_
          refine Tri.region ?_
          refine TriL.c1 rfl (op_fal (ltb rfl) fo98_3_M2 rfl) ?_
          refine TriL.c1 rfl (op_ldl (ltb rfl) lk9_M2 rfl rfl rfl) ?_
          refine TriL.c1 rfl (op_bin (ltb rfl) rfl rfl rfl) ?_
          refine TriL.nil ?_
          refine Tri.cond rfl (fun hc8 => ?_) (fun hc8 => ?_)
          · refine Tri.seq ?_
            refine Tri.region ?_
            refine TriL.c1 rfl (op_as (ltb rfl) rfl) ?_
            refine TriL.nil ?_
            refine Tri.ret ?_
            exact ⟨.inr rfl, (ResOK.r1 rfl (.tmp rfl .nil)).cast (congrArg (AV.int .i64) (by grind [Fld.chk])), rfl⟩
          · refine Tri.ofKept (Kept.keep [.h, .s 1, .b 1] rfl (by decide) (Kept.now ?_))
            refine Tri.skip ?_
            exact ⟨(), by grind, rfl⟩
    · rintro _ hF8
      refine Tri.joinu [.h, .s 1, .b 1] (fun (_ : Unit) => []) (fun (_ : Unit) => fnum f.num = true ∧ 1 ≤ f.ty ∧ f.ty ≤ 15 ∧ (f.rep = false ∨ f.one = [])) rfl ?_ ?_
      · refine Tri.seq ?_
        refine Tri.region ?_
        refine TriL.c1 rfl (op_fal (ltb rfl) fo98_1_M2 rfl) ?_
        refine TriL.c1 rfl (op_ldl (ltb rfl) lk3_M2 rfl rfl rfl) ?_
        refine TriL.c1 rfl (op_call (ltb rfl) fn123_M2 rfl (r_fnum _)) ?_
        refine TriL.c1 rfl (op_un (ltb rfl) rfl rfl) ?_
        refine TriL.c1 rfl (op_mv (ltb rfl) rfl) ?_
        refine TriL.split (d := 37) rfl (fun hg9 => ?_) (fun hg9 => ?_)
        · refine TriL.skipu rfl rfl (ltb rfl) (ltb rfl) rfl hg9 ?_
          refine TriL.skipu rfl rfl (ltb rfl) (ltb rfl) rfl hg9 ?_
          refine TriL.skipu rfl rfl (ltb rfl) (ltb rfl) rfl hg9 ?_
          refine TriL.c1 rfl (op_pickt (ltb rfl) rfl hg9 rfl) ?_
          refine TriL.c1 rfl (op_mv (ltb rfl) rfl) ?_
          refine TriL.skipu rfl rfl (ltb rfl) (ltb rfl) rfl rfl ?_
          refine TriL.skipu rfl rfl (ltb rfl) (ltb rfl) rfl rfl ?_
          refine TriL.skipu rfl rfl (ltb rfl) (ltb rfl) rfl rfl ?_
          refine TriL.c1 rfl (op_pickt (ltb rfl) rfl rfl rfl) ?_
          refine TriL.c1 rfl (op_mv (ltb rfl) rfl) ?_
          refine TriL.skipu rfl rfl (ltb rfl) (ltb rfl) rfl rfl ?_
          refine TriL.skipu rfl rfl (ltb rfl) (ltb rfl) rfl rfl ?_
          refine TriL.skipu rfl rfl (ltb rfl) (ltb rfl) rfl rfl ?_
          refine TriL.skipg rfl rfl (ltb rfl) (ltb rfl) rfl ?_
          refine TriL.skipg rfl rfl (ltb rfl) (ltb rfl) rfl ?_
          refine TriL.skipg rfl rfl (ltb rfl) (ltb rfl) rfl ?_
          refine TriL.skipu rfl rfl (ltb rfl) (ltb rfl) rfl rfl ?_
          refine TriL.c1 rfl (op_pickt (ltb rfl) rfl rfl rfl) ?_
          refine TriL.nil ?_
          refine Tri.condT rfl rfl ?_
          refine Tri.seq ?_
          refine Tri.region ?_
          refine TriL.c1 rfl (op_as (ltb rfl) rfl) ?_
          refine TriL.nil ?_
          refine Tri.ret ?_
          exact ⟨.inr rfl, (ResOK.r1 rfl (.tmp rfl .nil)).cast (congrArg (AV.int .i64) (by grind [Fld.chk])), rfl⟩
        · refine TriL.g1 rfl (ltb rfl) rfl hg9 (op_fal (ltb rfl) fo98_2_M2 rfl) ?_
          refine TriL.g1 rfl (ltb rfl) rfl hg9 (op_ldl (ltb rfl) lk3_M2 rfl rfl rfl) ?_
          refine TriL.g1 rfl (ltb rfl) rfl hg9 (op_bin (ltb rfl) rfl rfl rfl) ?_
          refine TriL.c1 rfl (op_pickf (ltb rfl) rfl hg9 rfl) ?_
          refine TriL.c1 rfl (op_mv (ltb rfl) rfl) ?_
          refine TriL.split (d := 42) rfl (fun hg10 => ?_) (fun hg10 => ?_)
          · refine TriL.skipu rfl rfl (ltb rfl) (ltb rfl) rfl hg10 ?_
            refine TriL.skipu rfl rfl (ltb rfl) (ltb rfl) rfl hg10 ?_
            refine TriL.skipu rfl rfl (ltb rfl) (ltb rfl) rfl hg10 ?_
            refine TriL.c1 rfl (op_pickt (ltb rfl) rfl hg10 rfl) ?_
            refine TriL.c1 rfl (op_mv (ltb rfl) rfl) ?_
            refine TriL.skipu rfl rfl (ltb rfl) (ltb rfl) rfl rfl ?_
            refine TriL.skipu rfl rfl (ltb rfl) (ltb rfl) rfl rfl ?_
            refine TriL.skipu rfl rfl (ltb rfl) (ltb rfl) rfl rfl ?_
            refine TriL.skipg rfl rfl (ltb rfl) (ltb rfl) rfl ?_
            refine TriL.skipg rfl rfl (ltb rfl) (ltb rfl) rfl ?_
            refine TriL.skipg rfl rfl (ltb rfl) (ltb rfl) rfl ?_
            refine TriL.skipu rfl rfl (ltb rfl) (ltb rfl) rfl rfl ?_
            refine TriL.c1 rfl (op_pickt (ltb rfl) rfl rfl rfl) ?_
            refine TriL.nil ?_
            refine Tri.condT rfl rfl ?_
            refine Tri.seq ?_
            refine Tri.region ?_
            refine TriL.c1 rfl (op_as (ltb rfl) rfl) ?_
            refine TriL.nil ?_
            refine Tri.ret ?_
            exact ⟨.inr rfl, (ResOK.r1 rfl (.tmp rfl .nil)).cast (congrArg (AV.int .i64) (by grind [Fld.chk])), rfl⟩
          · refine TriL.g1 rfl (ltb rfl) rfl hg10 (op_fal (ltb rfl) fo98_2_M2 rfl) ?_
            refine TriL.g1 rfl (ltb rfl) rfl hg10 (op_ldl (ltb rfl) lk3_M2 rfl rfl rfl) ?_
            refine TriL.g1 rfl (ltb rfl) rfl hg10 (op_bin (ltb rfl) rfl rfl rfl) ?_
            refine TriL.c1 rfl (op_pickf (ltb rfl) rfl hg10 rfl) ?_
            refine TriL.c1 rfl (op_mv (ltb rfl) rfl) ?_
            refine TriL.split (d := 47) rfl (fun hg11 => ?_) (fun hg11 => ?_)
            · refine TriL.skipu rfl rfl (ltb rfl) (ltb rfl) rfl hg11 ?_
              refine TriL.skipu rfl rfl (ltb rfl) (ltb rfl) rfl hg11 ?_
              refine TriL.skipu rfl rfl (ltb rfl) (ltb rfl) rfl hg11 ?_
              refine TriL.skipg rfl rfl (ltb rfl) (ltb rfl) rfl ?_
              refine TriL.skipg rfl rfl (ltb rfl) (ltb rfl) rfl ?_
              refine TriL.skipg rfl rfl (ltb rfl) (ltb rfl) rfl ?_
              refine TriL.skipu rfl rfl (ltb rfl) (ltb rfl) rfl hg11 ?_
              refine TriL.c1 rfl (op_pickt (ltb rfl) rfl hg11 rfl) ?_
              refine TriL.nil ?_
              refine Tri.condT rfl rfl ?_
              refine Tri.seq ?_
              refine Tri.region ?_
              refine TriL.c1 rfl (op_as (ltb rfl) rfl) ?_
              refine TriL.nil ?_
              refine Tri.ret ?_
              exact ⟨.inr rfl, (ResOK.r1 rfl (.tmp rfl .nil)).cast (congrArg (AV.int .i64) (by grind [Fld.chk])), rfl⟩
            · refine TriL.g1 rfl (ltb rfl) rfl hg11 (op_fal (ltb rfl) fo98_4_M2 rfl) ?_
              refine TriL.g1 rfl (ltb rfl) rfl hg11 (op_ldl (ltb rfl) lk4_M2 rfl rfl rfl) ?_
              refine TriL.g1 rfl (ltb rfl) rfl hg11 (op_mv (ltb rfl) rfl) ?_
              refine TriL.split (d := 50) rfl (fun hg12 => ?_) (fun hg12 => ?_)
              · refine TriL.g1 rfl (ltb rfl) rfl hg12 (op_fal (ltb rfl) fo98_6_M2 rfl) ?_
                refine TriL.g1 rfl (ltb rfl) rfl hg12 (op_ldl (ltb rfl) lk9_M2 rfl rfl rfl) ?_
                refine TriL.g1 rfl (ltb rfl) rfl hg12 (op_bin (ltb rfl) rfl rfl rfl) ?_
                refine TriL.g1 rfl (ltb rfl) rfl hg11 (op_pickt (ltb rfl) rfl hg12 rfl) ?_
                refine TriL.c1 rfl (op_pickf (ltb rfl) rfl hg11 rfl) ?_
                refine TriL.nil ?_
                refine Tri.cond rfl (fun hc13 => ?_) (fun hc13 => ?_)
                · refine Tri.seq ?_
                  refine Tri.region ?_
                  refine TriL.c1 rfl (op_as (ltb rfl) rfl) ?_
                  refine TriL.nil ?_
                  refine Tri.ret ?_
                  exact ⟨.inr rfl, (ResOK.r1 rfl (.tmp rfl .nil)).cast (congrArg (AV.int .i64) (by grind [Fld.chk])), rfl⟩
                · refine Tri.ofKept (Kept.keep [.h, .s 1, .b 1] rfl (by decide) (Kept.now ?_))
                  refine Tri.skip ?_
                  exact ⟨(), by grind, rfl⟩
              · refine TriL.skipu rfl rfl (ltb rfl) (ltb rfl) rfl hg12 ?_
                refine TriL.skipu rfl rfl (ltb rfl) (ltb rfl) rfl hg12 ?_
                refine TriL.skipu rfl rfl (ltb rfl) (ltb rfl) rfl hg12 ?_
                refine TriL.g1 rfl (ltb rfl) rfl hg11 (op_pickf (ltb rfl) rfl hg12 rfl) ?_
                refine TriL.c1 rfl (op_pickf (ltb rfl) rfl hg11 rfl) ?_
                refine TriL.nil ?_
                refine Tri.condF rfl rfl ?_
                refine Tri.ofKept (Kept.keep [.h, .s 1, .b 1] rfl (by decide) (Kept.now ?_))
                refine Tri.skip ?_
                exact ⟨(), by grind, rfl⟩
      · rintro _ hF10
        refine Tri.seq ?_
        refine Tri.seq ?_
        refine Tri.region ?_
        refine TriL.c1 rfl (op_fal (ltb rfl) fo98_5_M2 rfl) ?_
        refine TriL.c1 rfl (op_ldl (ltb rfl) lk4_M2 rfl rfl rfl) ?_
        refine TriL.c1 rfl (op_mv (ltb rfl) rfl) ?_
        refine TriL.split (d := 58) rfl (fun hg14 => ?_) (fun hg14 => ?_)
        · refine TriL.g1 rfl (ltb rfl) rfl hg14 (op_fal (ltb rfl) fo98_4_M2 rfl) ?_
          refine TriL.g1 rfl (ltb rfl) rfl hg14 (op_ldl (ltb rfl) lk4_M2 rfl rfl rfl) ?_
          refine TriL.g1 rfl (ltb rfl) rfl hg14 (op_un (ltb rfl) rfl rfl) ?_
          refine TriL.g1 rfl (ltb rfl) rfl hg14 (op_mv (ltb rfl) rfl) ?_
          refine TriL.split (d := 62) rfl (fun hg15 => ?_) (fun hg15 => ?_)
          · refine TriL.skipu rfl rfl (ltb rfl) (ltb rfl) rfl hg15 ?_
            refine TriL.skipu rfl rfl (ltb rfl) (ltb rfl) rfl hg15 ?_
            refine TriL.skipu rfl rfl (ltb rfl) (ltb rfl) rfl hg15 ?_
            refine TriL.skipu rfl rfl (ltb rfl) (ltb rfl) rfl hg15 ?_
            refine TriL.g1 rfl (ltb rfl) rfl hg14 (op_pickt (ltb rfl) rfl hg15 rfl) ?_
            refine TriL.c1 rfl (op_pickt (ltb rfl) rfl hg14 rfl) ?_
            refine TriL.nil ?_
            refine Tri.condT rfl rfl ?_
            refine Tri.seq ?_
            refine Tri.region ?_
            refine TriL.c1 rfl (op_as (ltb rfl) rfl) ?_
            refine TriL.nil ?_
            refine Tri.ret ?_
            exact ⟨.inr rfl, (ResOK.r1 rfl (.tmp rfl .nil)).cast (congrArg (AV.int .i64) (by grind [Fld.chk])), rfl⟩
          · refine TriL.g1 rfl (ltb rfl) rfl hg15 (op_fal (ltb rfl) fo98_2_M2 rfl) ?_
            refine TriL.g1 rfl (ltb rfl) rfl hg15 (op_ldl (ltb rfl) lk3_M2 rfl rfl rfl) ?_
            refine TriL.g1 rfl (ltb rfl) rfl hg15 (op_call (ltb rfl) fn124_M2 rfl (r_numT _)) ?_
            refine TriL.g1 rfl (ltb rfl) rfl hg15 (op_un (ltb rfl) rfl rfl) ?_
            refine TriL.g1 rfl (ltb rfl) rfl hg14 (op_pickf (ltb rfl) rfl hg15 rfl) ?_
            refine TriL.c1 rfl (op_pickt (ltb rfl) rfl hg14 rfl) ?_
            refine TriL.nil ?_
            refine Tri.cond rfl (fun hc16 => ?_) (fun hc16 => ?_)
            · refine Tri.seq ?_
              refine Tri.region ?_
              refine TriL.c1 rfl (op_as (ltb rfl) rfl) ?_
              refine TriL.nil ?_
              refine Tri.ret ?_
              exact ⟨.inr rfl, (ResOK.r1 rfl (.tmp rfl .nil)).cast (congrArg (AV.int .i64) (by grind [Fld.chk])), rfl⟩
            · refine Tri.skip ?_
              refine Tri.seq ?_
              refine Tri.region ?_
              refine TriL.c1 rfl (op_as (ltb rfl) rfl) ?_
              refine TriL.nil ?_
              refine Tri.ret ?_
              exact ⟨.inr rfl, (ResOK.r1 rfl (.tmp rfl .nil)).cast (congrArg (AV.int .i64) (by grind [Fld.chk])), rfl⟩
        · refine TriL.skipu rfl rfl (ltb rfl) (ltb rfl) rfl hg14 ?_
          refine TriL.skipu rfl rfl (ltb rfl) (ltb rfl) rfl hg14 ?_
          refine TriL.skipu rfl rfl (ltb rfl) (ltb rfl) rfl hg14 ?_
          refine TriL.skipu rfl rfl (ltb rfl) (ltb rfl) rfl hg14 ?_
          refine TriL.skipg rfl rfl (ltb rfl) (ltb rfl) rfl ?_
          refine TriL.skipg rfl rfl (ltb rfl) (ltb rfl) rfl ?_
          refine TriL.skipg rfl rfl (ltb rfl) (ltb rfl) rfl ?_
          refine TriL.skipg rfl rfl (ltb rfl) (ltb rfl) rfl ?_
          refine TriL.skipu rfl rfl (ltb rfl) (ltb rfl) rfl hg14 ?_
          refine TriL.c1 rfl (op_pickf (ltb rfl) rfl hg14 rfl) ?_
          refine TriL.nil ?_
          refine Tri.condF rfl rfl ?_
          refine Tri.skip ?_
          refine Tri.seq ?_
          refine Tri.region ?_
          refine TriL.c1 rfl (op_as (ltb rfl) rfl) ?_
          refine TriL.nil ?_
          refine Tri.ret ?_
          exact ⟨.inr rfl, (ResOK.r1 rfl (.tmp rfl .nil)).cast (congrArg (AV.int .i64) (by grind [Fld.chk])), rfl⟩
end Go.Proofs.YtnpgcmeclkncnaaGreatDoor.X
/- the document: what is asked of a schema. -/
set_option linter.unusedVariables false
set_option linter.unusedSimpArgs false
set_option linter.unusedSectionVars false
set_option maxRecDepth 100000
namespace Go.Proofs.YtnpgcmeclkncnaaGreatDoor.X
open Go Go.RowKit Go.Proofs
theorem fn52_M3 : isFn Tryz.prog 52 = true := by kernel_rfl
theorem fn69_M3 : isFn Tryz.prog 69 = true := by kernel_rfl
theorem fn70_M3 : isFn Tryz.prog 70 = true := by kernel_rfl
theorem fn75_M3 : isFn Tryz.prog 75 = true := by kernel_rfl
theorem fn76_M3 : isFn Tryz.prog 76 = true := by kernel_rfl
theorem fo25_0_M3 : fo Tryz.prog 25 0 = some 0 := by kernel_rfl
theorem fo25_1_M3 : fo Tryz.prog 25 1 = some 1 := by kernel_rfl
theorem fo78_0_M3 : fo Tryz.prog 78 0 = some 0 := by kernel_rfl
theorem fo78_1_M3 : fo Tryz.prog 78 1 = some 1 := by kernel_rfl
theorem fo78_2_M3 : fo Tryz.prog 78 2 = some 2 := by kernel_rfl
theorem fo94_0_M3 : fo Tryz.prog 94 0 = some 0 := by kernel_rfl
theorem fo94_1_M3 : fo Tryz.prog 94 1 = some 1 := by kernel_rfl
theorem fo96_0_M3 : fo Tryz.prog 96 0 = some 0 := by kernel_rfl
theorem fo98_1_M3 : fo Tryz.prog 98 1 = some 1 := by kernel_rfl
theorem fo98_2_M3 : fo Tryz.prog 98 2 = some 2 := by kernel_rfl
theorem fo98_3_M3 : fo Tryz.prog 98 3 = some 3 := by kernel_rfl
theorem ie22_M3 : ie Tryz.prog 22 = some 2 := by kernel_rfl
theorem ie23_M3 : ie Tryz.prog 23 = some 3 := by kernel_rfl
theorem ie76_M3 : ie Tryz.prog 76 = some 7 := by kernel_rfl
theorem ie92_M3 : ie Tryz.prog 92 = some 2 := by kernel_rfl
theorem lk22_M3 : lk Tryz.prog 22 = some (false, 1) := by kernel_rfl
theorem lk23_M3 : lk Tryz.prog 23 = some (false, 1) := by kernel_rfl
theorem lk25_M3 : lk Tryz.prog 25 = some (true, 2) := by kernel_rfl
theorem lk3_M3 : lk Tryz.prog 3 = some (false, 1) := by kernel_rfl
theorem lk67_M3 : lk Tryz.prog 67 = some (false, 1) := by kernel_rfl
theorem lk76_M3 : lk Tryz.prog 76 = some (false, 1) := by kernel_rfl
theorem lk9_M3 : lk Tryz.prog 9 = some (false, 1) := by kernel_rfl
theorem lk92_M3 : lk Tryz.prog 92 = some (false, 1) := by kernel_rfl
theorem lk98_M3 : lk Tryz.prog 98 = some (true, 7) := by kernel_rfl
theorem un22_M3 : Tryz.prog.underlying 22 = some (TypeDesc.slice 94) := Tryz.underlying22
theorem un23_M3 : Tryz.prog.underlying 23 = some (TypeDesc.slice 78) := Tryz.underlying23
theorem un67_M3 : Tryz.prog.underlying 67 = some (TypeDesc.slice 3) := Tryz.underlying67
theorem un76_M3 : Tryz.prog.underlying 76 = some (TypeDesc.slice 98) := Tryz.underlying76
theorem un92_M3 : Tryz.prog.underlying 92 = some (TypeDesc.slice 96) := Tryz.underlying92
theorem zA98_M3 : zeroA Tryz.prog 98 = some [AV.str [], AV.int IntKind.i64 (0), AV.int IntKind.i64 (0), AV.str [], AV.bool false, AV.bool false, AV.str []] := by kernel_rfl
theorem r_many (s : Sch) (hs : s.big) : Pure Tryz.prog 36 [s.av] (.bool s.many) := by
  have := hs.e
  have := hs.m
  refine Pure.of_tri Tryz.func36 rfl rfl (ltb rfl) fun H => ?_
  refine Tri.seq ?_
  refine Tri.region ?_
  refine TriL.c2 rfl (op_box (ltb rfl) rfl rfl rfl) ?_
  refine TriL.c1 rfl (op_as (ltb rfl) rfl) ?_
  refine TriL.nil ?_
  refine Tri.joinu [.h, .s 1, .b 1] (fun (b : Bool) => [(.s 3, .sv (.v (.bool b)))]) (fun (b : Bool) => b = (decide (3 < s.enums.length) || decide (6 < s.msgs.length))) rfl ?_ ?_
  · -- region 1 ref.go:23
    refine Tri.region ?_
    refine TriL.c1 rfl (op_fal (ltb rfl) fo25_0_M3 rfl) ?_
    refine TriL.c1 rfl (op_ldl (ltb rfl) lk22_M3 rfl rfl rfl) ?_
    refine TriL.c1 rfl (op_lenl (ltb rfl) un22_M3 rfl) ?_
    refine TriL.c1 rfl (op_bin (ltb rfl) rfl rfl rfl) ?_
    refine TriL.c1 rfl (op_mv (ltb rfl) rfl) ?_
    refine TriL.split (d := 10) rfl (fun hg1 => ?_) (fun hg1 => ?_)
    · refine TriL.skipu rfl rfl (ltb rfl) (ltb rfl) rfl hg1 ?_
      refine TriL.skipu rfl rfl (ltb rfl) (ltb rfl) rfl hg1 ?_
      refine TriL.skipu rfl rfl (ltb rfl) (ltb rfl) rfl hg1 ?_
      refine TriL.skipu rfl rfl (ltb rfl) (ltb rfl) rfl hg1 ?_
      refine TriL.c1 rfl (op_pickt (ltb rfl) rfl hg1 rfl) ?_
      refine TriL.c1 rfl (op_as (ltb rfl) rfl) ?_
      refine TriL.kept (Kept.keep [.s 3, .h, .s 1, .b 1] rfl (by decide) (Kept.now ?_))
      exact ⟨_, by grind, rfl⟩
    · refine TriL.g1 rfl (ltb rfl) rfl hg1 (op_fal (ltb rfl) fo25_1_M3 rfl) ?_
      refine TriL.g1 rfl (ltb rfl) rfl hg1 (op_ldl (ltb rfl) lk23_M3 rfl rfl rfl) ?_
      refine TriL.g1 rfl (ltb rfl) rfl hg1 (op_lenl (ltb rfl) un23_M3 rfl) ?_
      refine TriL.g1 rfl (ltb rfl) rfl hg1 (op_bin (ltb rfl) rfl rfl rfl) ?_
      refine TriL.c1 rfl (op_pickf (ltb rfl) rfl hg1 rfl) ?_
      refine TriL.c1 rfl (op_as (ltb rfl) rfl) ?_
      refine TriL.kept (Kept.keep [.s 3, .h, .s 1, .b 1] rfl (by decide) (Kept.now ?_))
      exact ⟨_, by grind, rfl⟩
  · rintro b hF2
    refine Tri.seq ?_
    refine Tri.seq ?_
    refine Tri.region ?_
    refine TriL.c1 rfl (op_as (ltb rfl) rfl) ?_
    refine TriL.nil ?_
    refine Tri.blk ?_
    refine Tri.ofKept (Kept.keep [.s 4, .s 3, .h, .s 1, .b 1] rfl (by decide) (Kept.now ?_))
    -- LOOP 1
    refine Tri.loopk (fun ((i, b) : Nat × Bool) => [(.s 4, .sv (.v (.int .i64 (i : Int)))), (.s 3, .sv (.v (.bool b)))]) _ (fun ((i, b) : Nat × Bool) => (b || (s.enums.drop i).any (fun e : Enm => decide (8 < e.values.length))) = (decide (3 < s.enums.length) || decide (6 < s.msgs.length) || s.enums.any (fun e : Enm => decide (8 < e.values.length)))) (fun ((i, b) : Nat × Bool) => s.enums.length - i) (0, _) rfl (by grind) ?_
    rintro ⟨i, b⟩ hI
    refine Tri.seq ?_
    refine Tri.seq ?_
    refine Tri.region ?_
    refine TriL.c1 rfl (op_mv (ltb rfl) rfl) ?_
    refine TriL.c1 rfl (op_fal (ltb rfl) fo25_0_M3 rfl) ?_
    refine TriL.c1 rfl (op_ldl (ltb rfl) lk22_M3 rfl rfl rfl) ?_
    refine TriL.c1 rfl (op_lenl (ltb rfl) un22_M3 rfl) ?_
    refine TriL.c1 rfl (op_bin (ltb rfl) rfl rfl rfl) ?_
    refine TriL.nil ?_
    refine Tri.cond rfl (fun hc2 => ?_) (fun hc2 => ?_)
    · have hi := ltm hc2
      have hS := any_step (p := (fun e : Enm => decide (8 < e.values.length))) hi
      refine Tri.skip ?_
      refine Tri.seq ?_
      refine Tri.blk ?_
      refine Tri.region ?_
      refine TriL.c1 rfl (op_mv (ltb rfl) rfl) ?_
      refine TriL.c1 rfl (op_mv (ltb rfl) rfl) ?_
      refine TriL.split (d := 24) rfl (fun hg3 => ?_) (fun hg3 => ?_)
      · refine TriL.skipu rfl rfl (ltb rfl) (ltb rfl) rfl hg3 ?_
        refine TriL.skipu rfl rfl (ltb rfl) (ltb rfl) rfl hg3 ?_
        refine TriL.skipu rfl rfl (ltb rfl) (ltb rfl) rfl hg3 ?_
        refine TriL.skipu rfl rfl (ltb rfl) (ltb rfl) rfl hg3 ?_
        refine TriL.skipu rfl rfl (ltb rfl) (ltb rfl) rfl hg3 ?_
        refine TriL.skipu rfl rfl (ltb rfl) (ltb rfl) rfl hg3 ?_
        refine TriL.skipu rfl rfl (ltb rfl) (ltb rfl) rfl hg3 ?_
        refine TriL.skipu rfl rfl (ltb rfl) (ltb rfl) rfl hg3 ?_
        refine TriL.c1 rfl (op_pickt (ltb rfl) rfl hg3 rfl) ?_
        refine TriL.c1 rfl (op_as (ltb rfl) rfl) ?_
        refine TriL.nil ?_
        refine Tri.region ?_
        refine TriL.c1 rfl (op_mv (ltb rfl) rfl) ?_
        refine TriL.c1 rfl (op_bin (ltb rfl) rfl rfl rfl) ?_
        refine TriL.c1 rfl (op_as (ltb rfl) rfl) ?_
        refine TriL.kept (Kept.seti 4 rfl (inc (by omega)) (Kept.keep [.s 4, .s 3, .h, .s 1, .b 1] rfl (by decide) (Kept.now ?_)))
        exact ⟨(i + 1, _), (by dsimp only; omega), by grind, rfl⟩
      · refine TriL.g1 rfl (ltb rfl) rfl hg3 (op_fal (ltb rfl) fo25_0_M3 rfl) ?_
        refine TriL.g1 rfl (ltb rfl) rfl hg3 (op_ldl (ltb rfl) lk22_M3 rfl rfl rfl) ?_
        refine TriL.g1 rfl (ltb rfl) rfl hg3 (op_mv (ltb rfl) rfl) ?_
        refine TriL.g1 rfl (ltb rfl) rfl hg3 (op_iak (ltb rfl) ie22_M3 rfl rfl (Int.natCast_nonneg _) (ixm hi) rfl) ?_
        refine TriL.g1 rfl (ltb rfl) rfl hg3 (op_fak (ltb rfl) fo94_1_M3 rfl) ?_
        refine TriL.g1 rfl (ltb rfl) rfl hg3 (op_ldk (ltb rfl) lk92_M3 rfl rfl) ?_
        refine TriL.g1 rfl (ltb rfl) rfl hg3 (op_lenl (ltb rfl) un92_M3 rfl) ?_
        refine TriL.g1 rfl (ltb rfl) rfl hg3 (op_bin (ltb rfl) rfl rfl rfl) ?_
        refine TriL.c1 rfl (op_pickf (ltb rfl) rfl hg3 rfl) ?_
        refine TriL.c1 rfl (op_as (ltb rfl) rfl) ?_
        refine TriL.nil ?_
        refine Tri.region ?_
        refine TriL.c1 rfl (op_mv (ltb rfl) rfl) ?_
        refine TriL.c1 rfl (op_bin (ltb rfl) rfl rfl rfl) ?_
        refine TriL.c1 rfl (op_as (ltb rfl) rfl) ?_
        refine TriL.kept (Kept.seti 4 rfl (inc (by omega)) (Kept.keep [.s 4, .s 3, .h, .s 1, .b 1] rfl (by decide) (Kept.now ?_)))
        exact ⟨(i + 1, _), (by dsimp only; omega), by grind, rfl⟩
    · have hi := gem hc2
      have hS := any_end (p := (fun e : Enm => decide (8 < e.values.length))) hi
      refine Tri.exit ?_
      refine Tri.seq ?_
      refine Tri.seq ?_
      refine Tri.region ?_
      refine TriL.c1 rfl (op_as (ltb rfl) rfl) ?_
      refine TriL.nil ?_
      refine Tri.blk ?_
      refine Tri.ofKept (Kept.keep [.s 5, .s 3, .h, .s 1, .b 1] rfl (by decide) (Kept.now ?_))
      -- LOOP 2
      refine Tri.loopk (fun ((k, b) : Nat × Bool) => [(.s 5, .sv (.v (.int .i64 (k : Int)))), (.s 3, .sv (.v (.bool b)))]) _ (fun ((k, b) : Nat × Bool) => (b || (s.msgs.drop k).any (fun m : Msg => decide (10 < m.fields.length) || decide (8 < m.barred.length))) = s.many) (fun ((k, b) : Nat × Bool) => s.msgs.length - k) (0, _) rfl (by grind [Sch.many]) ?_
      rintro ⟨k, b⟩ hI
      refine Tri.seq ?_
      refine Tri.seq ?_
      refine Tri.region ?_
      refine TriL.c1 rfl (op_mv (ltb rfl) rfl) ?_
      refine TriL.c1 rfl (op_fal (ltb rfl) fo25_1_M3 rfl) ?_
      refine TriL.c1 rfl (op_ldl (ltb rfl) lk23_M3 rfl rfl rfl) ?_
      refine TriL.c1 rfl (op_lenl (ltb rfl) un23_M3 rfl) ?_
      refine TriL.c1 rfl (op_bin (ltb rfl) rfl rfl rfl) ?_
      refine TriL.nil ?_
      refine Tri.cond rfl (fun hc4 => ?_) (fun hc4 => ?_)
      · have hk := ltm hc4
        have hS := any_step (p := (fun m : Msg => decide (10 < m.fields.length) || decide (8 < m.barred.length))) hk
        refine Tri.skip ?_
        refine Tri.seq ?_
        refine Tri.blk ?_
        refine Tri.region ?_
        refine TriL.c1 rfl (op_mv (ltb rfl) rfl) ?_
        refine TriL.c1 rfl (op_mv (ltb rfl) rfl) ?_
        refine TriL.split (d := 42) rfl (fun hg5 => ?_) (fun hg5 => ?_)
        · refine TriL.skipu rfl rfl (ltb rfl) (ltb rfl) rfl hg5 ?_
          refine TriL.skipu rfl rfl (ltb rfl) (ltb rfl) rfl hg5 ?_
          refine TriL.skipu rfl rfl (ltb rfl) (ltb rfl) rfl hg5 ?_
          refine TriL.skipu rfl rfl (ltb rfl) (ltb rfl) rfl hg5 ?_
          refine TriL.skipu rfl rfl (ltb rfl) (ltb rfl) rfl hg5 ?_
          refine TriL.skipu rfl rfl (ltb rfl) (ltb rfl) rfl hg5 ?_
          refine TriL.skipu rfl rfl (ltb rfl) (ltb rfl) rfl hg5 ?_
          refine TriL.skipu rfl rfl (ltb rfl) (ltb rfl) rfl hg5 ?_
          refine TriL.c1 rfl (op_pickt (ltb rfl) rfl hg5 rfl) ?_
          refine TriL.c1 rfl (op_mv (ltb rfl) rfl) ?_
          refine TriL.skipu rfl rfl (ltb rfl) (ltb rfl) rfl rfl ?_
          refine TriL.skipu rfl rfl (ltb rfl) (ltb rfl) rfl rfl ?_
          refine TriL.skipu rfl rfl (ltb rfl) (ltb rfl) rfl rfl ?_
          refine TriL.skipu rfl rfl (ltb rfl) (ltb rfl) rfl rfl ?_
          refine TriL.skipu rfl rfl (ltb rfl) (ltb rfl) rfl rfl ?_
          refine TriL.skipu rfl rfl (ltb rfl) (ltb rfl) rfl rfl ?_
          refine TriL.skipu rfl rfl (ltb rfl) (ltb rfl) rfl rfl ?_
          refine TriL.skipu rfl rfl (ltb rfl) (ltb rfl) rfl rfl ?_
          refine TriL.c1 rfl (op_pickt (ltb rfl) rfl rfl rfl) ?_
          refine TriL.c1 rfl (op_as (ltb rfl) rfl) ?_
          refine TriL.nil ?_
          refine Tri.region ?_
          refine TriL.c1 rfl (op_mv (ltb rfl) rfl) ?_
          refine TriL.c1 rfl (op_bin (ltb rfl) rfl rfl rfl) ?_
          refine TriL.c1 rfl (op_as (ltb rfl) rfl) ?_
          refine TriL.kept (Kept.seti 5 rfl (inc (by omega)) (Kept.keep [.s 5, .s 3, .h, .s 1, .b 1] rfl (by decide) (Kept.now ?_)))
          exact ⟨(k + 1, _), (by dsimp only; omega), by grind, rfl⟩
        · refine TriL.g1 rfl (ltb rfl) rfl hg5 (op_fal (ltb rfl) fo25_1_M3 rfl) ?_
          refine TriL.g1 rfl (ltb rfl) rfl hg5 (op_ldl (ltb rfl) lk23_M3 rfl rfl rfl) ?_
          refine TriL.g1 rfl (ltb rfl) rfl hg5 (op_mv (ltb rfl) rfl) ?_
          refine TriL.g1 rfl (ltb rfl) rfl hg5 (op_iak (ltb rfl) ie23_M3 rfl rfl (Int.natCast_nonneg _) (ixm hk) rfl) ?_
          refine TriL.g1 rfl (ltb rfl) rfl hg5 (op_fak (ltb rfl) fo78_1_M3 rfl) ?_
          refine TriL.g1 rfl (ltb rfl) rfl hg5 (op_ldk (ltb rfl) lk76_M3 rfl rfl) ?_
          refine TriL.g1 rfl (ltb rfl) rfl hg5 (op_lenl (ltb rfl) un76_M3 rfl) ?_
          refine TriL.g1 rfl (ltb rfl) rfl hg5 (op_bin (ltb rfl) rfl rfl rfl) ?_
          refine TriL.c1 rfl (op_pickf (ltb rfl) rfl hg5 rfl) ?_
          refine TriL.c1 rfl (op_mv (ltb rfl) rfl) ?_
          refine TriL.split (d := 52) rfl (fun hg6 => ?_) (fun hg6 => ?_)
          · refine TriL.skipu rfl rfl (ltb rfl) (ltb rfl) rfl hg6 ?_
            refine TriL.skipu rfl rfl (ltb rfl) (ltb rfl) rfl hg6 ?_
            refine TriL.skipu rfl rfl (ltb rfl) (ltb rfl) rfl hg6 ?_
            refine TriL.skipu rfl rfl (ltb rfl) (ltb rfl) rfl hg6 ?_
            refine TriL.skipu rfl rfl (ltb rfl) (ltb rfl) rfl hg6 ?_
            refine TriL.skipu rfl rfl (ltb rfl) (ltb rfl) rfl hg6 ?_
            refine TriL.skipu rfl rfl (ltb rfl) (ltb rfl) rfl hg6 ?_
            refine TriL.skipu rfl rfl (ltb rfl) (ltb rfl) rfl hg6 ?_
            refine TriL.c1 rfl (op_pickt (ltb rfl) rfl hg6 rfl) ?_
            refine TriL.c1 rfl (op_as (ltb rfl) rfl) ?_
            refine TriL.nil ?_
            refine Tri.region ?_
            refine TriL.c1 rfl (op_mv (ltb rfl) rfl) ?_
            refine TriL.c1 rfl (op_bin (ltb rfl) rfl rfl rfl) ?_
            refine TriL.c1 rfl (op_as (ltb rfl) rfl) ?_
            refine TriL.kept (Kept.seti 5 rfl (inc (by omega)) (Kept.keep [.s 5, .s 3, .h, .s 1, .b 1] rfl (by decide) (Kept.now ?_)))
            exact ⟨(k + 1, _), (by dsimp only; omega), by grind, rfl⟩
          · refine TriL.g1 rfl (ltb rfl) rfl hg6 (op_fal (ltb rfl) fo25_1_M3 rfl) ?_
            refine TriL.g1 rfl (ltb rfl) rfl hg6 (op_ldl (ltb rfl) lk23_M3 rfl rfl rfl) ?_
            refine TriL.g1 rfl (ltb rfl) rfl hg6 (op_mv (ltb rfl) rfl) ?_
            refine TriL.g1 rfl (ltb rfl) rfl hg6 (op_iak (ltb rfl) ie23_M3 rfl rfl (Int.natCast_nonneg _) (ixm hk) rfl) ?_
            refine TriL.g1 rfl (ltb rfl) rfl hg6 (op_fak (ltb rfl) fo78_2_M3 rfl) ?_
            refine TriL.g1 rfl (ltb rfl) rfl hg6 (op_ldk (ltb rfl) lk67_M3 rfl rfl) ?_
            refine TriL.g1 rfl (ltb rfl) rfl hg6 (op_lenl (ltb rfl) un67_M3 rfl) ?_
            refine TriL.g1 rfl (ltb rfl) rfl hg6 (op_bin (ltb rfl) rfl rfl rfl) ?_
            refine TriL.c1 rfl (op_pickf (ltb rfl) rfl hg6 rfl) ?_
            refine TriL.c1 rfl (op_as (ltb rfl) rfl) ?_
            refine TriL.nil ?_
            refine Tri.region ?_
            refine TriL.c1 rfl (op_mv (ltb rfl) rfl) ?_
            refine TriL.c1 rfl (op_bin (ltb rfl) rfl rfl rfl) ?_
            refine TriL.c1 rfl (op_as (ltb rfl) rfl) ?_
            refine TriL.kept (Kept.seti 5 rfl (inc (by omega)) (Kept.keep [.s 5, .s 3, .h, .s 1, .b 1] rfl (by decide) (Kept.now ?_)))
            exact ⟨(k + 1, _), (by dsimp only; omega), by grind, rfl⟩
      · have hk := gem hc4
        have hS := any_end (p := (fun m : Msg => decide (10 < m.fields.length) || decide (8 < m.barred.length))) hk
        refine Tri.exit ?_
        refine Tri.seq ?_
        refine Tri.region ?_
        refine TriL.c1 rfl (op_mv (ltb rfl) rfl) ?_
        refine TriL.c1 rfl (op_as (ltb rfl) rfl) ?_
        refine TriL.nil ?_
        refine Tri.ret ?_
        exact ⟨.inr rfl, (ResOK.r1 rfl (.tmp rfl .nil)).cast (congrArg AV.bool (by grind [Sch.many])), rfl⟩
theorem r_none (s : Sch) (hs : s.sm) : Pure Tryz.prog 37 [s.av] (.bool s.none) := by
  have := hs.e
  have := hs.m
  refine Pure.of_tri Tryz.func37 rfl rfl (ltb rfl) fun H => ?_
  refine Tri.seq ?_
  refine Tri.region ?_
  refine TriL.c2 rfl (op_box (ltb rfl) rfl rfl rfl) ?_
  refine TriL.c1 rfl (op_as (ltb rfl) rfl) ?_
  refine TriL.nil ?_
  refine Tri.seq ?_
  refine Tri.region ?_
  refine TriL.c1 rfl (op_fal (ltb rfl) fo25_1_M3 rfl) ?_
  refine TriL.c1 rfl (op_ldl (ltb rfl) lk23_M3 rfl rfl rfl) ?_
  refine TriL.c1 rfl (op_lenl (ltb rfl) un23_M3 rfl) ?_
  refine TriL.c1 rfl (op_bin (ltb rfl) rfl rfl rfl) ?_
  refine TriL.c1 rfl (op_as (ltb rfl) rfl) ?_
  refine TriL.nil ?_
  refine Tri.seq ?_
  refine Tri.seq ?_
  refine Tri.region ?_
  refine TriL.c1 rfl (op_as (ltb rfl) rfl) ?_
  refine TriL.nil ?_
  refine Tri.blk ?_
  refine Tri.ofKept (Kept.keep [.s 4, .s 3, .h, .s 1, .b 1] rfl (by decide) (Kept.now ?_))
  -- LOOP 1
  refine Tri.loopk (fun ((i, b) : Nat × Bool) => [(.s 4, .sv (.v (.int .i64 (i : Int)))), (.s 3, .sv (.v (.bool b)))]) _ (fun ((i, b) : Nat × Bool) => (b || (s.enums.drop i).any (fun e : Enm => decide (e.values.length = 0))) = s.none) (fun ((i, b) : Nat × Bool) => s.enums.length - i) (0, _) rfl (by grind [Sch.none]) ?_
  rintro ⟨i, b⟩ hI
  refine Tri.seq ?_
  refine Tri.seq ?_
  refine Tri.region ?_
  refine TriL.c1 rfl (op_mv (ltb rfl) rfl) ?_
  refine TriL.c1 rfl (op_fal (ltb rfl) fo25_0_M3 rfl) ?_
  refine TriL.c1 rfl (op_ldl (ltb rfl) lk22_M3 rfl rfl rfl) ?_
  refine TriL.c1 rfl (op_lenl (ltb rfl) un22_M3 rfl) ?_
  refine TriL.c1 rfl (op_bin (ltb rfl) rfl rfl rfl) ?_
  refine TriL.nil ?_
  refine Tri.cond rfl (fun hc1 => ?_) (fun hc1 => ?_)
  · have hi := ltm hc1
    have hS := any_step (p := (fun e : Enm => decide (e.values.length = 0))) hi
    refine Tri.skip ?_
    refine Tri.seq ?_
    refine Tri.blk ?_
    refine Tri.region ?_
    refine TriL.c1 rfl (op_mv (ltb rfl) rfl) ?_
    refine TriL.c1 rfl (op_mv (ltb rfl) rfl) ?_
    refine TriL.split (d := 17) rfl (fun hg2 => ?_) (fun hg2 => ?_)
    · refine TriL.skipu rfl rfl (ltb rfl) (ltb rfl) rfl hg2 ?_
      refine TriL.skipu rfl rfl (ltb rfl) (ltb rfl) rfl hg2 ?_
      refine TriL.skipu rfl rfl (ltb rfl) (ltb rfl) rfl hg2 ?_
      refine TriL.skipu rfl rfl (ltb rfl) (ltb rfl) rfl hg2 ?_
      refine TriL.skipu rfl rfl (ltb rfl) (ltb rfl) rfl hg2 ?_
      refine TriL.skipu rfl rfl (ltb rfl) (ltb rfl) rfl hg2 ?_
      refine TriL.skipu rfl rfl (ltb rfl) (ltb rfl) rfl hg2 ?_
      refine TriL.skipu rfl rfl (ltb rfl) (ltb rfl) rfl hg2 ?_
      refine TriL.c1 rfl (op_pickt (ltb rfl) rfl hg2 rfl) ?_
      refine TriL.c1 rfl (op_as (ltb rfl) rfl) ?_
      refine TriL.nil ?_
      refine Tri.region ?_
      refine TriL.c1 rfl (op_mv (ltb rfl) rfl) ?_
      refine TriL.c1 rfl (op_bin (ltb rfl) rfl rfl rfl) ?_
      refine TriL.c1 rfl (op_as (ltb rfl) rfl) ?_
      refine TriL.kept (Kept.seti 4 rfl (inc (by omega)) (Kept.keep [.s 4, .s 3, .h, .s 1, .b 1] rfl (by decide) (Kept.now ?_)))
      exact ⟨(i + 1, _), (by dsimp only; omega), by grind, rfl⟩
    · refine TriL.g1 rfl (ltb rfl) rfl hg2 (op_fal (ltb rfl) fo25_0_M3 rfl) ?_
      refine TriL.g1 rfl (ltb rfl) rfl hg2 (op_ldl (ltb rfl) lk22_M3 rfl rfl rfl) ?_
      refine TriL.g1 rfl (ltb rfl) rfl hg2 (op_mv (ltb rfl) rfl) ?_
      refine TriL.g1 rfl (ltb rfl) rfl hg2 (op_iak (ltb rfl) ie22_M3 rfl rfl (Int.natCast_nonneg _) (ixm hi) rfl) ?_
      refine TriL.g1 rfl (ltb rfl) rfl hg2 (op_fak (ltb rfl) fo94_1_M3 rfl) ?_
      refine TriL.g1 rfl (ltb rfl) rfl hg2 (op_ldk (ltb rfl) lk92_M3 rfl rfl) ?_
      refine TriL.g1 rfl (ltb rfl) rfl hg2 (op_lenl (ltb rfl) un92_M3 rfl) ?_
      refine TriL.g1 rfl (ltb rfl) rfl hg2 (op_bin (ltb rfl) rfl rfl rfl) ?_
      refine TriL.c1 rfl (op_pickf (ltb rfl) rfl hg2 rfl) ?_
      refine TriL.c1 rfl (op_as (ltb rfl) rfl) ?_
      refine TriL.nil ?_
      refine Tri.region ?_
      refine TriL.c1 rfl (op_mv (ltb rfl) rfl) ?_
      refine TriL.c1 rfl (op_bin (ltb rfl) rfl rfl rfl) ?_
      refine TriL.c1 rfl (op_as (ltb rfl) rfl) ?_
      refine TriL.kept (Kept.seti 4 rfl (inc (by omega)) (Kept.keep [.s 4, .s 3, .h, .s 1, .b 1] rfl (by decide) (Kept.now ?_)))
      exact ⟨(i + 1, _), (by dsimp only; omega), by grind, rfl⟩
  · have hi := gem hc1
    have hS := any_end (p := (fun e : Enm => decide (e.values.length = 0))) hi
    refine Tri.exit ?_
    refine Tri.seq ?_
    refine Tri.region ?_
    refine TriL.c1 rfl (op_mv (ltb rfl) rfl) ?_
    refine TriL.c1 rfl (op_as (ltb rfl) rfl) ?_
    refine TriL.nil ?_
    refine Tri.ret ?_
    exact ⟨.inr rfl, (ResOK.r1 rfl (.tmp rfl .nil)).cast (congrArg AV.bool (by grind [Sch.none])), rfl⟩
theorem r_text (s : Sch) (hs : s.sm) : Pure Tryz.prog 38 [s.av] (.bool s.text) := by
  have := hs.e
  have := hs.m
  refine Pure.of_tri Tryz.func38 rfl rfl (ltb rfl) fun H => ?_
  refine Tri.seq ?_
  refine Tri.region ?_
  refine TriL.c2 rfl (op_box (ltb rfl) rfl rfl rfl) ?_
  refine TriL.c1 rfl (op_as (ltb rfl) rfl) ?_
  refine TriL.nil ?_
  refine Tri.seq ?_
  refine Tri.region ?_
  refine TriL.c1 rfl (op_as (ltb rfl) rfl) ?_
  refine TriL.nil ?_
  refine Tri.seq ?_
  refine Tri.seq ?_
  refine Tri.region ?_
  refine TriL.c1 rfl (op_as (ltb rfl) rfl) ?_
  refine TriL.nil ?_
  refine Tri.blk ?_
  refine Tri.ofKept (Kept.keep [.s 4, .s 3, .h, .s 1, .b 1] rfl (by decide) (Kept.now ?_))
  -- LOOP 1
  refine Tri.loopk (fun ((i, b) : Nat × Bool) => [(.s 4, .sv (.v (.int .i64 (i : Int)))), (.s 3, .sv (.v (.bool b)))]) _ (fun ((i, b) : Nat × Bool) => (b || (s.enums.drop i).any (fun e : Enm => !nameOK e.name || e.values.any fun v => !nameOK v.name)) = (s.enums.any (fun e : Enm => !nameOK e.name || e.values.any fun v => !nameOK v.name))) (fun ((i, b) : Nat × Bool) => s.enums.length - i) (0, _) rfl (by grind) ?_
  rintro ⟨i, b⟩ hI
  refine Tri.seq ?_
  refine Tri.seq ?_
  refine Tri.region ?_
  refine TriL.c1 rfl (op_mv (ltb rfl) rfl) ?_
  refine TriL.c1 rfl (op_fal (ltb rfl) fo25_0_M3 rfl) ?_
  refine TriL.c1 rfl (op_ldl (ltb rfl) lk22_M3 rfl rfl rfl) ?_
  refine TriL.c1 rfl (op_lenl (ltb rfl) un22_M3 rfl) ?_
  refine TriL.c1 rfl (op_bin (ltb rfl) rfl rfl rfl) ?_
  refine TriL.nil ?_
  refine Tri.cond rfl (fun hc1 => ?_) (fun hc1 => ?_)
  · have hi := ltm hc1
    have hS := any_step (p := (fun e : Enm => !nameOK e.name || e.values.any fun v => !nameOK v.name)) hi
    have := hs.vi hi
    refine Tri.skip ?_
    refine Tri.seq ?_
    refine Tri.blk ?_
    refine Tri.joinu [.h, .s 1, .b 1, .s 4] (fun (b1 : Bool) => [(.s 3, .sv (.v (.bool b1)))]) (fun (b1 : Bool) => b1 = (b || !nameOK s.enums[i].name)) rfl ?_ ?_
    · -- region 5 ref.go:46
      refine Tri.region ?_
      refine TriL.c1 rfl (op_mv (ltb rfl) rfl) ?_
      refine TriL.c1 rfl (op_mv (ltb rfl) rfl) ?_
      refine TriL.split (d := 15) rfl (fun hg2 => ?_) (fun hg2 => ?_)
      · refine TriL.skipu rfl rfl (ltb rfl) (ltb rfl) rfl hg2 ?_
        refine TriL.skipu rfl rfl (ltb rfl) (ltb rfl) rfl hg2 ?_
        refine TriL.skipu rfl rfl (ltb rfl) (ltb rfl) rfl hg2 ?_
        refine TriL.skipu rfl rfl (ltb rfl) (ltb rfl) rfl hg2 ?_
        refine TriL.skipu rfl rfl (ltb rfl) (ltb rfl) rfl hg2 ?_
        refine TriL.skipu rfl rfl (ltb rfl) (ltb rfl) rfl hg2 ?_
        refine TriL.skipu rfl rfl (ltb rfl) (ltb rfl) rfl hg2 ?_
        refine TriL.skipu rfl rfl (ltb rfl) (ltb rfl) rfl hg2 ?_
        refine TriL.c1 rfl (op_pickt (ltb rfl) rfl hg2 rfl) ?_
        refine TriL.c1 rfl (op_as (ltb rfl) rfl) ?_
        refine TriL.kept (Kept.keep [.s 3, .h, .s 1, .b 1, .s 4] rfl (by decide) (Kept.now ?_))
        exact ⟨_, by grind, rfl⟩
      · refine TriL.g1 rfl (ltb rfl) rfl hg2 (op_fal (ltb rfl) fo25_0_M3 rfl) ?_
        refine TriL.g1 rfl (ltb rfl) rfl hg2 (op_ldl (ltb rfl) lk22_M3 rfl rfl rfl) ?_
        refine TriL.g1 rfl (ltb rfl) rfl hg2 (op_mv (ltb rfl) rfl) ?_
        refine TriL.g1 rfl (ltb rfl) rfl hg2 (op_iak (ltb rfl) ie22_M3 rfl rfl (Int.natCast_nonneg _) (ixm hi) rfl) ?_
        refine TriL.g1 rfl (ltb rfl) rfl hg2 (op_fak (ltb rfl) fo94_0_M3 rfl) ?_
        refine TriL.g1 rfl (ltb rfl) rfl hg2 (op_ldk (ltb rfl) lk9_M3 rfl rfl) ?_
        refine TriL.g1 rfl (ltb rfl) rfl hg2 (op_call (ltb rfl) fn69_M3 rfl (r_nameOK _)) ?_
        refine TriL.g1 rfl (ltb rfl) rfl hg2 (op_un (ltb rfl) rfl rfl) ?_
        refine TriL.c1 rfl (op_pickf (ltb rfl) rfl hg2 rfl) ?_
        refine TriL.c1 rfl (op_as (ltb rfl) rfl) ?_
        refine TriL.kept (Kept.keep [.s 3, .h, .s 1, .b 1, .s 4] rfl (by decide) (Kept.now ?_))
        exact ⟨_, by grind, rfl⟩
    · rintro b1 hF6
      refine Tri.seq ?_
      refine Tri.region ?_
      refine TriL.c1 rfl (op_as (ltb rfl) rfl) ?_
      refine TriL.nil ?_
      refine Tri.blk ?_
      refine Tri.ofKept (Kept.keep [.s 5, .s 3, .h, .s 1, .b 1, .s 4] rfl (by decide) (Kept.now ?_))
      -- LOOP 2
      refine Tri.loopk (fun ((k, b) : Nat × Bool) => [(.s 5, .sv (.v (.int .i64 (k : Int)))), (.s 3, .sv (.v (.bool b)))]) _ (fun ((k, b) : Nat × Bool) => (b || ((s.enums[i]'hi).values.drop k).any (fun v : Vlu => !nameOK v.name)) = (b1 || (s.enums[i]'hi).values.any (fun v : Vlu => !nameOK v.name))) (fun ((k, b) : Nat × Bool) => (s.enums[i]'hi).values.length - k) (0, _) rfl (by grind) ?_
      rintro ⟨k, b⟩ hI
      refine Tri.seq ?_
      refine Tri.seq ?_
      refine Tri.region ?_
      refine TriL.c1 rfl (op_mv (ltb rfl) rfl) ?_
      refine TriL.c1 rfl (op_fal (ltb rfl) fo25_0_M3 rfl) ?_
      refine TriL.c1 rfl (op_ldl (ltb rfl) lk22_M3 rfl rfl rfl) ?_
      refine TriL.c1 rfl (op_mv (ltb rfl) rfl) ?_
      refine TriL.c1 rfl (op_iak (ltb rfl) ie22_M3 rfl rfl (Int.natCast_nonneg _) (ixm hi) rfl) ?_
      refine TriL.c1 rfl (op_fak (ltb rfl) fo94_1_M3 rfl) ?_
      refine TriL.c1 rfl (op_ldk (ltb rfl) lk92_M3 rfl rfl) ?_
      refine TriL.c1 rfl (op_lenl (ltb rfl) un92_M3 rfl) ?_
      refine TriL.c1 rfl (op_bin (ltb rfl) rfl rfl rfl) ?_
      refine TriL.nil ?_
      refine Tri.cond rfl (fun hc3 => ?_) (fun hc3 => ?_)
      · have hk := ltm hc3
        have hS := any_step (p := (fun v : Vlu => !nameOK v.name)) hk
        refine Tri.skip ?_
        refine Tri.seq ?_
        refine Tri.blk ?_
        refine Tri.region ?_
        refine TriL.c1 rfl (op_mv (ltb rfl) rfl) ?_
        refine TriL.c1 rfl (op_mv (ltb rfl) rfl) ?_
        refine TriL.split (d := 37) rfl (fun hg4 => ?_) (fun hg4 => ?_)
        · refine TriL.skipu rfl rfl (ltb rfl) (ltb rfl) rfl hg4 ?_
          refine TriL.skipu rfl rfl (ltb rfl) (ltb rfl) rfl hg4 ?_
          refine TriL.skipu rfl rfl (ltb rfl) (ltb rfl) rfl hg4 ?_
          refine TriL.skipu rfl rfl (ltb rfl) (ltb rfl) rfl hg4 ?_
          refine TriL.skipu rfl rfl (ltb rfl) (ltb rfl) rfl hg4 ?_
          refine TriL.skipu rfl rfl (ltb rfl) (ltb rfl) rfl hg4 ?_
          refine TriL.skipu rfl rfl (ltb rfl) (ltb rfl) rfl hg4 ?_
          refine TriL.skipu rfl rfl (ltb rfl) (ltb rfl) rfl hg4 ?_
          refine TriL.skipu rfl rfl (ltb rfl) (ltb rfl) rfl hg4 ?_
          refine TriL.skipu rfl rfl (ltb rfl) (ltb rfl) rfl hg4 ?_
          refine TriL.skipu rfl rfl (ltb rfl) (ltb rfl) rfl hg4 ?_
          refine TriL.skipu rfl rfl (ltb rfl) (ltb rfl) rfl hg4 ?_
          refine TriL.c1 rfl (op_pickt (ltb rfl) rfl hg4 rfl) ?_
          refine TriL.c1 rfl (op_as (ltb rfl) rfl) ?_
          refine TriL.nil ?_
          refine Tri.region ?_
          refine TriL.c1 rfl (op_mv (ltb rfl) rfl) ?_
          refine TriL.c1 rfl (op_bin (ltb rfl) rfl rfl rfl) ?_
          refine TriL.c1 rfl (op_as (ltb rfl) rfl) ?_
          refine TriL.kept (Kept.seti 5 rfl (inc (by omega)) (Kept.keep [.s 5, .s 3, .h, .s 1, .b 1, .s 4] rfl (by decide) (Kept.now ?_)))
          exact ⟨(k + 1, _), (by dsimp only; omega), by grind, rfl⟩
        · refine TriL.g1 rfl (ltb rfl) rfl hg4 (op_fal (ltb rfl) fo25_0_M3 rfl) ?_
          refine TriL.g1 rfl (ltb rfl) rfl hg4 (op_ldl (ltb rfl) lk22_M3 rfl rfl rfl) ?_
          refine TriL.g1 rfl (ltb rfl) rfl hg4 (op_mv (ltb rfl) rfl) ?_
          refine TriL.g1 rfl (ltb rfl) rfl hg4 (op_iak (ltb rfl) ie22_M3 rfl rfl (Int.natCast_nonneg _) (ixm hi) rfl) ?_
          refine TriL.g1 rfl (ltb rfl) rfl hg4 (op_fak (ltb rfl) fo94_1_M3 rfl) ?_
          refine TriL.g1 rfl (ltb rfl) rfl hg4 (op_ldk (ltb rfl) lk92_M3 rfl rfl) ?_
          refine TriL.g1 rfl (ltb rfl) rfl hg4 (op_mv (ltb rfl) rfl) ?_
          refine TriL.g1 rfl (ltb rfl) rfl hg4 (op_iak (ltb rfl) ie92_M3 rfl rfl (Int.natCast_nonneg _) (ixm hk) rfl) ?_
          refine TriL.g1 rfl (ltb rfl) rfl hg4 (op_fak (ltb rfl) fo96_0_M3 rfl) ?_
          refine TriL.g1 rfl (ltb rfl) rfl hg4 (op_ldk (ltb rfl) lk9_M3 rfl rfl) ?_
          refine TriL.g1 rfl (ltb rfl) rfl hg4 (op_call (ltb rfl) fn69_M3 rfl (r_nameOK _)) ?_
          refine TriL.g1 rfl (ltb rfl) rfl hg4 (op_un (ltb rfl) rfl rfl) ?_
          refine TriL.c1 rfl (op_pickf (ltb rfl) rfl hg4 rfl) ?_
          refine TriL.c1 rfl (op_as (ltb rfl) rfl) ?_
          refine TriL.nil ?_
          refine Tri.region ?_
          refine TriL.c1 rfl (op_mv (ltb rfl) rfl) ?_
          refine TriL.c1 rfl (op_bin (ltb rfl) rfl rfl rfl) ?_
          refine TriL.c1 rfl (op_as (ltb rfl) rfl) ?_
          refine TriL.kept (Kept.seti 5 rfl (inc (by omega)) (Kept.keep [.s 5, .s 3, .h, .s 1, .b 1, .s 4] rfl (by decide) (Kept.now ?_)))
          exact ⟨(k + 1, _), (by dsimp only; omega), by grind, rfl⟩
      · have hk := gem hc3
        have hS := any_end (p := (fun v : Vlu => !nameOK v.name)) hk
        refine Tri.exit ?_
        refine Tri.region ?_
        refine TriL.c1 rfl (op_mv (ltb rfl) rfl) ?_
        refine TriL.c1 rfl (op_bin (ltb rfl) rfl rfl rfl) ?_
        refine TriL.c1 rfl (op_as (ltb rfl) rfl) ?_
        refine TriL.kept (Kept.seti 4 rfl (inc (by omega)) (Kept.keep [.s 4, .s 3, .h, .s 1, .b 1] rfl (by decide) (Kept.now ?_)))
        exact ⟨(i + 1, _), (by dsimp only; omega), by grind, rfl⟩
  · have hi := gem hc1
    have hS := any_end (p := (fun e : Enm => !nameOK e.name || e.values.any fun v => !nameOK v.name)) hi
    refine Tri.exit ?_
    refine Tri.seq ?_
    refine Tri.seq ?_
    refine Tri.region ?_
    refine TriL.c1 rfl (op_as (ltb rfl) rfl) ?_
    refine TriL.nil ?_
    refine Tri.blk ?_
    refine Tri.ofKept (Kept.keep [.s 6, .s 3, .h, .s 1, .b 1] rfl (by decide) (Kept.now ?_))
    -- LOOP 3
    refine Tri.loopk (fun ((j, b) : Nat × Bool) => [(.s 6, .sv (.v (.int .i64 (j : Int)))), (.s 3, .sv (.v (.bool b)))]) _ (fun ((j, b) : Nat × Bool) => (b || (s.msgs.drop j).any (fun m : Msg => !nameOK m.name)) = s.text) (fun ((j, b) : Nat × Bool) => s.msgs.length - j) (0, _) rfl (by grind [Sch.text]) ?_
    rintro ⟨j, b⟩ hI
    refine Tri.seq ?_
    refine Tri.seq ?_
    refine Tri.region ?_
    refine TriL.c1 rfl (op_mv (ltb rfl) rfl) ?_
    refine TriL.c1 rfl (op_fal (ltb rfl) fo25_1_M3 rfl) ?_
    refine TriL.c1 rfl (op_ldl (ltb rfl) lk23_M3 rfl rfl rfl) ?_
    refine TriL.c1 rfl (op_lenl (ltb rfl) un23_M3 rfl) ?_
    refine TriL.c1 rfl (op_bin (ltb rfl) rfl rfl rfl) ?_
    refine TriL.nil ?_
    refine Tri.cond rfl (fun hc5 => ?_) (fun hc5 => ?_)
    · have hj := ltm hc5
      have hS := any_step (p := (fun m : Msg => !nameOK m.name)) hj
      refine Tri.skip ?_
      refine Tri.seq ?_
      refine Tri.blk ?_
      refine Tri.region ?_
      refine TriL.c1 rfl (op_mv (ltb rfl) rfl) ?_
      refine TriL.c1 rfl (op_mv (ltb rfl) rfl) ?_
      refine TriL.split (d := 59) rfl (fun hg6 => ?_) (fun hg6 => ?_)
      · refine TriL.skipu rfl rfl (ltb rfl) (ltb rfl) rfl hg6 ?_
        refine TriL.skipu rfl rfl (ltb rfl) (ltb rfl) rfl hg6 ?_
        refine TriL.skipu rfl rfl (ltb rfl) (ltb rfl) rfl hg6 ?_
        refine TriL.skipu rfl rfl (ltb rfl) (ltb rfl) rfl hg6 ?_
        refine TriL.skipu rfl rfl (ltb rfl) (ltb rfl) rfl hg6 ?_
        refine TriL.skipu rfl rfl (ltb rfl) (ltb rfl) rfl hg6 ?_
        refine TriL.skipu rfl rfl (ltb rfl) (ltb rfl) rfl hg6 ?_
        refine TriL.skipu rfl rfl (ltb rfl) (ltb rfl) rfl hg6 ?_
        refine TriL.c1 rfl (op_pickt (ltb rfl) rfl hg6 rfl) ?_
        refine TriL.c1 rfl (op_as (ltb rfl) rfl) ?_
        refine TriL.nil ?_
        refine Tri.region ?_
        refine TriL.c1 rfl (op_mv (ltb rfl) rfl) ?_
        refine TriL.c1 rfl (op_bin (ltb rfl) rfl rfl rfl) ?_
        refine TriL.c1 rfl (op_as (ltb rfl) rfl) ?_
        refine TriL.kept (Kept.seti 6 rfl (inc (by omega)) (Kept.keep [.s 6, .s 3, .h, .s 1, .b 1] rfl (by decide) (Kept.now ?_)))
        exact ⟨(j + 1, _), (by dsimp only; omega), by grind, rfl⟩
      · refine TriL.g1 rfl (ltb rfl) rfl hg6 (op_fal (ltb rfl) fo25_1_M3 rfl) ?_
        refine TriL.g1 rfl (ltb rfl) rfl hg6 (op_ldl (ltb rfl) lk23_M3 rfl rfl rfl) ?_
        refine TriL.g1 rfl (ltb rfl) rfl hg6 (op_mv (ltb rfl) rfl) ?_
        refine TriL.g1 rfl (ltb rfl) rfl hg6 (op_iak (ltb rfl) ie23_M3 rfl rfl (Int.natCast_nonneg _) (ixm hj) rfl) ?_
        refine TriL.g1 rfl (ltb rfl) rfl hg6 (op_fak (ltb rfl) fo78_0_M3 rfl) ?_
        refine TriL.g1 rfl (ltb rfl) rfl hg6 (op_ldk (ltb rfl) lk9_M3 rfl rfl) ?_
        refine TriL.g1 rfl (ltb rfl) rfl hg6 (op_call (ltb rfl) fn69_M3 rfl (r_nameOK _)) ?_
        refine TriL.g1 rfl (ltb rfl) rfl hg6 (op_un (ltb rfl) rfl rfl) ?_
        refine TriL.c1 rfl (op_pickf (ltb rfl) rfl hg6 rfl) ?_
        refine TriL.c1 rfl (op_as (ltb rfl) rfl) ?_
        refine TriL.nil ?_
        refine Tri.region ?_
        refine TriL.c1 rfl (op_mv (ltb rfl) rfl) ?_
        refine TriL.c1 rfl (op_bin (ltb rfl) rfl rfl rfl) ?_
        refine TriL.c1 rfl (op_as (ltb rfl) rfl) ?_
        refine TriL.kept (Kept.seti 6 rfl (inc (by omega)) (Kept.keep [.s 6, .s 3, .h, .s 1, .b 1] rfl (by decide) (Kept.now ?_)))
        exact ⟨(j + 1, _), (by dsimp only; omega), by grind, rfl⟩
    · have hj := gem hc5
      have hS := any_end (p := (fun m : Msg => !nameOK m.name)) hj
      refine Tri.exit ?_
      refine Tri.seq ?_
      refine Tri.region ?_
      refine TriL.c1 rfl (op_mv (ltb rfl) rfl) ?_
      refine TriL.c1 rfl (op_as (ltb rfl) rfl) ?_
      refine TriL.nil ?_
      refine Tri.ret ?_
      exact ⟨.inr rfl, (ResOK.r1 rfl (.tmp rfl .nil)).cast (congrArg AV.bool (by grind [Sch.text])), rfl⟩
theorem r_fields (s : Sch) (hs : s.sm) : Pure Tryz.prog 39 [s.av] (.int .i64 (chkMsgs s.msgs)) := by
  have := hs.e
  have := hs.m
  refine Pure.of_tri Tryz.func39 rfl rfl (ltb rfl) fun H => ?_
  refine Tri.seq ?_
  refine Tri.region ?_
  refine TriL.c2 rfl (op_box (ltb rfl) rfl rfl rfl) ?_
  refine TriL.c1 rfl (op_as (ltb rfl) rfl) ?_
  refine TriL.nil ?_
  refine Tri.seq ?_
  refine Tri.seq ?_
  refine Tri.region ?_
  refine TriL.c1 rfl (op_as (ltb rfl) rfl) ?_
  refine TriL.nil ?_
  refine Tri.blk ?_
  refine Tri.ofKept (Kept.keep [.s 3, .h, .s 1, .b 1] rfl (by decide) (Kept.now ?_))
  -- LOOP 1
  refine Tri.loopk (fun (i : Nat) => [(.s 3, .sv (.v (.int .i64 (i : Int))))]) _ (fun (i : Nat) => chkMsgs (s.msgs.drop i) = chkMsgs s.msgs) (fun (i : Nat) => s.msgs.length - i) 0 rfl (by simp) ?_
  rintro i hI
  refine Tri.seq ?_
  refine Tri.seq ?_
  refine Tri.region ?_
  refine TriL.c1 rfl (op_mv (ltb rfl) rfl) ?_
  refine TriL.c1 rfl (op_fal (ltb rfl) fo25_1_M3 rfl) ?_
  refine TriL.c1 rfl (op_ldl (ltb rfl) lk23_M3 rfl rfl rfl) ?_
  refine TriL.c1 rfl (op_lenl (ltb rfl) un23_M3 rfl) ?_
  refine TriL.c1 rfl (op_bin (ltb rfl) rfl rfl rfl) ?_
  refine TriL.nil ?_
  refine Tri.cond rfl (fun hc1 => ?_) (fun hc1 => ?_)
  · have hi := ltm hc1
    have hS := chkMsgs_step hi
    have := hs.fi hi
    have := hs.bi hi
    refine Tri.skip ?_
    refine Tri.seq ?_
    refine Tri.blk ?_
    refine Tri.seq ?_
    refine Tri.region ?_
    refine TriL.c1 rfl (op_as (ltb rfl) rfl) ?_
    refine TriL.nil ?_
    refine Tri.blk ?_
    refine Tri.ofKept (Kept.keep [.s 4, .h, .s 1, .b 1, .s 3] rfl (by decide) (Kept.now ?_))
    -- LOOP 2
    refine Tri.loopk (fun (k : Nat) => [(.s 4, .sv (.v (.int .i64 (k : Int))))]) _ (fun (k : Nat) => chkFields ((s.msgs[i]'hi).fields.drop k) = chkFields (s.msgs[i]'hi).fields) (fun (k : Nat) => (s.msgs[i]'hi).fields.length - k) 0 rfl (by simp) ?_
    rintro k hK
    refine Tri.seq ?_
    refine Tri.seq ?_
    refine Tri.region ?_
    refine TriL.c1 rfl (op_mv (ltb rfl) rfl) ?_
    refine TriL.c1 rfl (op_fal (ltb rfl) fo25_1_M3 rfl) ?_
    refine TriL.c1 rfl (op_ldl (ltb rfl) lk23_M3 rfl rfl rfl) ?_
    refine TriL.c1 rfl (op_mv (ltb rfl) rfl) ?_
    refine TriL.c1 rfl (op_iak (ltb rfl) ie23_M3 rfl rfl (Int.natCast_nonneg _) (ixm hi) rfl) ?_
    refine TriL.c1 rfl (op_fak (ltb rfl) fo78_1_M3 rfl) ?_
    refine TriL.c1 rfl (op_ldk (ltb rfl) lk76_M3 rfl rfl) ?_
    refine TriL.c1 rfl (op_lenl (ltb rfl) un76_M3 rfl) ?_
    refine TriL.c1 rfl (op_bin (ltb rfl) rfl rfl rfl) ?_
    refine TriL.nil ?_
    refine Tri.cond rfl (fun hc2 => ?_) (fun hc2 => ?_)
    · have hk := ltm hc2
      have hT := chkFields_step hk
      refine Tri.skip ?_
      refine Tri.seq ?_
      refine Tri.blk ?_
      refine Tri.seq ?_
      refine Tri.region ?_
      refine TriL.c1 rfl (op_fal (ltb rfl) fo25_1_M3 rfl) ?_
      refine TriL.c1 rfl (op_ldl (ltb rfl) lk23_M3 rfl rfl rfl) ?_
      refine TriL.c1 rfl (op_mv (ltb rfl) rfl) ?_
      refine TriL.c1 rfl (op_iak (ltb rfl) ie23_M3 rfl rfl (Int.natCast_nonneg _) (ixm hi) rfl) ?_
      refine TriL.c1 rfl (op_fak (ltb rfl) fo78_1_M3 rfl) ?_
      refine TriL.c1 rfl (op_ldk (ltb rfl) lk76_M3 rfl rfl) ?_
      refine TriL.c1 rfl (op_mv (ltb rfl) rfl) ?_
      refine TriL.c1 rfl (op_iak (ltb rfl) ie76_M3 rfl rfl (Int.natCast_nonneg _) (ixm hk) rfl) ?_
      refine TriL.c1 rfl (op_ldk (ltb rfl) lk98_M3 rfl rfl) ?_
      refine TriL.c1 rfl (op_call (ltb rfl) fn70_M3 rfl (r_fchk _)) ?_
      refine TriL.c1 rfl (op_as (ltb rfl) rfl) ?_
      refine TriL.nil ?_
      refine Tri.seq ?_
      refine Tri.region ?_
      refine TriL.c1 rfl (op_mv (ltb rfl) rfl) ?_
      refine TriL.c1 rfl (op_bin (ltb rfl) rfl rfl rfl) ?_
      refine TriL.nil ?_
      refine Tri.cond rfl (fun hc3 => ?_) (fun hc3 => ?_)
      · refine Tri.seq ?_
        refine Tri.region ?_
        refine TriL.c1 rfl (op_mv (ltb rfl) rfl) ?_
        refine TriL.c1 rfl (op_as (ltb rfl) rfl) ?_
        refine TriL.nil ?_
        refine Tri.ret ?_
        exact ⟨.inr rfl, (ResOK.r1 rfl (.tmp rfl .nil)).cast (congrArg (AV.int .i64) (by grind [])), rfl⟩
      · refine Tri.skip ?_
        refine Tri.region ?_
        refine TriL.c1 rfl (op_mv (ltb rfl) rfl) ?_
        refine TriL.c1 rfl (op_bin (ltb rfl) rfl rfl rfl) ?_
        refine TriL.c1 rfl (op_as (ltb rfl) rfl) ?_
        refine TriL.kept (Kept.seti 4 rfl (inc (by omega)) (Kept.keep [.s 4, .h, .s 1, .b 1, .s 3] rfl (by decide) (Kept.now ?_)))
        exact ⟨k + 1, by omega, by grind, rfl⟩
    · have hk := gem hc2
      have hT := chkFields_end hk
      refine Tri.exit ?_
      refine Tri.region ?_
      refine TriL.c1 rfl (op_mv (ltb rfl) rfl) ?_
      refine TriL.c1 rfl (op_bin (ltb rfl) rfl rfl rfl) ?_
      refine TriL.c1 rfl (op_as (ltb rfl) rfl) ?_
      refine TriL.kept (Kept.seti 3 rfl (inc (by omega)) (Kept.keep [.s 3, .h, .s 1, .b 1] rfl (by decide) (Kept.now ?_)))
      exact ⟨i + 1, by omega, by grind, rfl⟩
  · have hi := gem hc1
    have hS := chkMsgs_end hi
    refine Tri.exit ?_
    refine Tri.seq ?_
    refine Tri.region ?_
    refine TriL.c1 rfl (op_as (ltb rfl) rfl) ?_
    refine TriL.nil ?_
    refine Tri.ret ?_
    exact ⟨.inr rfl, (ResOK.r1 rfl (.tmp rfl .nil)).cast (congrArg (AV.int .i64) (by grind [])), rfl⟩
theorem r_barred (s : Sch) (hs : s.sm) : Pure Tryz.prog 42 [s.av] (.bool s.barred) := by
  have := hs.e
  have := hs.m
  refine Pure.of_tri Tryz.func42 rfl rfl (ltb rfl) fun H => ?_
  refine Tri.seq ?_
  refine Tri.region ?_
  refine TriL.c2 rfl (op_box (ltb rfl) rfl rfl rfl) ?_
  refine TriL.c1 rfl (op_as (ltb rfl) rfl) ?_
  refine TriL.nil ?_
  refine Tri.seq ?_
  refine Tri.seq ?_
  refine Tri.region ?_
  refine TriL.c1 rfl (op_as (ltb rfl) rfl) ?_
  refine TriL.nil ?_
  refine Tri.blk ?_
  refine Tri.ofKept (Kept.keep [.s 3, .h, .s 1, .b 1] rfl (by decide) (Kept.now ?_))
  -- LOOP 1
  refine Tri.loopk (fun (i : Nat) => [(.s 3, .sv (.v (.int .i64 (i : Int))))]) _ (fun (i : Nat) => (s.msgs.drop i).any (fun m : Msg => m.fields.any fun f => m.barred.any (· == f.num)) = s.barred) (fun (i : Nat) => s.msgs.length - i) 0 rfl (by simp [Sch.barred]) ?_
  rintro i hI
  refine Tri.seq ?_
  refine Tri.seq ?_
  refine Tri.region ?_
  refine TriL.c1 rfl (op_mv (ltb rfl) rfl) ?_
  refine TriL.c1 rfl (op_fal (ltb rfl) fo25_1_M3 rfl) ?_
  refine TriL.c1 rfl (op_ldl (ltb rfl) lk23_M3 rfl rfl rfl) ?_
  refine TriL.c1 rfl (op_lenl (ltb rfl) un23_M3 rfl) ?_
  refine TriL.c1 rfl (op_bin (ltb rfl) rfl rfl rfl) ?_
  refine TriL.nil ?_
  refine Tri.cond rfl (fun hc1 => ?_) (fun hc1 => ?_)
  · have hi := ltm hc1
    have hS := any_step (p := (fun m : Msg => m.fields.any fun f => m.barred.any (· == f.num))) hi
    have := hs.fi hi
    have := hs.bi hi
    refine Tri.skip ?_
    refine Tri.seq ?_
    refine Tri.blk ?_
    refine Tri.seq ?_
    refine Tri.region ?_
    refine TriL.c1 rfl (op_as (ltb rfl) rfl) ?_
    refine TriL.nil ?_
    refine Tri.blk ?_
    refine Tri.ofKept (Kept.keep [.s 4, .h, .s 1, .b 1, .s 3] rfl (by decide) (Kept.now ?_))
    -- LOOP 2
    refine Tri.loopk (fun (k : Nat) => [(.s 4, .sv (.v (.int .i64 (k : Int))))]) _ (fun (k : Nat) => ((s.msgs[i]'hi).fields.drop k).any (fun f : Fld => (s.msgs[i]'hi).barred.any (· == f.num)) = (s.msgs[i]'hi).fields.any (fun f : Fld => (s.msgs[i]'hi).barred.any (· == f.num))) (fun (k : Nat) => (s.msgs[i]'hi).fields.length - k) 0 rfl (by simp) ?_
    rintro k hK
    refine Tri.seq ?_
    refine Tri.seq ?_
    refine Tri.region ?_
    refine TriL.c1 rfl (op_mv (ltb rfl) rfl) ?_
    refine TriL.c1 rfl (op_fal (ltb rfl) fo25_1_M3 rfl) ?_
    refine TriL.c1 rfl (op_ldl (ltb rfl) lk23_M3 rfl rfl rfl) ?_
    refine TriL.c1 rfl (op_mv (ltb rfl) rfl) ?_
    refine TriL.c1 rfl (op_iak (ltb rfl) ie23_M3 rfl rfl (Int.natCast_nonneg _) (ixm hi) rfl) ?_
    refine TriL.c1 rfl (op_fak (ltb rfl) fo78_1_M3 rfl) ?_
    refine TriL.c1 rfl (op_ldk (ltb rfl) lk76_M3 rfl rfl) ?_
    refine TriL.c1 rfl (op_lenl (ltb rfl) un76_M3 rfl) ?_
    refine TriL.c1 rfl (op_bin (ltb rfl) rfl rfl rfl) ?_
    refine TriL.nil ?_
    refine Tri.cond rfl (fun hc2 => ?_) (fun hc2 => ?_)
    · have hk := ltm hc2
      have hT := any_step (p := (fun f : Fld => (s.msgs[i]'hi).barred.any (· == f.num))) hk
      refine Tri.skip ?_
      refine Tri.seq ?_
      refine Tri.blk ?_
      refine Tri.seq ?_
      refine Tri.drawn mixed rfl ?_
      refine TriD.c1 rfl (op_fal (ltb rfl) fo25_1_M3 rfl) ?_
      refine TriD.c1 rfl (op_ldl (ltb rfl) lk23_M3 rfl rfl rfl) ?_
      refine TriD.c1 rfl (op_mv (ltb rfl) rfl) ?_
      refine TriD.c1 rfl (op_iak (ltb rfl) ie23_M3 rfl rfl (Int.natCast_nonneg _) (ixm hi) rfl) ?_
      refine TriD.c1 rfl (op_fak (ltb rfl) fo78_2_M3 rfl) ?_
      refine TriD.c1 rfl (op_ldk (ltb rfl) lk67_M3 rfl rfl) ?_
      refine TriD.c1 rfl (op_fal (ltb rfl) fo25_1_M3 rfl) ?_
      refine TriD.c1 rfl (op_ldl (ltb rfl) lk23_M3 rfl rfl rfl) ?_
      refine TriD.c1 rfl (op_mv (ltb rfl) rfl) ?_
      refine TriD.c1 rfl (op_iak (ltb rfl) ie23_M3 rfl rfl (Int.natCast_nonneg _) (ixm hi) rfl) ?_
      refine TriD.c1 rfl (op_fak (ltb rfl) fo78_1_M3 rfl) ?_
      refine TriD.c1 rfl (op_ldk (ltb rfl) lk76_M3 rfl rfl) ?_
      refine TriD.c1 rfl (op_mv (ltb rfl) rfl) ?_
      refine TriD.c1 rfl (op_iak (ltb rfl) ie76_M3 rfl rfl (Int.natCast_nonneg _) (ixm hk) rfl) ?_
      refine TriD.c1 rfl (op_fak (ltb rfl) fo98_1_M3 rfl) ?_
      refine TriD.c1 rfl (op_ldk (ltb rfl) lk3_M3 rfl rfl) ?_
      refine TriD.c1 rfl (op_call (ltb rfl) fn75_M3 rfl (r_has _ _ (by omega))) ?_
      refine TriD.nil (by kernel_rfl) (Kept.now ?_)
      refine Tri.cond rfl (fun hc3 => ?_) (fun hc3 => ?_)
      · refine Tri.seq ?_
        refine Tri.region ?_
        refine TriL.c1 rfl (op_as (ltb rfl) rfl) ?_
        refine TriL.nil ?_
        refine Tri.ret ?_
        exact ⟨.inr rfl, (ResOK.r1 rfl (.tmp rfl .nil)).cast (congrArg AV.bool (by grind [Sch.barred])), rfl⟩
      · refine Tri.skip ?_
        refine Tri.region ?_
        refine TriL.c1 rfl (op_mv (ltb rfl) rfl) ?_
        refine TriL.c1 rfl (op_bin (ltb rfl) rfl rfl rfl) ?_
        refine TriL.c1 rfl (op_as (ltb rfl) rfl) ?_
        refine TriL.kept (Kept.seti 4 rfl (inc (by omega)) (Kept.keep [.s 4, .h, .s 1, .b 1, .s 3] rfl (by decide) (Kept.now ?_)))
        exact ⟨k + 1, by omega, by grind, rfl⟩
    · have hk := gem hc2
      have hT := any_end (p := (fun f : Fld => (s.msgs[i]'hi).barred.any (· == f.num))) hk
      refine Tri.exit ?_
      refine Tri.region ?_
      refine TriL.c1 rfl (op_mv (ltb rfl) rfl) ?_
      refine TriL.c1 rfl (op_bin (ltb rfl) rfl rfl rfl) ?_
      refine TriL.c1 rfl (op_as (ltb rfl) rfl) ?_
      refine TriL.kept (Kept.seti 3 rfl (inc (by omega)) (Kept.keep [.s 3, .h, .s 1, .b 1] rfl (by decide) (Kept.now ?_)))
      exact ⟨i + 1, by omega, by grind, rfl⟩
  · have hi := gem hc1
    have hS := any_end (p := (fun m : Msg => m.fields.any fun f => m.barred.any (· == f.num))) hi
    refine Tri.exit ?_
    refine Tri.seq ?_
    refine Tri.region ?_
    refine TriL.c1 rfl (op_as (ltb rfl) rfl) ?_
    refine TriL.nil ?_
    refine Tri.ret ?_
    exact ⟨.inr rfl, (ResOK.r1 rfl (.tmp rfl .nil)).cast (congrArg AV.bool (by grind [Sch.barred])), rfl⟩
theorem r_refs (s : Sch) (hs : s.sm) : Pure Tryz.prog 43 [s.av] (.bool s.refs) := by
  have := hs.e
  have := hs.m
  refine Pure.of_tri Tryz.func43 rfl rfl (ltb rfl) fun H => ?_
  refine Tri.seq ?_
  refine Tri.region ?_
  refine TriL.c2 rfl (op_box (ltb rfl) rfl rfl rfl) ?_
  refine TriL.c1 rfl (op_as (ltb rfl) rfl) ?_
  refine TriL.nil ?_
  refine Tri.seq ?_
  refine Tri.seq ?_
  refine Tri.region ?_
  refine TriL.c1 rfl (op_as (ltb rfl) rfl) ?_
  refine TriL.nil ?_
  refine Tri.blk ?_
  refine Tri.ofKept (Kept.keep [.s 3, .h, .s 1, .b 1] rfl (by decide) (Kept.now ?_))
  -- LOOP 1
  refine Tri.loopk (fun (i : Nat) => [(.s 3, .sv (.v (.int .i64 (i : Int))))]) _ (fun (i : Nat) => (s.msgs.drop i).any (fun m : Msg => m.fields.any fun f => (decide (f.ty = 14) && decide (s.enumIx f.ref < 0)) || (decide (f.ty = 15) && decide (s.msgIx f.ref < 0))) = s.refs) (fun (i : Nat) => s.msgs.length - i) 0 rfl (by simp [Sch.refs]) ?_
  rintro i hI
  refine Tri.seq ?_
  refine Tri.seq ?_
  refine Tri.region ?_
  refine TriL.c1 rfl (op_mv (ltb rfl) rfl) ?_
  refine TriL.c1 rfl (op_fal (ltb rfl) fo25_1_M3 rfl) ?_
  refine TriL.c1 rfl (op_ldl (ltb rfl) lk23_M3 rfl rfl rfl) ?_
  refine TriL.c1 rfl (op_lenl (ltb rfl) un23_M3 rfl) ?_
  refine TriL.c1 rfl (op_bin (ltb rfl) rfl rfl rfl) ?_
  refine TriL.nil ?_
  refine Tri.cond rfl (fun hc1 => ?_) (fun hc1 => ?_)
  · have hi := ltm hc1
    have hS := any_step (p := (fun m : Msg => m.fields.any fun f => (decide (f.ty = 14) && decide (s.enumIx f.ref < 0)) || (decide (f.ty = 15) && decide (s.msgIx f.ref < 0)))) hi
    have := hs.fi hi
    have := hs.bi hi
    refine Tri.skip ?_
    refine Tri.seq ?_
    refine Tri.blk ?_
    refine Tri.seq ?_
    refine Tri.region ?_
    refine TriL.c1 rfl (op_as (ltb rfl) rfl) ?_
    refine TriL.nil ?_
    refine Tri.blk ?_
    refine Tri.ofKept (Kept.keep [.s 4, .h, .s 1, .b 1, .s 3] rfl (by decide) (Kept.now ?_))
    -- LOOP 2
    refine Tri.loopk (fun (k : Nat) => [(.s 4, .sv (.v (.int .i64 (k : Int))))]) _ (fun (k : Nat) => ((s.msgs[i]'hi).fields.drop k).any (fun f : Fld => (decide (f.ty = 14) && decide (s.enumIx f.ref < 0)) || (decide (f.ty = 15) && decide (s.msgIx f.ref < 0))) = (s.msgs[i]'hi).fields.any (fun f : Fld => (decide (f.ty = 14) && decide (s.enumIx f.ref < 0)) || (decide (f.ty = 15) && decide (s.msgIx f.ref < 0)))) (fun (k : Nat) => (s.msgs[i]'hi).fields.length - k) 0 rfl (by simp) ?_
    rintro k hK
    refine Tri.seq ?_
    refine Tri.seq ?_
    refine Tri.region ?_
    refine TriL.c1 rfl (op_mv (ltb rfl) rfl) ?_
    refine TriL.c1 rfl (op_fal (ltb rfl) fo25_1_M3 rfl) ?_
    refine TriL.c1 rfl (op_ldl (ltb rfl) lk23_M3 rfl rfl rfl) ?_
    refine TriL.c1 rfl (op_mv (ltb rfl) rfl) ?_
    refine TriL.c1 rfl (op_iak (ltb rfl) ie23_M3 rfl rfl (Int.natCast_nonneg _) (ixm hi) rfl) ?_
    refine TriL.c1 rfl (op_fak (ltb rfl) fo78_1_M3 rfl) ?_
    refine TriL.c1 rfl (op_ldk (ltb rfl) lk76_M3 rfl rfl) ?_
    refine TriL.c1 rfl (op_lenl (ltb rfl) un76_M3 rfl) ?_
    refine TriL.c1 rfl (op_bin (ltb rfl) rfl rfl rfl) ?_
    refine TriL.nil ?_
    refine Tri.cond rfl (fun hc2 => ?_) (fun hc2 => ?_)
    · have hk := ltm hc2
      have hT := any_step (p := (fun f : Fld => (decide (f.ty = 14) && decide (s.enumIx f.ref < 0)) || (decide (f.ty = 15) && decide (s.msgIx f.ref < 0)))) hk
      refine Tri.skip ?_
      refine Tri.seq ?_
      refine Tri.blk ?_
      refine Tri.seq ?_
      refine Tri.region ?_
      refine TriL.c1 rfl (op_fal (ltb rfl) fo25_1_M3 rfl) ?_
      refine TriL.c1 rfl (op_ldl (ltb rfl) lk23_M3 rfl rfl rfl) ?_
      refine TriL.c1 rfl (op_mv (ltb rfl) rfl) ?_
      refine TriL.c1 rfl (op_iak (ltb rfl) ie23_M3 rfl rfl (Int.natCast_nonneg _) (ixm hi) rfl) ?_
      refine TriL.c1 rfl (op_fak (ltb rfl) fo78_1_M3 rfl) ?_
      refine TriL.c1 rfl (op_ldk (ltb rfl) lk76_M3 rfl rfl) ?_
      refine TriL.c1 rfl (op_mv (ltb rfl) rfl) ?_
      refine TriL.c1 rfl (op_iak (ltb rfl) ie76_M3 rfl rfl (Int.natCast_nonneg _) (ixm hk) rfl) ?_
      refine TriL.c1 rfl (op_ldk (ltb rfl) lk98_M3 rfl rfl) ?_
      refine TriL.c2 rfl (op_all (ltb rfl) zA98_M3 rfl) ?_
      refine TriL.c1 rfl (op_stl lk98_M3 rfl rfl rfl rfl rfl (leb rfl)) ?_
      refine TriL.nil ?_
      refine Tri.seq ?_
      refine Tri.region ?_
      refine TriL.c1 rfl (op_fal (ltb rfl) fo98_2_M3 rfl) ?_
      refine TriL.c1 rfl (op_ldl (ltb rfl) lk3_M3 rfl rfl rfl) ?_
      refine TriL.c1 rfl (op_bin (ltb rfl) rfl rfl rfl) ?_
      refine TriL.c1 rfl (op_mv (ltb rfl) rfl) ?_
      refine TriL.split (d := 36) rfl (fun hg3 => ?_) (fun hg3 => ?_)
      · refine TriL.g1 rfl (ltb rfl) rfl hg3 (op_ldl (ltb rfl) lk25_M3 rfl rfl rfl) ?_
        refine TriL.g1 rfl (ltb rfl) rfl hg3 (op_fal (ltb rfl) fo98_3_M3 rfl) ?_
        refine TriL.g1 rfl (ltb rfl) rfl hg3 (op_ldl (ltb rfl) lk9_M3 rfl rfl rfl) ?_
        refine TriL.g1 rfl (ltb rfl) rfl hg3 (op_call (ltb rfl) fn76_M3 rfl (r_enumIx _ _ (by omega))) ?_
        refine TriL.g1 rfl (ltb rfl) rfl hg3 (op_bin (ltb rfl) rfl rfl rfl) ?_
        refine TriL.c1 rfl (op_pickt (ltb rfl) rfl hg3 rfl) ?_
        refine TriL.c1 rfl (op_mv (ltb rfl) rfl) ?_
        refine TriL.split (d := 43) rfl (fun hg4 => ?_) (fun hg4 => ?_)
        · refine TriL.skipu rfl rfl (ltb rfl) (ltb rfl) rfl hg4 ?_
          refine TriL.skipu rfl rfl (ltb rfl) (ltb rfl) rfl hg4 ?_
          refine TriL.skipu rfl rfl (ltb rfl) (ltb rfl) rfl hg4 ?_
          refine TriL.skipu rfl rfl (ltb rfl) (ltb rfl) rfl hg4 ?_
          refine TriL.skipg rfl rfl (ltb rfl) (ltb rfl) rfl ?_
          refine TriL.skipg rfl rfl (ltb rfl) (ltb rfl) rfl ?_
          refine TriL.skipg rfl rfl (ltb rfl) (ltb rfl) rfl ?_
          refine TriL.skipg rfl rfl (ltb rfl) (ltb rfl) rfl ?_
          refine TriL.skipg rfl rfl (ltb rfl) (ltb rfl) rfl ?_
          refine TriL.skipu rfl rfl (ltb rfl) (ltb rfl) rfl hg4 ?_
          refine TriL.c1 rfl (op_pickt (ltb rfl) rfl hg4 rfl) ?_
          refine TriL.nil ?_
          refine Tri.condT rfl rfl ?_
          refine Tri.seq ?_
          refine Tri.region ?_
          refine TriL.c1 rfl (op_as (ltb rfl) rfl) ?_
          refine TriL.nil ?_
          refine Tri.ret ?_
          exact ⟨.inr rfl, (ResOK.r1 rfl (.tmp rfl .nil)).cast (congrArg AV.bool (by grind [Sch.refs])), rfl⟩
        · refine TriL.g1 rfl (ltb rfl) rfl hg4 (op_fal (ltb rfl) fo98_2_M3 rfl) ?_
          refine TriL.g1 rfl (ltb rfl) rfl hg4 (op_ldl (ltb rfl) lk3_M3 rfl rfl rfl) ?_
          refine TriL.g1 rfl (ltb rfl) rfl hg4 (op_bin (ltb rfl) rfl rfl rfl) ?_
          refine TriL.g1 rfl (ltb rfl) rfl hg4 (op_mv (ltb rfl) rfl) ?_
          refine TriL.split (d := 47) rfl (fun hg5 => ?_) (fun hg5 => ?_)
          · refine TriL.g1 rfl (ltb rfl) rfl hg5 (op_ldl (ltb rfl) lk25_M3 rfl rfl rfl) ?_
            refine TriL.g1 rfl (ltb rfl) rfl hg5 (op_fal (ltb rfl) fo98_3_M3 rfl) ?_
            refine TriL.g1 rfl (ltb rfl) rfl hg5 (op_ldl (ltb rfl) lk9_M3 rfl rfl rfl) ?_
            refine TriL.g1 rfl (ltb rfl) rfl hg5 (op_call (ltb rfl) fn52_M3 rfl (r_msgIx _ _ (by omega))) ?_
            refine TriL.g1 rfl (ltb rfl) rfl hg5 (op_bin (ltb rfl) rfl rfl rfl) ?_
            refine TriL.g1 rfl (ltb rfl) rfl hg4 (op_pickt (ltb rfl) rfl hg5 rfl) ?_
            refine TriL.c1 rfl (op_pickf (ltb rfl) rfl hg4 rfl) ?_
            refine TriL.nil ?_
            refine Tri.cond rfl (fun hc6 => ?_) (fun hc6 => ?_)
            · refine Tri.seq ?_
              refine Tri.region ?_
              refine TriL.c1 rfl (op_as (ltb rfl) rfl) ?_
              refine TriL.nil ?_
              refine Tri.ret ?_
              exact ⟨.inr rfl, (ResOK.r1 rfl (.tmp rfl .nil)).cast (congrArg AV.bool (by grind [Sch.refs])), rfl⟩
            · refine Tri.skip ?_
              refine Tri.region ?_
              refine TriL.c1 rfl (op_mv (ltb rfl) rfl) ?_
              refine TriL.c1 rfl (op_bin (ltb rfl) rfl rfl rfl) ?_
              refine TriL.c1 rfl (op_as (ltb rfl) rfl) ?_
              refine TriL.kept (Kept.seti 4 rfl (inc (by omega)) (Kept.keep [.s 4, .h, .s 1, .b 1, .s 3] rfl (by decide) (Kept.now ?_)))
              exact ⟨k + 1, by omega, by grind, rfl⟩
          · refine TriL.skipu rfl rfl (ltb rfl) (ltb rfl) rfl hg5 ?_
            refine TriL.skipu rfl rfl (ltb rfl) (ltb rfl) rfl hg5 ?_
            refine TriL.skipu rfl rfl (ltb rfl) (ltb rfl) rfl hg5 ?_
            refine TriL.skipu rfl rfl (ltb rfl) (ltb rfl) rfl hg5 ?_
            refine TriL.skipu rfl rfl (ltb rfl) (ltb rfl) rfl hg5 ?_
            refine TriL.g1 rfl (ltb rfl) rfl hg4 (op_pickf (ltb rfl) rfl hg5 rfl) ?_
            refine TriL.c1 rfl (op_pickf (ltb rfl) rfl hg4 rfl) ?_
            refine TriL.nil ?_
            refine Tri.condF rfl rfl ?_
            refine Tri.skip ?_
            refine Tri.region ?_
            refine TriL.c1 rfl (op_mv (ltb rfl) rfl) ?_
            refine TriL.c1 rfl (op_bin (ltb rfl) rfl rfl rfl) ?_
            refine TriL.c1 rfl (op_as (ltb rfl) rfl) ?_
            refine TriL.kept (Kept.seti 4 rfl (inc (by omega)) (Kept.keep [.s 4, .h, .s 1, .b 1, .s 3] rfl (by decide) (Kept.now ?_)))
            exact ⟨k + 1, by omega, by grind, rfl⟩
      · refine TriL.skipu rfl rfl (ltb rfl) (ltb rfl) rfl hg3 ?_
        refine TriL.skipu rfl rfl (ltb rfl) (ltb rfl) rfl hg3 ?_
        refine TriL.skipu rfl rfl (ltb rfl) (ltb rfl) rfl hg3 ?_
        refine TriL.skipu rfl rfl (ltb rfl) (ltb rfl) rfl hg3 ?_
        refine TriL.skipu rfl rfl (ltb rfl) (ltb rfl) rfl hg3 ?_
        refine TriL.c1 rfl (op_pickf (ltb rfl) rfl hg3 rfl) ?_
        refine TriL.c1 rfl (op_mv (ltb rfl) rfl) ?_
        refine TriL.g1 rfl (ltb rfl) rfl rfl (op_fal (ltb rfl) fo98_2_M3 rfl) ?_
        refine TriL.g1 rfl (ltb rfl) rfl rfl (op_ldl (ltb rfl) lk3_M3 rfl rfl rfl) ?_
        refine TriL.g1 rfl (ltb rfl) rfl rfl (op_bin (ltb rfl) rfl rfl rfl) ?_
        refine TriL.g1 rfl (ltb rfl) rfl rfl (op_mv (ltb rfl) rfl) ?_
        refine TriL.split (d := 47) rfl (fun hg7 => ?_) (fun hg7 => ?_)
        · refine TriL.g1 rfl (ltb rfl) rfl hg7 (op_ldl (ltb rfl) lk25_M3 rfl rfl rfl) ?_
          refine TriL.g1 rfl (ltb rfl) rfl hg7 (op_fal (ltb rfl) fo98_3_M3 rfl) ?_
          refine TriL.g1 rfl (ltb rfl) rfl hg7 (op_ldl (ltb rfl) lk9_M3 rfl rfl rfl) ?_
          refine TriL.g1 rfl (ltb rfl) rfl hg7 (op_call (ltb rfl) fn52_M3 rfl (r_msgIx _ _ (by omega))) ?_
          refine TriL.g1 rfl (ltb rfl) rfl hg7 (op_bin (ltb rfl) rfl rfl rfl) ?_
          refine TriL.g1 rfl (ltb rfl) rfl rfl (op_pickt (ltb rfl) rfl hg7 rfl) ?_
          refine TriL.c1 rfl (op_pickf (ltb rfl) rfl rfl rfl) ?_
          refine TriL.nil ?_
          refine Tri.cond rfl (fun hc8 => ?_) (fun hc8 => ?_)
          · refine Tri.seq ?_
            refine Tri.region ?_
            refine TriL.c1 rfl (op_as (ltb rfl) rfl) ?_
            refine TriL.nil ?_
            refine Tri.ret ?_
            exact ⟨.inr rfl, (ResOK.r1 rfl (.tmp rfl .nil)).cast (congrArg AV.bool (by grind [Sch.refs])), rfl⟩
          · refine Tri.skip ?_
            refine Tri.region ?_
            refine TriL.c1 rfl (op_mv (ltb rfl) rfl) ?_
            refine TriL.c1 rfl (op_bin (ltb rfl) rfl rfl rfl) ?_
            refine TriL.c1 rfl (op_as (ltb rfl) rfl) ?_
            refine TriL.kept (Kept.seti 4 rfl (inc (by omega)) (Kept.keep [.s 4, .h, .s 1, .b 1, .s 3] rfl (by decide) (Kept.now ?_)))
            exact ⟨k + 1, by omega, by grind, rfl⟩
        · refine TriL.skipu rfl rfl (ltb rfl) (ltb rfl) rfl hg7 ?_
          refine TriL.skipu rfl rfl (ltb rfl) (ltb rfl) rfl hg7 ?_
          refine TriL.skipu rfl rfl (ltb rfl) (ltb rfl) rfl hg7 ?_
          refine TriL.skipu rfl rfl (ltb rfl) (ltb rfl) rfl hg7 ?_
          refine TriL.skipu rfl rfl (ltb rfl) (ltb rfl) rfl hg7 ?_
          refine TriL.g1 rfl (ltb rfl) rfl rfl (op_pickf (ltb rfl) rfl hg7 rfl) ?_
          refine TriL.c1 rfl (op_pickf (ltb rfl) rfl rfl rfl) ?_
          refine TriL.nil ?_
          refine Tri.condF rfl rfl ?_
          refine Tri.skip ?_
          refine Tri.region ?_
          refine TriL.c1 rfl (op_mv (ltb rfl) rfl) ?_
          refine TriL.c1 rfl (op_bin (ltb rfl) rfl rfl rfl) ?_
          refine TriL.c1 rfl (op_as (ltb rfl) rfl) ?_
          refine TriL.kept (Kept.seti 4 rfl (inc (by omega)) (Kept.keep [.s 4, .h, .s 1, .b 1, .s 3] rfl (by decide) (Kept.now ?_)))
          exact ⟨k + 1, by omega, by grind, rfl⟩
    · have hk := gem hc2
      have hT := any_end (p := (fun f : Fld => (decide (f.ty = 14) && decide (s.enumIx f.ref < 0)) || (decide (f.ty = 15) && decide (s.msgIx f.ref < 0)))) hk
      refine Tri.exit ?_
      refine Tri.region ?_
      refine TriL.c1 rfl (op_mv (ltb rfl) rfl) ?_
      refine TriL.c1 rfl (op_bin (ltb rfl) rfl rfl rfl) ?_
      refine TriL.c1 rfl (op_as (ltb rfl) rfl) ?_
      refine TriL.kept (Kept.seti 3 rfl (inc (by omega)) (Kept.keep [.s 3, .h, .s 1, .b 1] rfl (by decide) (Kept.now ?_)))
      exact ⟨i + 1, by omega, by grind, rfl⟩
  · have hi := gem hc1
    have hS := any_end (p := (fun m : Msg => m.fields.any fun f => (decide (f.ty = 14) && decide (s.enumIx f.ref < 0)) || (decide (f.ty = 15) && decide (s.msgIx f.ref < 0)))) hi
    refine Tri.exit ?_
    refine Tri.seq ?_
    refine Tri.region ?_
    refine TriL.c1 rfl (op_as (ltb rfl) rfl) ?_
    refine TriL.nil ?_
    refine Tri.ret ?_
    exact ⟨.inr rfl, (ResOK.r1 rfl (.tmp rfl .nil)).cast (congrArg AV.bool (by grind [Sch.refs])), rfl⟩
end Go.Proofs.YtnpgcmeclkncnaaGreatDoor.X
