/- which values are values of a message of a schema, in the program. -/
import Derived.Test.YtabihkfhoohfnaaGreatDoorZCE
import Derived.Test.YtabihkfhoohfnaaGreatDoorZCD
import Derived.Shelf.Strings.Builder1
import Derived.Shelf.Small.Bits
import Derived.Shelf.Small.Strs
import Derived.Shelf.Small.Wraps
import Derived.Shelf.Strings.BuilderF
import Derived.Shelf.Strings.BuilderK
import Derived.Shelf.Strconv.Itoa0
import Derived.Shelf.Strconv.Itoa1
import Derived.Shelf.LaysM
import Derived.Shelf.Strconv.Itoa2
import Derived.Shelf.Strconv.Itoa3
import Derived.Shelf.Strconv.Clone
import Derived.Ground.MpProg
import Derived.Shelf.Pu.ParseUintPublic10
import Derived.Shelf.Pu.ErrVarParseUint
import Derived.Shelf.Strings.Search1
import Derived.Shelf.Strings.Search2
import Derived.Shelf.Strings.Search3
import Derived.Shelf.Strings.Shaped
import Derived.Shelf.Sort.Plain
import Derived.Shelf.Strings.Prefix
import Derived.Shelf.Strings.BuilderCap
import Derived.Ground.Names2Prog
import Derived.Shelf.Slices.Clone
import Derived.Shelf.Slices.In.SortNone
import Derived.Ground.SlgnProg
import Derived.Shelf.SlicesE.Clone
import Derived.Test.YtabihkfhoohfnaaGreatDoorProg
import Derived.Lib.Walk
import Derived.Lib.ItoaMem
import Derived.WalkKit
import Derived.BigCall
import Derived.BigGuard
import Derived.Test.YtabihkfhoohfnaaGreatDoorZCC
set_option linter.unusedVariables false
set_option linter.unusedSimpArgs false
set_option linter.unusedSectionVars false
set_option maxRecDepth 100000
namespace Go.Proofs.YtabihkfhoohfnaaGreatDoor.X
open Go Go.RowKit Go.Proofs
theorem fn107_q : isFn Tryz.prog 107 = true := by kernel_rfl
theorem fn108_q : isFn Tryz.prog 108 = true := by kernel_rfl
theorem fn109_q : isFn Tryz.prog 109 = true := by kernel_rfl
theorem fn180_q : isFn Tryz.prog 180 = true := by kernel_rfl
theorem fn181_q : isFn Tryz.prog 181 = true := by kernel_rfl
theorem fn182_q : isFn Tryz.prog 182 = true := by kernel_rfl
theorem fn183_q : isFn Tryz.prog 183 = true := by kernel_rfl
theorem fn206_q : isFn Tryz.prog 206 = true := by kernel_rfl
theorem fn69_q : isFn Tryz.prog 69 = true := by kernel_rfl
theorem fn75_q : isFn Tryz.prog 75 = true := by kernel_rfl
theorem fo55_0_q : fo Tryz.prog 55 0 = some 0 := by kernel_rfl
theorem fo96_3_q : fo Tryz.prog 96 3 = some 3 := by kernel_rfl
theorem lk126_q : lk Tryz.prog 126 = some (true, 4) := by kernel_rfl
theorem lk44_q : lk Tryz.prog 44 = some (true, 3) := by kernel_rfl
theorem lk55_q : lk Tryz.prog 55 = some (true, 2) := by kernel_rfl
theorem lk94_q : lk Tryz.prog 94 = some (true, 2) := by kernel_rfl
theorem un205_q : Tryz.prog.underlying 205 = some (TypeDesc.map 9 3) := Tryz.underlying205
theorem un3_q : Tryz.prog.underlying 3 = some (TypeDesc.int IntKind.i64) := Tryz.underlying3
theorem zA126_q : zeroA Tryz.prog 126 = some [AV.int IntKind.i64 (0), AV.int IntKind.i64 (0), AV.int IntKind.u64 (0), AV.str []] := by kernel_rfl
theorem zA44_q : zeroA Tryz.prog 44 = some [AV.int IntKind.u64 (0), AV.str [], AV.sl []] := by kernel_rfl
theorem zA55_q : zeroA Tryz.prog 55 = some [AV.int IntKind.i64 (0), AV.sl []] := by kernel_rfl
theorem zv3_q : ∀ w, (zeroValue 3).run Tryz.prog w = .ok (.int .i64 0) w := fun w => by kernel_rfl
theorem p_val (s : Sch) (f : Fld) (v : Val) (hvs : v.s.length ≤ 9223372036854775807) (ih : ∀ u ∈ v.m, ∀ name : Str, Pure Tryz.prog 109 [s.av, .str name, .agg u.cells] (.bool (u.ok s name))) : Pure Tryz.prog 69 [s.av, f.av, .agg v.cells] (.bool (v.ok s f)) := by
 have hE := Val.ok_eq s f v
 have hT1 := @treeOk1_one s f.ref v.m
 have hT0 := @treeOk1_no s f.ref v.m
 refine Pure.of_tri Tryz.func69 rfl rfl (ltb rfl) fun H => ?_
 refine Tri.seq (Tri.region ?_)
 iterate 3 (refine TriL.c2 rfl (op_box (ltb rfl) rfl rfl rfl) ?_)
 refine TriL.c1 rfl (op_as (ltb rfl) rfl) ?_
 refine TriL.nil ?_
 refine Tri.joinu [.h, .s 3, .b 3, .s 4, .b 4, .s 5, .b 5] (fun (pl : Bool) => [(.s 7, .sv (.v (.bool pl)))]) (fun (pl : Bool) => pl = (decide (v.n = 0) && decide (v.m.length = 0))) rfl ?_ ?_
 ·-- region 1 valid.go:16
  refine Tri.region ?_
  refine TriL.c1 rfl (op_fal (ltb rfl) fo44_0_q rfl) ?_
  refine TriL.c1 rfl (op_ldl (ltb rfl) lk41_q rfl rfl rfl) ?_
  refine TriL.c1 rfl (op_bin (ltb rfl) rfl rfl rfl) ?_
  refine TriL.c1 rfl (op_mv (ltb rfl) rfl) ?_
  refine TriL.split (d := 11) rfl (fun hg1 => ?_) (fun hg1 => ?_)
  ·refine TriL.g1 rfl (ltb rfl) rfl hg1 (op_fal (ltb rfl) fo44_2_q rfl) ?_
   refine TriL.g1 rfl (ltb rfl) rfl hg1 (op_ldl (ltb rfl) lk42_q rfl rfl rfl) ?_
   refine TriL.g1 rfl (ltb rfl) rfl hg1 (op_lenl (ltb rfl) un42_q rfl) ?_
   refine TriL.g1 rfl (ltb rfl) rfl hg1 (op_bin (ltb rfl) rfl rfl rfl) ?_
   refine TriL.c1 rfl (op_pickt (ltb rfl) rfl hg1 rfl) ?_
   refine TriL.c1 rfl (op_as (ltb rfl) rfl) ?_
   refine TriL.kept (Kept.keep [.s 7, .h, .s 3, .b 3, .s 4, .b 4, .s 5, .b 5] rfl (by decide) (Kept.now ?_))
   exact ⟨_, by grind, rfl⟩
  ·iterate 4 (refine TriL.skipu rfl rfl (ltb rfl) (ltb rfl) rfl hg1 ?_)
   refine TriL.c1 rfl (op_pickf (ltb rfl) rfl hg1 rfl) ?_
   refine TriL.c1 rfl (op_as (ltb rfl) rfl) ?_
   refine TriL.kept (Kept.keep [.s 7, .h, .s 3, .b 3, .s 4, .b 4, .s 5, .b 5] rfl (by decide) (Kept.now ?_))
   exact ⟨_, by grind, rfl⟩
 ·rintro pl hF2
  refine Tri.seq (Tri.blk (Tri.seq (Tri.region ?_)))
  refine TriL.c1 rfl (op_fal (ltb rfl) fo96_2_q rfl) ?_
  refine TriL.c1 rfl (op_ldl (ltb rfl) lk3_q rfl rfl rfl) ?_
  refine TriL.c1 rfl (op_call (ltb rfl) fn107_q rfl (p_numT _)) ?_
  refine TriL.c1 rfl (op_as (ltb rfl) rfl) ?_
  refine TriL.nil ?_
  refine Tri.cond rfl (fun hc2 => ?_) (fun hc2 => ?_)
  ·refine Tri.seq (Tri.region ?_)
   refine TriL.c1 rfl (op_fal (ltb rfl) fo96_2_q rfl) ?_
   refine TriL.c1 rfl (op_ldl (ltb rfl) lk3_q rfl rfl rfl) ?_
   refine TriL.c1 rfl (op_fal (ltb rfl) fo44_0_q rfl) ?_
   refine TriL.c1 rfl (op_ldl (ltb rfl) lk41_q rfl rfl rfl) ?_
   refine TriL.c1 rfl (op_call (ltb rfl) fn108_q rfl (p_may _ _)) ?_
   refine TriL.c1 rfl (op_mv (ltb rfl) rfl) ?_
   refine TriL.split (d := 26) rfl (fun hg3 => ?_) (fun hg3 => ?_)
   ·refine TriL.g1 rfl (ltb rfl) rfl hg3 (op_fal (ltb rfl) fo44_1_q rfl) ?_
    refine TriL.g1 rfl (ltb rfl) rfl hg3 (op_ldl (ltb rfl) lk9_q rfl rfl rfl) ?_
    refine TriL.g1 rfl (ltb rfl) rfl hg3 (op_bin (ltb rfl) rfl rfl rfl) ?_
    refine TriL.c1 rfl (op_pickt (ltb rfl) rfl hg3 rfl) ?_
    refine TriL.c1 rfl (op_mv (ltb rfl) rfl) ?_
    refine TriL.split (d := 31) rfl (fun hg4 => ?_) (fun hg4 => ?_)
    ·refine TriL.g1 rfl (ltb rfl) rfl hg4 (op_fal (ltb rfl) fo44_2_q rfl) ?_
     refine TriL.g1 rfl (ltb rfl) rfl hg4 (op_ldl (ltb rfl) lk42_q rfl rfl rfl) ?_
     refine TriL.g1 rfl (ltb rfl) rfl hg4 (op_lenl (ltb rfl) un42_q rfl) ?_
     refine TriL.g1 rfl (ltb rfl) rfl hg4 (op_bin (ltb rfl) rfl rfl rfl) ?_
     refine TriL.c1 rfl (op_pickt (ltb rfl) rfl hg4 rfl) ?_
     refine TriL.c1 rfl (op_as (ltb rfl) rfl) ?_
     refine TriL.nil (Tri.ret ?_)
     exact ⟨.inr rfl, (ResOK.r1 rfl (.tmp rfl .nil)).cast (congrArg AV.bool (by grind [])), rfl⟩
    ·iterate 4 (refine TriL.skipu rfl rfl (ltb rfl) (ltb rfl) rfl hg4 ?_)
     refine TriL.c1 rfl (op_pickf (ltb rfl) rfl hg4 rfl) ?_
     refine TriL.c1 rfl (op_as (ltb rfl) rfl) ?_
     refine TriL.nil (Tri.ret ?_)
     exact ⟨.inr rfl, (ResOK.r1 rfl (.tmp rfl .nil)).cast (congrArg AV.bool (by grind [])), rfl⟩
   ·iterate 3 (refine TriL.skipu rfl rfl (ltb rfl) (ltb rfl) rfl hg3 ?_)
    refine TriL.c1 rfl (op_pickf (ltb rfl) rfl hg3 rfl) ?_
    refine TriL.c1 rfl (op_mv (ltb rfl) rfl) ?_
    iterate 4 (refine TriL.skipu rfl rfl (ltb rfl) (ltb rfl) rfl rfl ?_)
    refine TriL.c1 rfl (op_pickf (ltb rfl) rfl rfl rfl) ?_
    refine TriL.c1 rfl (op_as (ltb rfl) rfl) ?_
    refine TriL.nil (Tri.ret ?_)
    exact ⟨.inr rfl, (ResOK.r1 rfl (.tmp rfl .nil)).cast (congrArg AV.bool (by grind [])), rfl⟩
  ·refine Tri.seq (Tri.region ?_)
   refine TriL.c1 rfl (op_fal (ltb rfl) fo96_2_q rfl) ?_
   refine TriL.c1 rfl (op_ldl (ltb rfl) lk3_q rfl rfl rfl) ?_
   refine TriL.c1 rfl (op_bin (ltb rfl) rfl rfl rfl) ?_
   refine TriL.c1 rfl (op_as (ltb rfl) rfl) ?_
   refine TriL.nil ?_
   refine Tri.cond rfl (fun hc5 => ?_) (fun hc5 => ?_)
   ·refine Tri.seq (Tri.region ?_)
    iterate 2 (refine TriL.c1 rfl (op_mv (ltb rfl) rfl) ?_)
    refine TriL.split (d := 42) rfl (fun hg6 => ?_) (fun hg6 => ?_)
    ·refine TriL.g1 rfl (ltb rfl) rfl hg6 (op_fal (ltb rfl) fo44_1_q rfl) ?_
     refine TriL.g1 rfl (ltb rfl) rfl hg6 (op_ldl (ltb rfl) lk9_q rfl rfl rfl) ?_
     refine TriL.g1 rfl (ltb rfl) rfl hg6 (op_call (ltb rfl) fn75_q rfl (p_validS _ hvs)) ?_
     refine TriL.c1 rfl (op_pickt (ltb rfl) rfl hg6 rfl) ?_
     refine TriL.c1 rfl (op_as (ltb rfl) rfl) ?_
     refine TriL.nil (Tri.ret ?_)
     exact ⟨.inr rfl, (ResOK.r1 rfl (.tmp rfl .nil)).cast (congrArg AV.bool (by grind [])), rfl⟩
    ·iterate 3 (refine TriL.skipu rfl rfl (ltb rfl) (ltb rfl) rfl hg6 ?_)
     refine TriL.c1 rfl (op_pickf (ltb rfl) rfl hg6 rfl) ?_
     refine TriL.c1 rfl (op_as (ltb rfl) rfl) ?_
     refine TriL.nil (Tri.ret ?_)
     exact ⟨.inr rfl, (ResOK.r1 rfl (.tmp rfl .nil)).cast (congrArg AV.bool (by grind [])), rfl⟩
   ·refine Tri.seq (Tri.region ?_)
    refine TriL.c1 rfl (op_fal (ltb rfl) fo96_2_q rfl) ?_
    refine TriL.c1 rfl (op_ldl (ltb rfl) lk3_q rfl rfl rfl) ?_
    refine TriL.c1 rfl (op_bin (ltb rfl) rfl rfl rfl) ?_
    refine TriL.c1 rfl (op_as (ltb rfl) rfl) ?_
    refine TriL.nil ?_
    refine Tri.cond rfl (fun hc7 => ?_) (fun hc7 => ?_)
    ·refine Tri.seq (Tri.region ?_)
     refine TriL.c1 rfl (op_mv (ltb rfl) rfl) ?_
     refine TriL.c1 rfl (op_as (ltb rfl) rfl) ?_
     refine TriL.nil (Tri.ret ?_)
     exact ⟨.inr rfl, (ResOK.r1 rfl (.tmp rfl .nil)).cast (congrArg AV.bool (by grind [])), rfl⟩
    ·refine Tri.seq (Tri.region ?_)
     refine TriL.c1 rfl (op_fal (ltb rfl) fo96_2_q rfl) ?_
     refine TriL.c1 rfl (op_ldl (ltb rfl) lk3_q rfl rfl rfl) ?_
     refine TriL.c1 rfl (op_bin (ltb rfl) rfl rfl rfl) ?_
     refine TriL.c1 rfl (op_as (ltb rfl) rfl) ?_
     refine TriL.nil ?_
     refine Tri.cond rfl (fun hc8 => ?_) (fun hc8 => ?_)
     ·refine Tri.seq ?_
      refine Tri.drawn mixed rfl ?_
      refine TriD.c1 rfl (op_fal (ltb rfl) fo44_0_q rfl) ?_
      refine TriD.c1 rfl (op_ldl (ltb rfl) lk41_q rfl rfl rfl) ?_
      refine TriD.c1 rfl (op_bin (ltb rfl) rfl rfl rfl) ?_
      refine TriD.c1 rfl (op_mv (ltb rfl) rfl) ?_
      refine TriD.split (d := 59) rfl (fun hg9 => ?_) (fun hg9 => ?_)
      ·refine TriD.g1 rfl (ltb rfl) rfl hg9 (op_fal (ltb rfl) fo44_1_q rfl) ?_
       refine TriD.g1 rfl (ltb rfl) rfl hg9 (op_ldl (ltb rfl) lk9_q rfl rfl rfl) ?_
       refine TriD.g1 rfl (ltb rfl) rfl hg9 (op_bin (ltb rfl) rfl rfl rfl) ?_
       refine TriD.c1 rfl (op_pickt (ltb rfl) rfl hg9 rfl) ?_
       refine TriD.c1 rfl (op_mv (ltb rfl) rfl) ?_
       refine TriD.split (d := 64) rfl (fun hg10 => ?_) (fun hg10 => ?_)
       ·refine TriD.g1 rfl (ltb rfl) rfl hg10 (op_fal (ltb rfl) fo44_2_q rfl) ?_
        refine TriD.g1 rfl (ltb rfl) rfl hg10 (op_ldl (ltb rfl) lk42_q rfl rfl rfl) ?_
        refine TriD.g1 rfl (ltb rfl) rfl hg10 (op_lenl (ltb rfl) un42_q rfl) ?_
        refine TriD.g1 rfl (ltb rfl) rfl hg10 (op_bin (ltb rfl) rfl rfl rfl) ?_
        refine TriD.c1 rfl (op_pickt (ltb rfl) rfl hg10 rfl) ?_
        refine TriD.c1 rfl (op_mv (ltb rfl) rfl) ?_
        refine TriD.split (d := 70) rfl (fun hg11 => ?_) (fun hg11 => ?_)
        ·refine TriD.g1 rfl (ltb rfl) rfl hg11 (op_ldl (ltb rfl) lk94_q rfl rfl rfl) ?_
         refine TriD.g1 rfl (ltb rfl) rfl hg11 (op_fal (ltb rfl) fo96_3_q rfl) ?_
         refine TriD.g1 rfl (ltb rfl) rfl hg11 (op_ldl (ltb rfl) lk9_q rfl rfl rfl) ?_
         refine TriD.g1 rfl (ltb rfl) rfl hg11 (op_fal (ltb rfl) fo44_2_q rfl) ?_
         refine TriD.g1 rfl (ltb rfl) rfl hg11 (op_ldl (ltb rfl) lk42_q rfl rfl rfl) ?_
         refine TriD.g1 rfl (ltb rfl) rfl hg11 (op_iak (ltb rfl) ie42_q rfl rfl (by decide) (ixmE (i := 0) Tree.av_eq (by grind)) rfl) ?_
         refine TriD.g1 rfl (ltb rfl) rfl hg11 (op_ldk (ltb rfl) lk59_q rfl rfl) ?_
         refine TriD.g1 rfl (ltb rfl) rfl hg11 (op_call (ltb rfl) fn109_q rfl (ih _ (List.getElem_mem (by grind)) _)) ?_
         refine TriD.c1 rfl (op_pickt (ltb rfl) rfl hg11 rfl) ?_
         refine TriD.c1 rfl (op_as (ltb rfl) rfl) ?_
         refine TriD.nil (by kernel_rfl) (Kept.now ?_)
         refine Tri.ret ?_
         exact ⟨.inr rfl, (ResOK.r1 rfl (.tmp rfl .nil)).cast (congrArg AV.bool (by have hm1 : v.m.length = 1 := (by have h := hg11; simp at h; omega); have hq := hT1 hm1; have h0 : v.n = 0 := (by simpa using hg9); have hs0 : v.s = [] := (by simpa using hg10); have hty : f.ty = 15 := (by simpa using hc8); have hnt : numT 15 = false := (by decide); rw [hE, if_neg (by simp [hc2]), if_neg (by omega), if_neg (by omega), if_pos hty, hq, h0, hs0]; simp)), rfl⟩
        ·iterate 8 (refine TriD.skipu rfl rfl (ltb rfl) (ltb rfl) rfl hg11 ?_)
         refine TriD.c1 rfl (op_pickf (ltb rfl) rfl hg11 rfl) ?_
         refine TriD.c1 rfl (op_as (ltb rfl) rfl) ?_
         refine TriD.nil (by kernel_rfl) (Kept.now ?_)
         refine Tri.ret ?_
         exact ⟨.inr rfl, (ResOK.r1 rfl (.tmp rfl .nil)).cast (congrArg AV.bool (by grind [])), rfl⟩
       ·iterate 4 (refine TriD.skipu rfl rfl (ltb rfl) (ltb rfl) rfl hg10 ?_)
        refine TriD.c1 rfl (op_pickf (ltb rfl) rfl hg10 rfl) ?_
        refine TriD.c1 rfl (op_mv (ltb rfl) rfl) ?_
        iterate 8 (refine TriD.skipu rfl rfl (ltb rfl) (ltb rfl) rfl rfl ?_)
        refine TriD.c1 rfl (op_pickf (ltb rfl) rfl rfl rfl) ?_
        refine TriD.c1 rfl (op_as (ltb rfl) rfl) ?_
        refine TriD.nil (by kernel_rfl) (Kept.now ?_)
        refine Tri.ret ?_
        exact ⟨.inr rfl, (ResOK.r1 rfl (.tmp rfl .nil)).cast (congrArg AV.bool (by grind [])), rfl⟩
      ·iterate 3 (refine TriD.skipu rfl rfl (ltb rfl) (ltb rfl) rfl hg9 ?_)
       refine TriD.c1 rfl (op_pickf (ltb rfl) rfl hg9 rfl) ?_
       refine TriD.c1 rfl (op_mv (ltb rfl) rfl) ?_
       iterate 4 (refine TriD.skipu rfl rfl (ltb rfl) (ltb rfl) rfl rfl ?_)
       refine TriD.c1 rfl (op_pickf (ltb rfl) rfl rfl rfl) ?_
       refine TriD.c1 rfl (op_mv (ltb rfl) rfl) ?_
       iterate 8 (refine TriD.skipu rfl rfl (ltb rfl) (ltb rfl) rfl rfl ?_)
       refine TriD.c1 rfl (op_pickf (ltb rfl) rfl rfl rfl) ?_
       refine TriD.c1 rfl (op_as (ltb rfl) rfl) ?_
       refine TriD.nil (by kernel_rfl) (Kept.now ?_)
       refine Tri.ret ?_
       exact ⟨.inr rfl, (ResOK.r1 rfl (.tmp rfl .nil)).cast (congrArg AV.bool (by grind [])), rfl⟩
     ·refine Tri.skip (Tri.seq (Tri.region ?_))
      refine TriL.c1 rfl (op_as (ltb rfl) rfl) ?_
      refine TriL.nil (Tri.ret ?_)
      exact ⟨.inr rfl, (ResOK.r1 rfl (.tmp rfl .nil)).cast (congrArg AV.bool (by grind [])), rfl⟩
theorem p_vals (s : Sch) (f : Fld) (l : List Val) (hl : l.length ≤ 9223372036854775807) (hvs : ∀ v ∈ l, v.s.length ≤ 9223372036854775807) (ih : ∀ v ∈ l, ∀ u ∈ v.m, ∀ name : Str, Pure Tryz.prog 109 [s.av, .str name, .agg u.cells] (.bool (u.ok s name))) : Pure Tryz.prog 181 [s.av, f.av, .sl (l.map Val.av)] (.bool (decide (0 < l.length) && (f.rep || decide (l.length = 1)) && l.all fun v => v.ok s f && (!f.hidden || (!decide (v.n = 0) || !(v.s == []))))) := by
 refine Pure.of_tri Tryz.func181 rfl rfl (ltb rfl) fun H => ?_
 refine Tri.seq (Tri.region ?_)
 iterate 2 (refine TriL.c2 rfl (op_box (ltb rfl) rfl rfl rfl) ?_)
 refine TriL.c1 rfl (op_as (ltb rfl) rfl) ?_
 refine TriL.nil ?_
 refine Tri.joinu [.h, .s 2, .s 3, .b 3, .s 4, .b 4] (fun (_ : Unit) => []) (fun (_ : Unit) => 0 < l.length ∧ (f.rep = true ∨ l.length = 1)) rfl ?_ ?_
 ·refine Tri.seq (Tri.region ?_)
  refine TriL.c1 rfl (op_mv (ltb rfl) rfl) ?_
  refine TriL.c1 rfl (op_lenl (ltb rfl) un52_q rfl) ?_
  refine TriL.c1 rfl (op_bin (ltb rfl) rfl rfl rfl) ?_
  refine TriL.c1 rfl (op_mv (ltb rfl) rfl) ?_
  refine TriL.split (d := 12) rfl (fun hg1 => ?_) (fun hg1 => ?_)
  ·iterate 4 (refine TriL.skipu rfl rfl (ltb rfl) (ltb rfl) rfl hg1 ?_)
   iterate 3 (refine TriL.skipg rfl rfl (ltb rfl) (ltb rfl) rfl ?_)
   refine TriL.skipu rfl rfl (ltb rfl) (ltb rfl) rfl hg1 ?_
   refine TriL.c1 rfl (op_pickt (ltb rfl) rfl hg1 rfl) ?_
   refine TriL.nil ?_
   refine Tri.condT rfl rfl ?_
   refine Tri.seq (Tri.region ?_)
   refine TriL.c1 rfl (op_as (ltb rfl) rfl) ?_
   refine TriL.nil (Tri.ret ?_)
   exact ⟨.inr rfl, (ResOK.r1 rfl (.tmp rfl .nil)).cast (congrArg AV.bool (by grind [])), rfl⟩
  ·refine TriL.g1 rfl (ltb rfl) rfl hg1 (op_fal (ltb rfl) fo96_4_q rfl) ?_
   refine TriL.g1 rfl (ltb rfl) rfl hg1 (op_ldl (ltb rfl) lk4_q rfl rfl rfl) ?_
   refine TriL.g1 rfl (ltb rfl) rfl hg1 (op_un (ltb rfl) rfl rfl) ?_
   refine TriL.g1 rfl (ltb rfl) rfl hg1 (op_mv (ltb rfl) rfl) ?_
   refine TriL.split (d := 16) rfl (fun hg2 => ?_) (fun hg2 => ?_)
   ·refine TriL.g1 rfl (ltb rfl) rfl hg2 (op_mv (ltb rfl) rfl) ?_
    refine TriL.g1 rfl (ltb rfl) rfl hg2 (op_lenl (ltb rfl) un52_q rfl) ?_
    refine TriL.g1 rfl (ltb rfl) rfl hg2 (op_bin (ltb rfl) rfl rfl rfl) ?_
    refine TriL.g1 rfl (ltb rfl) rfl hg1 (op_pickt (ltb rfl) rfl hg2 rfl) ?_
    refine TriL.c1 rfl (op_pickf (ltb rfl) rfl hg1 rfl) ?_
    refine TriL.nil ?_
    refine Tri.cond rfl (fun hc3 => ?_) (fun hc3 => ?_)
    ·refine Tri.seq (Tri.region ?_)
     refine TriL.c1 rfl (op_as (ltb rfl) rfl) ?_
     refine TriL.nil (Tri.ret ?_)
     exact ⟨.inr rfl, (ResOK.r1 rfl (.tmp rfl .nil)).cast (congrArg AV.bool (by grind [])), rfl⟩
    ·refine Tri.ofKept (Kept.keep [.h, .s 2, .s 3, .b 3, .s 4, .b 4] rfl (by decide) (Kept.now ?_))
     refine Tri.skip ?_
     exact ⟨(), by grind, rfl⟩
   ·iterate 3 (refine TriL.skipu rfl rfl (ltb rfl) (ltb rfl) rfl hg2 ?_)
    refine TriL.g1 rfl (ltb rfl) rfl hg1 (op_pickf (ltb rfl) rfl hg2 rfl) ?_
    refine TriL.c1 rfl (op_pickf (ltb rfl) rfl hg1 rfl) ?_
    refine TriL.nil ?_
    refine Tri.condF rfl rfl ?_
    refine Tri.ofKept (Kept.keep [.h, .s 2, .s 3, .b 3, .s 4, .b 4] rfl (by decide) (Kept.now ?_))
    refine Tri.skip ?_
    exact ⟨(), by grind, rfl⟩
 ·rintro _ hF3
  refine Tri.seq (Tri.seq (Tri.region ?_))
  refine TriL.c1 rfl (op_mv (ltb rfl) rfl) ?_
  refine TriL.c1 rfl (op_lenl (ltb rfl) un52_q rfl) ?_
  refine TriL.c1 rfl (op_mv (ltb rfl) rfl) ?_
  refine TriL.nil (Tri.blk ?_)
  refine Tri.ofKept (Kept.keep [.s 24, .h, .s 3, .b 3, .s 4, .b 4, .s 22, .s 23] rfl (by decide) (Kept.now ?_))
  -- LOOP 1
  refine Tri.loopk (fun (i : Nat) => [(.s 24, .sv (.v (.int .i64 (i : Int))))]) _ (fun (i : Nat) => (l.drop i).all (fun v => v.ok s f && (!f.hidden || (!decide (v.n = 0) || !(v.s == [])))) = l.all (fun v => v.ok s f && (!f.hidden || (!decide (v.n = 0) || !(v.s == []))))) (fun (i : Nat) => l.length - i) 0 rfl (by simp) ?_
  rintro i hI
  refine Tri.seq (Tri.region ?_)
  refine TriL.c1 rfl (op_bin (ltb rfl) rfl rfl rfl) ?_
  refine TriL.nil (Tri.seq ?_)
  refine Tri.cond rfl (fun hc4 => ?_) (fun hc4 => ?_)
  ·have hi := ltm hc4
   have hS := all_step (p := fun v : Val => v.ok s f && (!f.hidden || (!decide (v.n = 0) || !(v.s == [])))) hi
   refine Tri.skip (Tri.seq (Tri.blk (Tri.seq (Tri.region ?_))))
   refine TriL.c1 rfl (op_iak (ltb rfl) ie52_q rfl rfl (Int.natCast_nonneg _) (ixmE Val.av_eq hi) rfl) ?_
   refine TriL.c1 rfl (op_ldk (ltb rfl) lk44_q rfl rfl) ?_
   refine TriL.c2 rfl (op_all (ltb rfl) zA44_q rfl) ?_
   refine TriL.c1 rfl (op_stl lk44_q rfl rfl rfl rfl rfl (leb rfl)) ?_
   refine TriL.nil (Tri.seq (Tri.region ?_))
   refine TriL.c1 rfl (op_ldl (ltb rfl) lk94_q rfl rfl rfl) ?_
   refine TriL.c1 rfl (op_ldl (ltb rfl) lk96_q rfl rfl rfl) ?_
   refine TriL.c1 rfl (op_ldl (ltb rfl) lk44_q rfl rfl rfl) ?_
   refine TriL.c1 rfl (op_call (ltb rfl) fn69_q rfl (p_val _ _ _ (hvs _ (List.getElem_mem hi)) (ih _ (List.getElem_mem hi)))) ?_
   refine TriL.c1 rfl (op_un (ltb rfl) rfl rfl) ?_
   refine TriL.c1 rfl (op_mv (ltb rfl) rfl) ?_
   refine TriL.split (d := 33) rfl (fun hg5 => ?_) (fun hg5 => ?_)
   ·iterate 3 (refine TriL.skipu rfl rfl (ltb rfl) (ltb rfl) rfl hg5 ?_)
    iterate 3 (refine TriL.skipg rfl rfl (ltb rfl) (ltb rfl) rfl ?_)
    iterate 2 (refine TriL.skipu rfl rfl (ltb rfl) (ltb rfl) rfl hg5 ?_)
    iterate 3 (refine TriL.skipg rfl rfl (ltb rfl) (ltb rfl) rfl ?_)
    refine TriL.skipu rfl rfl (ltb rfl) (ltb rfl) rfl hg5 ?_
    refine TriL.c1 rfl (op_pickt (ltb rfl) rfl hg5 rfl) ?_
    refine TriL.nil ?_
    refine Tri.condT rfl rfl ?_
    refine Tri.seq (Tri.region ?_)
    refine TriL.c1 rfl (op_as (ltb rfl) rfl) ?_
    refine TriL.nil (Tri.ret ?_)
    exact ⟨.inr rfl, (ResOK.r1 rfl (.tmp rfl .nil)).cast (congrArg AV.bool (by grind [])), rfl⟩
   ·refine TriL.g1 rfl (ltb rfl) rfl hg5 (op_ldl (ltb rfl) lk96_q rfl rfl rfl) ?_
    refine TriL.g1 rfl (ltb rfl) rfl hg5 (op_call (ltb rfl) fn206_q rfl (p_hidden _)) ?_
    refine TriL.g1 rfl (ltb rfl) rfl hg5 (op_mv (ltb rfl) rfl) ?_
    refine TriL.split (d := 36) rfl (fun hg6 => ?_) (fun hg6 => ?_)
    ·refine TriL.g1 rfl (ltb rfl) rfl hg6 (op_fal (ltb rfl) fo44_0_q rfl) ?_
     refine TriL.g1 rfl (ltb rfl) rfl hg6 (op_ldl (ltb rfl) lk41_q rfl rfl rfl) ?_
     refine TriL.g1 rfl (ltb rfl) rfl hg6 (op_bin (ltb rfl) rfl rfl rfl) ?_
     refine TriL.g1 rfl (ltb rfl) rfl hg5 (op_pickt (ltb rfl) rfl hg6 rfl) ?_
     refine TriL.g1 rfl (ltb rfl) rfl hg5 (op_mv (ltb rfl) rfl) ?_
     refine TriL.split (d := 41) rfl (fun hg7 => ?_) (fun hg7 => ?_)
     ·refine TriL.g1 rfl (ltb rfl) rfl hg7 (op_fal (ltb rfl) fo44_1_q rfl) ?_
      refine TriL.g1 rfl (ltb rfl) rfl hg7 (op_ldl (ltb rfl) lk9_q rfl rfl rfl) ?_
      refine TriL.g1 rfl (ltb rfl) rfl hg7 (op_bin (ltb rfl) rfl rfl rfl) ?_
      refine TriL.g1 rfl (ltb rfl) rfl hg5 (op_pickt (ltb rfl) rfl hg7 rfl) ?_
      refine TriL.c1 rfl (op_pickf (ltb rfl) rfl hg5 rfl) ?_
      refine TriL.nil ?_
      refine Tri.cond rfl (fun hc8 => ?_) (fun hc8 => ?_)
      ·refine Tri.seq (Tri.region ?_)
       refine TriL.c1 rfl (op_as (ltb rfl) rfl) ?_
       refine TriL.nil (Tri.ret ?_)
       exact ⟨.inr rfl, (ResOK.r1 rfl (.tmp rfl .nil)).cast (congrArg AV.bool (by grind [])), rfl⟩
      ·refine Tri.skip (Tri.region ?_)
       refine TriL.c1 rfl (op_bin (ltb rfl) rfl rfl rfl) ?_
       refine TriL.c1 rfl (op_mv (ltb rfl) rfl) ?_
       refine TriL.kept (Kept.seti 24 rfl (inc (by omega)) (Kept.keep [.s 24, .h, .s 3, .b 3, .s 4, .b 4, .s 22, .s 23] rfl (by decide) (Kept.now ?_)))
       exact ⟨i + 1, by omega, by grind, rfl⟩
     ·iterate 3 (refine TriL.skipu rfl rfl (ltb rfl) (ltb rfl) rfl hg7 ?_)
      refine TriL.g1 rfl (ltb rfl) rfl hg5 (op_pickf (ltb rfl) rfl hg7 rfl) ?_
      refine TriL.c1 rfl (op_pickf (ltb rfl) rfl hg5 rfl) ?_
      refine TriL.nil ?_
      refine Tri.condF rfl rfl ?_
      refine Tri.skip (Tri.region ?_)
      refine TriL.c1 rfl (op_bin (ltb rfl) rfl rfl rfl) ?_
      refine TriL.c1 rfl (op_mv (ltb rfl) rfl) ?_
      refine TriL.kept (Kept.seti 24 rfl (inc (by omega)) (Kept.keep [.s 24, .h, .s 3, .b 3, .s 4, .b 4, .s 22, .s 23] rfl (by decide) (Kept.now ?_)))
      exact ⟨i + 1, by omega, by grind, rfl⟩
    ·iterate 3 (refine TriL.skipu rfl rfl (ltb rfl) (ltb rfl) rfl hg6 ?_)
     refine TriL.g1 rfl (ltb rfl) rfl hg5 (op_pickf (ltb rfl) rfl hg6 rfl) ?_
     refine TriL.g1 rfl (ltb rfl) rfl hg5 (op_mv (ltb rfl) rfl) ?_
     iterate 3 (refine TriL.skipu rfl rfl (ltb rfl) (ltb rfl) rfl rfl ?_)
     refine TriL.g1 rfl (ltb rfl) rfl hg5 (op_pickf (ltb rfl) rfl rfl rfl) ?_
     refine TriL.c1 rfl (op_pickf (ltb rfl) rfl hg5 rfl) ?_
     refine TriL.nil ?_
     refine Tri.condF rfl rfl ?_
     refine Tri.skip (Tri.region ?_)
     refine TriL.c1 rfl (op_bin (ltb rfl) rfl rfl rfl) ?_
     refine TriL.c1 rfl (op_mv (ltb rfl) rfl) ?_
     refine TriL.kept (Kept.seti 24 rfl (inc (by omega)) (Kept.keep [.s 24, .h, .s 3, .b 3, .s 4, .b 4, .s 22, .s 23] rfl (by decide) (Kept.now ?_)))
     exact ⟨i + 1, by omega, by grind, rfl⟩
  ·have hi := gem hc4
   have hS := all_end (p := fun v : Val => v.ok s f && (!f.hidden || (!decide (v.n = 0) || !(v.s == [])))) hi
   refine Tri.exit (Tri.seq (Tri.region ?_))
   refine TriL.c1 rfl (op_as (ltb rfl) rfl) ?_
   refine TriL.nil (Tri.ret ?_)
   exact ⟨.inr rfl, (ResOK.r1 rfl (.tmp rfl .nil)).cast (congrArg AV.bool (by grind [])), rfl⟩
theorem p_restk (m : Msg) (r : Rw) (hl : m.fields.length ≤ 1000) : Pure Tryz.prog 182 ([r.av] ++ [.kp m.cells]) (.bool (decide (0 ≤ m.at r.num))) := by
 refine Pure.of_tri Tryz.func182 rfl rfl (ltb rfl) fun H => ?_
 refine Tri.seq (Tri.region ?_)
 refine TriL.c2 rfl (op_box (ltb rfl) rfl rfl rfl) ?_
 refine TriL.c1 rfl (op_as (ltb rfl) rfl) ?_
 refine TriL.nil (Tri.seq (Tri.region ?_))
 refine TriL.c1 rfl (op_ldk (ltb rfl) lk157_q rfl rfl) ?_
 refine TriL.c1 rfl (op_fal (ltb rfl) fo126_0_q rfl) ?_
 refine TriL.c1 rfl (op_ldl (ltb rfl) lk3_q rfl rfl rfl) ?_
 refine TriL.c1 rfl (op_call (ltb rfl) fn180_q rfl (p_number _ _ (by omega))) ?_
 refine TriL.c1 rfl (op_bin (ltb rfl) rfl rfl rfl) ?_
 refine TriL.c1 rfl (op_as (ltb rfl) rfl) ?_
 refine TriL.nil (Tri.ret ?_)
 exact ⟨.inr rfl, (ResOK.r1 rfl (.tmp rfl .nil)).cast rfl, rfl⟩
theorem p_rest (m : Msg) (l : List Rw) (hl : l.length ≤ 9223372036854775807) (hm : m.fields.length ≤ 1000) : Pure Tryz.prog 152 [m.av, .sl (l.map Rw.av)] (.bool (l.all (restOK m))) := by
 refine Pure.of_tri Tryz.func152 rfl rfl (ltb rfl) fun H => ?_
 refine Tri.seq (Tri.region ?_)
 refine TriL.c2 rfl (op_box (ltb rfl) rfl rfl rfl) ?_
 refine TriL.c1 rfl (op_as (ltb rfl) rfl) ?_
 refine TriL.nil (Tri.seq ?_)
 refine Tri.ofKept (Kept.fzb 2 rfl rfl (Kept.now ?_))
 refine Tri.region ?_
 refine TriL.c1 rfl (op_mkf (ltb rfl) rfl) ?_
 refine TriL.c1 rfl (op_as (ltb rfl) rfl) ?_
 refine TriL.nil (Tri.seq (Tri.seq (Tri.region ?_)))
 refine TriL.c1 rfl (op_mv (ltb rfl) rfl) ?_
 refine TriL.c1 rfl (op_lenl (ltb rfl) un57_q rfl) ?_
 refine TriL.c1 rfl (op_mv (ltb rfl) rfl) ?_
 refine TriL.nil (Tri.blk ?_)
 refine Tri.ofKept (Kept.keep [.s 11, .h, .s 5, .s 9, .s 10] rfl (by decide) (Kept.now ?_))
 -- LOOP 1
 refine Tri.loopk (fun (i : Nat) => [(.s 11, .sv (.v (.int .i64 (i : Int))))]) _ (fun (i : Nat) => (l.drop i).all (restOK m) = l.all (restOK m)) (fun (i : Nat) => l.length - i) 0 rfl (by simp) ?_
 rintro i hI
 refine Tri.seq (Tri.region ?_)
 refine TriL.c1 rfl (op_bin (ltb rfl) rfl rfl rfl) ?_
 refine TriL.nil (Tri.seq ?_)
 refine Tri.cond rfl (fun hc1 => ?_) (fun hc1 => ?_)
 ·have hi := ltm hc1
  have hS := all_step (p := restOK m) hi
  have hA := m.at_cases (l[i]'hi).num
  refine Tri.skip (Tri.seq (Tri.blk (Tri.seq (Tri.region ?_))))
  refine TriL.c1 rfl (op_iak (ltb rfl) ie57_q rfl rfl (Int.natCast_nonneg _) (ixm hi) rfl) ?_
  refine TriL.c1 rfl (op_ldk (ltb rfl) lk126_q rfl rfl) ?_
  refine TriL.c2 rfl (op_all (ltb rfl) zA126_q rfl) ?_
  refine TriL.c1 rfl (op_stl lk126_q rfl rfl rfl rfl rfl (leb rfl)) ?_
  refine TriL.nil (Tri.seq (Tri.region ?_))
  refine TriL.c1 rfl (op_ldl (ltb rfl) lk126_q rfl rfl rfl) ?_
  refine TriL.c1 rfl (op_call (ltb rfl) fn183_q rfl (p_rright _)) ?_
  refine TriL.c1 rfl (op_un (ltb rfl) rfl rfl) ?_
  refine TriL.c1 rfl (op_mv (ltb rfl) rfl) ?_
  refine TriL.split (d := 18) rfl (fun hg2 => ?_) (fun hg2 => ?_)
  ·iterate 3 (refine TriL.skipu rfl rfl (ltb rfl) (ltb rfl) rfl hg2 ?_)
   refine TriL.c1 rfl (op_pickt (ltb rfl) rfl hg2 rfl) ?_
   refine TriL.nil ?_
   refine Tri.condT rfl rfl ?_
   refine Tri.seq (Tri.region ?_)
   refine TriL.c1 rfl (op_as (ltb rfl) rfl) ?_
   refine TriL.nil (Tri.ret ?_)
   exact ⟨.inr rfl, (ResOK.r1 rfl (.tmp rfl .nil)).cast (congrArg AV.bool (by grind [restOK])), rfl⟩
  ·refine TriL.g1 rfl (ltb rfl) rfl hg2 (op_mv (ltb rfl) rfl) ?_
   refine TriL.g1 rfl (ltb rfl) rfl hg2 (op_ldl (ltb rfl) lk126_q rfl rfl rfl) ?_
   refine TriL.g1 rfl (ltb rfl) rfl hg2 (op_callc (ltb rfl) fn182_q rfl rfl (p_restk m (l[i]'hi) hm)) ?_
   refine TriL.c1 rfl (op_pickf (ltb rfl) rfl hg2 rfl) ?_
   refine TriL.nil ?_
   refine Tri.cond rfl (fun hc3 => ?_) (fun hc3 => ?_)
   ·refine Tri.seq (Tri.region ?_)
    refine TriL.c1 rfl (op_as (ltb rfl) rfl) ?_
    refine TriL.nil (Tri.ret ?_)
    exact ⟨.inr rfl, (ResOK.r1 rfl (.tmp rfl .nil)).cast (congrArg AV.bool (by grind [restOK])), rfl⟩
   ·refine Tri.skip (Tri.region ?_)
    refine TriL.c1 rfl (op_bin (ltb rfl) rfl rfl rfl) ?_
    refine TriL.c1 rfl (op_mv (ltb rfl) rfl) ?_
    refine TriL.kept (Kept.seti 11 rfl (inc (by omega)) (Kept.keep [.s 11, .h, .s 5, .s 9, .s 10] rfl (by decide) (Kept.now ?_)))
    exact ⟨i + 1, by omega, by grind [restOK], rfl⟩
 ·have hi := gem hc1
  have hS := all_end (p := restOK m) hi
  refine Tri.exit (Tri.seq (Tri.region ?_))
  refine TriL.c1 rfl (op_as (ltb rfl) rfl) ?_
  refine TriL.nil (Tri.ret ?_)
  exact ⟨.inr rfl, (ResOK.r1 rfl (.tmp rfl .nil)).cast (congrArg AV.bool (by grind [restOK])), rfl⟩
theorem p_slots (s : Sch) (m : Msg) (l : List Slot) (hl : l.length ≤ 9223372036854775807) (hm : m.fields.length ≤ 1000) (ho : ∀ f ∈ m.fields, f.one.length ≤ 1000) (hvals : ∀ x ∈ l, ∀ f : Fld, Pure Tryz.prog 181 [s.av, f.av, .sl (x.vals.map Val.av)] (.bool (decide (0 < x.vals.length) && (f.rep || decide (x.vals.length = 1)) && x.vals.all fun v => v.ok s f && (!f.hidden || (!decide (v.n = 0) || !(v.s == [])))))) : Pure Tryz.prog 151 [s.av, m.av, .sl (l.map Slot.av)] (.bool (slotsOk s m l none [])) := by
 refine Pure.of_tri Tryz.func151 rfl rfl (ltb rfl) fun H => ?_
 refine Tri.seq (Tri.region ?_)
 iterate 2 (refine TriL.c2 rfl (op_box (ltb rfl) rfl rfl rfl) ?_)
 refine TriL.c1 rfl (op_as (ltb rfl) rfl) ?_
 refine TriL.nil (Tri.seq (Tri.region ?_))
 refine TriL.c2 rfl (op_mkm (kt := 9) (et := 3) (ltb rfl) rfl) ?_
 refine TriL.c1 rfl (op_as (ltb rfl) rfl) ?_
 refine TriL.nil (Tri.seq (Tri.seq (Tri.region ?_)))
 refine TriL.c1 rfl (op_mv (ltb rfl) rfl) ?_
 refine TriL.c1 rfl (op_lenl (ltb rfl) un56_q rfl) ?_
 refine TriL.c1 rfl (op_mv (ltb rfl) rfl) ?_
 refine TriL.nil (Tri.blk ?_)
 refine Tri.ofKept (Kept.keep [.s 15, .b 12, .h, .s 2, .s 3, .b 3, .s 4, .b 4, .s 7, .s 13, .s 14] rfl (by decide) (Kept.now ?_))
 -- LOOP 1
 refine Tri.loopk (fun ((i, f) : Nat × (List UInt8 → Int)) => [(.s 15, .sv (.v (.int .i64 (i : Int)))), (.b 12, .raw (MapSI Tryz.prog 9 3 i f))]) _ (fun ((i, f) : Nat × (List UInt8 → Int)) => (∀ key, f key = ((((l.take i).map m.oneOf).count key : Nat) : Int)) ∧ slotsAt s m l i = slotsOk s m l none []) (fun ((i, f) : Nat × (List UInt8 → Int)) => l.length - i) (0, fun _ => 0) rfl ⟨by simp, slotsAt_zero s m l⟩ ?_
 rintro ⟨i, f⟩ ⟨hf, hI⟩
 refine Tri.seq (Tri.region ?_)
 refine TriL.c1 rfl (op_bin (ltb rfl) rfl rfl rfl) ?_
 refine TriL.nil (Tri.seq ?_)
 refine Tri.cond rfl (fun hc1 => ?_) (fun hc1 => ?_)
 ·have hi := ltm hc1
  have hS := @slotsAt_step s m l i hi
  refine Tri.skip (Tri.seq (Tri.blk (Tri.seq (Tri.region ?_))))
  refine TriL.c1 rfl (op_mv (ltb rfl) rfl) ?_
  refine TriL.c1 rfl (op_iak (ltb rfl) ie56_q rfl rfl (Int.natCast_nonneg _) (ixmE Slot.av_eq hi) rfl) ?_
  refine TriL.c1 rfl (op_ldk (ltb rfl) lk55_q rfl rfl) ?_
  refine TriL.c2 rfl (op_all (ltb rfl) zA55_q rfl) ?_
  refine TriL.c1 rfl (op_as (ltb rfl) rfl) ?_
  refine TriL.c1 rfl (op_stl lk55_q rfl rfl rfl rfl rfl (leb rfl)) ?_
  refine TriL.nil (Tri.seq (Tri.region ?_))
  refine TriL.c1 rfl (op_ldl (ltb rfl) lk157_q rfl rfl rfl) ?_
  refine TriL.c1 rfl (op_fal (ltb rfl) fo55_0_q rfl) ?_
  refine TriL.c1 rfl (op_ldl (ltb rfl) lk3_q rfl rfl rfl) ?_
  refine TriL.c1 rfl (op_call (ltb rfl) fn180_q rfl (p_number _ _ (by omega))) ?_
  refine TriL.c1 rfl (op_as (ltb rfl) rfl) ?_
  refine TriL.nil ?_
  refine Tri.joinu [.h, .s 2, .s 3, .b 3, .s 4, .b 4, .s 7, .b 12, .s 10, .s 13, .s 14, .s 15] (fun (_ : Unit) => []) (fun (_ : Unit) => decide (m.at (l[i]'hi).num < 0) = false ∧ (match lastN l i with | none => true | some n => decide (n < (l[i]'hi).num)) = true ∧ (l[i]'hi).ok s m = true) rfl ?_ ?_
  ·refine Tri.seq ?_
   refine Tri.drawn mixed rfl ?_
   refine TriD.c1 rfl (op_mv (ltb rfl) rfl) ?_
   refine TriD.c1 rfl (op_bin (ltb rfl) rfl rfl rfl) ?_
   refine TriD.c1 rfl (op_mv (ltb rfl) rfl) ?_
   refine TriD.split (d := 26) rfl (fun hg2 => ?_) (fun hg2 => ?_)
   ·iterate 3 (refine TriD.skipu rfl rfl (ltb rfl) (ltb rfl) rfl hg2 ?_)
    iterate 9 (refine TriD.skipg rfl rfl (ltb rfl) (ltb rfl) rfl ?_)
    refine TriD.skipu rfl rfl (ltb rfl) (ltb rfl) rfl hg2 ?_
    refine TriD.c1 rfl (op_pickt (ltb rfl) rfl hg2 rfl) ?_
    refine TriD.c1 rfl (op_mv (ltb rfl) rfl) ?_
    iterate 10 (refine TriD.skipu rfl rfl (ltb rfl) (ltb rfl) rfl rfl ?_)
    refine TriD.c1 rfl (op_pickt (ltb rfl) rfl rfl rfl) ?_
    refine TriD.nil (by kernel_rfl) (Kept.now ?_)
    refine Tri.condT rfl rfl ?_
    refine Tri.seq (Tri.region ?_)
    refine TriL.c1 rfl (op_as (ltb rfl) rfl) ?_
    refine TriL.nil (Tri.ret ?_)
    exact ⟨.inr rfl, (ResOK.r1 rfl (.tmp rfl .nil)).cast (congrArg AV.bool (by have hO : (l[i]'hi).ok s m = false := (by rw [Slot.ok_eq, Msg.at_no hg2]); grind)), rfl⟩
   ·refine TriD.g1 rfl (ltb rfl) rfl hg2 (op_mv (ltb rfl) rfl) ?_
    refine TriD.g1 rfl (ltb rfl) rfl hg2 (op_bin (ltb rfl) rfl rfl rfl) ?_
    refine TriD.g1 rfl (ltb rfl) rfl hg2 (op_mv (ltb rfl) rfl) ?_
    refine TriD.split (d := 29) rfl (fun hg3 => ?_) (fun hg3 => ?_)
    ·iterate 2 (refine TriD.g1 rfl (ltb rfl) rfl hg3 (op_mv (ltb rfl) rfl) ?_)
     refine TriD.g1 rfl (ltb rfl) rfl hg3 (op_bin (ltb rfl) rfl rfl rfl) ?_
     refine TriD.g1 rfl (ltb rfl) rfl hg3 (op_iak (ltb rfl) ie56_q rfl rfl (by rw [dec1 (by have := of_decide_eq_true hg3; omega) (by omega)]; exact Int.natCast_nonneg _) (ixmE1 Slot.av_eq (dec1 (by have := of_decide_eq_true hg3; omega) (by omega)) (show i - 1 < l.length by omega)) rfl) ?_
     refine TriD.g1 rfl (ltb rfl) rfl hg3 (op_fak (ltb rfl) fo55_0_q rfl) ?_
     refine TriD.g1 rfl (ltb rfl) rfl hg3 (op_ldk (ltb rfl) lk3_q rfl rfl) ?_
     refine TriD.g1 rfl (ltb rfl) rfl hg3 (op_fal (ltb rfl) fo55_0_q rfl) ?_
     refine TriD.g1 rfl (ltb rfl) rfl hg3 (op_ldl (ltb rfl) lk3_q rfl rfl rfl) ?_
     refine TriD.g1 rfl (ltb rfl) rfl hg3 (op_bin (ltb rfl) rfl rfl rfl) ?_
     refine TriD.g1 rfl (ltb rfl) rfl hg2 (op_pickt (ltb rfl) rfl hg3 rfl) ?_
     refine TriD.c1 rfl (op_pickf (ltb rfl) rfl hg2 rfl) ?_
     refine TriD.c1 rfl (op_mv (ltb rfl) rfl) ?_
     refine TriD.split (d := 41) rfl (fun hg4 => ?_) (fun hg4 => ?_)
     ·iterate 10 (refine TriD.skipu rfl rfl (ltb rfl) (ltb rfl) rfl hg4 ?_)
      refine TriD.c1 rfl (op_pickt (ltb rfl) rfl hg4 rfl) ?_
      refine TriD.nil (by kernel_rfl) (Kept.now ?_)
      refine Tri.condT rfl rfl ?_
      refine Tri.seq (Tri.region ?_)
      refine TriL.c1 rfl (op_as (ltb rfl) rfl) ?_
      refine TriL.nil (Tri.ret ?_)
      exact ⟨.inr rfl, (ResOK.r1 rfl (.tmp rfl .nil)).cast (congrArg AV.bool (by rw [lastN_pos (by have := of_decide_eq_true hg3; omega) hi] at hS; grind)), rfl⟩
     ·refine TriD.g1 rfl (ltb rfl) rfl hg4 (op_ldl (ltb rfl) lk94_q rfl rfl rfl) ?_
      refine TriD.g1 rfl (ltb rfl) rfl hg4 (op_fal (ltb rfl) fo157_1_q rfl) ?_
      refine TriD.g1 rfl (ltb rfl) rfl hg4 (op_ldl (ltb rfl) lk155_q rfl rfl rfl) ?_
      refine TriD.g1 rfl (ltb rfl) rfl hg4 (op_mv (ltb rfl) rfl) ?_
      refine TriD.g1 rfl (ltb rfl) rfl hg4 (op_iak (ltb rfl) ie155_q rfl rfl (Msg.at_nn hg2) (ixm1 (Msg.at_eq hg2) (Msg.at_lt hg2)) rfl) ?_
      refine TriD.g1 rfl (ltb rfl) rfl hg4 (op_ldk (ltb rfl) lk96_q rfl rfl) ?_
      refine TriD.g1 rfl (ltb rfl) rfl hg4 (op_fal (ltb rfl) fo55_1_q rfl) ?_
      refine TriD.g1 rfl (ltb rfl) rfl hg4 (op_ldl (ltb rfl) lk52_q rfl rfl rfl) ?_
      refine TriD.g1 rfl (ltb rfl) rfl hg4 (op_call (ltb rfl) fn181_q rfl (hvals _ (List.getElem_mem hi) _)) ?_
      refine TriD.g1 rfl (ltb rfl) rfl hg4 (op_un (ltb rfl) rfl rfl) ?_
      refine TriD.c1 rfl (op_pickf (ltb rfl) rfl hg4 rfl) ?_
      refine TriD.nil (by kernel_rfl) (Kept.now ?_)
      refine Tri.cond rfl (fun hc5 => ?_) (fun hc5 => ?_)
      ·refine Tri.seq (Tri.region ?_)
       refine TriL.c1 rfl (op_as (ltb rfl) rfl) ?_
       refine TriL.nil (Tri.ret ?_)
       exact ⟨.inr rfl, (ResOK.r1 rfl (.tmp rfl .nil)).cast (congrArg AV.bool (by have hO : (l[i]'hi).ok s m = false := (by rw [Slot.ok_vals (Msg.at_fix hg2)]; exact ntr hc5); grind)), rfl⟩
      ·refine Tri.ofKept (Kept.keep [.h, .s 2, .s 3, .b 3, .s 4, .b 4, .s 7, .b 12, .s 10, .s 13, .s 14, .s 15] rfl (by decide) (Kept.now ?_))
       refine Tri.skip ?_
       exact ⟨(), ⟨hg2, by rw [lastN_pos (by have := of_decide_eq_true hg3; omega) hi]; simpa using hg4, by rw [Slot.ok_vals (Msg.at_fix hg2)]; exact nfl hc5⟩, rfl⟩
    ·iterate 9 (refine TriD.skipu rfl rfl (ltb rfl) (ltb rfl) rfl hg3 ?_)
     refine TriD.g1 rfl (ltb rfl) rfl hg2 (op_pickf (ltb rfl) rfl hg3 rfl) ?_
     refine TriD.c1 rfl (op_pickf (ltb rfl) rfl hg2 rfl) ?_
     refine TriD.c1 rfl (op_mv (ltb rfl) rfl) ?_
     refine TriD.g1 rfl (ltb rfl) rfl rfl (op_ldl (ltb rfl) lk94_q rfl rfl rfl) ?_
     refine TriD.g1 rfl (ltb rfl) rfl rfl (op_fal (ltb rfl) fo157_1_q rfl) ?_
     refine TriD.g1 rfl (ltb rfl) rfl rfl (op_ldl (ltb rfl) lk155_q rfl rfl rfl) ?_
     refine TriD.g1 rfl (ltb rfl) rfl rfl (op_mv (ltb rfl) rfl) ?_
     refine TriD.g1 rfl (ltb rfl) rfl rfl (op_iak (ltb rfl) ie155_q rfl rfl (Msg.at_nn hg2) (ixm1 (Msg.at_eq hg2) (Msg.at_lt hg2)) rfl) ?_
     refine TriD.g1 rfl (ltb rfl) rfl rfl (op_ldk (ltb rfl) lk96_q rfl rfl) ?_
     refine TriD.g1 rfl (ltb rfl) rfl rfl (op_fal (ltb rfl) fo55_1_q rfl) ?_
     refine TriD.g1 rfl (ltb rfl) rfl rfl (op_ldl (ltb rfl) lk52_q rfl rfl rfl) ?_
     refine TriD.g1 rfl (ltb rfl) rfl rfl (op_call (ltb rfl) fn181_q rfl (hvals _ (List.getElem_mem hi) _)) ?_
     refine TriD.g1 rfl (ltb rfl) rfl rfl (op_un (ltb rfl) rfl rfl) ?_
     refine TriD.c1 rfl (op_pickf (ltb rfl) rfl rfl rfl) ?_
     refine TriD.nil (by kernel_rfl) (Kept.now ?_)
     refine Tri.cond rfl (fun hc6 => ?_) (fun hc6 => ?_)
     ·refine Tri.seq (Tri.region ?_)
      refine TriL.c1 rfl (op_as (ltb rfl) rfl) ?_
      refine TriL.nil (Tri.ret ?_)
      exact ⟨.inr rfl, (ResOK.r1 rfl (.tmp rfl .nil)).cast (congrArg AV.bool (by have hO : (l[i]'hi).ok s m = false := (by rw [Slot.ok_vals (Msg.at_fix hg2)]; exact ntr hc6); grind)), rfl⟩
     ·refine Tri.ofKept (Kept.keep [.h, .s 2, .s 3, .b 3, .s 4, .b 4, .s 7, .b 12, .s 10, .s 13, .s 14, .s 15] rfl (by decide) (Kept.now ?_))
      refine Tri.skip ?_
      exact ⟨(), ⟨hg2, by have h0 : i = 0 := (by have := of_decide_eq_false hg3; omega); subst h0; rw [lastN_zero], by rw [Slot.ok_vals (Msg.at_fix hg2)]; exact nfl hc6⟩, rfl⟩
  ·rintro _ hF8
   refine Tri.seq (Tri.region ?_)
   refine TriL.c1 rfl (op_fal (ltb rfl) fo157_1_q rfl) ?_
   refine TriL.c1 rfl (op_ldl (ltb rfl) lk155_q rfl rfl rfl) ?_
   refine TriL.c1 rfl (op_mv (ltb rfl) rfl) ?_
   refine TriL.c1 rfl (op_iak (ltb rfl) ie155_q rfl rfl (Msg.at_nn hF8.1) (ixm1 (Msg.at_eq hF8.1) (Msg.at_lt hF8.1)) rfl) ?_
   refine TriL.c1 rfl (op_fak (ltb rfl) fo96_6_q rfl) ?_
   refine TriL.c1 rfl (op_ldk (ltb rfl) lk9_q rfl rfl) ?_
   refine TriL.c1 rfl (op_as (ltb rfl) rfl) ?_
   refine TriL.nil (Tri.seq (Tri.region ?_))
   iterate 2 (refine TriL.c1 rfl (op_mv (ltb rfl) rfl) ?_)
   refine TriL.c1 rfl (op_lku (ltb rfl) un205_q un9_q un3_q zv3_q rfl rfl rfl (by have := ho _ (List.getElem_mem (Msg.at_lt hF8.1)); omega)) ?_
   refine TriL.c1 rfl (op_bin (ltb rfl) rfl rfl rfl) ?_
   refine TriL.c1 rfl (op_mpu un205_q un9_q un3_q rfl rfl rfl rfl (by have := ho _ (List.getElem_mem (Msg.at_lt hF8.1)); omega) (by omega) (wf64 _)) ?_
   refine TriL.nil (Tri.seq (Tri.region ?_))
   refine TriL.c1 rfl (op_mv (ltb rfl) rfl) ?_
   refine TriL.c1 rfl (op_bin (ltb rfl) rfl rfl rfl) ?_
   refine TriL.c1 rfl (op_mv (ltb rfl) rfl) ?_
   refine TriL.split (d := 65) rfl (fun hg7 => ?_) (fun hg7 => ?_)
   ·iterate 2 (refine TriL.g1 rfl (ltb rfl) rfl hg7 (op_mv (ltb rfl) rfl) ?_)
    refine TriL.g1 rfl (ltb rfl) rfl hg7 (op_lku (ltb rfl) un205_q un9_q un3_q zv3_q rfl rfl rfl (by have := ho _ (List.getElem_mem (Msg.at_lt hF8.1)); omega)) ?_
    refine TriL.g1 rfl (ltb rfl) rfl hg7 (op_bin (ltb rfl) rfl rfl rfl) ?_
    refine TriL.c1 rfl (op_pickt (ltb rfl) rfl hg7 rfl) ?_
    refine TriL.nil ?_
    refine Tri.cond rfl (fun hc8 => ?_) (fun hc8 => ?_)
    ·refine Tri.seq (Tri.region ?_)
     refine TriL.c1 rfl (op_as (ltb rfl) rfl) ?_
     refine TriL.nil (Tri.ret ?_)
     exact ⟨.inr rfl, (ResOK.r1 rfl (.tmp rfl .nil)).cast (congrArg AV.bool (by have hN := @cnt_new m l i f (m.fields[m.ixN (l[i]'hi).num]'(Msg.at_lt hF8.1)).one hf (by omega); have hX : (1 < IntKind.i64.wrap (f (m.fields[m.ixN (l[i]'hi).num]'(Msg.at_lt hF8.1)).one + 1)) := (by simpa using hc8); have hQ : newOne ((l.take i).map m.oneOf) (m.oneOf (l[i]'hi)) = false := (by rw [oneOf_fix (Msg.at_fix hF8.1)]; unfold newOne; rw [← hN]; simp [hX]; simpa using hg7); grind)), rfl⟩
    ·refine Tri.skip (Tri.region ?_)
     refine TriL.c1 rfl (op_bin (ltb rfl) rfl rfl rfl) ?_
     refine TriL.c1 rfl (op_mv (ltb rfl) rfl) ?_
     refine TriL.kept (Kept.seti 15 rfl (inc (by omega)) (Kept.keep [.s 15, .b 12, .h, .s 2, .s 3, .b 3, .s 4, .b 4, .s 7, .s 13, .s 14] rfl (by decide) (Kept.now ?_)))
     have hN := @cnt_new m l i f (m.fields[m.ixN (l[i]'hi).num]'(Msg.at_lt hF8.1)).one hf (by omega)
     have hX : ¬ (1 < IntKind.i64.wrap (f (m.fields[m.ixN (l[i]'hi).num]'(Msg.at_lt hF8.1)).one + 1)) := by simpa using hc8
     have hQ : newOne ((l.take i).map m.oneOf) (m.oneOf (l[i]'hi)) = true := by rw [oneOf_fix (Msg.at_fix hF8.1)]; unfold newOne; rw [← hN]; simp [hX]
     exact ⟨(i + 1, _), (by dsimp only; omega), ⟨cnt_step hi hf (oneOf_fix (Msg.at_fix hF8.1)) (by omega), by grind⟩, rfl⟩
   ·iterate 4 (refine TriL.skipu rfl rfl (ltb rfl) (ltb rfl) rfl hg7 ?_)
    refine TriL.c1 rfl (op_pickf (ltb rfl) rfl hg7 rfl) ?_
    refine TriL.nil ?_
    refine Tri.condF rfl rfl ?_
    refine Tri.skip (Tri.region ?_)
    refine TriL.c1 rfl (op_bin (ltb rfl) rfl rfl rfl) ?_
    refine TriL.c1 rfl (op_mv (ltb rfl) rfl) ?_
    refine TriL.kept (Kept.seti 15 rfl (inc (by omega)) (Kept.keep [.s 15, .b 12, .h, .s 2, .s 3, .b 3, .s 4, .b 4, .s 7, .s 13, .s 14] rfl (by decide) (Kept.now ?_)))
    have hQ : newOne ((l.take i).map m.oneOf) (m.oneOf (l[i]'hi)) = true := by rw [oneOf_fix (Msg.at_fix hF8.1)]; unfold newOne; simp at hg7; simp [hg7]
    exact ⟨(i + 1, _), (by dsimp only; omega), ⟨cnt_step hi hf (oneOf_fix (Msg.at_fix hF8.1)) (by omega), by grind⟩, rfl⟩
 ·have hi := gem hc1
  have hS := @slotsAt_end s m l i hi
  refine Tri.exit (Tri.seq (Tri.region ?_))
  refine TriL.c1 rfl (op_as (ltb rfl) rfl) ?_
  refine TriL.nil (Tri.ret ?_)
  exact ⟨.inr rfl, (ResOK.r1 rfl (.tmp rfl .nil)).cast (congrArg AV.bool (by grind [])), rfl⟩
/- which values are values of a message of a schema, in the program and in the document. -/
theorem fn114_q : isFn Tryz.prog 114 = true := by kernel_rfl
theorem fn115_q : isFn Tryz.prog 115 = true := by kernel_rfl
theorem fn116_q : isFn Tryz.prog 116 = true := by kernel_rfl
theorem fn117_q : isFn Tryz.prog 117 = true := by kernel_rfl
theorem fn150_q : isFn Tryz.prog 150 = true := by kernel_rfl
theorem fn151_q : isFn Tryz.prog 151 = true := by kernel_rfl
theorem fn152_q : isFn Tryz.prog 152 = true := by kernel_rfl
theorem fn153_q : isFn Tryz.prog 153 = true := by kernel_rfl
theorem fn40_q : isFn Tryz.prog 40 = true := by kernel_rfl
theorem fn73_q : isFn Tryz.prog 73 = true := by kernel_rfl
theorem fn74_q : isFn Tryz.prog 74 = true := by kernel_rfl
theorem fn76_q : isFn Tryz.prog 76 = true := by kernel_rfl
theorem zA157_q : zeroA Tryz.prog 157 = some [AV.str [], AV.sl [], AV.sl []] := by kernel_rfl
theorem zA96_q : zeroA Tryz.prog 96 = some [AV.str [], AV.int IntKind.i64 (0), AV.int IntKind.i64 (0), AV.str [], AV.bool false, AV.bool false, AV.str []] := by kernel_rfl
theorem p_tree1 (s : Sch) (hs : s.fine) (name : Str) (t : Tree) (hb : t.big) (ih : ∀ x ∈ t.slots, ∀ v ∈ x.vals, ∀ u ∈ v.m, ∀ name : Str, Pure Tryz.prog 109 [s.av, .str name, .agg u.cells] (.bool (u.ok s name))) : Pure Tryz.prog 109 [s.av, .str name, .agg t.cells] (.bool (t.ok s name)) := by
 have hsm := hs.m
 have hT := t.ok_eq s name
 refine Pure.of_tri Tryz.func109 rfl rfl (ltb rfl) fun H => ?_
 refine Tri.seq (Tri.region ?_)
 iterate 2 (refine TriL.c2 rfl (op_box (ltb rfl) rfl rfl rfl) ?_)
 refine TriL.c1 rfl (op_as (ltb rfl) rfl) ?_
 refine TriL.nil (Tri.seq (Tri.region ?_))
 refine TriL.c1 rfl (op_ldl (ltb rfl) lk94_q rfl rfl rfl) ?_
 refine TriL.c1 rfl (op_mv (ltb rfl) rfl) ?_
 refine TriL.c1 rfl (op_call (ltb rfl) fn150_q rfl (p_msgIx _ _ (by omega))) ?_
 refine TriL.c1 rfl (op_as (ltb rfl) rfl) ?_
 refine TriL.nil (Tri.seq ?_)
 refine Tri.drawn mixed rfl ?_
 refine TriD.c1 rfl (op_mv (ltb rfl) rfl) ?_
 refine TriD.c1 rfl (op_bin (ltb rfl) rfl rfl rfl) ?_
 refine TriD.c1 rfl (op_mv (ltb rfl) rfl) ?_
 refine TriD.split (d := 13) rfl (fun hg1 => ?_) (fun hg1 => ?_)
 ·refine TriD.g1 rfl (ltb rfl) rfl hg1 (op_ldl (ltb rfl) lk94_q rfl rfl rfl) ?_
  refine TriD.g1 rfl (ltb rfl) rfl hg1 (op_fal (ltb rfl) fo94_1_q rfl) ?_
  refine TriD.g1 rfl (ltb rfl) rfl hg1 (op_ldl (ltb rfl) lk92_q rfl rfl rfl) ?_
  refine TriD.g1 rfl (ltb rfl) rfl hg1 (op_mv (ltb rfl) rfl) ?_
  refine TriD.g1 rfl (ltb rfl) rfl hg1 (op_iak (ltb rfl) ie92_q rfl rfl (Sch.ix_nn (dge hg1)) (ixm1 (Sch.ix_eq (dge hg1)) (Sch.ix_lt (dge hg1))) rfl) ?_
  refine TriD.g1 rfl (ltb rfl) rfl hg1 (op_ldk (ltb rfl) lk157_q rfl rfl) ?_
  refine TriD.g1 rfl (ltb rfl) rfl hg1 (op_fal (ltb rfl) fo59_0_q rfl) ?_
  refine TriD.g1 rfl (ltb rfl) rfl hg1 (op_ldl (ltb rfl) lk56_q rfl rfl rfl) ?_
  refine TriD.g1 rfl (ltb rfl) rfl hg1 (op_call (ltb rfl) fn151_q rfl (p_slots _ _ _ hb.here.s (hs.f _ (List.getElem_mem (Sch.ix_lt (dge hg1)))) (hs.o _ (List.getElem_mem (Sch.ix_lt (dge hg1)))) (fun x hx f => p_vals _ _ _ (hb.here.v _ hx) (hb.here.vs _ hx) (ih _ hx)))) ?_
  refine TriD.c1 rfl (op_pickt (ltb rfl) rfl hg1 rfl) ?_
  refine TriD.c1 rfl (op_mv (ltb rfl) rfl) ?_
  refine TriD.split (d := 24) rfl (fun hg2 => ?_) (fun hg2 => ?_)
  ·refine TriD.g1 rfl (ltb rfl) rfl hg2 (op_fal (ltb rfl) fo94_1_q rfl) ?_
   refine TriD.g1 rfl (ltb rfl) rfl hg2 (op_ldl (ltb rfl) lk92_q rfl rfl rfl) ?_
   refine TriD.g1 rfl (ltb rfl) rfl hg2 (op_mv (ltb rfl) rfl) ?_
   refine TriD.g1 rfl (ltb rfl) rfl hg2 (op_iak (ltb rfl) ie92_q rfl rfl (Sch.ix_nn (dge hg1)) (ixm1 (Sch.ix_eq (dge hg1)) (Sch.ix_lt (dge hg1))) rfl) ?_
   refine TriD.g1 rfl (ltb rfl) rfl hg2 (op_ldk (ltb rfl) lk157_q rfl rfl) ?_
   refine TriD.g1 rfl (ltb rfl) rfl hg2 (op_fal (ltb rfl) fo59_1_q rfl) ?_
   refine TriD.g1 rfl (ltb rfl) rfl hg2 (op_ldl (ltb rfl) lk57_q rfl rfl rfl) ?_
   refine TriD.g1 rfl (ltb rfl) rfl hg2 (op_call (ltb rfl) fn152_q rfl (p_rest _ _ hb.here.r (hs.f _ (List.getElem_mem (Sch.ix_lt (dge hg1)))))) ?_
   refine TriD.c1 rfl (op_pickt (ltb rfl) rfl hg2 rfl) ?_
   refine TriD.c1 rfl (op_as (ltb rfl) rfl) ?_
   refine TriD.nil (by kernel_rfl) (Kept.now ?_)
   refine Tri.ret ?_
   exact ⟨.inr rfl, (ResOK.r1 rfl (.tmp rfl .nil)).cast (congrArg AV.bool (by rw [hT, Sch.ix_at (dge hg1)]; grind)), rfl⟩
  ·iterate 8 (refine TriD.skipu rfl rfl (ltb rfl) (ltb rfl) rfl hg2 ?_)
   refine TriD.c1 rfl (op_pickf (ltb rfl) rfl hg2 rfl) ?_
   refine TriD.c1 rfl (op_as (ltb rfl) rfl) ?_
   refine TriD.nil (by kernel_rfl) (Kept.now ?_)
   refine Tri.ret ?_
   exact ⟨.inr rfl, (ResOK.r1 rfl (.tmp rfl .nil)).cast (congrArg AV.bool (by rw [hT, Sch.ix_at (dge hg1)]; grind)), rfl⟩
 ·iterate 9 (refine TriD.skipu rfl rfl (ltb rfl) (ltb rfl) rfl hg1 ?_)
  refine TriD.c1 rfl (op_pickf (ltb rfl) rfl hg1 rfl) ?_
  refine TriD.c1 rfl (op_mv (ltb rfl) rfl) ?_
  iterate 8 (refine TriD.skipu rfl rfl (ltb rfl) (ltb rfl) rfl rfl ?_)
  refine TriD.c1 rfl (op_pickf (ltb rfl) rfl rfl rfl) ?_
  refine TriD.c1 rfl (op_as (ltb rfl) rfl) ?_
  refine TriD.nil (by kernel_rfl) (Kept.now ?_)
  refine Tri.ret ?_
  exact ⟨.inr rfl, (ResOK.r1 rfl (.tmp rfl .nil)).cast (congrArg AV.bool (by rw [hT, Sch.ix_no (dlt hg1)])), rfl⟩
theorem p_tree (s : Sch) (hs : s.fine) (t : Tree) (hb : t.big) (name : Str) : Pure Tryz.prog 109 [s.av, .str name, .agg t.cells] (.bool (t.ok s name)) :=
 Tree.ind (Q := fun t => t.big → ∀ name : Str, Pure Tryz.prog 109 [s.av, .str name, .agg t.cells] (.bool (t.ok s name))) (fun t ih hb name => p_tree1 s hs name t hb (fun x hx v hv u hu => ih x hx v hv u hu (hb.sub hu hv hx))) t hb name
theorem r_val (s : Sch) (f : Fld) (v : Val) (hvs : v.s.length ≤ 9223372036854775807) (ih : ∀ u ∈ v.m, ∀ name : Str, Pure Tryz.prog 76 [s.av, .str name, .agg u.cells] (.bool (u.ok s name))) : Pure Tryz.prog 40 [s.av, f.av, .agg v.cells] (.bool (v.ok s f)) := by
 have hE := Val.ok_eq s f v
 have hT1 := @treeOk1_one s f.ref v.m
 have hT0 := @treeOk1_no s f.ref v.m
 have hn0 : ((v.n : Int) == 0) = decide (v.n = 0) := by rw [Bool.eq_iff_iff]; simp
 have hml : (((v.m.map Tree.av).length : Int) == 0) = decide (v.m.length = 0) := by rw [Bool.eq_iff_iff]; simp
 refine Pure.of_tri Tryz.func40 rfl rfl (ltb rfl) fun H => ?_
 refine Tri.seq (Tri.region ?_)
 iterate 3 (refine TriL.c2 rfl (op_box (ltb rfl) rfl rfl rfl) ?_)
 refine TriL.c1 rfl (op_as (ltb rfl) rfl) ?_
 refine TriL.nil (Tri.seq (Tri.seq (Tri.region ?_)))
 refine TriL.c1 rfl (op_fal (ltb rfl) fo96_2_q rfl) ?_
 refine TriL.c1 rfl (op_ldl (ltb rfl) lk3_q rfl rfl rfl) ?_
 refine TriL.c1 rfl (op_call (ltb rfl) fn73_q rfl (r_numT _)) ?_
 refine TriL.nil ?_
 refine Tri.cond rfl (fun hc1 => ?_) (fun hc1 => ?_)
 ·refine Tri.seq (Tri.region ?_)
  refine TriL.c1 rfl (op_fal (ltb rfl) fo96_2_q rfl) ?_
  refine TriL.c1 rfl (op_ldl (ltb rfl) lk3_q rfl rfl rfl) ?_
  refine TriL.c1 rfl (op_fal (ltb rfl) fo44_0_q rfl) ?_
  refine TriL.c1 rfl (op_ldl (ltb rfl) lk41_q rfl rfl rfl) ?_
  refine TriL.c1 rfl (op_call (ltb rfl) fn74_q rfl (r_may _ _)) ?_
  refine TriL.c1 rfl (op_mv (ltb rfl) rfl) ?_
  refine TriL.split (d := 15) rfl (fun hg2 => ?_) (fun hg2 => ?_)
  ·refine TriL.g1 rfl (ltb rfl) rfl hg2 (op_fal (ltb rfl) fo44_1_q rfl) ?_
   refine TriL.g1 rfl (ltb rfl) rfl hg2 (op_ldl (ltb rfl) lk9_q rfl rfl rfl) ?_
   refine TriL.g1 rfl (ltb rfl) rfl hg2 (op_bin (ltb rfl) rfl rfl rfl) ?_
   refine TriL.c1 rfl (op_pickt (ltb rfl) rfl hg2 rfl) ?_
   refine TriL.c1 rfl (op_mv (ltb rfl) rfl) ?_
   refine TriL.split (d := 20) rfl (fun hg3 => ?_) (fun hg3 => ?_)
   ·refine TriL.g1 rfl (ltb rfl) rfl hg3 (op_fal (ltb rfl) fo44_2_q rfl) ?_
    refine TriL.g1 rfl (ltb rfl) rfl hg3 (op_ldl (ltb rfl) lk42_q rfl rfl rfl) ?_
    refine TriL.g1 rfl (ltb rfl) rfl hg3 (op_lenl (ltb rfl) un42_q rfl) ?_
    refine TriL.g1 rfl (ltb rfl) rfl hg3 (op_bin (ltb rfl) rfl rfl rfl) ?_
    refine TriL.c1 rfl (op_pickt (ltb rfl) rfl hg3 rfl) ?_
    refine TriL.c1 rfl (op_as (ltb rfl) rfl) ?_
    refine TriL.nil (Tri.ret ?_)
    exact ⟨.inr rfl, (ResOK.r1 rfl (.tmp rfl .nil)).cast (congrArg AV.bool (by grind [])), rfl⟩
   ·iterate 4 (refine TriL.skipu rfl rfl (ltb rfl) (ltb rfl) rfl hg3 ?_)
    refine TriL.c1 rfl (op_pickf (ltb rfl) rfl hg3 rfl) ?_
    refine TriL.c1 rfl (op_as (ltb rfl) rfl) ?_
    refine TriL.nil (Tri.ret ?_)
    exact ⟨.inr rfl, (ResOK.r1 rfl (.tmp rfl .nil)).cast (congrArg AV.bool (by grind [])), rfl⟩
  ·iterate 3 (refine TriL.skipu rfl rfl (ltb rfl) (ltb rfl) rfl hg2 ?_)
   refine TriL.c1 rfl (op_pickf (ltb rfl) rfl hg2 rfl) ?_
   refine TriL.c1 rfl (op_mv (ltb rfl) rfl) ?_
   iterate 4 (refine TriL.skipu rfl rfl (ltb rfl) (ltb rfl) rfl rfl ?_)
   refine TriL.c1 rfl (op_pickf (ltb rfl) rfl rfl rfl) ?_
   refine TriL.c1 rfl (op_as (ltb rfl) rfl) ?_
   refine TriL.nil (Tri.ret ?_)
   exact ⟨.inr rfl, (ResOK.r1 rfl (.tmp rfl .nil)).cast (congrArg AV.bool (by grind [])), rfl⟩
 ·refine Tri.skip (Tri.seq (Tri.seq (Tri.region ?_)))
  refine TriL.c1 rfl (op_fal (ltb rfl) fo96_2_q rfl) ?_
  refine TriL.c1 rfl (op_ldl (ltb rfl) lk3_q rfl rfl rfl) ?_
  refine TriL.nil (Tri.blk (Tri.seq (Tri.region ?_)))
  refine TriL.c1 rfl (op_bin (ltb rfl) rfl rfl rfl) ?_
  refine TriL.c1 rfl (op_as (ltb rfl) rfl) ?_
  refine TriL.nil ?_
  refine Tri.cond rfl (fun hc4 => ?_) (fun hc4 => ?_)
  ·refine Tri.seq (Tri.region ?_)
   refine TriL.c1 rfl (op_fal (ltb rfl) fo44_0_q rfl) ?_
   refine TriL.c1 rfl (op_ldl (ltb rfl) lk41_q rfl rfl rfl) ?_
   refine TriL.c1 rfl (op_bin (ltb rfl) rfl rfl rfl) ?_
   refine TriL.c1 rfl (op_mv (ltb rfl) rfl) ?_
   refine TriL.split (d := 33) rfl (fun hg5 => ?_) (fun hg5 => ?_)
   ·refine TriL.g1 rfl (ltb rfl) rfl hg5 (op_fal (ltb rfl) fo44_2_q rfl) ?_
    refine TriL.g1 rfl (ltb rfl) rfl hg5 (op_ldl (ltb rfl) lk42_q rfl rfl rfl) ?_
    refine TriL.g1 rfl (ltb rfl) rfl hg5 (op_lenl (ltb rfl) un42_q rfl) ?_
    refine TriL.g1 rfl (ltb rfl) rfl hg5 (op_bin (ltb rfl) rfl rfl rfl) ?_
    refine TriL.c1 rfl (op_pickt (ltb rfl) rfl hg5 rfl) ?_
    refine TriL.c1 rfl (op_mv (ltb rfl) rfl) ?_
    refine TriL.split (d := 39) rfl (fun hg6 => ?_) (fun hg6 => ?_)
    ·refine TriL.g1 rfl (ltb rfl) rfl hg6 (op_fal (ltb rfl) fo44_1_q rfl) ?_
     refine TriL.g1 rfl (ltb rfl) rfl hg6 (op_ldl (ltb rfl) lk9_q rfl rfl rfl) ?_
     refine TriL.g1 rfl (ltb rfl) rfl hg6 (op_call (ltb rfl) fn75_q rfl (p_validS _ hvs)) ?_
     refine TriL.c1 rfl (op_pickt (ltb rfl) rfl hg6 rfl) ?_
     refine TriL.c1 rfl (op_as (ltb rfl) rfl) ?_
     refine TriL.nil (Tri.ret ?_)
     exact ⟨.inr rfl, (ResOK.r1 rfl (.tmp rfl .nil)).cast (congrArg AV.bool (by grind [])), rfl⟩
    ·iterate 3 (refine TriL.skipu rfl rfl (ltb rfl) (ltb rfl) rfl hg6 ?_)
     refine TriL.c1 rfl (op_pickf (ltb rfl) rfl hg6 rfl) ?_
     refine TriL.c1 rfl (op_as (ltb rfl) rfl) ?_
     refine TriL.nil (Tri.ret ?_)
     exact ⟨.inr rfl, (ResOK.r1 rfl (.tmp rfl .nil)).cast (congrArg AV.bool (by grind [])), rfl⟩
   ·iterate 4 (refine TriL.skipu rfl rfl (ltb rfl) (ltb rfl) rfl hg5 ?_)
    refine TriL.c1 rfl (op_pickf (ltb rfl) rfl hg5 rfl) ?_
    refine TriL.c1 rfl (op_mv (ltb rfl) rfl) ?_
    iterate 3 (refine TriL.skipu rfl rfl (ltb rfl) (ltb rfl) rfl rfl ?_)
    refine TriL.c1 rfl (op_pickf (ltb rfl) rfl rfl rfl) ?_
    refine TriL.c1 rfl (op_as (ltb rfl) rfl) ?_
    refine TriL.nil (Tri.ret ?_)
    exact ⟨.inr rfl, (ResOK.r1 rfl (.tmp rfl .nil)).cast (congrArg AV.bool (by grind [])), rfl⟩
  ·refine Tri.seq (Tri.region ?_)
   refine TriL.c1 rfl (op_bin (ltb rfl) rfl rfl rfl) ?_
   refine TriL.c1 rfl (op_as (ltb rfl) rfl) ?_
   refine TriL.nil ?_
   refine Tri.cond rfl (fun hc7 => ?_) (fun hc7 => ?_)
   ·refine Tri.seq (Tri.region ?_)
    refine TriL.c1 rfl (op_fal (ltb rfl) fo44_0_q rfl) ?_
    refine TriL.c1 rfl (op_ldl (ltb rfl) lk41_q rfl rfl rfl) ?_
    refine TriL.c1 rfl (op_bin (ltb rfl) rfl rfl rfl) ?_
    refine TriL.c1 rfl (op_mv (ltb rfl) rfl) ?_
    refine TriL.split (d := 49) rfl (fun hg8 => ?_) (fun hg8 => ?_)
    ·refine TriL.g1 rfl (ltb rfl) rfl hg8 (op_fal (ltb rfl) fo44_2_q rfl) ?_
     refine TriL.g1 rfl (ltb rfl) rfl hg8 (op_ldl (ltb rfl) lk42_q rfl rfl rfl) ?_
     refine TriL.g1 rfl (ltb rfl) rfl hg8 (op_lenl (ltb rfl) un42_q rfl) ?_
     refine TriL.g1 rfl (ltb rfl) rfl hg8 (op_bin (ltb rfl) rfl rfl rfl) ?_
     refine TriL.c1 rfl (op_pickt (ltb rfl) rfl hg8 rfl) ?_
     refine TriL.c1 rfl (op_as (ltb rfl) rfl) ?_
     refine TriL.nil (Tri.ret ?_)
     exact ⟨.inr rfl, (ResOK.r1 rfl (.tmp rfl .nil)).cast (congrArg AV.bool (by grind [])), rfl⟩
    ·iterate 4 (refine TriL.skipu rfl rfl (ltb rfl) (ltb rfl) rfl hg8 ?_)
     refine TriL.c1 rfl (op_pickf (ltb rfl) rfl hg8 rfl) ?_
     refine TriL.c1 rfl (op_as (ltb rfl) rfl) ?_
     refine TriL.nil (Tri.ret ?_)
     exact ⟨.inr rfl, (ResOK.r1 rfl (.tmp rfl .nil)).cast (congrArg AV.bool (by grind [])), rfl⟩
   ·refine Tri.seq (Tri.region ?_)
    refine TriL.c1 rfl (op_bin (ltb rfl) rfl rfl rfl) ?_
    refine TriL.c1 rfl (op_as (ltb rfl) rfl) ?_
    refine TriL.nil ?_
    refine Tri.cond rfl (fun hc9 => ?_) (fun hc9 => ?_)
    ·refine Tri.seq ?_
     refine Tri.drawn mixed rfl ?_
     refine TriD.c1 rfl (op_fal (ltb rfl) fo44_0_q rfl) ?_
     refine TriD.c1 rfl (op_ldl (ltb rfl) lk41_q rfl rfl rfl) ?_
     refine TriD.c1 rfl (op_bin (ltb rfl) rfl rfl rfl) ?_
     refine TriD.c1 rfl (op_mv (ltb rfl) rfl) ?_
     refine TriD.split (d := 60) rfl (fun hg10 => ?_) (fun hg10 => ?_)
     ·refine TriD.g1 rfl (ltb rfl) rfl hg10 (op_fal (ltb rfl) fo44_1_q rfl) ?_
      refine TriD.g1 rfl (ltb rfl) rfl hg10 (op_ldl (ltb rfl) lk9_q rfl rfl rfl) ?_
      refine TriD.g1 rfl (ltb rfl) rfl hg10 (op_bin (ltb rfl) rfl rfl rfl) ?_
      refine TriD.c1 rfl (op_pickt (ltb rfl) rfl hg10 rfl) ?_
      refine TriD.c1 rfl (op_mv (ltb rfl) rfl) ?_
      refine TriD.split (d := 65) rfl (fun hg11 => ?_) (fun hg11 => ?_)
      ·refine TriD.g1 rfl (ltb rfl) rfl hg11 (op_fal (ltb rfl) fo44_2_q rfl) ?_
       refine TriD.g1 rfl (ltb rfl) rfl hg11 (op_ldl (ltb rfl) lk42_q rfl rfl rfl) ?_
       refine TriD.g1 rfl (ltb rfl) rfl hg11 (op_lenl (ltb rfl) un42_q rfl) ?_
       refine TriD.g1 rfl (ltb rfl) rfl hg11 (op_bin (ltb rfl) rfl rfl rfl) ?_
       refine TriD.c1 rfl (op_pickt (ltb rfl) rfl hg11 rfl) ?_
       refine TriD.c1 rfl (op_mv (ltb rfl) rfl) ?_
       refine TriD.split (d := 71) rfl (fun hg12 => ?_) (fun hg12 => ?_)
       ·refine TriD.g1 rfl (ltb rfl) rfl hg12 (op_ldl (ltb rfl) lk94_q rfl rfl rfl) ?_
        refine TriD.g1 rfl (ltb rfl) rfl hg12 (op_fal (ltb rfl) fo96_3_q rfl) ?_
        refine TriD.g1 rfl (ltb rfl) rfl hg12 (op_ldl (ltb rfl) lk9_q rfl rfl rfl) ?_
        refine TriD.g1 rfl (ltb rfl) rfl hg12 (op_fal (ltb rfl) fo44_2_q rfl) ?_
        refine TriD.g1 rfl (ltb rfl) rfl hg12 (op_ldl (ltb rfl) lk42_q rfl rfl rfl) ?_
        refine TriD.g1 rfl (ltb rfl) rfl hg12 (op_iak (ltb rfl) ie42_q rfl rfl (by decide) (ixmE (i := 0) Tree.av_eq (by grind)) rfl) ?_
        refine TriD.g1 rfl (ltb rfl) rfl hg12 (op_ldk (ltb rfl) lk59_q rfl rfl) ?_
        refine TriD.g1 rfl (ltb rfl) rfl hg12 (op_call (ltb rfl) fn76_q rfl (ih _ (List.getElem_mem (by grind)) _)) ?_
        refine TriD.c1 rfl (op_pickt (ltb rfl) rfl hg12 rfl) ?_
        refine TriD.c1 rfl (op_as (ltb rfl) rfl) ?_
        refine TriD.nil (by kernel_rfl) (Kept.now ?_)
        refine Tri.ret ?_
        exact ⟨.inr rfl, (ResOK.r1 rfl (.tmp rfl .nil)).cast (congrArg AV.bool (by have hm1 : v.m.length = 1 := (by have h := hg12; simp at h; omega); have hq := hT1 hm1; have h0 : v.n = 0 := (by simpa using hg10); have hs0 : v.s = [] := (by simpa using hg11); have hty : f.ty = 15 := (by simpa using hc9); rw [hE, if_neg (by simp [hc1]), if_neg (by omega), if_neg (by omega), if_pos hty, hq, h0, hs0]; simp)), rfl⟩
       ·iterate 8 (refine TriD.skipu rfl rfl (ltb rfl) (ltb rfl) rfl hg12 ?_)
        refine TriD.c1 rfl (op_pickf (ltb rfl) rfl hg12 rfl) ?_
        refine TriD.c1 rfl (op_as (ltb rfl) rfl) ?_
        refine TriD.nil (by kernel_rfl) (Kept.now ?_)
        refine Tri.ret ?_
        exact ⟨.inr rfl, (ResOK.r1 rfl (.tmp rfl .nil)).cast (congrArg AV.bool (by grind [])), rfl⟩
      ·iterate 4 (refine TriD.skipu rfl rfl (ltb rfl) (ltb rfl) rfl hg11 ?_)
       refine TriD.c1 rfl (op_pickf (ltb rfl) rfl hg11 rfl) ?_
       refine TriD.c1 rfl (op_mv (ltb rfl) rfl) ?_
       iterate 8 (refine TriD.skipu rfl rfl (ltb rfl) (ltb rfl) rfl rfl ?_)
       refine TriD.c1 rfl (op_pickf (ltb rfl) rfl rfl rfl) ?_
       refine TriD.c1 rfl (op_as (ltb rfl) rfl) ?_
       refine TriD.nil (by kernel_rfl) (Kept.now ?_)
       refine Tri.ret ?_
       exact ⟨.inr rfl, (ResOK.r1 rfl (.tmp rfl .nil)).cast (congrArg AV.bool (by grind [])), rfl⟩
     ·iterate 3 (refine TriD.skipu rfl rfl (ltb rfl) (ltb rfl) rfl hg10 ?_)
      refine TriD.c1 rfl (op_pickf (ltb rfl) rfl hg10 rfl) ?_
      refine TriD.c1 rfl (op_mv (ltb rfl) rfl) ?_
      iterate 4 (refine TriD.skipu rfl rfl (ltb rfl) (ltb rfl) rfl rfl ?_)
      refine TriD.c1 rfl (op_pickf (ltb rfl) rfl rfl rfl) ?_
      refine TriD.c1 rfl (op_mv (ltb rfl) rfl) ?_
      iterate 8 (refine TriD.skipu rfl rfl (ltb rfl) (ltb rfl) rfl rfl ?_)
      refine TriD.c1 rfl (op_pickf (ltb rfl) rfl rfl rfl) ?_
      refine TriD.c1 rfl (op_as (ltb rfl) rfl) ?_
      refine TriD.nil (by kernel_rfl) (Kept.now ?_)
      refine Tri.ret ?_
      exact ⟨.inr rfl, (ResOK.r1 rfl (.tmp rfl .nil)).cast (congrArg AV.bool (by grind [])), rfl⟩
    ·refine Tri.skip (Tri.seq (Tri.region ?_))
     refine TriL.c1 rfl (op_as (ltb rfl) rfl) ?_
     refine TriL.nil (Tri.ret ?_)
     exact ⟨.inr rfl, (ResOK.r1 rfl (.tmp rfl .nil)).cast (congrArg AV.bool (by grind [])), rfl⟩
theorem r_slot (s : Sch) (m : Msg) (x : Slot) (hm : m.fields.length ≤ 1000) (hl : x.vals.length ≤ 9223372036854775807) (hvs : ∀ v ∈ x.vals, v.s.length ≤ 9223372036854775807) (ih : ∀ v ∈ x.vals, ∀ u ∈ v.m, ∀ name : Str, Pure Tryz.prog 76 [s.av, .str name, .agg u.cells] (.bool (u.ok s name))) : Pure Tryz.prog 115 [s.av, m.av, .agg x.cells] (.bool (x.ok s m)) := by
 have hE := Slot.ok_eq s m x
 have hVA := fun f => valsOk_all s f x.vals
 refine Pure.of_tri Tryz.func115 rfl rfl (ltb rfl) fun H => ?_
 refine Tri.seq (Tri.region ?_)
 iterate 3 (refine TriL.c2 rfl (op_box (ltb rfl) rfl rfl rfl) ?_)
 refine TriL.c1 rfl (op_as (ltb rfl) rfl) ?_
 refine TriL.nil (Tri.seq (Tri.region ?_))
 refine TriL.c1 rfl (op_ldl (ltb rfl) lk157_q rfl rfl rfl) ?_
 refine TriL.c1 rfl (op_fal (ltb rfl) fo55_0_q rfl) ?_
 refine TriL.c1 rfl (op_ldl (ltb rfl) lk3_q rfl rfl rfl) ?_
 refine TriL.c1 rfl (op_call (ltb rfl) fn116_q rfl (r_number _ _ hm)) ?_
 refine TriL.c1 rfl (op_as (ltb rfl) rfl) ?_
 refine TriL.nil ?_
 refine Tri.joinu [.h, .s 3, .b 3, .s 4, .b 4, .s 5, .b 5, .s 7] (fun (_ : Unit) => []) (fun (_ : Unit) => decide (m.at x.num < 0) = false ∧ 0 < x.vals.length) rfl ?_ ?_
 ·refine Tri.seq (Tri.region ?_)
  refine TriL.c1 rfl (op_mv (ltb rfl) rfl) ?_
  refine TriL.c1 rfl (op_bin (ltb rfl) rfl rfl rfl) ?_
  refine TriL.c1 rfl (op_mv (ltb rfl) rfl) ?_
  refine TriL.split (d := 16) rfl (fun hg1 => ?_) (fun hg1 => ?_)
  ·iterate 4 (refine TriL.skipu rfl rfl (ltb rfl) (ltb rfl) rfl hg1 ?_)
   refine TriL.c1 rfl (op_pickt (ltb rfl) rfl hg1 rfl) ?_
   refine TriL.nil ?_
   refine Tri.condT rfl rfl ?_
   refine Tri.seq (Tri.region ?_)
   refine TriL.c1 rfl (op_as (ltb rfl) rfl) ?_
   refine TriL.nil (Tri.ret ?_)
   exact ⟨.inr rfl, (ResOK.r1 rfl (.tmp rfl .nil)).cast (congrArg AV.bool (by rw [hE, Msg.at_no hg1])), rfl⟩
  ·refine TriL.g1 rfl (ltb rfl) rfl hg1 (op_fal (ltb rfl) fo55_1_q rfl) ?_
   refine TriL.g1 rfl (ltb rfl) rfl hg1 (op_ldl (ltb rfl) lk52_q rfl rfl rfl) ?_
   refine TriL.g1 rfl (ltb rfl) rfl hg1 (op_lenl (ltb rfl) un52_q rfl) ?_
   refine TriL.g1 rfl (ltb rfl) rfl hg1 (op_bin (ltb rfl) rfl rfl rfl) ?_
   refine TriL.c1 rfl (op_pickf (ltb rfl) rfl hg1 rfl) ?_
   refine TriL.nil ?_
   refine Tri.cond rfl (fun hc2 => ?_) (fun hc2 => ?_)
   ·refine Tri.seq (Tri.region ?_)
    refine TriL.c1 rfl (op_as (ltb rfl) rfl) ?_
    refine TriL.nil (Tri.ret ?_)
    exact ⟨.inr rfl, (ResOK.r1 rfl (.tmp rfl .nil)).cast (congrArg AV.bool (by rw [hE, Msg.at_fix hg1]; grind)), rfl⟩
   ·refine Tri.ofKept (Kept.keep [.h, .s 3, .b 3, .s 4, .b 4, .s 5, .b 5, .s 7] rfl (by decide) (Kept.now ?_))
    refine Tri.skip ?_
    exact ⟨(), by grind, rfl⟩
 ·rintro _ hF4
  refine Tri.seq (Tri.region ?_)
  refine TriL.c1 rfl (op_fal (ltb rfl) fo157_1_q rfl) ?_
  refine TriL.c1 rfl (op_ldl (ltb rfl) lk155_q rfl rfl rfl) ?_
  refine TriL.c1 rfl (op_mv (ltb rfl) rfl) ?_
  refine TriL.c1 rfl (op_iak (ltb rfl) ie155_q rfl rfl (Msg.at_nn hF4.1) (ixm1 (Msg.at_eq hF4.1) (Msg.at_lt hF4.1)) rfl) ?_
  refine TriL.c1 rfl (op_ldk (ltb rfl) lk96_q rfl rfl) ?_
  refine TriL.c2 rfl (op_all (ltb rfl) zA96_q rfl) ?_
  refine TriL.c1 rfl (op_stl lk96_q rfl rfl rfl rfl rfl (leb rfl)) ?_
  refine TriL.nil ?_
  refine Tri.joinu [.h, .s 3, .b 3, .s 5, .b 5, .s 8, .b 8] (fun (_ : Unit) => []) (fun (_ : Unit) => ((m.fields[m.ixN x.num]'(Msg.at_lt hF4.1)).rep = true ∨ x.vals.length = 1)) rfl ?_ ?_
  ·refine Tri.seq (Tri.region ?_)
   refine TriL.c1 rfl (op_fal (ltb rfl) fo96_4_q rfl) ?_
   refine TriL.c1 rfl (op_ldl (ltb rfl) lk4_q rfl rfl rfl) ?_
   refine TriL.c1 rfl (op_un (ltb rfl) rfl rfl) ?_
   refine TriL.c1 rfl (op_mv (ltb rfl) rfl) ?_
   refine TriL.split (d := 30) rfl (fun hg3 => ?_) (fun hg3 => ?_)
   ·refine TriL.g1 rfl (ltb rfl) rfl hg3 (op_fal (ltb rfl) fo55_1_q rfl) ?_
    refine TriL.g1 rfl (ltb rfl) rfl hg3 (op_ldl (ltb rfl) lk52_q rfl rfl rfl) ?_
    refine TriL.g1 rfl (ltb rfl) rfl hg3 (op_lenl (ltb rfl) un52_q rfl) ?_
    refine TriL.g1 rfl (ltb rfl) rfl hg3 (op_bin (ltb rfl) rfl rfl rfl) ?_
    refine TriL.c1 rfl (op_pickt (ltb rfl) rfl hg3 rfl) ?_
    refine TriL.nil ?_
    refine Tri.cond rfl (fun hc4 => ?_) (fun hc4 => ?_)
    ·refine Tri.seq (Tri.region ?_)
     refine TriL.c1 rfl (op_as (ltb rfl) rfl) ?_
     refine TriL.nil (Tri.ret ?_)
     exact ⟨.inr rfl, (ResOK.r1 rfl (.tmp rfl .nil)).cast (congrArg AV.bool (by rw [hE, Msg.at_fix hF4.1]; grind)), rfl⟩
    ·refine Tri.ofKept (Kept.keep [.h, .s 3, .b 3, .s 5, .b 5, .s 8, .b 8] rfl (by decide) (Kept.now ?_))
     refine Tri.skip ?_
     exact ⟨(), by grind, rfl⟩
   ·iterate 4 (refine TriL.skipu rfl rfl (ltb rfl) (ltb rfl) rfl hg3 ?_)
    refine TriL.c1 rfl (op_pickf (ltb rfl) rfl hg3 rfl) ?_
    refine TriL.nil ?_
    refine Tri.condF rfl rfl ?_
    refine Tri.ofKept (Kept.keep [.h, .s 3, .b 3, .s 5, .b 5, .s 8, .b 8] rfl (by decide) (Kept.now ?_))
    refine Tri.skip ?_
    exact ⟨(), by grind, rfl⟩
  ·rintro _ hF7
   refine Tri.seq (Tri.seq (Tri.region ?_))
   refine TriL.c1 rfl (op_as (ltb rfl) rfl) ?_
   refine TriL.nil (Tri.blk ?_)
   refine Tri.ofKept (Kept.keep [.s 9, .h, .s 3, .b 3, .s 5, .b 5, .s 8, .b 8] rfl (by decide) (Kept.now ?_))
   -- LOOP 1
   refine Tri.loopk (fun (i : Nat) => [(.s 9, .sv (.v (.int .i64 (i : Int))))]) _ (fun (i : Nat) => (x.vals.drop i).all (Val.ok s (m.fields[m.ixN x.num]'(Msg.at_lt hF4.1))) = x.vals.all (Val.ok s (m.fields[m.ixN x.num]'(Msg.at_lt hF4.1)))) (fun (i : Nat) => x.vals.length - i) 0 rfl (by simp) ?_
   rintro i hI
   refine Tri.seq (Tri.seq (Tri.region ?_))
   refine TriL.c1 rfl (op_mv (ltb rfl) rfl) ?_
   refine TriL.c1 rfl (op_fal (ltb rfl) fo55_1_q rfl) ?_
   refine TriL.c1 rfl (op_ldl (ltb rfl) lk52_q rfl rfl rfl) ?_
   refine TriL.c1 rfl (op_lenl (ltb rfl) un52_q rfl) ?_
   refine TriL.c1 rfl (op_bin (ltb rfl) rfl rfl rfl) ?_
   refine TriL.nil ?_
   refine Tri.cond rfl (fun hc5 => ?_) (fun hc5 => ?_)
   ·have hi := ltm hc5
    have hS := all_step (p := Val.ok s (m.fields[m.ixN x.num]'(Msg.at_lt hF4.1))) hi
    refine Tri.skip (Tri.seq (Tri.blk (Tri.seq ?_)))
    refine Tri.drawn mixed rfl ?_
    refine TriD.c1 rfl (op_ldl (ltb rfl) lk94_q rfl rfl rfl) ?_
    refine TriD.c1 rfl (op_ldl (ltb rfl) lk96_q rfl rfl rfl) ?_
    refine TriD.c1 rfl (op_fal (ltb rfl) fo55_1_q rfl) ?_
    refine TriD.c1 rfl (op_ldl (ltb rfl) lk52_q rfl rfl rfl) ?_
    refine TriD.c1 rfl (op_mv (ltb rfl) rfl) ?_
    refine TriD.c1 rfl (op_iak (ltb rfl) ie52_q rfl rfl (Int.natCast_nonneg _) (ixmE Val.av_eq hi) rfl) ?_
    refine TriD.c1 rfl (op_ldk (ltb rfl) lk44_q rfl rfl) ?_
    refine TriD.c1 rfl (op_call (ltb rfl) fn40_q rfl (r_val _ _ _ (hvs _ (List.getElem_mem hi)) (ih _ (List.getElem_mem hi)))) ?_
    refine TriD.c1 rfl (op_un (ltb rfl) rfl rfl) ?_
    refine TriD.nil (by kernel_rfl) (Kept.now ?_)
    refine Tri.cond rfl (fun hc6 => ?_) (fun hc6 => ?_)
    ·refine Tri.seq (Tri.region ?_)
     refine TriL.c1 rfl (op_as (ltb rfl) rfl) ?_
     refine TriL.nil (Tri.ret ?_)
     exact ⟨.inr rfl, (ResOK.r1 rfl (.tmp rfl .nil)).cast (congrArg AV.bool (by rw [hE, Msg.at_fix hF4.1]; grind)), rfl⟩
    ·refine Tri.skip (Tri.region ?_)
     refine TriL.c1 rfl (op_mv (ltb rfl) rfl) ?_
     refine TriL.c1 rfl (op_bin (ltb rfl) rfl rfl rfl) ?_
     refine TriL.c1 rfl (op_as (ltb rfl) rfl) ?_
     refine TriL.kept (Kept.seti 9 rfl (inc (by omega)) (Kept.keep [.s 9, .h, .s 3, .b 3, .s 5, .b 5, .s 8, .b 8] rfl (by decide) (Kept.now ?_)))
     exact ⟨i + 1, by omega, by grind, rfl⟩
   ·have hi := gem hc5
    have hS := all_end (p := Val.ok s (m.fields[m.ixN x.num]'(Msg.at_lt hF4.1))) hi
    rw [Msg.at_fix hF4.1] at hE
    have hN := headN hF4.2
    have hNs := headS hF4.2
    refine Tri.exit (Tri.seq (Tri.region ?_))
    refine TriL.c1 rfl (op_ldl (ltb rfl) lk96_q rfl rfl rfl) ?_
    refine TriL.c1 rfl (op_call (ltb rfl) fn153_q rfl (r_hidden _)) ?_
    refine TriL.c1 rfl (op_un (ltb rfl) rfl rfl) ?_
    refine TriL.c1 rfl (op_mv (ltb rfl) rfl) ?_
    refine TriL.split (d := 55) rfl (fun hg7 => ?_) (fun hg7 => ?_)
    ·iterate 6 (refine TriL.skipu rfl rfl (ltb rfl) (ltb rfl) rfl hg7 ?_)
     refine TriL.c1 rfl (op_pickt (ltb rfl) rfl hg7 rfl) ?_
     refine TriL.c1 rfl (op_mv (ltb rfl) rfl) ?_
     iterate 6 (refine TriL.skipu rfl rfl (ltb rfl) (ltb rfl) rfl rfl ?_)
     refine TriL.c1 rfl (op_pickt (ltb rfl) rfl rfl rfl) ?_
     refine TriL.c1 rfl (op_as (ltb rfl) rfl) ?_
     refine TriL.nil (Tri.ret ?_)
     exact ⟨.inr rfl, (ResOK.r1 rfl (.tmp rfl .nil)).cast (congrArg AV.bool (by grind)), rfl⟩
    ·refine TriL.g1 rfl (ltb rfl) rfl hg7 (op_fal (ltb rfl) fo55_1_q rfl) ?_
     refine TriL.g1 rfl (ltb rfl) rfl hg7 (op_ldl (ltb rfl) lk52_q rfl rfl rfl) ?_
     refine TriL.g1 rfl (ltb rfl) rfl hg7 (op_iak (ltb rfl) ie52_q rfl rfl (by decide) (ixmE (i := 0) Val.av_eq hF4.2) rfl) ?_
     refine TriL.g1 rfl (ltb rfl) rfl hg7 (op_fak (ltb rfl) fo44_0_q rfl) ?_
     refine TriL.g1 rfl (ltb rfl) rfl hg7 (op_ldk (ltb rfl) lk41_q rfl rfl) ?_
     refine TriL.g1 rfl (ltb rfl) rfl hg7 (op_bin (ltb rfl) rfl rfl rfl) ?_
     refine TriL.c1 rfl (op_pickf (ltb rfl) rfl hg7 rfl) ?_
     refine TriL.c1 rfl (op_mv (ltb rfl) rfl) ?_
     refine TriL.split (d := 63) rfl (fun hg8 => ?_) (fun hg8 => ?_)
     ·iterate 6 (refine TriL.skipu rfl rfl (ltb rfl) (ltb rfl) rfl hg8 ?_)
      refine TriL.c1 rfl (op_pickt (ltb rfl) rfl hg8 rfl) ?_
      refine TriL.c1 rfl (op_as (ltb rfl) rfl) ?_
      refine TriL.nil (Tri.ret ?_)
      exact ⟨.inr rfl, (ResOK.r1 rfl (.tmp rfl .nil)).cast (congrArg AV.bool (by grind)), rfl⟩
     ·refine TriL.g1 rfl (ltb rfl) rfl hg8 (op_fal (ltb rfl) fo55_1_q rfl) ?_
      refine TriL.g1 rfl (ltb rfl) rfl hg8 (op_ldl (ltb rfl) lk52_q rfl rfl rfl) ?_
      refine TriL.g1 rfl (ltb rfl) rfl hg8 (op_iak (ltb rfl) ie52_q rfl rfl (by decide) (ixmE (i := 0) Val.av_eq hF4.2) rfl) ?_
      refine TriL.g1 rfl (ltb rfl) rfl hg8 (op_fak (ltb rfl) fo44_1_q rfl) ?_
      refine TriL.g1 rfl (ltb rfl) rfl hg8 (op_ldk (ltb rfl) lk9_q rfl rfl) ?_
      refine TriL.g1 rfl (ltb rfl) rfl hg8 (op_bin (ltb rfl) rfl rfl rfl) ?_
      refine TriL.c1 rfl (op_pickf (ltb rfl) rfl hg8 rfl) ?_
      refine TriL.c1 rfl (op_as (ltb rfl) rfl) ?_
      refine TriL.nil (Tri.ret ?_)
      exact ⟨.inr rfl, (ResOK.r1 rfl (.tmp rfl .nil)).cast (congrArg AV.bool (by grind)), rfl⟩
theorem r_tree1 (s : Sch) (hs : s.fine) (name : Str) (t : Tree) (hb : t.big) (ih : ∀ x ∈ t.slots, ∀ v ∈ x.vals, ∀ u ∈ v.m, ∀ name : Str, Pure Tryz.prog 76 [s.av, .str name, .agg u.cells] (.bool (u.ok s name))) : Pure Tryz.prog 76 [s.av, .str name, .agg t.cells] (.bool (t.ok s name)) := by
 have hsm := hs.m
 have hbs := hb.here.s
 have hbr := hb.here.r
 have hT := t.ok_eq s name
 refine Pure.of_tri Tryz.func76 rfl rfl (ltb rfl) fun H => ?_
 refine Tri.seq (Tri.region ?_)
 iterate 2 (refine TriL.c2 rfl (op_box (ltb rfl) rfl rfl rfl) ?_)
 refine TriL.c1 rfl (op_as (ltb rfl) rfl) ?_
 refine TriL.nil (Tri.seq (Tri.region ?_))
 refine TriL.c1 rfl (op_ldl (ltb rfl) lk94_q rfl rfl rfl) ?_
 refine TriL.c1 rfl (op_mv (ltb rfl) rfl) ?_
 refine TriL.c1 rfl (op_call (ltb rfl) fn114_q rfl (r_msgIx _ _ (by omega))) ?_
 refine TriL.c1 rfl (op_as (ltb rfl) rfl) ?_
 refine TriL.nil (Tri.seq (Tri.seq (Tri.region ?_)))
 refine TriL.c1 rfl (op_mv (ltb rfl) rfl) ?_
 refine TriL.c1 rfl (op_bin (ltb rfl) rfl rfl rfl) ?_
 refine TriL.nil ?_
 refine Tri.cond rfl (fun hc1 => ?_) (fun hc1 => ?_)
 ·refine Tri.seq (Tri.region ?_)
  refine TriL.c1 rfl (op_as (ltb rfl) rfl) ?_
  refine TriL.nil (Tri.ret ?_)
  exact ⟨.inr rfl, (ResOK.r1 rfl (.tmp rfl .nil)).cast (congrArg AV.bool (by rw [hT, Sch.ix_no hc1])), rfl⟩
 ·rw [Sch.ix_at hc1] at hT
  refine Tri.skip (Tri.seq (Tri.region ?_))
  refine TriL.c1 rfl (op_fal (ltb rfl) fo94_1_q rfl) ?_
  refine TriL.c1 rfl (op_ldl (ltb rfl) lk92_q rfl rfl rfl) ?_
  refine TriL.c1 rfl (op_mv (ltb rfl) rfl) ?_
  refine TriL.c1 rfl (op_iak (ltb rfl) ie92_q rfl rfl (Sch.ix_nn hc1) (ixm1 (Sch.ix_eq hc1) (Sch.ix_lt hc1)) rfl) ?_
  refine TriL.c1 rfl (op_ldk (ltb rfl) lk157_q rfl rfl) ?_
  refine TriL.c2 rfl (op_all (ltb rfl) zA157_q rfl) ?_
  refine TriL.c1 rfl (op_stl lk157_q rfl rfl rfl rfl rfl (leb rfl)) ?_
  refine TriL.nil (Tri.seq (Tri.region ?_))
  refine TriL.c2 rfl (op_litt («as» := []) (ltb rfl) se40_q zAe40_q rfl rfl rfl (leb rfl) rfl) ?_
  refine TriL.c1 rfl (op_as (ltb rfl) rfl) ?_
  refine TriL.nil (Tri.seq (Tri.seq (Tri.region ?_)))
  refine TriL.c1 rfl (op_as (ltb rfl) rfl) ?_
  refine TriL.nil (Tri.blk ?_)
  refine Tri.ofKept (Kept.keep [.s 10, .s 9, .t 24, .h, .s 3, .b 3, .s 5, .b 5, .s 8, .b 8] rfl (by decide) (Kept.now ?_))
  -- LOOP 1
  refine Tri.loopk (fun ((i, a) : Nat × List AV) => [(.s 10, .sv (.v (.int .i64 (i : Int)))), (.s 9, .sv (.ow 24 a)), (.t 24, .tk false 9 1 a)]) _ (fun ((i, a) : Nat × List AV) => a = (t.slots.take i).map (fun y => AV.str ((s.msgs[s.ixN name]'(Sch.ix_lt hc1)).oneOf y)) ∧ slotsAt s (s.msgs[s.ixN name]'(Sch.ix_lt hc1)) t.slots i = slotsOk s (s.msgs[s.ixN name]'(Sch.ix_lt hc1)) t.slots none [] ∧ goodS (s.msgs[s.ixN name]'(Sch.ix_lt hc1)) t.slots i) (fun ((i, a) : Nat × List AV) => t.slots.length - i) (0, _) rfl ⟨rfl, slotsAt_zero s (s.msgs[s.ixN name]'(Sch.ix_lt hc1)) t.slots, goodS.zero _ _⟩ ?_
  rintro ⟨i, a⟩ ⟨rfl, hI, hG⟩
  refine Tri.seq (Tri.seq (Tri.region ?_))
  refine TriL.c1 rfl (op_mv (ltb rfl) rfl) ?_
  refine TriL.c1 rfl (op_fal (ltb rfl) fo59_0_q rfl) ?_
  refine TriL.c1 rfl (op_ldl (ltb rfl) lk56_q rfl rfl rfl) ?_
  refine TriL.c1 rfl (op_lenl (ltb rfl) un56_q rfl) ?_
  refine TriL.c1 rfl (op_bin (ltb rfl) rfl rfl rfl) ?_
  refine TriL.nil ?_
  refine Tri.cond rfl (fun hc2 => ?_) (fun hc2 => ?_)
  ·have hi := ltm hc2
   have hS := @slotsAt_step s (s.msgs[s.ixN name]'(Sch.ix_lt hc1)) t.slots i hi
   refine Tri.skip (Tri.seq (Tri.blk ?_))
   refine Tri.joinu [.h, .s 3, .b 3, .s 5, .b 5, .s 8, .b 8, .s 9, .t 24, .s 10] (fun (_ : Unit) => []) (fun (_ : Unit) => (match lastN t.slots i with | none => true | some n => decide (n < (t.slots[i]'hi).num)) = true ∧ (t.slots[i]'hi).ok s (s.msgs[s.ixN name]'(Sch.ix_lt hc1)) = true) rfl ?_ ?_
   ·refine Tri.seq ?_
    refine Tri.drawn mixed rfl ?_
    refine TriD.c1 rfl (op_mv (ltb rfl) rfl) ?_
    refine TriD.c1 rfl (op_bin (ltb rfl) rfl rfl rfl) ?_
    refine TriD.c1 rfl (op_mv (ltb rfl) rfl) ?_
    refine TriD.split (d := 34) rfl (fun hg3 => ?_) (fun hg3 => ?_)
    ·refine TriD.g1 rfl (ltb rfl) rfl hg3 (op_fal (ltb rfl) fo59_0_q rfl) ?_
     refine TriD.g1 rfl (ltb rfl) rfl hg3 (op_ldl (ltb rfl) lk56_q rfl rfl rfl) ?_
     refine TriD.g1 rfl (ltb rfl) rfl hg3 (op_mv (ltb rfl) rfl) ?_
     refine TriD.g1 rfl (ltb rfl) rfl hg3 (op_bin (ltb rfl) rfl rfl rfl) ?_
     refine TriD.g1 rfl (ltb rfl) rfl hg3 (op_iak (ltb rfl) ie56_q rfl rfl (by rw [dec1 (by have := of_decide_eq_true hg3; omega) (by omega)]; exact Int.natCast_nonneg _) (ixmE1 Slot.av_eq (dec1 (by have := of_decide_eq_true hg3; omega) (by omega)) (show i - 1 < t.slots.length by omega)) rfl) ?_
     refine TriD.g1 rfl (ltb rfl) rfl hg3 (op_fak (ltb rfl) fo55_0_q rfl) ?_
     refine TriD.g1 rfl (ltb rfl) rfl hg3 (op_ldk (ltb rfl) lk3_q rfl rfl) ?_
     refine TriD.g1 rfl (ltb rfl) rfl hg3 (op_fal (ltb rfl) fo59_0_q rfl) ?_
     refine TriD.g1 rfl (ltb rfl) rfl hg3 (op_ldl (ltb rfl) lk56_q rfl rfl rfl) ?_
     refine TriD.g1 rfl (ltb rfl) rfl hg3 (op_mv (ltb rfl) rfl) ?_
     refine TriD.g1 rfl (ltb rfl) rfl hg3 (op_iak (ltb rfl) ie56_q rfl rfl (Int.natCast_nonneg _) (ixmE Slot.av_eq hi) rfl) ?_
     refine TriD.g1 rfl (ltb rfl) rfl hg3 (op_fak (ltb rfl) fo55_0_q rfl) ?_
     refine TriD.g1 rfl (ltb rfl) rfl hg3 (op_ldk (ltb rfl) lk3_q rfl rfl) ?_
     refine TriD.g1 rfl (ltb rfl) rfl hg3 (op_bin (ltb rfl) rfl rfl rfl) ?_
     refine TriD.c1 rfl (op_pickt (ltb rfl) rfl hg3 rfl) ?_
     refine TriD.c1 rfl (op_mv (ltb rfl) rfl) ?_
     refine TriD.split (d := 50) rfl (fun hg4 => ?_) (fun hg4 => ?_)
     ·iterate 9 (refine TriD.skipu rfl rfl (ltb rfl) (ltb rfl) rfl hg4 ?_)
      refine TriD.c1 rfl (op_pickt (ltb rfl) rfl hg4 rfl) ?_
      refine TriD.nil (by kernel_rfl) (Kept.now ?_)
      refine Tri.condT rfl rfl ?_
      refine Tri.seq (Tri.region ?_)
      refine TriL.c1 rfl (op_as (ltb rfl) rfl) ?_
      refine TriL.nil (Tri.ret ?_)
      exact ⟨.inr rfl, (ResOK.r1 rfl (.tmp rfl .nil)).cast (congrArg AV.bool (by rw [lastN_pos (by have := of_decide_eq_true hg3; omega) hi] at hS; grind)), rfl⟩
     ·refine TriD.g1 rfl (ltb rfl) rfl hg4 (op_ldl (ltb rfl) lk94_q rfl rfl rfl) ?_
      refine TriD.g1 rfl (ltb rfl) rfl hg4 (op_ldl (ltb rfl) lk157_q rfl rfl rfl) ?_
      refine TriD.g1 rfl (ltb rfl) rfl hg4 (op_fal (ltb rfl) fo59_0_q rfl) ?_
      refine TriD.g1 rfl (ltb rfl) rfl hg4 (op_ldl (ltb rfl) lk56_q rfl rfl rfl) ?_
      refine TriD.g1 rfl (ltb rfl) rfl hg4 (op_mv (ltb rfl) rfl) ?_
      refine TriD.g1 rfl (ltb rfl) rfl hg4 (op_iak (ltb rfl) ie56_q rfl rfl (Int.natCast_nonneg _) (ixmE Slot.av_eq hi) rfl) ?_
      refine TriD.g1 rfl (ltb rfl) rfl hg4 (op_ldk (ltb rfl) lk55_q rfl rfl) ?_
      refine TriD.g1 rfl (ltb rfl) rfl hg4 (op_call (ltb rfl) fn115_q rfl (r_slot _ _ _ (hs.f _ (List.getElem_mem (Sch.ix_lt hc1))) (hb.here.v _ (List.getElem_mem hi)) (hb.here.vs _ (List.getElem_mem hi)) (ih _ (List.getElem_mem hi)))) ?_
      refine TriD.g1 rfl (ltb rfl) rfl hg4 (op_un (ltb rfl) rfl rfl) ?_
      refine TriD.c1 rfl (op_pickf (ltb rfl) rfl hg4 rfl) ?_
      refine TriD.nil (by kernel_rfl) (Kept.now ?_)
      refine Tri.cond rfl (fun hc5 => ?_) (fun hc5 => ?_)
      ·refine Tri.seq (Tri.region ?_)
       refine TriL.c1 rfl (op_as (ltb rfl) rfl) ?_
       refine TriL.nil (Tri.ret ?_)
       exact ⟨.inr rfl, (ResOK.r1 rfl (.tmp rfl .nil)).cast (congrArg AV.bool (by have := ntr hc5; grind)), rfl⟩
      ·refine Tri.ofKept (Kept.keep [.h, .s 3, .b 3, .s 5, .b 5, .s 8, .b 8, .s 9, .t 24, .s 10] rfl (by decide) (Kept.now ?_))
       refine Tri.skip ?_
       exact ⟨(), ⟨by rw [lastN_pos (by have := of_decide_eq_true hg3; omega) hi]; simpa using hg4, nfl hc5⟩, rfl⟩
    ·iterate 14 (refine TriD.skipu rfl rfl (ltb rfl) (ltb rfl) rfl hg3 ?_)
     refine TriD.c1 rfl (op_pickf (ltb rfl) rfl hg3 rfl) ?_
     refine TriD.c1 rfl (op_mv (ltb rfl) rfl) ?_
     refine TriD.g1 rfl (ltb rfl) rfl rfl (op_ldl (ltb rfl) lk94_q rfl rfl rfl) ?_
     refine TriD.g1 rfl (ltb rfl) rfl rfl (op_ldl (ltb rfl) lk157_q rfl rfl rfl) ?_
     refine TriD.g1 rfl (ltb rfl) rfl rfl (op_fal (ltb rfl) fo59_0_q rfl) ?_
     refine TriD.g1 rfl (ltb rfl) rfl rfl (op_ldl (ltb rfl) lk56_q rfl rfl rfl) ?_
     refine TriD.g1 rfl (ltb rfl) rfl rfl (op_mv (ltb rfl) rfl) ?_
     refine TriD.g1 rfl (ltb rfl) rfl rfl (op_iak (ltb rfl) ie56_q rfl rfl (Int.natCast_nonneg _) (ixmE Slot.av_eq hi) rfl) ?_
     refine TriD.g1 rfl (ltb rfl) rfl rfl (op_ldk (ltb rfl) lk55_q rfl rfl) ?_
     refine TriD.g1 rfl (ltb rfl) rfl rfl (op_call (ltb rfl) fn115_q rfl (r_slot _ _ _ (hs.f _ (List.getElem_mem (Sch.ix_lt hc1))) (hb.here.v _ (List.getElem_mem hi)) (hb.here.vs _ (List.getElem_mem hi)) (ih _ (List.getElem_mem hi)))) ?_
     refine TriD.g1 rfl (ltb rfl) rfl rfl (op_un (ltb rfl) rfl rfl) ?_
     refine TriD.c1 rfl (op_pickf (ltb rfl) rfl rfl rfl) ?_
     refine TriD.nil (by kernel_rfl) (Kept.now ?_)
     refine Tri.cond rfl (fun hc6 => ?_) (fun hc6 => ?_)
     ·refine Tri.seq (Tri.region ?_)
      refine TriL.c1 rfl (op_as (ltb rfl) rfl) ?_
      refine TriL.nil (Tri.ret ?_)
      exact ⟨.inr rfl, (ResOK.r1 rfl (.tmp rfl .nil)).cast (congrArg AV.bool (by have := ntr hc6; grind)), rfl⟩
     ·refine Tri.ofKept (Kept.keep [.h, .s 3, .b 3, .s 5, .b 5, .s 8, .b 8, .s 9, .t 24, .s 10] rfl (by decide) (Kept.now ?_))
      refine Tri.skip ?_
      exact ⟨(), ⟨by have h0 : i = 0 := (by have := of_decide_eq_false hg3; omega); subst h0; rw [lastN_zero], nfl hc6⟩, rfl⟩
   ·rintro _ hF11
    have hat := Slot.ok_at hF11.2
    have hone := oneOf_fix (Msg.at_fix hat)
    refine Tri.seq ?_
    refine Tri.drawn mixed rfl ?_
    refine TriD.c1 rfl (op_fal (ltb rfl) fo157_1_q rfl) ?_
    refine TriD.c1 rfl (op_ldl (ltb rfl) lk155_q rfl rfl rfl) ?_
    refine TriD.c1 rfl (op_ldl (ltb rfl) lk157_q rfl rfl rfl) ?_
    refine TriD.c1 rfl (op_fal (ltb rfl) fo59_0_q rfl) ?_
    refine TriD.c1 rfl (op_ldl (ltb rfl) lk56_q rfl rfl rfl) ?_
    refine TriD.c1 rfl (op_mv (ltb rfl) rfl) ?_
    refine TriD.c1 rfl (op_iak (ltb rfl) ie56_q rfl rfl (Int.natCast_nonneg _) (ixmE Slot.av_eq hi) rfl) ?_
    refine TriD.c1 rfl (op_fak (ltb rfl) fo55_0_q rfl) ?_
    refine TriD.c1 rfl (op_ldk (ltb rfl) lk3_q rfl rfl) ?_
    refine TriD.c1 rfl (op_call (ltb rfl) fn116_q rfl (r_number _ _ (hs.f _ (List.getElem_mem (Sch.ix_lt hc1))))) ?_
    refine TriD.c1 rfl (op_iak (ltb rfl) ie155_q rfl rfl (Msg.at_nn hat) (ixm1 (Msg.at_eq hat) (Msg.at_lt hat)) rfl) ?_
    refine TriD.c1 rfl (op_fak (ltb rfl) fo96_6_q rfl) ?_
    refine TriD.c1 rfl (op_ldk (ltb rfl) lk9_q rfl rfl) ?_
    refine TriD.c1 rfl (op_as (ltb rfl) rfl) ?_
    refine TriD.nil (by kernel_rfl) (Kept.now ?_)
    refine Tri.seq (Tri.seq (Tri.region ?_))
    refine TriL.c1 rfl (op_as (ltb rfl) rfl) ?_
    refine TriL.nil (Tri.blk ?_)
    refine Tri.ofKept (Kept.keep [.s 12, .h, .s 3, .b 3, .s 5, .b 5, .s 8, .b 8, .s 9, .t 24, .s 10, .s 11] rfl (by decide) (Kept.now ?_))
    -- LOOP 2
    refine Tri.loopk (fun (k : Nat) => [(.s 12, .sv (.v (.int .i64 (k : Int))))]) _ (fun (k : Nat) => ((t.slots.take i).drop k).any (fun y => !(((s.msgs[s.ixN name]'(Sch.ix_lt hc1)).fields[(s.msgs[s.ixN name]'(Sch.ix_lt hc1)).ixN (t.slots[i]'hi).num]'(Msg.at_lt hat)).one == []) && ((s.msgs[s.ixN name]'(Sch.ix_lt hc1)).oneOf y == ((s.msgs[s.ixN name]'(Sch.ix_lt hc1)).fields[(s.msgs[s.ixN name]'(Sch.ix_lt hc1)).ixN (t.slots[i]'hi).num]'(Msg.at_lt hat)).one)) = (t.slots.take i).any (fun y => !(((s.msgs[s.ixN name]'(Sch.ix_lt hc1)).fields[(s.msgs[s.ixN name]'(Sch.ix_lt hc1)).ixN (t.slots[i]'hi).num]'(Msg.at_lt hat)).one == []) && ((s.msgs[s.ixN name]'(Sch.ix_lt hc1)).oneOf y == ((s.msgs[s.ixN name]'(Sch.ix_lt hc1)).fields[(s.msgs[s.ixN name]'(Sch.ix_lt hc1)).ixN (t.slots[i]'hi).num]'(Msg.at_lt hat)).one))) (fun (k : Nat) => (t.slots.take i).length - k) 0 rfl (by simp) ?_
    rintro k hK
    refine Tri.seq (Tri.seq (Tri.region ?_))
    iterate 2 (refine TriL.c1 rfl (op_mv (ltb rfl) rfl) ?_)
    refine TriL.c1 rfl (op_lenl (ltb rfl) un40_q rfl) ?_
    refine TriL.c1 rfl (op_bin (ltb rfl) rfl rfl rfl) ?_
    refine TriL.nil ?_
    refine Tri.cond rfl (fun hc7 => ?_) (fun hc7 => ?_)
    ·have hk := ltm hc7
     have hU := any_step (p := (fun y => !(((s.msgs[s.ixN name]'(Sch.ix_lt hc1)).fields[(s.msgs[s.ixN name]'(Sch.ix_lt hc1)).ixN (t.slots[i]'hi).num]'(Msg.at_lt hat)).one == []) && ((s.msgs[s.ixN name]'(Sch.ix_lt hc1)).oneOf y == ((s.msgs[s.ixN name]'(Sch.ix_lt hc1)).fields[(s.msgs[s.ixN name]'(Sch.ix_lt hc1)).ixN (t.slots[i]'hi).num]'(Msg.at_lt hat)).one))) hk
     have hkl : (t.slots.take i).length ≤ t.slots.length := by rw [List.length_take]; omega
     refine Tri.skip (Tri.seq (Tri.blk (Tri.seq (Tri.region ?_))))
     refine TriL.c1 rfl (op_mv (ltb rfl) rfl) ?_
     refine TriL.c1 rfl (op_bin (ltb rfl) rfl rfl rfl) ?_
     refine TriL.c1 rfl (op_mv (ltb rfl) rfl) ?_
     refine TriL.split (d := 82) rfl (fun hg8 => ?_) (fun hg8 => ?_)
     ·iterate 2 (refine TriL.g1 rfl (ltb rfl) rfl hg8 (op_mv (ltb rfl) rfl) ?_)
      refine TriL.g1 rfl (ltb rfl) rfl hg8 (op_iak (ltb rfl) ie40_q rfl rfl (Int.natCast_nonneg _) (ixm hk) rfl) ?_
      refine TriL.g1 rfl (ltb rfl) rfl hg8 (op_ldk (ltb rfl) lk9_q rfl rfl) ?_
      refine TriL.g1 rfl (ltb rfl) rfl hg8 (op_mv (ltb rfl) rfl) ?_
      refine TriL.g1 rfl (ltb rfl) rfl hg8 (op_bin (ltb rfl) rfl rfl rfl) ?_
      refine TriL.c1 rfl (op_pickt (ltb rfl) rfl hg8 rfl) ?_
      refine TriL.nil ?_
      refine Tri.cond rfl (fun hc9 => ?_) (fun hc9 => ?_)
      ·refine Tri.seq (Tri.region ?_)
       refine TriL.c1 rfl (op_as (ltb rfl) rfl) ?_
       refine TriL.nil (Tri.ret ?_)
       exact ⟨.inr rfl, (ResOK.r1 rfl (.tmp rfl .nil)).cast (congrArg AV.bool (by have hQ := newOne_any (m := (s.msgs[s.ixN name]'(Sch.ix_lt hc1))) (l := t.slots.take i) (one := ((s.msgs[s.ixN name]'(Sch.ix_lt hc1)).fields[(s.msgs[s.ixN name]'(Sch.ix_lt hc1)).ixN (t.slots[i]'hi).num]'(Msg.at_lt hat)).one); rw [hone] at hS; grind)), rfl⟩
      ·refine Tri.skip (Tri.region ?_)
       refine TriL.c1 rfl (op_mv (ltb rfl) rfl) ?_
       refine TriL.c1 rfl (op_bin (ltb rfl) rfl rfl rfl) ?_
       refine TriL.c1 rfl (op_as (ltb rfl) rfl) ?_
       refine TriL.kept (Kept.seti 12 rfl (inc (by omega)) (Kept.keep [.s 12, .h, .s 3, .b 3, .s 5, .b 5, .s 8, .b 8, .s 9, .t 24, .s 10, .s 11] rfl (by decide) (Kept.now ?_)))
       exact ⟨k + 1, by omega, by grind, rfl⟩
     ·iterate 6 (refine TriL.skipu rfl rfl (ltb rfl) (ltb rfl) rfl hg8 ?_)
      refine TriL.c1 rfl (op_pickf (ltb rfl) rfl hg8 rfl) ?_
      refine TriL.nil ?_
      refine Tri.condF rfl rfl ?_
      refine Tri.skip (Tri.region ?_)
      refine TriL.c1 rfl (op_mv (ltb rfl) rfl) ?_
      refine TriL.c1 rfl (op_bin (ltb rfl) rfl rfl rfl) ?_
      refine TriL.c1 rfl (op_as (ltb rfl) rfl) ?_
      refine TriL.kept (Kept.seti 12 rfl (inc (by omega)) (Kept.keep [.s 12, .h, .s 3, .b 3, .s 5, .b 5, .s 8, .b 8, .s 9, .t 24, .s 10, .s 11] rfl (by decide) (Kept.now ?_)))
      exact ⟨k + 1, by omega, by grind, rfl⟩
    ·have hk := gem hc7
     have hU := any_end (p := (fun y => !(((s.msgs[s.ixN name]'(Sch.ix_lt hc1)).fields[(s.msgs[s.ixN name]'(Sch.ix_lt hc1)).ixN (t.slots[i]'hi).num]'(Msg.at_lt hat)).one == []) && ((s.msgs[s.ixN name]'(Sch.ix_lt hc1)).oneOf y == ((s.msgs[s.ixN name]'(Sch.ix_lt hc1)).fields[(s.msgs[s.ixN name]'(Sch.ix_lt hc1)).ixN (t.slots[i]'hi).num]'(Msg.at_lt hat)).one))) hk
     refine Tri.exit (Tri.region ?_)
     iterate 2 (refine TriL.c1 rfl (op_mv (ltb rfl) rfl) ?_)
     refine TriL.c1 rfl (op_lit («as» := [_]) (ltb rfl) se40_q zAe40_q rfl rfl rfl (leb rfl)) ?_
     refine TriL.c3 rfl (op_app (ltb rfl) se40_q rfl rfl rfl rfl rfl (by have := hG.len; have := hs.f _ (List.getElem_mem (Sch.ix_lt hc1)); simp; omega) (by have := hG.len; have := hs.f _ (List.getElem_mem (Sch.ix_lt hc1)); simp; omega)) ?_
     refine TriL.c1 rfl (op_as (ltb rfl) rfl) ?_
     refine TriL.nil (Tri.region ?_)
     refine TriL.c1 rfl (op_mv (ltb rfl) rfl) ?_
     refine TriL.c1 rfl (op_bin (ltb rfl) rfl rfl rfl) ?_
     refine TriL.c1 rfl (op_as (ltb rfl) rfl) ?_
     refine TriL.kept (Kept.seti 10 rfl (inc (by omega)) (Kept.keep [.s 10, .s 9, .t 93, .h, .s 3, .b 3, .s 5, .b 5, .s 8, .b 8] rfl (by decide) (Kept.ren 93 24 (by decide) rfl (Kept.now ?_))))
     have hQ := newOne_any (m := (s.msgs[s.ixN name]'(Sch.ix_lt hc1))) (l := t.slots.take i) (one := ((s.msgs[s.ixN name]'(Sch.ix_lt hc1)).fields[(s.msgs[s.ixN name]'(Sch.ix_lt hc1)).ixN (t.slots[i]'hi).num]'(Msg.at_lt hat)).one)
     exact ⟨(i + 1, _), (by dsimp only; omega), ⟨by rw [← hone]; exact take_app hi rfl, by rw [hone] at hS; grind, hG.step hi hF11.1 (Slot.ok_some hF11.2)⟩, rfl⟩
  ·have hi := gem hc2
   have hS := @slotsAt_end s (s.msgs[s.ixN name]'(Sch.ix_lt hc1)) t.slots i hi
   refine Tri.exit (Tri.seq (Tri.seq (Tri.region ?_)))
   refine TriL.c1 rfl (op_as (ltb rfl) rfl) ?_
   refine TriL.nil (Tri.blk ?_)
   refine Tri.ofKept (Kept.keep [.s 13, .h, .s 5, .b 5, .s 8, .b 8] rfl (by decide) (Kept.now ?_))
   -- LOOP 3
   refine Tri.loopk (fun (j : Nat) => [(.s 13, .sv (.v (.int .i64 (j : Int))))]) _ (fun (j : Nat) => (t.rest.drop j).all (restOK (s.msgs[s.ixN name]'(Sch.ix_lt hc1))) = t.rest.all (restOK (s.msgs[s.ixN name]'(Sch.ix_lt hc1)))) (fun (j : Nat) => t.rest.length - j) 0 rfl (by simp) ?_
   rintro j hJ
   refine Tri.seq (Tri.seq (Tri.region ?_))
   refine TriL.c1 rfl (op_mv (ltb rfl) rfl) ?_
   refine TriL.c1 rfl (op_fal (ltb rfl) fo59_1_q rfl) ?_
   refine TriL.c1 rfl (op_ldl (ltb rfl) lk57_q rfl rfl rfl) ?_
   refine TriL.c1 rfl (op_lenl (ltb rfl) un57_q rfl) ?_
   refine TriL.c1 rfl (op_bin (ltb rfl) rfl rfl rfl) ?_
   refine TriL.nil ?_
   refine Tri.cond rfl (fun hc10 => ?_) (fun hc10 => ?_)
   ·have hj := ltm hc10
    have hR := all_step (p := restOK (s.msgs[s.ixN name]'(Sch.ix_lt hc1))) hj
    have hA := (s.msgs[s.ixN name]'(Sch.ix_lt hc1)).at_cases (t.rest[j]'hj).num
    refine Tri.skip (Tri.seq (Tri.blk (Tri.seq ?_)))
    refine Tri.drawn mixed rfl ?_
    refine TriD.c1 rfl (op_fal (ltb rfl) fo59_1_q rfl) ?_
    refine TriD.c1 rfl (op_ldl (ltb rfl) lk57_q rfl rfl rfl) ?_
    refine TriD.c1 rfl (op_mv (ltb rfl) rfl) ?_
    refine TriD.c1 rfl (op_iak (ltb rfl) ie57_q rfl rfl (Int.natCast_nonneg _) (ixm hj) rfl) ?_
    refine TriD.c1 rfl (op_ldk (ltb rfl) lk126_q rfl rfl) ?_
    refine TriD.c1 rfl (op_call (ltb rfl) fn117_q rfl (r_rright _)) ?_
    refine TriD.c1 rfl (op_un (ltb rfl) rfl rfl) ?_
    refine TriD.c1 rfl (op_mv (ltb rfl) rfl) ?_
    refine TriD.split (d := 108) rfl (fun hg11 => ?_) (fun hg11 => ?_)
    ·iterate 9 (refine TriD.skipu rfl rfl (ltb rfl) (ltb rfl) rfl hg11 ?_)
     refine TriD.c1 rfl (op_pickt (ltb rfl) rfl hg11 rfl) ?_
     refine TriD.nil (by kernel_rfl) (Kept.now ?_)
     refine Tri.condT rfl rfl ?_
     refine Tri.seq (Tri.region ?_)
     refine TriL.c1 rfl (op_as (ltb rfl) rfl) ?_
     refine TriL.nil (Tri.ret ?_)
     exact ⟨.inr rfl, (ResOK.r1 rfl (.tmp rfl .nil)).cast (congrArg AV.bool (by grind [restOK])), rfl⟩
    ·refine TriD.g1 rfl (ltb rfl) rfl hg11 (op_ldl (ltb rfl) lk157_q rfl rfl rfl) ?_
     refine TriD.g1 rfl (ltb rfl) rfl hg11 (op_fal (ltb rfl) fo59_1_q rfl) ?_
     refine TriD.g1 rfl (ltb rfl) rfl hg11 (op_ldl (ltb rfl) lk57_q rfl rfl rfl) ?_
     refine TriD.g1 rfl (ltb rfl) rfl hg11 (op_mv (ltb rfl) rfl) ?_
     refine TriD.g1 rfl (ltb rfl) rfl hg11 (op_iak (ltb rfl) ie57_q rfl rfl (Int.natCast_nonneg _) (ixm hj) rfl) ?_
     refine TriD.g1 rfl (ltb rfl) rfl hg11 (op_fak (ltb rfl) fo126_0_q rfl) ?_
     refine TriD.g1 rfl (ltb rfl) rfl hg11 (op_ldk (ltb rfl) lk3_q rfl rfl) ?_
     refine TriD.g1 rfl (ltb rfl) rfl hg11 (op_call (ltb rfl) fn116_q rfl (r_number _ _ (hs.f _ (List.getElem_mem (Sch.ix_lt hc1))))) ?_
     refine TriD.g1 rfl (ltb rfl) rfl hg11 (op_bin (ltb rfl) rfl rfl rfl) ?_
     refine TriD.c1 rfl (op_pickf (ltb rfl) rfl hg11 rfl) ?_
     refine TriD.nil (by kernel_rfl) (Kept.now ?_)
     refine Tri.cond rfl (fun hc12 => ?_) (fun hc12 => ?_)
     ·refine Tri.seq (Tri.region ?_)
      refine TriL.c1 rfl (op_as (ltb rfl) rfl) ?_
      refine TriL.nil (Tri.ret ?_)
      exact ⟨.inr rfl, (ResOK.r1 rfl (.tmp rfl .nil)).cast (congrArg AV.bool (by grind [restOK])), rfl⟩
     ·refine Tri.skip (Tri.region ?_)
      refine TriL.c1 rfl (op_mv (ltb rfl) rfl) ?_
      refine TriL.c1 rfl (op_bin (ltb rfl) rfl rfl rfl) ?_
      refine TriL.c1 rfl (op_as (ltb rfl) rfl) ?_
      refine TriL.kept (Kept.seti 13 rfl (inc (by omega)) (Kept.keep [.s 13, .h, .s 5, .b 5, .s 8, .b 8] rfl (by decide) (Kept.now ?_)))
      exact ⟨j + 1, by omega, by grind [restOK], rfl⟩
   ·have hj := gem hc10
    have hR := all_end (p := restOK (s.msgs[s.ixN name]'(Sch.ix_lt hc1))) hj
    refine Tri.exit (Tri.seq (Tri.region ?_))
    refine TriL.c1 rfl (op_as (ltb rfl) rfl) ?_
    refine TriL.nil (Tri.ret ?_)
    exact ⟨.inr rfl, (ResOK.r1 rfl (.tmp rfl .nil)).cast (congrArg AV.bool (by grind)), rfl⟩
theorem r_tree (s : Sch) (hs : s.fine) (t : Tree) (hb : t.big) (name : Str) : Pure Tryz.prog 76 [s.av, .str name, .agg t.cells] (.bool (t.ok s name)) :=
 Tree.ind (Q := fun t => t.big → ∀ name : Str, Pure Tryz.prog 76 [s.av, .str name, .agg t.cells] (.bool (t.ok s name))) (fun t ih hb name => r_tree1 s hs name t hb (fun x hx v hv u hu => ih x hx v hv u hu (hb.sub hu hv hx))) t hb name
/- how deep a value is, in the program. -/
/- Numbers and bytes. No condition. -/
theorem wr64 {n : Int} (h0 : -9223372036854775808 ≤ n) (h : n < 9223372036854775808) : IntKind.i64.wrap n = n := by simp only [IntKind.wrap, IntKind.bits, IntKind.signed]; simp; omega
theorem get_at {l : List UInt8} {p : Nat} {c : UInt8} (h : l[p]? = some c) : (⟨l.toArray⟩ : ByteArray).get! (p + 0) = c := by
 show (l.toArray)[p + 0]! = c
 rw [Nat.add_zero, getElem!_def]
 simp [h]
theorem dec_lo {l : List UInt8} {p : Nat} {c : UInt8} (h : l[p]? = some c) (hc : c.toNat < 128) : dec l p = (c.toNat, 1) := by
 unfold dec Utf8.decode
 simp only [get_at h]
 rw [if_pos hc]
theorem dec_hi {l : List UInt8} {p : Nat} {c : UInt8} (h : l[p]? = some c) (hc : ¬ c.toNat < 128) : 128 ≤ (dec l p).1 ∧ (dec l p).1 < 2147483648 := by
 unfold dec Utf8.decode
 simp only [get_at h]
 rw [if_neg hc]
 have hv := c.toNat_lt
 (repeat' split) <;> simp only [Utf8.runeError, Bool.and_eq_true, decide_eq_true_eq, ge_iff_le] at * <;> omega

def rebox (k : Nat) (cells : List Sv) : St → St
 | [] => []
 | (c, v) :: s => (c, if c = .b k then .bx cells else v) :: rebox k cells s
/- Lists of bytes that are the same. No condition. -/
end Go.Proofs.YtabihkfhoohfnaaGreatDoor.X
/-
 DERIVED: THE SHELF's CONTRACTS AT THIS DUMP, IN PLAIN WORDS (tools/lay-plain.mjs out of 'TryzShelf.lean', which tools/lay-shelf.mjs wrote): THE SAME DECLARATIONS UNDER THE SAME NAMES: 'import', 'namespace', 'open', 'def', 'theorem' AND NOTHING ELSE: no command of the shelf's: FOR A HAND-IN. Each laying: the table of numbers ('.._ren') and one theorem, a field a fact of the dump's own or the kernel's comparison; each contract: ONE APPLICATION.
-/
namespace Go.Proofs
open Go.Shelf
def Tryz.lays137_ren : Go.Shelf.Ren := ⟨fun | 137 => 131 | 217 => 161 | 266 => 195 | n => n, fun | 9 => 9 | 5 => 5 | 3 => 3 | n => n, fun | n => n⟩
theorem Tryz.lays137 : Go.Proofs.Lays.n137 Tryz.prog Tryz.lays137_ren := {
 mixed := by kernel_rfl
 f137 := Tryz.func131.trans (congrArg some (by kernel_rfl))
 f217 := Tryz.func161.trans (congrArg some (by kernel_rfl))
 f266 := Tryz.func195.trans (congrArg some (by kernel_rfl))
 t3 := Tryz.underlying3
 a3 := Tryz.isAgg3
 z3 := Tryz.sizeOf3
 v3 := Tryz.zeroValue3
 t5 := Tryz.underlying5
 a5 := Tryz.isAgg5
 z5 := Tryz.sizeOf5
 v5 := Tryz.zeroValue5
 t9 := Tryz.underlying9
 a9 := Tryz.isAgg9
 z9 := Tryz.sizeOf9
 v9 := Tryz.zeroValue9 }
open Go.RowKit in
/-- strings.IndexByte: "IndexByte returns the index of the first instance of c in s, or -1 if c is not present in s.": IT RETURNS 'Lib.indexByte s c'; the world is as it was. (LAID: no walk: one application.) -/
theorem Tryz.strings_IndexByte (s : ByteArray) (c : Int) (w : World) :
  Calls Tryz.prog 131 #[.string s, .int .u8 c] w fun e w' => e = .returned (.int .i64 (Lib.indexByte s.data.toList c.toNat.toUInt8)) ∧ w' = w := Any.strings_IndexByte Tryz.lays137 s c w
def Tryz.lays103_ren : Go.Shelf.Ren := ⟨fun | 103 => 125 | 210 => 155 | 206 => 92 | n => n, fun | 9 => 9 | 4 => 4 | 24 => 165 | 3 => 3 | n => n, fun | n => n⟩
theorem Tryz.lays103 : Go.Proofs.Lays.n103 Tryz.prog Tryz.lays103_ren := {
 mixed := by kernel_rfl
 f103 := Tryz.func125.trans (congrArg some (by kernel_rfl))
 f206 := Tryz.func92.trans (congrArg some (by kernel_rfl))
 f210 := Tryz.func155.trans (congrArg some (by kernel_rfl))
 t3 := Tryz.underlying3
 a3 := Tryz.isAgg3
 z3 := Tryz.sizeOf3
 v3 := Tryz.zeroValue3
 t4 := Tryz.underlying4
 a4 := Tryz.isAgg4
 z4 := Tryz.sizeOf4
 v4 := Tryz.zeroValue4
 t9 := Tryz.underlying9
 a9 := Tryz.isAgg9
 z9 := Tryz.sizeOf9
 v9 := Tryz.zeroValue9
 t24 := Tryz.underlying165
 a24 := Tryz.isAgg165
 z24 := Tryz.sizeOf165
 v24 := Tryz.zeroValue165 }
open Go.RowKit in
/-- strings.CutPrefix: "CutPrefix returns s without the provided leading prefix string and reports whether it found the prefix. If s doesn't start with prefix, CutPrefix returns s, false. If prefix is the empty string, CutPrefix returns s, true.": IT RETURNS '(Lib.trimPrefix s p, Lib.hasPrefix s p)'; the world is as it was. (LAID: no walk: one application.) -/
theorem Tryz.strings_CutPrefix (s p : ByteArray) (w : World) :
  Calls Tryz.prog 125 #[.string s, .string p] w fun e w' => e = .returned (.tuple #[.string ⟨(Lib.trimPrefix s.data.toList p.data.toList).toArray⟩, .bool (Lib.hasPrefix s.data.toList p.data.toList)]) ∧ w' = w := Any.strings_CutPrefix Tryz.lays103 s p w
def Tryz.lays283_ren : Go.Shelf.Ren := ⟨fun | 283 => 211 | n => n, fun | 3 => 3 | 9 => 9 | 4 => 4 | n => n, fun | n => n⟩
theorem Tryz.lays283 : Go.Proofs.Lays.n283 Tryz.prog Tryz.lays283_ren := {
 mixed := by kernel_rfl
 f283 := Tryz.func211.trans (congrArg some (by kernel_rfl))
 t3 := Tryz.underlying3
 a3 := Tryz.isAgg3
 z3 := Tryz.sizeOf3
 v3 := Tryz.zeroValue3
 t4 := Tryz.underlying4
 a4 := Tryz.isAgg4
 z4 := Tryz.sizeOf4
 v4 := Tryz.zeroValue4
 t9 := Tryz.underlying9
 a9 := Tryz.isAgg9
 z9 := Tryz.sizeOf9
 v9 := Tryz.zeroValue9 }
open Go.Lib in
/-- internal/strconv.small: "small returns the string for an i with 0 <= i < nSmalls.": i's decimal numeral. The world is as it was. (LAID: no walk: one application.) -/
theorem Tryz.internal_strconv_small (i : Nat) (h : i < 100) (w : World) :
  Calls Tryz.prog 211 #[.int .i64 i] w fun e w' => e = .returned (.string ⟨(Lib.decDigits i).toArray⟩) ∧ w' = w := Any.internal_strconv_small Tryz.lays283 i h w
def Tryz.laysM284_ren : Go.Shelf.Ren := ⟨fun | 284 => 212 | 129 => 177 | 317 => 219 | 318 => 220 | n => n, fun | 53 => 41 | 3 => 3 | 212 => 242 | 0 => 0 | 4 => 4 | 46 => 153 | 5 => 5 | 9 => 9 | n => n, fun | 17 => 5 | n => n⟩
theorem Tryz.laysM284 : Go.Proofs.LaysM.n284 Tryz.prog Tryz.laysM284_ren := {
 mixed := by kernel_rfl
 f129 := Tryz.func177.trans (congrArg some (by kernel_rfl))
 f284 := Tryz.func212.trans (congrArg some (by kernel_rfl))
 f317 := Tryz.func219.trans (congrArg some (by kernel_rfl))
 f318 := Tryz.func220.trans (congrArg some (by kernel_rfl))
 t0 := Tryz.underlying0
 a0 := Tryz.isAgg0
 z0 := Tryz.sizeOf0
 v0 := Tryz.zeroValue0
 t3 := Tryz.underlying3
 a3 := Tryz.isAgg3
 z3 := Tryz.sizeOf3
 v3 := Tryz.zeroValue3
 t4 := Tryz.underlying4
 a4 := Tryz.isAgg4
 z4 := Tryz.sizeOf4
 v4 := Tryz.zeroValue4
 t5 := Tryz.underlying5
 a5 := Tryz.isAgg5
 z5 := Tryz.sizeOf5
 v5 := Tryz.zeroValue5
 t9 := Tryz.underlying9
 a9 := Tryz.isAgg9
 z9 := Tryz.sizeOf9
 v9 := Tryz.zeroValue9
 t46 := Tryz.underlying153
 a46 := Tryz.isAgg153
 z46 := Tryz.sizeOf153
 v46 := Tryz.zeroValue153
 t53 := Tryz.underlying41
 a53 := Tryz.isAgg41
 z53 := Tryz.sizeOf41
 v53 := Tryz.zeroValue41
 t212 := Tryz.underlying242
 a212 := Tryz.isAgg242
 z212 := Tryz.sizeOf242
 v212 := Tryz.zeroValue242
 g17 := by kernel_rfl
 i0 := by kernel_rfl
 i3 := by kernel_rfl
 i4 := by kernel_rfl
 i5 := by kernel_rfl
 i9 := by kernel_rfl
 i46 := by kernel_rfl
 i53 := by kernel_rfl
 i212 := by kernel_rfl
 m17 := by kernel_rfl }
open Go.Lib in
/-- internal/strconv.numDigits, at a d that is not 0: THE NUMBER OF d's DECIMAL DIGITS. The world is as it was. (LAID: no walk: one application.) -/
theorem Tryz.internal_strconv_numDigits (u : Nat) (h1 : 1 ≤ u) (h2 : u < 18446744073709551616) (w : World) (htab : Lib.TabIs Tryz.prog w "internal/strconv.uint64pow10" .u64 Lib.pow10Tab) :
  Calls Tryz.prog 212 #[.int .u64 u] w fun e w' => e = .returned (.int .i64 (Lib.nDigits u)) ∧ w' = w := Any.internal_strconv_numDigits Tryz.laysM284 u h1 h2 w htab
def Tryz.lays285_ren : Go.Shelf.Ren := ⟨fun | 285 => 213 | n => n, fun | 37 => 161 | 53 => 41 | 3 => 3 | 4 => 4 | 51 => 201 | 9 => 9 | 5 => 5 | 0 => 0 | n => n, fun | n => n⟩
theorem Tryz.lays285 : Go.Proofs.Lays.n285 Tryz.prog Tryz.lays285_ren := {
 mixed := by kernel_rfl
 f285 := Tryz.func213.trans (congrArg some (by kernel_rfl))
 t0 := Tryz.underlying0
 a0 := Tryz.isAgg0
 z0 := Tryz.sizeOf0
 v0 := Tryz.zeroValue0
 t3 := Tryz.underlying3
 a3 := Tryz.isAgg3
 z3 := Tryz.sizeOf3
 v3 := Tryz.zeroValue3
 t4 := Tryz.underlying4
 a4 := Tryz.isAgg4
 z4 := Tryz.sizeOf4
 v4 := Tryz.zeroValue4
 t5 := Tryz.underlying5
 a5 := Tryz.isAgg5
 z5 := Tryz.sizeOf5
 v5 := Tryz.zeroValue5
 t9 := Tryz.underlying9
 a9 := Tryz.isAgg9
 z9 := Tryz.sizeOf9
 v9 := Tryz.zeroValue9
 t37 := Tryz.underlying161
 a37 := Tryz.isAgg161
 z37 := Tryz.sizeOf161
 v37 := Tryz.zeroValue161
 t51 := Tryz.underlying201
 a51 := Tryz.isAgg201
 z51 := Tryz.sizeOf201
 v51 := Tryz.zeroValue201
 t53 := Tryz.underlying41
 a53 := Tryz.isAgg41
 z53 := Tryz.sizeOf41
 v53 := Tryz.zeroValue41 }
open Go.RowKit Go.Sort Go.Lib in
/-- internal/strconv.formatBase10: "formatBase10 formats the decimal representation of u into a. The caller is responsible for ensuring that a is big enough to hold u. If a is too big, leading zeros will be filled in as needed.": THE ROW HOLDS u's DIGITS ('FmtInv .. 0 ..': every place t holds 'dg u (len - 1 - t)'); all else is as it was but for the count of draws. (LAID: no walk: one application.) -/
theorem Tryz.internal_strconv_formatBase10 (blk off cap : Nat) (u : Nat) (d : Array UInt8) (w : World) (hH : Holds (fun (b : UInt8) => Value.int .u8 (b.toNat : Int)) w blk off d) (hu : u < 10 ^ d.size) (hu64 : u < 18446744073709551616) (hsz : d.size < 4611686018427387904) :
  Calls Tryz.prog 213 #[.slice (some ⟨blk, off, none⟩) d.size cap, .int .u64 u] w fun e w' =>
   e = .returned (.tuple #[]) ∧ ∃ (n v' : Nat) (dk : Array UInt8), w' = (putRow (fun (b : UInt8) => Value.int .u8 (b.toNat : Int)) w blk off dk).drewN n ∧ FmtInv d.size u 0 v' dk := Any.internal_strconv_formatBase10 Tryz.lays285 blk off cap u d w hH hu hu64 hsz
def Tryz.laysPu14_ren : Go.Shelf.Ren := ⟨fun | 14 => 126 | 16 => 156 | 17 => 157 | 19 => 184 | 20 => 185 | 21 => 186 | 22 => 187 | 23 => 188 | 24 => 189 | 25 => 208 | 27 => 210 | 26 => 209 | 28 => 218 | 29 => 223 | 30 => 211 | 31 => 212 | 32 => 213 | 33 => 214 | 35 => 177 | 34 => 219 | 36 => 220 | 37 => 221 | 38 => 222 | 39 => 224 | 40 => 225 | n => n, fun | 9 => 9 | 3 => 3 | 22 => 41 | 24 => 168 | 25 => 169 | 4 => 4 | 34 => 207 | 5 => 5 | 36 => 153 | 37 => 161 | 0 => 0 | 39 => 209 | 21 => 21 | 44 => 226 | 47 => 191 | 50 => 240 | 48 => 238 | 2 => 2 | 52 => 228 | 55 => 230 | 59 => 242 | 60 => 201 | 20 => 20 | 61 => 243 | 65 => 245 | 66 => 246 | 67 => 106 | n => n, fun | 0 => 3 | 1 => 4 | 2 => 5 | 3 => 6 | 4 => 7 | n => n⟩
theorem Tryz.laysPu14 : Go.Proofs.LaysPu.n14 Tryz.prog Tryz.laysPu14_ren := {
 mixed := by kernel_rfl
 f14 := Tryz.func126.trans (congrArg some (by kernel_rfl))
 f16 := Tryz.func156.trans (congrArg some (by kernel_rfl))
 f17 := Tryz.func157.trans (congrArg some (by kernel_rfl))
 f19 := Tryz.func184.trans (congrArg some (by kernel_rfl))
 f20 := Tryz.func185.trans (congrArg some (by kernel_rfl))
 f21 := Tryz.func186.trans (congrArg some (by kernel_rfl))
 f22 := Tryz.func187.trans (congrArg some (by kernel_rfl))
 f23 := Tryz.func188.trans (congrArg some (by kernel_rfl))
 f24 := Tryz.func189.trans (congrArg some (by kernel_rfl))
 f25 := Tryz.func208.trans (congrArg some (by kernel_rfl))
 f26 := Tryz.func209.trans (congrArg some (by kernel_rfl))
 f27 := Tryz.func210.trans (congrArg some (by kernel_rfl))
 f28 := Tryz.func218.trans (congrArg some (by kernel_rfl))
 f29 := Tryz.func223.trans (congrArg some (by kernel_rfl))
 f30 := Tryz.func211.trans (congrArg some (by kernel_rfl))
 f31 := Tryz.func212.trans (congrArg some (by kernel_rfl))
 f32 := Tryz.func213.trans (congrArg some (by kernel_rfl))
 f33 := Tryz.func214.trans (congrArg some (by kernel_rfl))
 f34 := Tryz.func219.trans (congrArg some (by kernel_rfl))
 f35 := Tryz.func177.trans (congrArg some (by kernel_rfl))
 f36 := Tryz.func220.trans (congrArg some (by kernel_rfl))
 f37 := Tryz.func221.trans (congrArg some (by kernel_rfl))
 f38 := Tryz.func222.trans (congrArg some (by kernel_rfl))
 f39 := Tryz.func224.trans (congrArg some (by kernel_rfl))
 f40 := Tryz.func225.trans (congrArg some (by kernel_rfl))
 t0 := Tryz.underlying0
 a0 := Tryz.isAgg0
 z0 := Tryz.sizeOf0
 v0 := Tryz.zeroValue0
 i0 := by kernel_rfl
 t2 := Tryz.underlying2
 a2 := Tryz.isAgg2
 z2 := Tryz.sizeOf2
 v2 := Tryz.zeroValue2
 i2 := by kernel_rfl
 t3 := Tryz.underlying3
 a3 := Tryz.isAgg3
 z3 := Tryz.sizeOf3
 v3 := Tryz.zeroValue3
 i3 := by kernel_rfl
 t4 := Tryz.underlying4
 a4 := Tryz.isAgg4
 z4 := Tryz.sizeOf4
 v4 := Tryz.zeroValue4
 i4 := by kernel_rfl
 t5 := Tryz.underlying5
 a5 := Tryz.isAgg5
 z5 := Tryz.sizeOf5
 v5 := Tryz.zeroValue5
 i5 := by kernel_rfl
 t9 := Tryz.underlying9
 a9 := Tryz.isAgg9
 z9 := Tryz.sizeOf9
 v9 := Tryz.zeroValue9
 i9 := by kernel_rfl
 t20 := Tryz.underlying20
 a20 := Tryz.isAgg20
 z20 := Tryz.sizeOf20
 v20 := Tryz.zeroValue20
 i20 := by kernel_rfl
 t21 := Tryz.underlying21
 a21 := Tryz.isAgg21
 z21 := Tryz.sizeOf21
 v21 := Tryz.zeroValue21
 i21 := by kernel_rfl
 t22 := Tryz.underlying41
 a22 := Tryz.isAgg41
 z22 := Tryz.sizeOf41
 v22 := Tryz.zeroValue41
 i22 := by kernel_rfl
 t24 := Tryz.underlying168
 a24 := Tryz.isAgg168
 z24 := Tryz.sizeOf168
 v24 := Tryz.zeroValue168
 i24 := by kernel_rfl
 t25 := Tryz.underlying169
 a25 := Tryz.isAgg169
 z25 := Tryz.sizeOf169
 v25 := Tryz.zeroValue169
 i25 := by kernel_rfl
 t34 := Tryz.underlying207
 a34 := Tryz.isAgg207
 z34 := Tryz.sizeOf207
 v34 := Tryz.zeroValue207
 i34 := by kernel_rfl
 c34 := by kernel_rfl
 t36 := Tryz.underlying153
 a36 := Tryz.isAgg153
 z36 := Tryz.sizeOf153
 v36 := Tryz.zeroValue153
 i36 := by kernel_rfl
 t37 := Tryz.underlying161
 a37 := Tryz.isAgg161
 z37 := Tryz.sizeOf161
 v37 := Tryz.zeroValue161
 i37 := by kernel_rfl
 t39 := Tryz.underlying209
 a39 := Tryz.isAgg209
 z39 := Tryz.sizeOf209
 v39 := Tryz.zeroValue209
 i39 := by kernel_rfl
 t44 := Tryz.underlying226
 a44 := Tryz.isAgg226
 z44 := Tryz.sizeOf226
 v44 := Tryz.zeroValue226
 i44 := by kernel_rfl
 t47 := Tryz.underlying191
 a47 := Tryz.isAgg191
 z47 := Tryz.sizeOf191
 v47 := Tryz.zeroValue191
 i47 := by kernel_rfl
 t48 := Tryz.underlying238
 a48 := Tryz.isAgg238
 z48 := Tryz.sizeOf238
 v48 := Tryz.zeroValue238
 i48 := by kernel_rfl
 t50 := Tryz.underlying240
 a50 := Tryz.isAgg240
 z50 := Tryz.sizeOf240
 v50 := Tryz.zeroValue240
 i50 := by kernel_rfl
 t52 := Tryz.underlying228
 a52 := Tryz.isAgg228
 z52 := Tryz.sizeOf228
 v52 := Tryz.zeroValue228
 i52 := by kernel_rfl
 t55 := Tryz.underlying230
 a55 := Tryz.isAgg230
 z55 := Tryz.sizeOf230
 v55 := Tryz.zeroValue230
 i55 := by kernel_rfl
 t59 := Tryz.underlying242
 a59 := Tryz.isAgg242
 z59 := Tryz.sizeOf242
 v59 := Tryz.zeroValue242
 i59 := by kernel_rfl
 t60 := Tryz.underlying201
 a60 := Tryz.isAgg201
 z60 := Tryz.sizeOf201
 v60 := Tryz.zeroValue201
 i60 := by kernel_rfl
 t61 := Tryz.underlying243
 a61 := Tryz.isAgg243
 z61 := Tryz.sizeOf243
 t65 := Tryz.underlying245
 a65 := Tryz.isAgg245
 z65 := Tryz.sizeOf245
 v65 := Tryz.zeroValue245
 i65 := by kernel_rfl
 t66 := Tryz.underlying246
 a66 := Tryz.isAgg246
 z66 := Tryz.sizeOf246
 v66 := Tryz.zeroValue246
 i66 := by kernel_rfl
 t67 := Tryz.underlying106
 a67 := Tryz.isAgg106
 z67 := Tryz.sizeOf106
 v67 := Tryz.zeroValue106
 i67 := by kernel_rfl
 g0 := by kernel_rfl
 m0 := by kernel_rfl
 g1 := by kernel_rfl
 m1 := by kernel_rfl
 g2 := by kernel_rfl
 m2 := by kernel_rfl
 g3 := by kernel_rfl
 m3 := by kernel_rfl
 g4 := by kernel_rfl
 m4 := by kernel_rfl }
open Go.RowKit in
/-- strconv.ParseUint(s, 10, 64), AT EVERY STRING THAT SPELLS A uint64 ('Lib.parseUintB 64 s.data.toList = .ok u'): u, AND NO ERROR. (LAID: no walk: one application.) -/
theorem Tryz.strconv_ParseUint_10_at64_ok (s : ByteArray) (hmax : s.size ≤ 9223372036854775806) (u : Nat) (h : Lib.parseUintB 64 s.data.toList = .ok u) (w : World) :
  Calls Tryz.prog 126 #[.string s, .int .i64 10, .int .i64 64] w fun e w' => e = .returned (.tuple #[.int .u64 u, .nilIface]) ∧ (w' = w ∨ w' = Lib.bytesWorld w 5 s) := Any.strconv_ParseUint_10_at64_ok Tryz.laysPu14 s hmax u h w
open Go.RowKit in
/-- strconv.ParseUint(s, 10, 64), AT EVERY STRING THAT IS NO ROW OF DECIMAL DIGITS (a sign is a fault): 0, AND AN ERROR THAT IS NOT nil: a *NumError in a new block N: {Func: "ParseUint", Num: s's bytes, Err: what the variable ErrSyntax holds}. Of what was there nothing has turned. (LAID: no walk: one application.) -/
theorem Tryz.strconv_ParseUint_10_at64_syntax (s : ByteArray) (hlim : s.size ≤ 281474976710656) (h : Lib.parseUintB 64 s.data.toList = Lib.parseUintB 64 []) (ev : Value) (w : World) (hv : w.cell? ⟨3, 0, none⟩ = some ev) (hev : ev = .nilIface ∨ ∃ te pe, ev = .iface te pe) :
  Calls Tryz.prog 126 #[.string s, .int .i64 10, .int .i64 64] w fun e w' => ∃ N, e = .returned (.tuple #[.int .u64 0, .iface 209 (.pointer (some ⟨N, 0, none⟩))]) ∧ w.heap.size ≤ N ∧ w'.heap[N]? = some (.cells #[.string ⟨#[80, 97, 114, 115, 101, 85, 105, 110, 116]⟩, .string s, ev] 226 (0, 0)) ∧ Below w.heap.size w w' := Any.strconv_ParseUint_10_at64_syntax Tryz.laysPu14 s hlim h ev w hv hev
open Go.RowKit in
/-- strconv.ParseUint(s, 10, 64), AT EVERY NUMERAL THAT NO uint64 HOLDS: THE GREATEST uint64, AND AN ERROR THAT IS NOT nil: a *NumError in a new block N: {Func: "ParseUint", Num: s's bytes, Err: what the variable ErrRange holds}. Of what was there nothing has turned. (LAID: no walk: one application.) -/
theorem Tryz.strconv_ParseUint_10_at64_range (s : ByteArray) (hlim : s.size ≤ 281474976710656) (h : Lib.parseUintB 64 s.data.toList = .range) (ev : Value) (w : World) (hv : w.cell? ⟨4, 0, none⟩ = some ev) (hev : ev = .nilIface ∨ ∃ te pe, ev = .iface te pe) :
  Calls Tryz.prog 126 #[.string s, .int .i64 10, .int .i64 64] w fun e w' => ∃ N, e = .returned (.tuple #[.int .u64 18446744073709551615, .iface 209 (.pointer (some ⟨N, 0, none⟩))]) ∧ w.heap.size ≤ N ∧ w'.heap[N]? = some (.cells #[.string ⟨#[80, 97, 114, 115, 101, 85, 105, 110, 116]⟩, .string s, ev] 226 (0, 0)) ∧ Below w.heap.size w w' := Any.strconv_ParseUint_10_at64_range Tryz.laysPu14 s hlim h ev w hv hev
def Tryz.lays143_ren : Go.Shelf.Ren := ⟨fun | 143 => 128 | 219 => 159 | 217 => 161 | 225 => 191 | 224 => 192 | 267 => 193 | 266 => 195 | 314 => 215 | n => n, fun | 9 => 9 | 3 => 3 | 4 => 4 | 5 => 5 | 46 => 153 | 146 => 232 | 51 => 201 | n => n, fun | 1 => 2 | n => n⟩
theorem Tryz.lays143 : Go.Proofs.Lays.n143 Tryz.prog Tryz.lays143_ren := {
 mixed := by kernel_rfl
 f143 := Tryz.func128.trans (congrArg some (by kernel_rfl))
 f217 := Tryz.func161.trans (congrArg some (by kernel_rfl))
 f219 := Tryz.func159.trans (congrArg some (by kernel_rfl))
 f224 := Tryz.func192.trans (congrArg some (by kernel_rfl))
 f225 := Tryz.func191.trans (congrArg some (by kernel_rfl))
 f266 := Tryz.func195.trans (congrArg some (by kernel_rfl))
 f267 := Tryz.func193.trans (congrArg some (by kernel_rfl))
 f314 := Tryz.func215.trans (congrArg some (by kernel_rfl))
 t3 := Tryz.underlying3
 a3 := Tryz.isAgg3
 z3 := Tryz.sizeOf3
 v3 := Tryz.zeroValue3
 t4 := Tryz.underlying4
 a4 := Tryz.isAgg4
 z4 := Tryz.sizeOf4
 v4 := Tryz.zeroValue4
 t5 := Tryz.underlying5
 a5 := Tryz.isAgg5
 z5 := Tryz.sizeOf5
 v5 := Tryz.zeroValue5
 t9 := Tryz.underlying9
 a9 := Tryz.isAgg9
 z9 := Tryz.sizeOf9
 v9 := Tryz.zeroValue9
 t46 := Tryz.underlying153
 a46 := Tryz.isAgg153
 z46 := Tryz.sizeOf153
 v46 := Tryz.zeroValue153
 t51 := Tryz.underlying201
 a51 := Tryz.isAgg201
 z51 := Tryz.sizeOf201
 v51 := Tryz.zeroValue201
 t146 := Tryz.underlying232
 a146 := Tryz.isAgg232
 z146 := Tryz.sizeOf232
 v146 := Tryz.zeroValue232
 g1 := by kernel_rfl }
open Go.RowKit Go.Lib in
/-- strings.Index: "Index returns the index of the first instance of substr in s, or -1 if substr is not present in s.": AT A substr OF ONE BYTE c: IT RETURNS 'Lib.indexByte s c'; the world is as it was. (LAID: no walk: one application.) -/
theorem Tryz.strings_Index_one (s : ByteArray) (c : UInt8) (w : World) :
  Calls Tryz.prog 128 #[.string s, .string ⟨#[c]⟩] w fun e w' => e = .returned (.int .i64 (Lib.indexByte s.data.toList c)) ∧ w' = w := Any.strings_Index_one Tryz.lays143 s c w
def Tryz.lays190_ren : Go.Shelf.Ren := ⟨fun | 190 => 105 | 125 => 146 | 258 => 145 | 128 => 176 | 129 => 177 | 302 => 167 | 303 => 168 | 304 => 169 | 305 => 170 | 306 => 171 | 307 => 172 | 308 => 173 | 309 => 174 | 310 => 175 | 333 => 198 | 329 => 199 | 330 => 200 | 334 => 201 | 335 => 202 | 336 => 203 | 344 => 217 | n => n, fun | 31 => 40 | 9 => 9 | 3 => 3 | 46 => 153 | 0 => 0 | 51 => 201 | 53 => 41 | 4 => 4 | 183 => 194 | 182 => 193 | 131 => 198 | 5 => 5 | 218 => 218 | 222 => 222 | 228 => 235 | 229 => 236 | n => n, fun | n => n⟩
theorem Tryz.lays190 : Go.Proofs.Lays.n190 Tryz.prog Tryz.lays190_ren := {
 mixed := by kernel_rfl
 f125 := Tryz.func146.trans (congrArg some (by kernel_rfl))
 f128 := Tryz.func176.trans (congrArg some (by kernel_rfl))
 f129 := Tryz.func177.trans (congrArg some (by kernel_rfl))
 f190 := Tryz.func105.trans (congrArg some (by kernel_rfl))
 f258 := Tryz.func145.trans (congrArg some (by kernel_rfl))
 f302 := Tryz.func167.trans (congrArg some (by kernel_rfl))
 f303 := Tryz.func168.trans (congrArg some (by kernel_rfl))
 f304 := Tryz.func169.trans (congrArg some (by kernel_rfl))
 f305 := Tryz.func170.trans (congrArg some (by kernel_rfl))
 f306 := Tryz.func171.trans (congrArg some (by kernel_rfl))
 f307 := Tryz.func172.trans (congrArg some (by kernel_rfl))
 f308 := Tryz.func173.trans (congrArg some (by kernel_rfl))
 f309 := Tryz.func174.trans (congrArg some (by kernel_rfl))
 f310 := Tryz.func175.trans (congrArg some (by kernel_rfl))
 f329 := Tryz.func199.trans (congrArg some (by kernel_rfl))
 f330 := Tryz.func200.trans (congrArg some (by kernel_rfl))
 f333 := Tryz.func198.trans (congrArg some (by kernel_rfl))
 f334 := Tryz.func201.trans (congrArg some (by kernel_rfl))
 f335 := Tryz.func202.trans (congrArg some (by kernel_rfl))
 f336 := Tryz.func203.trans (congrArg some (by kernel_rfl))
 f344 := Tryz.func217.trans (congrArg some (by kernel_rfl))
 t0 := Tryz.underlying0
 a0 := Tryz.isAgg0
 z0 := Tryz.sizeOf0
 v0 := Tryz.zeroValue0
 t3 := Tryz.underlying3
 a3 := Tryz.isAgg3
 z3 := Tryz.sizeOf3
 v3 := Tryz.zeroValue3
 t4 := Tryz.underlying4
 a4 := Tryz.isAgg4
 z4 := Tryz.sizeOf4
 v4 := Tryz.zeroValue4
 t5 := Tryz.underlying5
 a5 := Tryz.isAgg5
 z5 := Tryz.sizeOf5
 v5 := Tryz.zeroValue5
 t9 := Tryz.underlying9
 a9 := Tryz.isAgg9
 z9 := Tryz.sizeOf9
 v9 := Tryz.zeroValue9
 t31 := Tryz.underlying40
 a31 := Tryz.isAgg40
 z31 := Tryz.sizeOf40
 v31 := Tryz.zeroValue40
 t46 := Tryz.underlying153
 a46 := Tryz.isAgg153
 z46 := Tryz.sizeOf153
 v46 := Tryz.zeroValue153
 t51 := Tryz.underlying201
 a51 := Tryz.isAgg201
 z51 := Tryz.sizeOf201
 v51 := Tryz.zeroValue201
 t53 := Tryz.underlying41
 a53 := Tryz.isAgg41
 z53 := Tryz.sizeOf41
 v53 := Tryz.zeroValue41
 t131 := Tryz.underlying198
 a131 := Tryz.isAgg198
 z131 := Tryz.sizeOf198
 v131 := Tryz.zeroValue198
 t182 := Tryz.underlying193
 a182 := Tryz.isAgg193
 z182 := Tryz.sizeOf193
 v182 := Tryz.zeroValue193
 t183 := Tryz.underlying194
 a183 := Tryz.isAgg194
 z183 := Tryz.sizeOf194
 v183 := Tryz.zeroValue194
 t218 := Tryz.underlying218
 a218 := Tryz.isAgg218
 z218 := Tryz.sizeOf218
 v218 := Tryz.zeroValue218
 t222 := Tryz.underlying222
 a222 := Tryz.isAgg222
 z222 := Tryz.sizeOf222
 v222 := Tryz.zeroValue222
 t228 := Tryz.underlying235
 a228 := Tryz.isAgg235
 z228 := Tryz.sizeOf235
 v228 := Tryz.zeroValue235
 t229 := Tryz.underlying236
 a229 := Tryz.isAgg236
 z229 := Tryz.sizeOf236
 v229 := Tryz.zeroValue236 }
open Go.Sort Go.RowKit in
theorem Tryz.slices_Sort_string (blk off cap : Nat) (ss : List (List UInt8)) (w : World) (hH : Holds encStr w blk off ss.toArray) (hblk : blk < w.heap.size) (hsz : ss.length < 4611686018427387904) :
  Calls Tryz.prog 105 #[.slice (some ⟨blk, off, none⟩) ss.length cap] w fun e w' =>
   e = .returned (.tuple #[]) ∧ ∃ n os, w' = grow (putRow encStr (Sort.ahead w n) blk off (ss.mergeSort fun x y => decide (x ≤ y)).toArray) os := Any.slices_Sort_string Tryz.lays190 blk off cap ss w hH hblk hsz
def Tryz.lays99_ren : Go.Shelf.Ren := ⟨fun | 99 => 54 | 206 => 92 | n => n, fun | 9 => 9 | 4 => 4 | 3 => 3 | n => n, fun | n => n⟩
theorem Tryz.lays99 : Go.Proofs.Lays.n99 Tryz.prog Tryz.lays99_ren := {
 mixed := by kernel_rfl
 f99 := Tryz.func54.trans (congrArg some (by kernel_rfl))
 f206 := Tryz.func92.trans (congrArg some (by kernel_rfl))
 t3 := Tryz.underlying3
 a3 := Tryz.isAgg3
 z3 := Tryz.sizeOf3
 v3 := Tryz.zeroValue3
 t4 := Tryz.underlying4
 a4 := Tryz.isAgg4
 z4 := Tryz.sizeOf4
 v4 := Tryz.zeroValue4
 t9 := Tryz.underlying9
 a9 := Tryz.isAgg9
 z9 := Tryz.sizeOf9
 v9 := Tryz.zeroValue9 }
open Go.RowKit Go.Lib in
/-- strings.HasPrefix: "HasPrefix reports whether the string s begins with prefix.": IT RETURNS 'Lib.hasPrefix s prefix'; the world is as it was. (LAID: no walk: one application.) -/
theorem Tryz.strings_HasPrefix (s p : ByteArray) (w : World) :
  Calls Tryz.prog 54 #[.string s, .string p] w fun e w' => e = .returned (.bool (Lib.hasPrefix s.data.toList p.data.toList)) ∧ w' = w := Any.strings_HasPrefix Tryz.lays99 s p w
def Tryz.laysNm216_ren : Go.Shelf.Ren := ⟨fun | 16 => 104 | n => n, fun | 24 => 40 | 9 => 9 | 4 => 4 | n => n, fun | n => n⟩
theorem Tryz.laysNm216 : Go.Proofs.Lays2.n16 Tryz.prog Tryz.laysNm216_ren := {
 mixed := by kernel_rfl
 f16 := Tryz.func104.trans (congrArg some (by kernel_rfl))
 t4 := Tryz.underlying4
 a4 := Tryz.isAgg4
 z4 := Tryz.sizeOf4
 v4 := Tryz.zeroValue4
 t9 := Tryz.underlying9
 a9 := Tryz.isAgg9
 z9 := Tryz.sizeOf9
 v9 := Tryz.zeroValue9
 t24 := Tryz.underlying40
 a24 := Tryz.isAgg40
 z24 := Tryz.sizeOf40
 v24 := Tryz.zeroValue40
 i9 := by kernel_rfl }
open Go.RowKit Go.Lib in
/-- slices.Clone at []string: "Clone returns a copy of the slice. The elements are copied using assignment, so this is a shallow clone. The result may have additional unused capacity. The result preserves the nilness of s.": OF A SLICE THAT IS NOT nil IT RETURNS A SLICE THAT IS NOT nil, OF THE SAME ELEMENTS, IN MEMORY OF THE CALL's OWN: in the how-to's words (6f): 'w'.ownsRow B e 1 v' n cells': v' begins at the head of a row among the blocks from B on (B: the heap's size at the call), not frozen, whose first cells are the elements · 'Below B w w'': below B all is as it was. The capacity is whatever the run-time gives. 'zs': what the cells behind the slice's address hold; 'zs.take n': its elements. (LAID: no walk: one application.) -/
theorem Tryz.slices_Clone_string (b off n c : Nat) (zs : List ByteArray) (w : World) (hz : n ≤ zs.length) (hbig : n * 16 ≤ 140737488355328) (hc : ∀ j, j < zs.length → w.cell? ⟨b, off + j, none⟩ = some (.string (zs.getD j ByteArray.empty))) :
  Calls Tryz.prog 104 #[.slice (some ⟨b, off, none⟩) n c] w fun e w' => ∃ v', e = .returned v' ∧ w'.ownsRow w.heap.size 9 1 v' n ((zs.take n).map (Value.string)) ∧ v' ≠ .slice none 0 0 ∧ Below w.heap.size w w' := Any.slices_Clone_string Tryz.laysNm216 b off n c zs w hz hbig hc
open Go.RowKit Go.Lib in
/-- The same at nil: nil comes back; the world is as it was. (LAID: no walk: one application.) -/
theorem Tryz.slices_Clone_string_nil (n c : Nat) (w : World) :
  Calls Tryz.prog 104 #[.slice none n c] w fun e w' => e = .returned (.slice none 0 0) ∧ w' = w := Any.slices_Clone_string_nil Tryz.laysNm216 n c w
open Go.RowKit Go.Lib in
/-- The same at a slice of length 0 that is not nil, WHATEVER ITS ADDRESS (no cell is asked for): a slice that is not nil and owns nothing comes back. (LAID: no walk: one application.) -/
theorem Tryz.slices_Clone_string_zero (a : Addr) (c : Nat) (w : World) :
  Calls Tryz.prog 104 #[.slice (some a) 0 c] w fun e w' => ∃ v', e = .returned v' ∧ w'.ownsRow w.heap.size 9 1 v' 0 [] ∧ v' ≠ .slice none 0 0 ∧ Below w.heap.size w w' := Any.slices_Clone_string_zero Tryz.laysNm216 a c w
open Go.RowKit Go.Sort in
/-- .. and plain. (LAID: no walk: one application.) -/
theorem Tryz.slices_Sort_string_none (p : Option Addr) (cap : Nat) (w : World) :
  Calls Tryz.prog 105 #[.slice p 0 cap] w fun e w' => e = .returned (.tuple #[]) ∧ w' = w := Any.slices_Sort_string_none Tryz.lays190 p cap w
end Go.Proofs
/- strconv.FormatUint at base 10. -/
set_option linter.unusedVariables false
set_option linter.unusedSimpArgs false
namespace Go.Proofs
open Go.Shelf Go.RowKit Go.Sort Go.Lib
theorem Tryz.below_put (w : World) (o : Obj) (off : Nat) (dk : Array UInt8) (k : Nat) : Below w.heap.size w ((putRow (fun (b : UInt8) => Value.int .u8 (b.toNat : Int)) (w.alloc o) w.heap.size off dk).drewN k) := by
 rw [alloc_eq_grow]
 obtain ⟨os', _, e⟩ := putRow_grow_new (fun (b : UInt8) => Value.int .u8 (b.toNat : Int)) w #[o] w.heap.size off dk (Nat.le_refl _)
 rw [e]
 refine ⟨rfl, rfl, rfl, ?_, fun j hj => ?_⟩
 ·show w.heap.size ≤ (w.heap ++ os').size
  simp
 ·show (w.heap ++ os')[j]? = w.heap[j]?
  rw [Array.getElem?_append_left hj]
set_option maxHeartbeats 4000000 in
set_option maxRecDepth 100000 in
theorem Tryz.inner_FormatUint (u : Nat) (hu64 : u < 18446744073709551616) (w : World) (htab : Lib.TabIs Tryz.prog w "internal/strconv.uint64pow10" .u64 Lib.pow10Tab) :
  Calls Tryz.prog 190 #[.int .u64 (u : Int), .int .i64 10] w fun e w' => e = .returned (.string ⟨(Lib.decDigits u).toArray⟩) ∧ Below w.heap.size w w' := by
 by_cases hi : u < 100
 ·go_enter Tryz.func190, Tryz.ntmps190
  go_wp2_with (go_at_call 211; refine (Tryz.internal_strconv_small u hi _).mono ?_; rintro e w' ⟨rfl, rfl⟩)
  go_ret
  exact ⟨rfl, Below.refl _ _⟩
 ·have hu1 : 1 ≤ u := by omega
  have hnd20 : Lib.nDigits u ≤ 20 := by have := Lib.numDigits_eq u hu1 hu64; split at this <;> omega
  have hal : Tryz.prog.arrayLen 228 = 24 := by simp [Program.arrayLen, Tryz.underlying228]
  have hsl1 : ∀ W, (Instr.sliceAt 228 (.pointer (some ⟨w.heap.size, 0, none⟩)) none (some (.int .i64 (Lib.nDigits u : Int))) none).run Tryz.prog W = .ok (.slice (some ⟨w.heap.size, 0, none⟩) (Lib.nDigits u) 24) W := fun W => by
   rw [run_sliceAt_array_h W 228 ⟨w.heap.size, 0, none⟩ (by simp [Program.arrayLen, Program.elem, Tryz.underlying228]) .i64 (Lib.nDigits u : Int) (by omega) (by rw [hal]; omega)]
   go_simp
  have hH0 : Holds (fun (b : UInt8) => Value.int .u8 (b.toNat : Int)) (w.alloc (.cells Lib.zeros24 228)) w.heap.size 0 (Array.replicate (Lib.nDigits u) 0) := by
   intro j hj
   rw [Array.size_replicate] at hj
   refine ⟨?_, World.frozen?_alloc_new _ _ _ _⟩
   rw [World.cell?_alloc_new, Nat.zero_add, Lib.zeros24_at j (by omega)]
   simp [hj]
  have hfmt := Tryz.internal_strconv_formatBase10 w.heap.size 0 24 u (Array.replicate (Lib.nDigits u) 0) (w.alloc (.cells Lib.zeros24 228)) hH0 (by rw [Array.size_replicate]; exact Lib.lt_pow_nDigits u) hu64 (by rw [Array.size_replicate]; omega)
  rw [Array.size_replicate] at hfmt
  have HH0 := Lib.hid hH0
  clear hH0 hal
  go_enter Tryz.func190, Tryz.ntmps190
  go_wp2_with (first
   | (go_at_call 212; refine (Tryz.internal_strconv_numDigits u hu1 hu64 _ (Lib.tabIs_alloc htab _)).mono ?_; rintro e w' ⟨rfl, rfl⟩))
  go_at_call 213
  refine hfmt.mono ?_
  rintro e w' ⟨rfl, k, v', dk, rfl, hF⟩
  have hcv : (convert 161 9 (.slice (some ⟨w.heap.size, 0, none⟩) (Lib.nDigits u) 24)).run Tryz.prog ((putRow (fun (b : UInt8) => Value.int .u8 (b.toNat : Int)) (w.alloc (.cells Lib.zeros24 228)) w.heap.size 0 dk).drewN k) = .ok (.string ⟨(Lib.decDigits u).toArray⟩) ((putRow (fun (b : UInt8) => Value.int .u8 (b.toNat : Int)) (w.alloc (.cells Lib.zeros24 228)) w.heap.size 0 dk).drewN k) := by
   have h := run_convert_bytes_back (P := Tryz.prog) ((putRow (fun (b : UInt8) => Value.int .u8 (b.toNat : Int)) (w.alloc (.cells Lib.zeros24 228)) w.heap.size 0 dk).drewN k) 161 9 5 ⟨w.heap.size, 0, none⟩ 24 (Lib.decDigits u) Tryz.underlying161 Tryz.underlying5 Tryz.underlying9 (fun j hj => by
    rw [Lib.row_is_numeral hF j hj, Lib.add_plain, World.cell?_drewN]
    exact cell?_putRow (fun (b : UInt8) => Value.int .u8 (b.toNat : Int)) _ w.heap.size 0 _ dk HH0.out (by rw [hF.size, Array.size_replicate]) j (by rw [hF.size]; rw [Lib.decDigits_length] at hj; exact hj))
   rw [Lib.decDigits_length] at h
   exact h
  go_wp2
  go_ret
  exact ⟨rfl, Tryz.below_put w _ 0 dk k⟩
end Go.Proofs
/- strings.Builder's copyCheck and WriteString, of a builder that the call itself has made. No condition but the builder's and the lengths' own. -/
set_option linter.unusedVariables false
set_option linter.unusedSimpArgs false
namespace Go.Proofs
open Go.Shelf Go.RowKit
theorem Tryz.sizeBld : (Tryz.prog.info? 173).map (·.size) = some 2 := by kernel_rfl
theorem Tryz.infoByte1 : (Tryz.prog.info? 5).map (fun i => (i.zero, i.size, i.bytes)) = some (some (.int .u8 0), 1, 1) := by kernel_rfl
theorem Tryz.cellsByte1 : Tryz.prog.cellsOf 5 = 1 := by kernel_rfl
theorem Tryz.liesBld : liesAt Tryz.prog Tryz.prog.depth 173 (2 / Tryz.prog.cellsOf 173) 0 173 1 = true := by kernel_rfl
set_option maxHeartbeats 4000000 in
set_option maxRecDepth 100000 in
theorem Tryz.bld_used (b : Nat) (w : World) (h0 : w.cell? ⟨b, 0, none⟩ = some (.pointer (some ⟨b, 0, none⟩))) :
  Calls Tryz.prog 160 #[.pointer (some ⟨b, 0, none⟩)] w fun e w' => e = .returned (.tuple #[]) ∧ w' = w := by
 obtain ⟨j, hj, _⟩ := Option.map_eq_some_iff.1 Tryz.sizeBld
 go_enter Tryz.func160, Tryz.ntmps160
 go_wp2
 rw [Lib.run_neq_ptr_same w _ Tryz.underlying171 hj]
 go_wp2
 go_end0
 exact ⟨rfl, rfl⟩
set_option maxHeartbeats 4000000 in
set_option maxRecDepth 100000 in
theorem Tryz.bld_fresh (b : Nat) (w : World) (h0 : w.cell? ⟨b, 0, none⟩ = some (.pointer none)) (hsh : w.shape? b = some (173, 2)) (hfz : w.frozen? ⟨b, 0, none⟩ = false) :
  Calls Tryz.prog 160 #[.pointer (some ⟨b, 0, none⟩)] w fun e w' => e = .returned (.tuple #[]) ∧ w' = w.setCell ⟨b, 0, none⟩ (.pointer (some ⟨b, 0, none⟩)) := by
 obtain ⟨j, hj, hjs⟩ := Option.map_eq_some_iff.1 Tryz.sizeBld
 go_enter Tryz.func160, Tryz.ntmps160
 go_wp2
 rw [Lib.run_to_unsafe w ⟨b, 0, none⟩ Tryz.underlying171 Tryz.underlying212 hj (by rw [hjs]; decide) hsh (Nat.zero_lt_succ 1)]
 simp only [Result.andThen]
 rw [Oper.upon_value]
 go_wp2
 rw [run_callFunc_extern Tryz.func194 (by kernel_rfl) (by kernel_rfl) (by kernel_rfl) (e := Extern.AbiNoEscape.same) (by kernel_rfl)]
 rw [Lib.run_noEscape]
 simp only [Result.andThen]
 rw [Oper.upon_value]
 go_wp2
 rw [Lib.run_from_unsafe w ⟨b, 0, none⟩ Tryz.underlying212 Tryz.underlying171 hj hsh Tryz.liesBld]
 simp only [Result.andThen]
 rw [Oper.upon_value]
 go_wp2
 go_end0
 exact ⟨rfl, rfl⟩
/-- A world that differs in one block alone. -/
structure BlockTurned (b : Nat) (w w' : World) : Prop where
 os : w'.os = w.os
 tape : w'.tape = w.tape
 output : w'.output = w.output
 size : w'.heap.size = w.heap.size
 block : ∀ j, j ≠ b → w'.heap[j]? = w.heap[j]?
theorem BlockTurned.refl (b : Nat) (w : World) : BlockTurned b w w := ⟨rfl, rfl, rfl, rfl, fun _ _ => rfl⟩
theorem BlockTurned.setCell (b o : Nat) (w : World) (v : Value) : BlockTurned b w (w.setCell ⟨b, o, none⟩ v) := by
 refine ⟨by simp [World.setCell], by simp [World.setCell], by simp [World.setCell], by simp, fun j hj => ?_⟩
 simp [World.setCell, Array.getElem?_modify, Ne.symm hj]
theorem BlockTurned.at {b : Nat} {w : World} {x y : Value} {T : TypeId} {fr : Nat × Nat} (h : w.heap[b]? = some (.cells #[x, y] T fr)) (o : Nat) (v : Value) (ho : o = 0 ∨ o = 1) :
  (w.setCell ⟨b, o, none⟩ v).heap[b]? = some (.cells (if o = 0 then #[v, y] else #[x, v]) T fr) := by
 have hlt : b < w.heap.size := (Array.getElem?_eq_some_iff.1 h).1
 rcases ho with rfl | rfl <;> simp [World.setCell, Array.getElem?_modify, h]
set_option maxHeartbeats 4000000 in
set_option maxRecDepth 100000 in
theorem Tryz.bld_check {b : Nat} {p v : Value} {w : World} (hbk : w.heap[b]? = some (.cells #[p, v] 173 (0, 0))) (hp : p = .pointer none ∨ p = .pointer (some ⟨b, 0, none⟩)) :
  Calls Tryz.prog 160 #[.pointer (some ⟨b, 0, none⟩)] w fun e w' => e = .returned (.tuple #[]) ∧ BlockTurned b w w' ∧ w'.heap[b]? = some (.cells #[.pointer (some ⟨b, 0, none⟩), v] 173 (0, 0)) := by
 have c0 : w.cell? ⟨b, 0, none⟩ = some p := by rw [Lib.cell_of_heap hbk]; rfl
 rcases hp with rfl | rfl
 ·refine (Tryz.bld_fresh b w c0 (by simp [World.shape?, hbk]) (Lib.frozen_of_heap hbk 0)).mono ?_
  rintro e w' ⟨rfl, rfl⟩
  exact ⟨rfl, BlockTurned.setCell b 0 w _, by simpa using BlockTurned.at hbk 0 (.pointer (some ⟨b, 0, none⟩)) (.inl rfl)⟩
 ·refine (Tryz.bld_used b w c0).mono ?_
  rintro e w' ⟨rfl, rfl⟩
  exact ⟨rfl, BlockTurned.refl b _, hbk⟩
/-- append(row, text...) as a step. -/
theorem wpList_apps {P : Program} {w : World} {ops : Array Oper} {rest : List Oper} {o : Oper} {a : Act} {Q : Exit → Act → World → Prop} (hgd : o.guard = none) (sl x : Operand) (t u : TypeId)
  (ho : o.op = .call { callee := .builtin .append, args := #[sl, x], argTypes := #[t, u] }) (v v1 : Value) (w1 : World) (s : ByteArray) (hs : a.eval sl = v) (hx : a.eval x = .string s)
  (hr : (Builtin.append_ #[t, u] o.type #[v, .string s]).run P w = .ok v1 w1) (h : wpList P ops Q rest (a.put o.dst v1) w1) : wpList P ops Q (o :: rest) a w := by
 refine wpList_plain hgd fun K hK => ?_
 unfold Oper.wp execOp
 simp only [ho, resolve, invoke, builtin, Sem.run_bind, Sem.run_pure, Result.andThen_ok, List.map_toArray, List.map_cons, List.map_nil, hs, hx, hr]
 exact hK _ _ h
set_option maxHeartbeats 4000000 in
set_option maxRecDepth 100000 in
/-- WriteString, step by step. -/
theorem Tryz.bld_ws {b n : Nat} {p v : Value} {cells : List Value} {s : ByteArray} {w : World} (hbk : w.heap[b]? = some (.cells #[p, v] 173 (0, 0))) (hp : p = .pointer none ∨ p = .pointer (some ⟨b, 0, none⟩))
  (hown : w.ownsRow 0 5 1 v n cells) (hne : v.ownBlock ≠ some b) (hlen : n + s.size ≤ 140737488355328) :
  Calls Tryz.prog 129 #[.pointer (some ⟨b, 0, none⟩), .string s] w fun e w' => e = .returned (.tuple #[.int .i64 s.size, .nilIface]) ∧
   ∃ w1 v' w2, BlockTurned b w w1 ∧ w1.heap[b]? = some (.cells #[.pointer (some ⟨b, 0, none⟩), v] 173 (0, 0)) ∧ w1.ownsRow 0 5 1 v n cells ∧
    w2.ownsRow 0 5 1 v' (n + s.size) (cells ++ Lib.strCells s) ∧ w1.grownBy w2 v.ownBlock ∧ (v'.ownBlock = v.ownBlock ∨ v'.ownBlock = some w1.heap.size) ∧
    (∀ b, v.ownBlock = some b → ∀ o u, cells[o]? = some u → w2.cell? ⟨b, o, none⟩ = some u) ∧
    BlockTurned b w2 w' ∧ w2.heap[b]? = some (.cells #[.pointer (some ⟨b, 0, none⟩), v] 173 (0, 0)) ∧ w'.heap[b]? = some (.cells #[.pointer (some ⟨b, 0, none⟩), v'] 173 (0, 0)) := by
 obtain ⟨i0, hi, hz0, hz1, hz2⟩ := info_parts Tryz.infoByte1
 go_enter Tryz.func129, Tryz.ntmps129
 go_wp2_with (go_at_call 160; refine (Tryz.bld_check hbk hp).mono ?_)
 rintro e w1 ⟨rfl, hb1, hk1⟩
 have hown1 : w1.ownsRow 0 5 1 v n cells := by
  refine ⟨hown.1, ?_⟩
  rcases hown.2 with h | ⟨g, cap, cur, rfl, hb0, hg, rest⟩
  ·exact .inl h
  ·exact .inr ⟨g, cap, cur, rfl, hb0, (hb1.block g (fun e => hne (by rw [e]; rfl))).trans hg, rest⟩
 have c0 : w1.cell? ⟨b, 0, none⟩ = some (.pointer (some ⟨b, 0, none⟩)) := by rw [Lib.cell_of_heap hk1]; rfl
 have c1 : w1.cell? ⟨b, 1, none⟩ = some v := by rw [Lib.cell_of_heap hk1]; rfl
 obtain ⟨v', w2, hrun, ho1, hg, hat, hcell⟩ := YtabihkfhoohfnaaGreatDoor.X.run_apps (P := Tryz.prog) (ty := 161) Tryz.underlying161 Tryz.underlying9 hi hz0 rfl hz1 hown1 s (by omega) (by rw [hz2]; omega) (Nat.zero_le _)
 have A : Aside (w2.ownsRow 0 5 1 v' (n + s.size) (cells ++ Lib.strCells s) ∧ w1.grownBy w2 v.ownBlock ∧ (v'.ownBlock = v.ownBlock ∨ v'.ownBlock = some w1.heap.size) ∧ (∀ b, v.ownBlock = some b → ∀ o u, cells[o]? = some u → w2.cell? ⟨b, o, none⟩ = some u)) := ⟨ho1, hg, hat, hcell⟩
 have hlt : b < w1.heap.size := (Array.getElem?_eq_some_iff.1 hk1).1
 have hb2 : w2.heap[b]? = some (.cells #[.pointer (some ⟨b, 0, none⟩), v] 173 (0, 0)) := by
  rw [hg.block b hlt (fun e => hne e.symm)]
  exact hk1
 clear ho1 hg hat hcell
 have d0 : w2.cell? ⟨b, 0, none⟩ = some (.pointer (some ⟨b, 0, none⟩)) := by rw [Lib.cell_of_heap hb2]; rfl
 have d1 : w2.cell? ⟨b, 1, none⟩ = some v := by rw [Lib.cell_of_heap hb2]; rfl
 have f1 : w2.frozen? ⟨b, 1, none⟩ = false := Lib.frozen_of_heap hb2 1
 obtain ⟨ho1, hg, hat, hcell⟩ := A.out
 obtain ⟨ao, n', cap, rfl⟩ : ∃ ao n' cap, v' = .slice ao n' cap := by
  rcases ho1.2 with ⟨hv, _⟩ | ⟨g, cap, cur, hv, _⟩
  ·exact ⟨_, _, _, hv⟩
  ·exact ⟨_, _, _, hv⟩
 clear ho1 hg hat hcell
 go_wp2_with (at_builtin; refine wpList_apps rfl _ _ 161 9 rfl v _ w2 s rfl rfl hrun ?_)
 go_wp2
 go_ret2
 obtain ⟨ho1, hg, hat, hcell⟩ := A.out
 exact ⟨rfl, w1, _, w2, hb1, hk1, hown1, ho1, hg, hat, hcell, BlockTurned.setCell b 1 w2 _, hb2, by simpa using BlockTurned.at hb2 1 (.slice ao n' cap) (.inr rfl)⟩
theorem grownBy_drew {w w' : World} {r : Option Nat} (h : w.grownBy w' r) : w.grownBy w'.drew r := ⟨h.os, h.tape, h.output, h.size, h.block⟩
theorem grownBy_freeze (w : World) (g n : Nat) : w.grownBy (w.freeze ⟨g, 0, none⟩ n) (some g) := by
 unfold World.freeze
 split
 ·exact ⟨rfl, rfl, rfl, Nat.le_refl _, fun _ _ _ => rfl⟩
 ·refine ⟨rfl, rfl, rfl, by simp, fun k hk hne => ?_⟩
  have : g ≠ k := fun e => hne (by rw [e])
  simp [Array.getElem?_modify, this]
set_option maxHeartbeats 4000000 in
set_option maxRecDepth 100000 in
/-- String, of a builder that holds some bytes. -/
theorem Tryz.bld_str1 {b g cap : Nat} {p : Value} {cur : Array Value} {l : List UInt8} {w : World} (h0 : l ≠ []) (hbk : w.heap[b]? = some (.cells #[p, .slice (some ⟨g, 0, none⟩) l.length cap] 173 (0, 0)))
  (hg : w.heap[g]? = some (.cells cur 5 (0, 0))) (hnc : l.length ≤ cap) (hcm : cap ≤ maxLen) (hcs : cur.size = cap * 1) (hown : w.ownsRow 0 5 1 (.slice (some ⟨g, 0, none⟩) l.length cap) l.length (Lib.byteCells l)) :
  Calls Tryz.prog 130 #[.pointer (some ⟨b, 0, none⟩)] w fun e w' => e = .returned (.string ⟨l.toArray⟩) ∧ w.grownBy w' (some g) := by
 have hl0 : l.length ≠ 0 := by simpa using h0
 have c1 : w.drew.cell? ⟨b, 1, none⟩ = some (.slice (some ⟨g, 0, none⟩) l.length cap) := by
  have : w.drew.heap[b]? = some (.cells #[p, .slice (some ⟨g, 0, none⟩) l.length cap] 173 (0, 0)) := hbk
  rw [Lib.cell_of_heap this]; rfl
 have hSD : (Builtin.unsafeSliceData_ #[161] 191 #[.slice (some ⟨g, 0, none⟩) l.length cap]).run Tryz.prog w.drew = .ok (.pointer (some ⟨g, 0, none⟩)) w.drew :=
  Lib.run_unsafeSliceData_row _ _ _ _ _ _ (by omega)
 have hUS : (Builtin.unsafeString_ #[191, 3] 9 #[.pointer (some ⟨g, 0, none⟩), .int .i64 l.length]).run Tryz.prog w.drew = .ok (.string ⟨l.toArray⟩) (w.drew.freeze ⟨g, 0, none⟩ l.length) := by
  refine Lib.run_unsafeString_row w.drew 191 3 9 5 Tryz.underlying191 Tryz.cellsByte1 g cur.size (by have hg' : w.drew.heap[g]? = some (.cells cur 5 (0, 0)) := hg; simp [World.shape?, hg']) l h0 (by omega) (by unfold maxLen at hcm; omega) ?_
  intro j x hx
  have := hown.cells (g := g) rfl j (.int .u8 x.toNat) (by simp [Lib.byteCells, hx])
  exact this
 have A : Aside (w.grownBy (w.drew.freeze ⟨g, 0, none⟩ l.length) (some g)) := ⟨(grownBy_freeze w.drew g l.length).os, (grownBy_freeze w.drew g l.length).tape, (grownBy_freeze w.drew g l.length).output, (grownBy_freeze w.drew g l.length).size, (grownBy_freeze w.drew g l.length).block⟩
 clear hown hcs hcm hnc hg
 go_enter Tryz.func130, Tryz.ntmps130
 go_wp2
 go_region
 all_goals (go_wp2; go_ret; exact ⟨rfl, A.out⟩)
set_option maxHeartbeats 4000000 in
set_option maxRecDepth 100000 in
/-- .. that holds none. -/
theorem Tryz.bld_str0 {b : Nat} {p : Value} {w : World} (hbk : w.heap[b]? = some (.cells #[p, .slice none 0 0] 173 (0, 0))) :
  Calls Tryz.prog 130 #[.pointer (some ⟨b, 0, none⟩)] w fun e w' => e = .returned (.string ⟨#[]⟩) ∧ w.grownBy w' none := by
 have hUS : ∀ W q, (Builtin.unsafeString_ #[191, 3] 9 #[.pointer q, .int .i64 0]).run Tryz.prog W = .ok (.string .empty) W := fun W q => Lib.run_unsafeString_none W _ _ _ q
 have c1 : w.drew.cell? ⟨b, 1, none⟩ = some (.slice none 0 0) := by
  have : w.drew.heap[b]? = some (.cells #[p, .slice none 0 0] 173 (0, 0)) := hbk
  rw [Lib.cell_of_heap this]; rfl
 have hSD : (Builtin.unsafeSliceData_ #[161] 191 #[.slice none 0 0]).run Tryz.prog w.drew = .ok (.pointer none) w.drew := rfl
 have A : Aside (w.grownBy w.drew none) := grownBy_drew (World.grownBy.refl w none)
 go_enter Tryz.func130, Tryz.ntmps130
 go_wp2
 go_region
 all_goals (go_wp2; go_ret; exact ⟨rfl, A.out⟩)
set_option maxHeartbeats 4000000 in
set_option maxRecDepth 100000 in
theorem Tryz.bld_str0r {b g cap : Nat} {p : Value} {cur : Array Value} {w : World} (hbk : w.heap[b]? = some (.cells #[p, .slice (some ⟨g, 0, none⟩) 0 cap] 173 (0, 0))) (hc0 : cap ≠ 0) :
  Calls Tryz.prog 130 #[.pointer (some ⟨b, 0, none⟩)] w fun e w' => e = .returned (.string ⟨#[]⟩) ∧ w.grownBy w' none := by
 have hUS : ∀ W q, (Builtin.unsafeString_ #[191, 3] 9 #[.pointer q, .int .i64 0]).run Tryz.prog W = .ok (.string .empty) W := fun W q => Lib.run_unsafeString_none W _ _ _ q
 have c1 : w.drew.cell? ⟨b, 1, none⟩ = some (.slice (some ⟨g, 0, none⟩) 0 cap) := by
  have : w.drew.heap[b]? = some (.cells #[p, .slice (some ⟨g, 0, none⟩) 0 cap] 173 (0, 0)) := hbk
  rw [Lib.cell_of_heap this]; rfl
 have hSD : (Builtin.unsafeSliceData_ #[161] 191 #[.slice (some ⟨g, 0, none⟩) 0 cap]).run Tryz.prog w.drew = .ok (.pointer (some ⟨g, 0, none⟩)) w.drew :=
  Lib.run_unsafeSliceData_row _ _ _ _ _ _ hc0
 have A : Aside (w.grownBy w.drew none) := grownBy_drew (World.grownBy.refl w none)
 clear hc0
 go_enter Tryz.func130, Tryz.ntmps130
 go_wp2
 go_region
 all_goals (go_wp2; go_ret; exact ⟨rfl, A.out⟩)
set_option maxHeartbeats 4000000 in
set_option maxRecDepth 100000 in
theorem Tryz.bld_str0n {b g : Nat} {p : Value} {cur : Array Value} {w : World} (hbk : w.heap[b]? = some (.cells #[p, .slice (some ⟨g, 0, none⟩) 0 0] 173 (0, 0))) (hg : w.heap[g]? = some (.cells cur 5 (0, 0))) :
  Calls Tryz.prog 130 #[.pointer (some ⟨b, 0, none⟩)] w fun e w' => e = .returned (.string ⟨#[]⟩) ∧ w.grownBy w' none := by
 have hUS : ∀ W q, (Builtin.unsafeString_ #[191, 3] 9 #[.pointer q, .int .i64 0]).run Tryz.prog W = .ok (.string .empty) W := fun W q => Lib.run_unsafeString_none W _ _ _ q
 have hlt : b < w.heap.size := (Array.getElem?_eq_some_iff.1 hbk).1
 have c1 : w.drew.cell? ⟨b, 1, none⟩ = some (.slice (some ⟨g, 0, none⟩) 0 0) := by
  have : w.drew.heap[b]? = some (.cells #[p, .slice (some ⟨g, 0, none⟩) 0 0] 173 (0, 0)) := hbk
  rw [Lib.cell_of_heap this]; rfl
 have hSD : (Builtin.unsafeSliceData_ #[161] 191 #[.slice (some ⟨g, 0, none⟩) 0 0]).run Tryz.prog w.drew = .ok (.pointer (some ⟨w.drew.heap.size, 0, none⟩)) (w.drew.alloc (.view ⟨g, 0, none⟩ 5)) :=
  Lib.run_unsafeSliceData_zero w.drew _ _ 5 Tryz.underlying191 ⟨g, 0, none⟩ 0 (5, cur.size) (by have hg' : w.drew.heap[g]? = some (.cells cur 5 (0, 0)) := hg; simp [World.shape?, hg'])
 have c2 : (w.drew.alloc (.view ⟨g, 0, none⟩ 5)).cell? ⟨b, 1, none⟩ = some (.slice (some ⟨g, 0, none⟩) 0 0) := by
  have : (w.drew.alloc (.view ⟨g, 0, none⟩ 5)).heap[b]? = _ := (Lib.alloc_old w.drew _ b hlt).trans hbk
  rw [Lib.cell_of_heap this]; rfl
 have c3 : (w.alloc (.view ⟨g, 0, none⟩ 5)).drew.cell? ⟨b, 1, none⟩ = some (.slice (some ⟨g, 0, none⟩) 0 0) := c2
 have c0 : w.cell? ⟨b, 1, none⟩ = some (.slice (some ⟨g, 0, none⟩) 0 0) := c1
 have A : Aside (w.grownBy (w.alloc (.view ⟨g, 0, none⟩ 5)).drew none) := grownBy_drew (World.grownBy_alloc w _ none)
 go_enter Tryz.func130, Tryz.ntmps130
 go_wp2
 go_region
 all_goals (go_wp2; go_ret; exact ⟨rfl, A.out⟩)
theorem grownBy_none {w w' : World} (h : w.grownBy w' none) (r : Option Nat) : w.grownBy w' r := ⟨h.os, h.tape, h.output, h.size, fun k hk _ => h.block k hk (by simp)⟩
/-- String. -/
theorem Tryz.bld_str {b : Nat} {p v : Value} {l : List UInt8} {w : World} (hbk : w.heap[b]? = some (.cells #[p, v] 173 (0, 0))) (hown : w.ownsRow 0 5 1 v l.length (Lib.byteCells l)) :
  Calls Tryz.prog 130 #[.pointer (some ⟨b, 0, none⟩)] w fun e w' => e = .returned (.string ⟨l.toArray⟩) ∧ w.grownBy w' v.ownBlock := by
 have hown2 := hown
 rcases hown.2 with ⟨rfl, h0⟩ | ⟨g, cap, cur, rfl, hb0, hg, hnc, hcm, hcs, htake⟩
 ·have hl : l = [] := List.eq_nil_of_length_eq_zero h0
  subst hl
  exact (Tryz.bld_str0 hbk).mono fun e w' ⟨h1, h2⟩ => ⟨h1, grownBy_none h2 _⟩
 ·by_cases h0 : l = []
  ·subst h0
   by_cases hc : cap = 0
   ·subst hc
    exact (Tryz.bld_str0n hbk hg).mono fun e w' ⟨h1, h2⟩ => ⟨h1, grownBy_none h2 _⟩
   ·exact (Tryz.bld_str0r (cur := cur) hbk hc).mono fun e w' ⟨h1, h2⟩ => ⟨h1, grownBy_none h2 _⟩
  ·exact Tryz.bld_str1 h0 hbk hg hnc hcm hcs hown2
end Go.Proofs
