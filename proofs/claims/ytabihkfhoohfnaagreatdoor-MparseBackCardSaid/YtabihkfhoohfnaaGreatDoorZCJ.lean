/- steps that may be, in the program and in the document. -/
import Derived.Test.YtabihkfhoohfnaaGreatDoorZCI
import Derived.Test.YtabihkfhoohfnaaGreatDoorZCH
set_option linter.unusedVariables false
set_option linter.unusedSimpArgs false
set_option linter.unusedSectionVars false
set_option maxRecDepth 100000
namespace Go.Proofs.YtabihkfhoohfnaaGreatDoor.X
open Go Go.RowKit Go.Proofs
theorem fn27_q : isFn Tryz.prog 27 = true := by kernel_rfl
theorem fn28_q : isFn Tryz.prog 28 = true := by kernel_rfl
theorem fn29_q : isFn Tryz.prog 29 = true := by kernel_rfl
theorem fn30_q : isFn Tryz.prog 30 = true := by kernel_rfl
theorem fn31_q : isFn Tryz.prog 31 = true := by kernel_rfl
theorem fn32_q : isFn Tryz.prog 32 = true := by kernel_rfl
theorem fn33_q : isFn Tryz.prog 33 = true := by kernel_rfl
theorem fn34_q : isFn Tryz.prog 34 = true := by kernel_rfl
theorem fn35_q : isFn Tryz.prog 35 = true := by kernel_rfl
theorem fn36_q : isFn Tryz.prog 36 = true := by kernel_rfl
theorem fn38_q : isFn Tryz.prog 38 = true := by kernel_rfl
theorem fn39_q : isFn Tryz.prog 39 = true := by kernel_rfl
theorem fn63_q : isFn Tryz.prog 63 = true := by kernel_rfl
theorem fn67_q : isFn Tryz.prog 67 = true := by kernel_rfl
theorem fn68_q : isFn Tryz.prog 68 = true := by kernel_rfl
theorem fn72_q : isFn Tryz.prog 72 = true := by kernel_rfl
theorem fo46_1_q : fo Tryz.prog 46 1 = some 1 := by kernel_rfl
theorem fo79_0_q : fo Tryz.prog 79 0 = some 0 := by kernel_rfl
theorem fo79_1_q : fo Tryz.prog 79 1 = some 1 := by kernel_rfl
theorem fo79_2_q : fo Tryz.prog 79 2 = some 2 := by kernel_rfl
theorem fo79_3_q : fo Tryz.prog 79 3 = some 3 := by kernel_rfl
theorem fo79_5_q : fo Tryz.prog 79 5 = some 5 := by kernel_rfl
theorem fo79_6_q : fo Tryz.prog 79 6 = some 6 := by kernel_rfl
theorem lk79_q : lk Tryz.prog 79 = some (true, 7) := by kernel_rfl
theorem spl79_q : spl Tryz.prog 79 = some [(0, 1), (1, 1), (2, 1), (3, 1), (4, 1), (5, 1), (6, 1)] := by kernel_rfl
theorem spl94_q : spl Tryz.prog 94 = some [(0, 1), (1, 1)] := by kernel_rfl
theorem spl96_q : spl Tryz.prog 96 = some [(0, 1), (1, 1), (2, 1), (3, 1), (4, 1), (5, 1), (6, 1)] := by kernel_rfl
theorem un4_q : Tryz.prog.underlying 4 = some TypeDesc.bool := Tryz.underlying4
theorem zA79_q : zeroA Tryz.prog 79 = some [AV.bool false, AV.bool false, AV.bool false, AV.bool false, AV.bool false, AV.bool false, AV.bool false] := by kernel_rfl
theorem zA94_q : zeroA Tryz.prog 94 = some [AV.sl [], AV.sl []] := by kernel_rfl
/-- what a kind of steps has -/
structure Shp where
 dst : Bool
 als : Bool
 num : Bool
 oth : Bool
 ty : Bool
 nms : Bool
 dv : Bool
def Shp.cells (x : Shp) : List AV := [.bool x.dst, .bool x.als, .bool x.num, .bool x.oth, .bool x.ty, .bool x.nms, .bool x.dv]
def shapeT (k : Int) : Shp :=
 if k = 1 then ⟨true, false, false, false, false, false, false⟩
 else if k = 2 then ⟨false, false, true, false, false, false, false⟩
 else if k = 3 then ⟨false, false, false, false, true, false, false⟩
 else if k = 4 then ⟨true, true, true, true, false, false, false⟩
 else if k = 5 ∨ k = 6 then ⟨true, true, true, false, false, false, false⟩
 else if k = 8 then ⟨false, false, false, false, false, true, false⟩
 else if k = 9 then ⟨false, false, true, false, true, false, true⟩
 else ⟨false, false, false, false, false, false, false⟩
def nmT (h : Bool) (s : Str) : Bool := (h && nameOK s) || (!h && s == [])
def nuT (h : Bool) (n : Int) : Bool := (h && fnum n) || (!h && decide (n = 0))
def Stp.typed (x : Stp) : Bool := if x.kind = 3 then wholeT x.ty else if x.kind = 9 then !(wordOf x.ty == []) else decide (x.ty = 0)
def lsT (h : Bool) (l : List Str) : Bool := if h then decide (1 ≤ l.length) && decide (l.length ≤ 10) && l.all nameOK && once l else decide (l.length = 0)
def sch0 : Sch := ⟨[], []⟩
def fldT (t : Int) : Fld := ⟨[], 0, t, [], false, false, []⟩
def vlT (h : Bool) (t : Int) (v : Val) : Bool := if h then v.ok sch0 (fldT t) else decide (v.n = 0) && v.s == [] && decide (v.m.length = 0)
def Stp.right (x : Stp) : Bool :=
 decide (1 ≤ x.kind) && decide (x.kind ≤ 10) && nameOK x.msg && nameOK x.field && nmT (shapeT x.kind).dst x.dest && nmT (shapeT x.kind).als x.also && nuT (shapeT x.kind).num x.num && nuT (shapeT x.kind).oth x.other &&
 x.typed && lsT (shapeT x.kind).nms x.names && vlT (shapeT x.kind).dv x.ty x.dv
structure Stp.big (x : Stp) : Prop where
 s : x.dv.s.length ≤ 9223372036854775807
 u : ∀ t ∈ x.dv.m, t.big
 n : x.names.length ≤ 9223372036854775807
theorem sch0_fine : sch0.fine := ⟨by decide, (fun m h => (by cases h)), (fun m h => (by cases h))⟩
theorem p_fnum (n : Int) : Pure Tryz.prog 63 [.int .i64 n] (.bool (fnum n)) := by
 refine Pure.of_tri Tryz.func63 rfl rfl (ltb rfl) fun H => ?_
 refine Tri.seq (Tri.region ?_)
 refine TriL.c1 rfl (op_as (ltb rfl) rfl) ?_
 refine TriL.nil (Tri.seq (Tri.region ?_))
 refine TriL.c1 rfl (op_mv (ltb rfl) rfl) ?_
 refine TriL.c1 rfl (op_call (ltb rfl) fn101_q rfl (p_tnum _)) ?_
 refine TriL.c1 rfl (op_mv (ltb rfl) rfl) ?_
 refine TriL.split (d := 5) rfl (fun hg1 => ?_) (fun hg1 => ?_)
 ·refine TriL.g1 rfl (ltb rfl) rfl hg1 (op_mv (ltb rfl) rfl) ?_
  refine TriL.g1 rfl (ltb rfl) rfl hg1 (op_bin (ltb rfl) rfl rfl rfl) ?_
  refine TriL.g1 rfl (ltb rfl) rfl hg1 (op_mv (ltb rfl) rfl) ?_
  refine TriL.split (d := 8) rfl (fun hg2 => ?_) (fun hg2 => ?_)
  ·iterate 2 (refine TriL.skipu rfl rfl (ltb rfl) (ltb rfl) rfl hg2 ?_)
   refine TriL.g1 rfl (ltb rfl) rfl hg1 (op_pickt (ltb rfl) rfl hg2 rfl) ?_
   refine TriL.c1 rfl (op_pickt (ltb rfl) rfl hg1 rfl) ?_
   refine TriL.c1 rfl (op_as (ltb rfl) rfl) ?_
   refine TriL.nil (Tri.ret ?_)
   exact ⟨.inr rfl, (ResOK.r1 rfl (.tmp rfl .nil)).cast (congrArg AV.bool (by grind [fnum])), rfl⟩
  ·refine TriL.g1 rfl (ltb rfl) rfl hg2 (op_mv (ltb rfl) rfl) ?_
   refine TriL.g1 rfl (ltb rfl) rfl hg2 (op_bin (ltb rfl) rfl rfl rfl) ?_
   refine TriL.g1 rfl (ltb rfl) rfl hg1 (op_pickf (ltb rfl) rfl hg2 rfl) ?_
   refine TriL.c1 rfl (op_pickt (ltb rfl) rfl hg1 rfl) ?_
   refine TriL.c1 rfl (op_as (ltb rfl) rfl) ?_
   refine TriL.nil (Tri.ret ?_)
   exact ⟨.inr rfl, (ResOK.r1 rfl (.tmp rfl .nil)).cast (congrArg AV.bool (by grind [fnum])), rfl⟩
 ·iterate 3 (refine TriL.skipu rfl rfl (ltb rfl) (ltb rfl) rfl hg1 ?_)
  iterate 2 (refine TriL.skipg rfl rfl (ltb rfl) (ltb rfl) rfl ?_)
  refine TriL.skipu rfl rfl (ltb rfl) (ltb rfl) rfl hg1 ?_
  refine TriL.c1 rfl (op_pickf (ltb rfl) rfl hg1 rfl) ?_
  refine TriL.c1 rfl (op_as (ltb rfl) rfl) ?_
  refine TriL.nil (Tri.ret ?_)
  exact ⟨.inr rfl, (ResOK.r1 rfl (.tmp rfl .nil)).cast (congrArg AV.bool (by grind [fnum])), rfl⟩
theorem p_shape (k : Int) : Pure Tryz.prog 27 [.int .i64 k] (.tup [.agg (shapeT k).cells, .bool (decide (1 ≤ k) && decide (k ≤ 10))]) := by
 refine Pure.of_tri Tryz.func27 rfl rfl (ltb rfl) fun H => ?_
 refine Tri.seq (Tri.region ?_)
 refine TriL.c2 rfl (op_all (ltb rfl) zA79_q rfl) ?_
 refine TriL.c1 rfl (op_as (ltb rfl) rfl) ?_
 refine TriL.nil (Tri.seq (Tri.seq (Tri.region ?_)))
 refine TriL.c1 rfl (op_mv (ltb rfl) rfl) ?_
 refine TriL.nil (Tri.blk (Tri.seq (Tri.region ?_)))
 refine TriL.c1 rfl (op_bin (ltb rfl) rfl rfl rfl) ?_
 refine TriL.c1 rfl (op_as (ltb rfl) rfl) ?_
 refine TriL.nil ?_
 refine Tri.cond rfl (fun hc1 => ?_) (fun hc1 => ?_)
 ·refine Tri.seq (Tri.region ?_)
  refine TriL.c1 rfl (op_bld (ltb rfl) spl79_q zA79_q rfl rfl) ?_
  refine TriL.c1 rfl (op_stl lk79_q rfl rfl rfl rfl rfl (leb rfl)) ?_
  refine TriL.c1 rfl (op_as (ltb rfl) rfl) ?_
  refine TriL.nil (Tri.ret ?_)
  exact ⟨.inr rfl, (ResOK.r2 rfl (.cell lk79_q rfl rfl rfl rfl (.tmp rfl .nil))).cast (by grind [shapeT, Shp.cells]), rfl⟩
 ·refine Tri.seq (Tri.region ?_)
  refine TriL.c1 rfl (op_bin (ltb rfl) rfl rfl rfl) ?_
  refine TriL.c1 rfl (op_as (ltb rfl) rfl) ?_
  refine TriL.nil ?_
  refine Tri.cond rfl (fun hc2 => ?_) (fun hc2 => ?_)
  ·refine Tri.seq (Tri.region ?_)
   refine TriL.c1 rfl (op_bld (ltb rfl) spl79_q zA79_q rfl rfl) ?_
   refine TriL.c1 rfl (op_stl lk79_q rfl rfl rfl rfl rfl (leb rfl)) ?_
   refine TriL.c1 rfl (op_as (ltb rfl) rfl) ?_
   refine TriL.nil (Tri.ret ?_)
   exact ⟨.inr rfl, (ResOK.r2 rfl (.cell lk79_q rfl rfl rfl rfl (.tmp rfl .nil))).cast (by grind [shapeT, Shp.cells]), rfl⟩
  ·refine Tri.seq (Tri.region ?_)
   refine TriL.c1 rfl (op_bin (ltb rfl) rfl rfl rfl) ?_
   refine TriL.c1 rfl (op_as (ltb rfl) rfl) ?_
   refine TriL.nil ?_
   refine Tri.cond rfl (fun hc3 => ?_) (fun hc3 => ?_)
   ·refine Tri.seq (Tri.region ?_)
    refine TriL.c1 rfl (op_bld (ltb rfl) spl79_q zA79_q rfl rfl) ?_
    refine TriL.c1 rfl (op_stl lk79_q rfl rfl rfl rfl rfl (leb rfl)) ?_
    refine TriL.c1 rfl (op_as (ltb rfl) rfl) ?_
    refine TriL.nil (Tri.ret ?_)
    exact ⟨.inr rfl, (ResOK.r2 rfl (.cell lk79_q rfl rfl rfl rfl (.tmp rfl .nil))).cast (by grind [shapeT, Shp.cells]), rfl⟩
   ·refine Tri.seq (Tri.region ?_)
    refine TriL.c1 rfl (op_bin (ltb rfl) rfl rfl rfl) ?_
    refine TriL.c1 rfl (op_as (ltb rfl) rfl) ?_
    refine TriL.nil ?_
    refine Tri.cond rfl (fun hc4 => ?_) (fun hc4 => ?_)
    ·refine Tri.seq (Tri.region ?_)
     refine TriL.c1 rfl (op_bld (ltb rfl) spl79_q zA79_q rfl rfl) ?_
     refine TriL.c1 rfl (op_stl lk79_q rfl rfl rfl rfl rfl (leb rfl)) ?_
     refine TriL.c1 rfl (op_as (ltb rfl) rfl) ?_
     refine TriL.nil (Tri.ret ?_)
     exact ⟨.inr rfl, (ResOK.r2 rfl (.cell lk79_q rfl rfl rfl rfl (.tmp rfl .nil))).cast (by grind [shapeT, Shp.cells]), rfl⟩
    ·refine Tri.seq (Tri.seq (Tri.region ?_))
     refine TriL.c1 rfl (op_bin (ltb rfl) rfl rfl rfl) ?_
     refine TriL.c1 rfl (op_as (ltb rfl) rfl) ?_
     refine TriL.nil ?_
     refine Tri.cond rfl (fun hc5 => ?_) (fun hc5 => ?_)
     ·refine Tri.skip ?_
      refine Tri.condT rfl hc5 ?_
      refine Tri.seq (Tri.region ?_)
      refine TriL.c1 rfl (op_bld (ltb rfl) spl79_q zA79_q rfl rfl) ?_
      refine TriL.c1 rfl (op_stl lk79_q rfl rfl rfl rfl rfl (leb rfl)) ?_
      refine TriL.c1 rfl (op_as (ltb rfl) rfl) ?_
      refine TriL.nil (Tri.ret ?_)
      exact ⟨.inr rfl, (ResOK.r2 rfl (.cell lk79_q rfl rfl rfl rfl (.tmp rfl .nil))).cast (by grind [shapeT, Shp.cells]), rfl⟩
     ·-- region 11 step.go:32
      refine Tri.region ?_
      refine TriL.c1 rfl (op_bin (ltb rfl) rfl rfl rfl) ?_
      refine TriL.c1 rfl (op_as (ltb rfl) rfl) ?_
      refine TriL.nil ?_
      refine Tri.cond rfl (fun hc6 => ?_) (fun hc6 => ?_)
      ·refine Tri.seq (Tri.region ?_)
       refine TriL.c1 rfl (op_bld (ltb rfl) spl79_q zA79_q rfl rfl) ?_
       refine TriL.c1 rfl (op_stl lk79_q rfl rfl rfl rfl rfl (leb rfl)) ?_
       refine TriL.c1 rfl (op_as (ltb rfl) rfl) ?_
       refine TriL.nil (Tri.ret ?_)
       exact ⟨.inr rfl, (ResOK.r2 rfl (.cell lk79_q rfl rfl rfl rfl (.tmp rfl .nil))).cast (by grind [shapeT, Shp.cells]), rfl⟩
      ·refine Tri.seq (Tri.region ?_)
       refine TriL.c1 rfl (op_bin (ltb rfl) rfl rfl rfl) ?_
       refine TriL.c1 rfl (op_as (ltb rfl) rfl) ?_
       refine TriL.nil ?_
       refine Tri.cond rfl (fun hc7 => ?_) (fun hc7 => ?_)
       ·refine Tri.seq (Tri.region ?_)
        refine TriL.c1 rfl (op_bld (ltb rfl) spl79_q zA79_q rfl rfl) ?_
        refine TriL.c1 rfl (op_stl lk79_q rfl rfl rfl rfl rfl (leb rfl)) ?_
        refine TriL.c1 rfl (op_as (ltb rfl) rfl) ?_
        refine TriL.nil (Tri.ret ?_)
        exact ⟨.inr rfl, (ResOK.r2 rfl (.cell lk79_q rfl rfl rfl rfl (.tmp rfl .nil))).cast (by grind [shapeT, Shp.cells]), rfl⟩
       ·refine Tri.seq (Tri.region ?_)
        refine TriL.c1 rfl (op_bin (ltb rfl) rfl rfl rfl) ?_
        refine TriL.c1 rfl (op_as (ltb rfl) rfl) ?_
        refine TriL.nil ?_
        refine Tri.cond rfl (fun hc8 => ?_) (fun hc8 => ?_)
        ·refine Tri.seq (Tri.region ?_)
         refine TriL.c1 rfl (op_bld (ltb rfl) spl79_q zA79_q rfl rfl) ?_
         refine TriL.c1 rfl (op_stl lk79_q rfl rfl rfl rfl rfl (leb rfl)) ?_
         refine TriL.c1 rfl (op_as (ltb rfl) rfl) ?_
         refine TriL.nil (Tri.ret ?_)
         exact ⟨.inr rfl, (ResOK.r2 rfl (.cell lk79_q rfl rfl rfl rfl (.tmp rfl .nil))).cast (by grind [shapeT, Shp.cells]), rfl⟩
        ·refine Tri.skip (Tri.seq (Tri.region ?_))
         refine TriL.c1 rfl (op_bld (ltb rfl) spl79_q zA79_q rfl rfl) ?_
         refine TriL.c1 rfl (op_mv (ltb rfl) rfl) ?_
         refine TriL.c1 rfl (op_bin (ltb rfl) rfl rfl rfl) ?_
         refine TriL.c1 rfl (op_mv (ltb rfl) rfl) ?_
         refine TriL.split (d := 30) rfl (fun hg9 => ?_) (fun hg9 => ?_)
         ·iterate 2 (refine TriL.skipu rfl rfl (ltb rfl) (ltb rfl) rfl hg9 ?_)
          refine TriL.c1 rfl (op_pickt (ltb rfl) rfl hg9 rfl) ?_
          refine TriL.c1 rfl (op_stl lk79_q rfl rfl rfl rfl rfl (leb rfl)) ?_
          refine TriL.c1 rfl (op_as (ltb rfl) rfl) ?_
          refine TriL.nil (Tri.ret ?_)
          exact ⟨.inr rfl, (ResOK.r2 rfl (.cell lk79_q rfl rfl rfl rfl (.tmp rfl .nil))).cast (by grind [shapeT, Shp.cells]), rfl⟩
         ·refine TriL.g1 rfl (ltb rfl) rfl hg9 (op_mv (ltb rfl) rfl) ?_
          refine TriL.g1 rfl (ltb rfl) rfl hg9 (op_bin (ltb rfl) rfl rfl rfl) ?_
          refine TriL.c1 rfl (op_pickf (ltb rfl) rfl hg9 rfl) ?_
          refine TriL.c1 rfl (op_stl lk79_q rfl rfl rfl rfl rfl (leb rfl)) ?_
          refine TriL.c1 rfl (op_as (ltb rfl) rfl) ?_
          refine TriL.nil (Tri.ret ?_)
          exact ⟨.inr rfl, (ResOK.r2 rfl (.cell lk79_q rfl rfl rfl rfl (.tmp rfl .nil))).cast (by have : (decide (1 ≤ k) && decide (k ≤ 10)) = (k == 10) := (by rw [Bool.eq_iff_iff]; simp at *; omega); rw [this]; grind [shapeT, Shp.cells]), rfl⟩
theorem p_nm (h : Bool) (s : Str) : Pure Tryz.prog 29 [.bool h, .str s] (.bool (nmT h s)) := by
 refine Pure.of_tri Tryz.func29 rfl rfl (ltb rfl) fun H => ?_
 refine Tri.seq (Tri.region ?_)
 refine TriL.c1 rfl (op_as (ltb rfl) rfl) ?_
 refine TriL.nil (Tri.seq (Tri.region ?_))
 iterate 2 (refine TriL.c1 rfl (op_mv (ltb rfl) rfl) ?_)
 refine TriL.split (d := 6) rfl (fun hg1 => ?_) (fun hg1 => ?_)
 ·refine TriL.g1 rfl (ltb rfl) rfl hg1 (op_mv (ltb rfl) rfl) ?_
  refine TriL.g1 rfl (ltb rfl) rfl hg1 (op_call (ltb rfl) fn28_q rfl (p_nameOK _)) ?_
  refine TriL.c1 rfl (op_pickt (ltb rfl) rfl hg1 rfl) ?_
  refine TriL.c1 rfl (op_mv (ltb rfl) rfl) ?_
  refine TriL.split (d := 10) rfl (fun hg2 => ?_) (fun hg2 => ?_)
  ·iterate 3 (refine TriL.skipu rfl rfl (ltb rfl) (ltb rfl) rfl hg2 ?_)
   iterate 2 (refine TriL.skipg rfl rfl (ltb rfl) (ltb rfl) rfl ?_)
   refine TriL.skipu rfl rfl (ltb rfl) (ltb rfl) rfl hg2 ?_
   refine TriL.c1 rfl (op_pickt (ltb rfl) rfl hg2 rfl) ?_
   refine TriL.c1 rfl (op_as (ltb rfl) rfl) ?_
   refine TriL.nil (Tri.ret ?_)
   exact ⟨.inr rfl, (ResOK.r1 rfl (.tmp rfl .nil)).cast (congrArg AV.bool (by grind [nmT])), rfl⟩
  ·refine TriL.g1 rfl (ltb rfl) rfl hg2 (op_mv (ltb rfl) rfl) ?_
   refine TriL.g1 rfl (ltb rfl) rfl hg2 (op_un (ltb rfl) rfl rfl) ?_
   refine TriL.g1 rfl (ltb rfl) rfl hg2 (op_mv (ltb rfl) rfl) ?_
   refine TriL.split (d := 13) rfl (fun hg3 => ?_) (fun hg3 => ?_)
   ·refine TriL.g1 rfl (ltb rfl) rfl hg3 (op_mv (ltb rfl) rfl) ?_
    refine TriL.g1 rfl (ltb rfl) rfl hg3 (op_bin (ltb rfl) rfl rfl rfl) ?_
    refine TriL.g1 rfl (ltb rfl) rfl hg2 (op_pickt (ltb rfl) rfl hg3 rfl) ?_
    refine TriL.c1 rfl (op_pickf (ltb rfl) rfl hg2 rfl) ?_
    refine TriL.c1 rfl (op_as (ltb rfl) rfl) ?_
    refine TriL.nil (Tri.ret ?_)
    exact ⟨.inr rfl, (ResOK.r1 rfl (.tmp rfl .nil)).cast (congrArg AV.bool (by grind [nmT])), rfl⟩
   ·iterate 2 (refine TriL.skipu rfl rfl (ltb rfl) (ltb rfl) rfl hg3 ?_)
    refine TriL.g1 rfl (ltb rfl) rfl hg2 (op_pickf (ltb rfl) rfl hg3 rfl) ?_
    refine TriL.c1 rfl (op_pickf (ltb rfl) rfl hg2 rfl) ?_
    refine TriL.c1 rfl (op_as (ltb rfl) rfl) ?_
    refine TriL.nil (Tri.ret ?_)
    exact ⟨.inr rfl, (ResOK.r1 rfl (.tmp rfl .nil)).cast (congrArg AV.bool (by grind [nmT])), rfl⟩
 ·iterate 2 (refine TriL.skipu rfl rfl (ltb rfl) (ltb rfl) rfl hg1 ?_)
  refine TriL.c1 rfl (op_pickf (ltb rfl) rfl hg1 rfl) ?_
  refine TriL.c1 rfl (op_mv (ltb rfl) rfl) ?_
  refine TriL.g1 rfl (ltb rfl) rfl rfl (op_mv (ltb rfl) rfl) ?_
  refine TriL.g1 rfl (ltb rfl) rfl rfl (op_un (ltb rfl) rfl rfl) ?_
  refine TriL.g1 rfl (ltb rfl) rfl rfl (op_mv (ltb rfl) rfl) ?_
  refine TriL.split (d := 13) rfl (fun hg4 => ?_) (fun hg4 => ?_)
  ·refine TriL.g1 rfl (ltb rfl) rfl hg4 (op_mv (ltb rfl) rfl) ?_
   refine TriL.g1 rfl (ltb rfl) rfl hg4 (op_bin (ltb rfl) rfl rfl rfl) ?_
   refine TriL.g1 rfl (ltb rfl) rfl rfl (op_pickt (ltb rfl) rfl hg4 rfl) ?_
   refine TriL.c1 rfl (op_pickf (ltb rfl) rfl rfl rfl) ?_
   refine TriL.c1 rfl (op_as (ltb rfl) rfl) ?_
   refine TriL.nil (Tri.ret ?_)
   exact ⟨.inr rfl, (ResOK.r1 rfl (.tmp rfl .nil)).cast (congrArg AV.bool (by grind [nmT])), rfl⟩
  ·iterate 2 (refine TriL.skipu rfl rfl (ltb rfl) (ltb rfl) rfl hg4 ?_)
   refine TriL.g1 rfl (ltb rfl) rfl rfl (op_pickf (ltb rfl) rfl hg4 rfl) ?_
   refine TriL.c1 rfl (op_pickf (ltb rfl) rfl rfl rfl) ?_
   refine TriL.c1 rfl (op_as (ltb rfl) rfl) ?_
   refine TriL.nil (Tri.ret ?_)
   exact ⟨.inr rfl, (ResOK.r1 rfl (.tmp rfl .nil)).cast (congrArg AV.bool (by grind [nmT])), rfl⟩
theorem p_nu (h : Bool) (n : Int) : Pure Tryz.prog 30 [.bool h, .int .i64 n] (.bool (nuT h n)) := by
 refine Pure.of_tri Tryz.func30 rfl rfl (ltb rfl) fun H => ?_
 refine Tri.seq (Tri.region ?_)
 refine TriL.c1 rfl (op_as (ltb rfl) rfl) ?_
 refine TriL.nil (Tri.seq (Tri.region ?_))
 iterate 2 (refine TriL.c1 rfl (op_mv (ltb rfl) rfl) ?_)
 refine TriL.split (d := 6) rfl (fun hg1 => ?_) (fun hg1 => ?_)
 ·refine TriL.g1 rfl (ltb rfl) rfl hg1 (op_mv (ltb rfl) rfl) ?_
  refine TriL.g1 rfl (ltb rfl) rfl hg1 (op_call (ltb rfl) fn63_q rfl (p_fnum _)) ?_
  refine TriL.c1 rfl (op_pickt (ltb rfl) rfl hg1 rfl) ?_
  refine TriL.c1 rfl (op_mv (ltb rfl) rfl) ?_
  refine TriL.split (d := 10) rfl (fun hg2 => ?_) (fun hg2 => ?_)
  ·iterate 3 (refine TriL.skipu rfl rfl (ltb rfl) (ltb rfl) rfl hg2 ?_)
   iterate 2 (refine TriL.skipg rfl rfl (ltb rfl) (ltb rfl) rfl ?_)
   refine TriL.skipu rfl rfl (ltb rfl) (ltb rfl) rfl hg2 ?_
   refine TriL.c1 rfl (op_pickt (ltb rfl) rfl hg2 rfl) ?_
   refine TriL.c1 rfl (op_as (ltb rfl) rfl) ?_
   refine TriL.nil (Tri.ret ?_)
   exact ⟨.inr rfl, (ResOK.r1 rfl (.tmp rfl .nil)).cast (congrArg AV.bool (by grind [nuT])), rfl⟩
  ·refine TriL.g1 rfl (ltb rfl) rfl hg2 (op_mv (ltb rfl) rfl) ?_
   refine TriL.g1 rfl (ltb rfl) rfl hg2 (op_un (ltb rfl) rfl rfl) ?_
   refine TriL.g1 rfl (ltb rfl) rfl hg2 (op_mv (ltb rfl) rfl) ?_
   refine TriL.split (d := 13) rfl (fun hg3 => ?_) (fun hg3 => ?_)
   ·refine TriL.g1 rfl (ltb rfl) rfl hg3 (op_mv (ltb rfl) rfl) ?_
    refine TriL.g1 rfl (ltb rfl) rfl hg3 (op_bin (ltb rfl) rfl rfl rfl) ?_
    refine TriL.g1 rfl (ltb rfl) rfl hg2 (op_pickt (ltb rfl) rfl hg3 rfl) ?_
    refine TriL.c1 rfl (op_pickf (ltb rfl) rfl hg2 rfl) ?_
    refine TriL.c1 rfl (op_as (ltb rfl) rfl) ?_
    refine TriL.nil (Tri.ret ?_)
    exact ⟨.inr rfl, (ResOK.r1 rfl (.tmp rfl .nil)).cast (congrArg AV.bool (by grind [nuT])), rfl⟩
   ·iterate 2 (refine TriL.skipu rfl rfl (ltb rfl) (ltb rfl) rfl hg3 ?_)
    refine TriL.g1 rfl (ltb rfl) rfl hg2 (op_pickf (ltb rfl) rfl hg3 rfl) ?_
    refine TriL.c1 rfl (op_pickf (ltb rfl) rfl hg2 rfl) ?_
    refine TriL.c1 rfl (op_as (ltb rfl) rfl) ?_
    refine TriL.nil (Tri.ret ?_)
    exact ⟨.inr rfl, (ResOK.r1 rfl (.tmp rfl .nil)).cast (congrArg AV.bool (by grind [nuT])), rfl⟩
 ·iterate 2 (refine TriL.skipu rfl rfl (ltb rfl) (ltb rfl) rfl hg1 ?_)
  refine TriL.c1 rfl (op_pickf (ltb rfl) rfl hg1 rfl) ?_
  refine TriL.c1 rfl (op_mv (ltb rfl) rfl) ?_
  refine TriL.g1 rfl (ltb rfl) rfl rfl (op_mv (ltb rfl) rfl) ?_
  refine TriL.g1 rfl (ltb rfl) rfl rfl (op_un (ltb rfl) rfl rfl) ?_
  refine TriL.g1 rfl (ltb rfl) rfl rfl (op_mv (ltb rfl) rfl) ?_
  refine TriL.split (d := 13) rfl (fun hg4 => ?_) (fun hg4 => ?_)
  ·refine TriL.g1 rfl (ltb rfl) rfl hg4 (op_mv (ltb rfl) rfl) ?_
   refine TriL.g1 rfl (ltb rfl) rfl hg4 (op_bin (ltb rfl) rfl rfl rfl) ?_
   refine TriL.g1 rfl (ltb rfl) rfl rfl (op_pickt (ltb rfl) rfl hg4 rfl) ?_
   refine TriL.c1 rfl (op_pickf (ltb rfl) rfl rfl rfl) ?_
   refine TriL.c1 rfl (op_as (ltb rfl) rfl) ?_
   refine TriL.nil (Tri.ret ?_)
   exact ⟨.inr rfl, (ResOK.r1 rfl (.tmp rfl .nil)).cast (congrArg AV.bool (by grind [nuT])), rfl⟩
  ·iterate 2 (refine TriL.skipu rfl rfl (ltb rfl) (ltb rfl) rfl hg4 ?_)
   refine TriL.g1 rfl (ltb rfl) rfl rfl (op_pickf (ltb rfl) rfl hg4 rfl) ?_
   refine TriL.c1 rfl (op_pickf (ltb rfl) rfl rfl rfl) ?_
   refine TriL.c1 rfl (op_as (ltb rfl) rfl) ?_
   refine TriL.nil (Tri.ret ?_)
   exact ⟨.inr rfl, (ResOK.r1 rfl (.tmp rfl .nil)).cast (congrArg AV.bool (by grind [nuT])), rfl⟩
theorem p_typed (x : Stp) : Pure Tryz.prog 31 [x.av] (.bool x.typed) := by
 refine Pure.of_tri Tryz.func31 rfl rfl (ltb rfl) fun H => ?_
 refine Tri.seq (Tri.region ?_)
 refine TriL.c2 rfl (op_box (ltb rfl) rfl rfl rfl) ?_
 refine TriL.c1 rfl (op_as (ltb rfl) rfl) ?_
 refine TriL.nil (Tri.seq (Tri.seq (Tri.region ?_)))
 refine TriL.c1 rfl (op_fal (ltb rfl) fo46_0_q rfl) ?_
 refine TriL.c1 rfl (op_ldl (ltb rfl) lk3_q rfl rfl rfl) ?_
 refine TriL.nil (Tri.blk (Tri.seq (Tri.region ?_)))
 refine TriL.c1 rfl (op_bin (ltb rfl) rfl rfl rfl) ?_
 refine TriL.c1 rfl (op_as (ltb rfl) rfl) ?_
 refine TriL.nil ?_
 refine Tri.cond rfl (fun hc1 => ?_) (fun hc1 => ?_)
 ·refine Tri.seq (Tri.region ?_)
  refine TriL.c1 rfl (op_fal (ltb rfl) fo46_7_q rfl) ?_
  refine TriL.c1 rfl (op_ldl (ltb rfl) lk3_q rfl rfl rfl) ?_
  refine TriL.c1 rfl (op_call (ltb rfl) fn64_q rfl (p_wholeT _)) ?_
  refine TriL.c1 rfl (op_as (ltb rfl) rfl) ?_
  refine TriL.nil (Tri.ret ?_)
  exact ⟨.inr rfl, (ResOK.r1 rfl (.tmp rfl .nil)).cast (congrArg AV.bool (by grind [Stp.typed])), rfl⟩
 ·refine Tri.seq (Tri.region ?_)
  refine TriL.c1 rfl (op_bin (ltb rfl) rfl rfl rfl) ?_
  refine TriL.c1 rfl (op_as (ltb rfl) rfl) ?_
  refine TriL.nil ?_
  refine Tri.cond rfl (fun hc2 => ?_) (fun hc2 => ?_)
  ·refine Tri.seq (Tri.region ?_)
   refine TriL.c1 rfl (op_fal (ltb rfl) fo46_7_q rfl) ?_
   refine TriL.c1 rfl (op_ldl (ltb rfl) lk3_q rfl rfl rfl) ?_
   refine TriL.c1 rfl (op_call (ltb rfl) fn65_q rfl (p_word _)) ?_
   refine TriL.c1 rfl (op_bin (ltb rfl) rfl rfl rfl) ?_
   refine TriL.c1 rfl (op_as (ltb rfl) rfl) ?_
   refine TriL.nil (Tri.ret ?_)
   exact ⟨.inr rfl, (ResOK.r1 rfl (.tmp rfl .nil)).cast (congrArg AV.bool (by grind [Stp.typed])), rfl⟩
  ·refine Tri.skip (Tri.seq (Tri.region ?_))
   refine TriL.c1 rfl (op_fal (ltb rfl) fo46_7_q rfl) ?_
   refine TriL.c1 rfl (op_ldl (ltb rfl) lk3_q rfl rfl rfl) ?_
   refine TriL.c1 rfl (op_bin (ltb rfl) rfl rfl rfl) ?_
   refine TriL.c1 rfl (op_as (ltb rfl) rfl) ?_
   refine TriL.nil (Tri.ret ?_)
   exact ⟨.inr rfl, (ResOK.r1 rfl (.tmp rfl .nil)).cast (congrArg AV.bool (by grind [Stp.typed])), rfl⟩
theorem p_listed1 (s : Str) : Pure Tryz.prog 66 [.str s] (.bool (!nameOK s)) := by
 refine Pure.of_tri Tryz.func66 rfl rfl (ltb rfl) fun H => ?_
 refine Tri.seq (Tri.region ?_)
 refine TriL.c1 rfl (op_as (ltb rfl) rfl) ?_
 refine TriL.nil (Tri.seq (Tri.region ?_))
 refine TriL.c1 rfl (op_mv (ltb rfl) rfl) ?_
 refine TriL.c1 rfl (op_call (ltb rfl) fn28_q rfl (p_nameOK _)) ?_
 refine TriL.c1 rfl (op_un (ltb rfl) rfl rfl) ?_
 refine TriL.c1 rfl (op_as (ltb rfl) rfl) ?_
 refine TriL.nil (Tri.ret ?_)
 exact ⟨.inr rfl, (ResOK.r1 rfl (.tmp rfl .nil)).cast rfl, rfl⟩
theorem p_listed (h : Bool) (l : List Str) (hl : l.length ≤ 9223372036854775807) : Pure Tryz.prog 32 [.bool h, .sl (l.map .str)] (.bool (lsT h l)) := by
 refine Pure.of_tri Tryz.func32 rfl rfl (ltb rfl) fun H => ?_
 refine Tri.seq (Tri.region ?_)
 refine TriL.c1 rfl (op_as (ltb rfl) rfl) ?_
 refine TriL.nil (Tri.seq (Tri.region ?_))
 refine TriL.c1 rfl (op_as (ltb rfl) rfl) ?_
 refine TriL.nil (Tri.seq (Tri.seq (Tri.region ?_)))
 refine TriL.c1 rfl (op_mv (ltb rfl) rfl) ?_
 refine TriL.c1 rfl (op_un (ltb rfl) rfl rfl) ?_
 refine TriL.nil ?_
 refine Tri.cond rfl (fun hc1 => ?_) (fun hc1 => ?_)
 ·refine Tri.seq (Tri.region ?_)
  refine TriL.c1 rfl (op_mv (ltb rfl) rfl) ?_
  refine TriL.c1 rfl (op_lenl (ltb rfl) un40_q rfl) ?_
  refine TriL.c1 rfl (op_bin (ltb rfl) rfl rfl rfl) ?_
  refine TriL.c1 rfl (op_as (ltb rfl) rfl) ?_
  refine TriL.nil (Tri.ret ?_)
  exact ⟨.inr rfl, (ResOK.r1 rfl (.tmp rfl .nil)).cast (congrArg AV.bool (by grind [lsT])), rfl⟩
 ·refine Tri.skip (Tri.seq (Tri.region ?_))
  refine TriL.c1 rfl (op_mv (ltb rfl) rfl) ?_
  refine TriL.c1 rfl (op_lenl (ltb rfl) un40_q rfl) ?_
  refine TriL.c1 rfl (op_bin (ltb rfl) rfl rfl rfl) ?_
  refine TriL.c1 rfl (op_mv (ltb rfl) rfl) ?_
  refine TriL.split (d := 14) rfl (fun hg2 => ?_) (fun hg2 => ?_)
  ·refine TriL.g1 rfl (ltb rfl) rfl hg2 (op_mv (ltb rfl) rfl) ?_
   refine TriL.g1 rfl (ltb rfl) rfl hg2 (op_lenl (ltb rfl) un40_q rfl) ?_
   refine TriL.g1 rfl (ltb rfl) rfl hg2 (op_bin (ltb rfl) rfl rfl rfl) ?_
   refine TriL.c1 rfl (op_pickt (ltb rfl) rfl hg2 rfl) ?_
   refine TriL.c1 rfl (op_mv (ltb rfl) rfl) ?_
   refine TriL.split (d := 19) rfl (fun hg3 => ?_) (fun hg3 => ?_)
   ·iterate 2 (refine TriL.g1 rfl (ltb rfl) rfl hg3 (op_mv (ltb rfl) rfl) ?_)
    refine TriL.g1 rfl (ltb rfl) rfl hg3 (op_call (ltb rfl) fn67_q rfl (p_anyS l _ (fun s => !nameOK s) (by kernel_rfl) p_listed1 hl)) ?_
    refine TriL.g1 rfl (ltb rfl) rfl hg3 (op_un (ltb rfl) rfl rfl) ?_
    refine TriL.c1 rfl (op_pickt (ltb rfl) rfl hg3 rfl) ?_
    refine TriL.c1 rfl (op_mv (ltb rfl) rfl) ?_
    refine TriL.split (d := 25) rfl (fun hg4 => ?_) (fun hg4 => ?_)
    ·refine TriL.g1 rfl (ltb rfl) rfl hg4 (op_mv (ltb rfl) rfl) ?_
     refine TriL.g1 rfl (ltb rfl) rfl hg4 (op_call (ltb rfl) fn68_q rfl (p_once l (by grind))) ?_
     refine TriL.c1 rfl (op_pickt (ltb rfl) rfl hg4 rfl) ?_
     refine TriL.c1 rfl (op_as (ltb rfl) rfl) ?_
     refine TriL.nil (Tri.ret ?_)
     exact ⟨.inr rfl, (ResOK.r1 rfl (.tmp rfl .nil)).cast (congrArg AV.bool (by grind [lsT])), rfl⟩
    ·iterate 2 (refine TriL.skipu rfl rfl (ltb rfl) (ltb rfl) rfl hg4 ?_)
     refine TriL.c1 rfl (op_pickf (ltb rfl) rfl hg4 rfl) ?_
     refine TriL.c1 rfl (op_as (ltb rfl) rfl) ?_
     refine TriL.nil (Tri.ret ?_)
     exact ⟨.inr rfl, (ResOK.r1 rfl (.tmp rfl .nil)).cast (congrArg AV.bool (by grind [lsT])), rfl⟩
   ·iterate 4 (refine TriL.skipu rfl rfl (ltb rfl) (ltb rfl) rfl hg3 ?_)
    refine TriL.c1 rfl (op_pickf (ltb rfl) rfl hg3 rfl) ?_
    refine TriL.c1 rfl (op_mv (ltb rfl) rfl) ?_
    iterate 2 (refine TriL.skipu rfl rfl (ltb rfl) (ltb rfl) rfl rfl ?_)
    refine TriL.c1 rfl (op_pickf (ltb rfl) rfl rfl rfl) ?_
    refine TriL.c1 rfl (op_as (ltb rfl) rfl) ?_
    refine TriL.nil (Tri.ret ?_)
    exact ⟨.inr rfl, (ResOK.r1 rfl (.tmp rfl .nil)).cast (congrArg AV.bool (by grind [lsT])), rfl⟩
  ·iterate 3 (refine TriL.skipu rfl rfl (ltb rfl) (ltb rfl) rfl hg2 ?_)
   refine TriL.c1 rfl (op_pickf (ltb rfl) rfl hg2 rfl) ?_
   refine TriL.c1 rfl (op_mv (ltb rfl) rfl) ?_
   iterate 4 (refine TriL.skipu rfl rfl (ltb rfl) (ltb rfl) rfl rfl ?_)
   refine TriL.c1 rfl (op_pickf (ltb rfl) rfl rfl rfl) ?_
   refine TriL.c1 rfl (op_mv (ltb rfl) rfl) ?_
   iterate 2 (refine TriL.skipu rfl rfl (ltb rfl) (ltb rfl) rfl rfl ?_)
   refine TriL.c1 rfl (op_pickf (ltb rfl) rfl rfl rfl) ?_
   refine TriL.c1 rfl (op_as (ltb rfl) rfl) ?_
   refine TriL.nil (Tri.ret ?_)
   exact ⟨.inr rfl, (ResOK.r1 rfl (.tmp rfl .nil)).cast (congrArg AV.bool (by grind [lsT])), rfl⟩
theorem p_valued (h : Bool) (x : Stp) (hb : x.big) : Pure Tryz.prog 33 [.bool h, x.av] (.bool (vlT h x.ty x.dv)) := by
 refine Pure.of_tri Tryz.func33 rfl rfl (ltb rfl) fun H => ?_
 refine Tri.seq (Tri.region ?_)
 refine TriL.c2 rfl (op_box (ltb rfl) rfl rfl rfl) ?_
 refine TriL.c1 rfl (op_as (ltb rfl) rfl) ?_
 refine TriL.nil (Tri.seq (Tri.seq (Tri.region ?_)))
 refine TriL.c1 rfl (op_mv (ltb rfl) rfl) ?_
 refine TriL.nil ?_
 refine Tri.cond rfl (fun hc1 => ?_) (fun hc1 => ?_)
 ·refine Tri.seq (Tri.region ?_)
  refine TriL.c1 rfl (op_bld (ltb rfl) spl94_q zA94_q rfl rfl) ?_
  refine TriL.c1 rfl (op_fal (ltb rfl) fo46_7_q rfl) ?_
  refine TriL.c1 rfl (op_ldl (ltb rfl) lk3_q rfl rfl rfl) ?_
  refine TriL.c1 rfl (op_bld (ltb rfl) spl96_q zA96_q rfl rfl) ?_
  refine TriL.c1 rfl (op_fal (ltb rfl) fo46_9_q rfl) ?_
  refine TriL.c1 rfl (op_ldl (ltb rfl) lk44_q rfl rfl rfl) ?_
  refine TriL.c1 rfl (op_call (ltb rfl) fn69_q rfl (p_val sch0 (fldT x.ty) x.dv hb.s fun u hu name => p_tree sch0 sch0_fine u (hb.u u hu) name)) ?_
  refine TriL.c1 rfl (op_as (ltb rfl) rfl) ?_
  refine TriL.nil (Tri.ret ?_)
  exact ⟨.inr rfl, (ResOK.r1 rfl (.tmp rfl .nil)).cast (congrArg AV.bool (by first | grind [vlT] | (rw [List.length_map]; subst hc1; simp_all [vlT]; rw [Bool.eq_iff_iff]; simp))), rfl⟩
 ·refine Tri.skip (Tri.seq (Tri.region ?_))
  refine TriL.c1 rfl (op_fal (ltb rfl) fo46_9_q rfl) ?_
  refine TriL.c1 rfl (op_fal (ltb rfl) fo44_0_q rfl) ?_
  refine TriL.c1 rfl (op_ldl (ltb rfl) lk41_q rfl rfl rfl) ?_
  refine TriL.c1 rfl (op_bin (ltb rfl) rfl rfl rfl) ?_
  refine TriL.c1 rfl (op_mv (ltb rfl) rfl) ?_
  refine TriL.split (d := 17) rfl (fun hg2 => ?_) (fun hg2 => ?_)
  ·refine TriL.g1 rfl (ltb rfl) rfl hg2 (op_fal (ltb rfl) fo46_9_q rfl) ?_
   refine TriL.g1 rfl (ltb rfl) rfl hg2 (op_fal (ltb rfl) fo44_1_q rfl) ?_
   refine TriL.g1 rfl (ltb rfl) rfl hg2 (op_ldl (ltb rfl) lk9_q rfl rfl rfl) ?_
   refine TriL.g1 rfl (ltb rfl) rfl hg2 (op_bin (ltb rfl) rfl rfl rfl) ?_
   refine TriL.c1 rfl (op_pickt (ltb rfl) rfl hg2 rfl) ?_
   refine TriL.c1 rfl (op_mv (ltb rfl) rfl) ?_
   refine TriL.split (d := 23) rfl (fun hg3 => ?_) (fun hg3 => ?_)
   ·refine TriL.g1 rfl (ltb rfl) rfl hg3 (op_fal (ltb rfl) fo46_9_q rfl) ?_
    refine TriL.g1 rfl (ltb rfl) rfl hg3 (op_fal (ltb rfl) fo44_2_q rfl) ?_
    refine TriL.g1 rfl (ltb rfl) rfl hg3 (op_ldl (ltb rfl) lk42_q rfl rfl rfl) ?_
    refine TriL.g1 rfl (ltb rfl) rfl hg3 (op_lenl (ltb rfl) un42_q rfl) ?_
    refine TriL.g1 rfl (ltb rfl) rfl hg3 (op_bin (ltb rfl) rfl rfl rfl) ?_
    refine TriL.c1 rfl (op_pickt (ltb rfl) rfl hg3 rfl) ?_
    refine TriL.c1 rfl (op_as (ltb rfl) rfl) ?_
    refine TriL.nil (Tri.ret ?_)
    exact ⟨.inr rfl, (ResOK.r1 rfl (.tmp rfl .nil)).cast (congrArg AV.bool (by first | grind [vlT] | (rw [List.length_map]; subst hc1; simp_all [vlT]; rw [Bool.eq_iff_iff]; simp))), rfl⟩
   ·iterate 5 (refine TriL.skipu rfl rfl (ltb rfl) (ltb rfl) rfl hg3 ?_)
    refine TriL.c1 rfl (op_pickf (ltb rfl) rfl hg3 rfl) ?_
    refine TriL.c1 rfl (op_as (ltb rfl) rfl) ?_
    refine TriL.nil (Tri.ret ?_)
    exact ⟨.inr rfl, (ResOK.r1 rfl (.tmp rfl .nil)).cast (congrArg AV.bool (by first | grind [vlT] | (rw [List.length_map]; subst hc1; simp_all [vlT]; rw [Bool.eq_iff_iff]; simp))), rfl⟩
  ·iterate 4 (refine TriL.skipu rfl rfl (ltb rfl) (ltb rfl) rfl hg2 ?_)
   refine TriL.c1 rfl (op_pickf (ltb rfl) rfl hg2 rfl) ?_
   refine TriL.c1 rfl (op_mv (ltb rfl) rfl) ?_
   iterate 5 (refine TriL.skipu rfl rfl (ltb rfl) (ltb rfl) rfl rfl ?_)
   refine TriL.c1 rfl (op_pickf (ltb rfl) rfl rfl rfl) ?_
   refine TriL.c1 rfl (op_as (ltb rfl) rfl) ?_
   refine TriL.nil (Tri.ret ?_)
   exact ⟨.inr rfl, (ResOK.r1 rfl (.tmp rfl .nil)).cast (congrArg AV.bool (by first | grind [vlT] | (rw [List.length_map]; subst hc1; simp_all [vlT]; rw [Bool.eq_iff_iff]; simp))), rfl⟩
theorem p_right (x : Stp) (hb : x.big) : Pure Tryz.prog 17 [x.av] (.bool x.right) := by
 refine Pure.of_tri Tryz.func17 rfl rfl (ltb rfl) fun H => ?_
 refine Tri.seq (Tri.region ?_)
 refine TriL.c2 rfl (op_box (ltb rfl) rfl rfl rfl) ?_
 refine TriL.c1 rfl (op_as (ltb rfl) rfl) ?_
 refine TriL.nil (Tri.seq (Tri.region ?_))
 refine TriL.c1 rfl (op_fal (ltb rfl) fo46_0_q rfl) ?_
 refine TriL.c1 rfl (op_ldl (ltb rfl) lk3_q rfl rfl rfl) ?_
 refine TriL.c1 rfl (op_call (ltb rfl) fn27_q rfl (p_shape _)) ?_
 refine TriL.c1 rfl (op_mv (ltb rfl) rfl) ?_
 iterate 2 (refine TriL.c1 rfl (op_ext (ltb rfl) rfl rfl) ?_)
 refine TriL.c2 rfl (op_all (ltb rfl) zA79_q rfl) ?_
 refine TriL.c1 rfl (op_stl lk79_q rfl rfl rfl rfl rfl (leb rfl)) ?_
 refine TriL.c1 rfl (op_as (ltb rfl) rfl) ?_
 refine TriL.nil (Tri.seq (Tri.region ?_))
 iterate 2 (refine TriL.c1 rfl (op_mv (ltb rfl) rfl) ?_)
 refine TriL.split (d := 12) rfl (fun hg1 => ?_) (fun hg1 => ?_)
 ·refine TriL.g1 rfl (ltb rfl) rfl hg1 (op_fal (ltb rfl) fo46_1_q rfl) ?_
  refine TriL.g1 rfl (ltb rfl) rfl hg1 (op_ldl (ltb rfl) lk9_q rfl rfl rfl) ?_
  refine TriL.g1 rfl (ltb rfl) rfl hg1 (op_call (ltb rfl) fn28_q rfl (p_nameOK _)) ?_
  refine TriL.c1 rfl (op_pickt (ltb rfl) rfl hg1 rfl) ?_
  refine TriL.c1 rfl (op_mv (ltb rfl) rfl) ?_
  refine TriL.split (d := 17) rfl (fun hg2 => ?_) (fun hg2 => ?_)
  ·refine TriL.g1 rfl (ltb rfl) rfl hg2 (op_fal (ltb rfl) fo46_2_q rfl) ?_
   refine TriL.g1 rfl (ltb rfl) rfl hg2 (op_ldl (ltb rfl) lk9_q rfl rfl rfl) ?_
   refine TriL.g1 rfl (ltb rfl) rfl hg2 (op_call (ltb rfl) fn28_q rfl (p_nameOK _)) ?_
   refine TriL.c1 rfl (op_pickt (ltb rfl) rfl hg2 rfl) ?_
   refine TriL.c1 rfl (op_mv (ltb rfl) rfl) ?_
   refine TriL.split (d := 22) rfl (fun hg3 => ?_) (fun hg3 => ?_)
   ·refine TriL.g1 rfl (ltb rfl) rfl hg3 (op_fal (ltb rfl) fo79_0_q rfl) ?_
    refine TriL.g1 rfl (ltb rfl) rfl hg3 (op_ldl (ltb rfl) lk4_q rfl rfl rfl) ?_
    refine TriL.g1 rfl (ltb rfl) rfl hg3 (op_fal (ltb rfl) fo46_3_q rfl) ?_
    refine TriL.g1 rfl (ltb rfl) rfl hg3 (op_ldl (ltb rfl) lk9_q rfl rfl rfl) ?_
    refine TriL.g1 rfl (ltb rfl) rfl hg3 (op_call (ltb rfl) fn29_q rfl (p_nm _ _)) ?_
    refine TriL.c1 rfl (op_pickt (ltb rfl) rfl hg3 rfl) ?_
    refine TriL.c1 rfl (op_mv (ltb rfl) rfl) ?_
    refine TriL.split (d := 29) rfl (fun hg4 => ?_) (fun hg4 => ?_)
    ·refine TriL.g1 rfl (ltb rfl) rfl hg4 (op_fal (ltb rfl) fo79_1_q rfl) ?_
     refine TriL.g1 rfl (ltb rfl) rfl hg4 (op_ldl (ltb rfl) lk4_q rfl rfl rfl) ?_
     refine TriL.g1 rfl (ltb rfl) rfl hg4 (op_fal (ltb rfl) fo46_4_q rfl) ?_
     refine TriL.g1 rfl (ltb rfl) rfl hg4 (op_ldl (ltb rfl) lk9_q rfl rfl rfl) ?_
     refine TriL.g1 rfl (ltb rfl) rfl hg4 (op_call (ltb rfl) fn29_q rfl (p_nm _ _)) ?_
     refine TriL.c1 rfl (op_pickt (ltb rfl) rfl hg4 rfl) ?_
     refine TriL.c1 rfl (op_mv (ltb rfl) rfl) ?_
     refine TriL.split (d := 36) rfl (fun hg5 => ?_) (fun hg5 => ?_)
     ·refine TriL.g1 rfl (ltb rfl) rfl hg5 (op_fal (ltb rfl) fo79_2_q rfl) ?_
      refine TriL.g1 rfl (ltb rfl) rfl hg5 (op_ldl (ltb rfl) lk4_q rfl rfl rfl) ?_
      refine TriL.g1 rfl (ltb rfl) rfl hg5 (op_fal (ltb rfl) fo46_5_q rfl) ?_
      refine TriL.g1 rfl (ltb rfl) rfl hg5 (op_ldl (ltb rfl) lk3_q rfl rfl rfl) ?_
      refine TriL.g1 rfl (ltb rfl) rfl hg5 (op_call (ltb rfl) fn30_q rfl (p_nu _ _)) ?_
      refine TriL.c1 rfl (op_pickt (ltb rfl) rfl hg5 rfl) ?_
      refine TriL.c1 rfl (op_mv (ltb rfl) rfl) ?_
      refine TriL.split (d := 43) rfl (fun hg6 => ?_) (fun hg6 => ?_)
      ·refine TriL.g1 rfl (ltb rfl) rfl hg6 (op_fal (ltb rfl) fo79_3_q rfl) ?_
       refine TriL.g1 rfl (ltb rfl) rfl hg6 (op_ldl (ltb rfl) lk4_q rfl rfl rfl) ?_
       refine TriL.g1 rfl (ltb rfl) rfl hg6 (op_fal (ltb rfl) fo46_6_q rfl) ?_
       refine TriL.g1 rfl (ltb rfl) rfl hg6 (op_ldl (ltb rfl) lk3_q rfl rfl rfl) ?_
       refine TriL.g1 rfl (ltb rfl) rfl hg6 (op_call (ltb rfl) fn30_q rfl (p_nu _ _)) ?_
       refine TriL.c1 rfl (op_pickt (ltb rfl) rfl hg6 rfl) ?_
       refine TriL.c1 rfl (op_mv (ltb rfl) rfl) ?_
       refine TriL.split (d := 50) rfl (fun hg7 => ?_) (fun hg7 => ?_)
       ·refine TriL.g1 rfl (ltb rfl) rfl hg7 (op_ldl (ltb rfl) lk46_q rfl rfl rfl) ?_
        refine TriL.g1 rfl (ltb rfl) rfl hg7 (op_call (ltb rfl) fn31_q rfl (p_typed _)) ?_
        refine TriL.c1 rfl (op_pickt (ltb rfl) rfl hg7 rfl) ?_
        refine TriL.c1 rfl (op_mv (ltb rfl) rfl) ?_
        refine TriL.split (d := 54) rfl (fun hg8 => ?_) (fun hg8 => ?_)
        ·refine TriL.g1 rfl (ltb rfl) rfl hg8 (op_fal (ltb rfl) fo79_5_q rfl) ?_
         refine TriL.g1 rfl (ltb rfl) rfl hg8 (op_ldl (ltb rfl) lk4_q rfl rfl rfl) ?_
         refine TriL.g1 rfl (ltb rfl) rfl hg8 (op_fal (ltb rfl) fo46_8_q rfl) ?_
         refine TriL.g1 rfl (ltb rfl) rfl hg8 (op_ldl (ltb rfl) lk40_q rfl rfl rfl) ?_
         refine TriL.g1 rfl (ltb rfl) rfl hg8 (op_call (ltb rfl) fn32_q rfl (p_listed _ _ hb.n)) ?_
         refine TriL.c1 rfl (op_pickt (ltb rfl) rfl hg8 rfl) ?_
         refine TriL.c1 rfl (op_mv (ltb rfl) rfl) ?_
         refine TriL.split (d := 61) rfl (fun hg9 => ?_) (fun hg9 => ?_)
         ·refine TriL.g1 rfl (ltb rfl) rfl hg9 (op_fal (ltb rfl) fo79_6_q rfl) ?_
          refine TriL.g1 rfl (ltb rfl) rfl hg9 (op_ldl (ltb rfl) lk4_q rfl rfl rfl) ?_
          refine TriL.g1 rfl (ltb rfl) rfl hg9 (op_ldl (ltb rfl) lk46_q rfl rfl rfl) ?_
          refine TriL.g1 rfl (ltb rfl) rfl hg9 (op_call (ltb rfl) fn33_q rfl (p_valued _ _ hb)) ?_
          refine TriL.c1 rfl (op_pickt (ltb rfl) rfl hg9 rfl) ?_
          refine TriL.c1 rfl (op_as (ltb rfl) rfl) ?_
          refine TriL.nil (Tri.ret ?_)
          exact ⟨.inr rfl, (ResOK.r1 rfl (.tmp rfl .nil)).cast (congrArg AV.bool (by grind [Stp.right])), rfl⟩
         ·iterate 4 (refine TriL.skipu rfl rfl (ltb rfl) (ltb rfl) rfl hg9 ?_)
          refine TriL.c1 rfl (op_pickf (ltb rfl) rfl hg9 rfl) ?_
          refine TriL.c1 rfl (op_as (ltb rfl) rfl) ?_
          refine TriL.nil (Tri.ret ?_)
          exact ⟨.inr rfl, (ResOK.r1 rfl (.tmp rfl .nil)).cast (congrArg AV.bool (by grind [Stp.right])), rfl⟩
        ·iterate 5 (refine TriL.skipu rfl rfl (ltb rfl) (ltb rfl) rfl hg8 ?_)
         refine TriL.c1 rfl (op_pickf (ltb rfl) rfl hg8 rfl) ?_
         refine TriL.c1 rfl (op_mv (ltb rfl) rfl) ?_
         iterate 4 (refine TriL.skipu rfl rfl (ltb rfl) (ltb rfl) rfl rfl ?_)
         refine TriL.c1 rfl (op_pickf (ltb rfl) rfl rfl rfl) ?_
         refine TriL.c1 rfl (op_as (ltb rfl) rfl) ?_
         refine TriL.nil (Tri.ret ?_)
         exact ⟨.inr rfl, (ResOK.r1 rfl (.tmp rfl .nil)).cast (congrArg AV.bool (by grind [Stp.right])), rfl⟩
       ·iterate 2 (refine TriL.skipu rfl rfl (ltb rfl) (ltb rfl) rfl hg7 ?_)
        refine TriL.c1 rfl (op_pickf (ltb rfl) rfl hg7 rfl) ?_
        refine TriL.c1 rfl (op_mv (ltb rfl) rfl) ?_
        iterate 5 (refine TriL.skipu rfl rfl (ltb rfl) (ltb rfl) rfl rfl ?_)
        refine TriL.c1 rfl (op_pickf (ltb rfl) rfl rfl rfl) ?_
        refine TriL.c1 rfl (op_mv (ltb rfl) rfl) ?_
        iterate 4 (refine TriL.skipu rfl rfl (ltb rfl) (ltb rfl) rfl rfl ?_)
        refine TriL.c1 rfl (op_pickf (ltb rfl) rfl rfl rfl) ?_
        refine TriL.c1 rfl (op_as (ltb rfl) rfl) ?_
        refine TriL.nil (Tri.ret ?_)
        exact ⟨.inr rfl, (ResOK.r1 rfl (.tmp rfl .nil)).cast (congrArg AV.bool (by grind [Stp.right])), rfl⟩
      ·iterate 5 (refine TriL.skipu rfl rfl (ltb rfl) (ltb rfl) rfl hg6 ?_)
       refine TriL.c1 rfl (op_pickf (ltb rfl) rfl hg6 rfl) ?_
       refine TriL.c1 rfl (op_mv (ltb rfl) rfl) ?_
       iterate 2 (refine TriL.skipu rfl rfl (ltb rfl) (ltb rfl) rfl rfl ?_)
       refine TriL.c1 rfl (op_pickf (ltb rfl) rfl rfl rfl) ?_
       refine TriL.c1 rfl (op_mv (ltb rfl) rfl) ?_
       iterate 5 (refine TriL.skipu rfl rfl (ltb rfl) (ltb rfl) rfl rfl ?_)
       refine TriL.c1 rfl (op_pickf (ltb rfl) rfl rfl rfl) ?_
       refine TriL.c1 rfl (op_mv (ltb rfl) rfl) ?_
       iterate 4 (refine TriL.skipu rfl rfl (ltb rfl) (ltb rfl) rfl rfl ?_)
       refine TriL.c1 rfl (op_pickf (ltb rfl) rfl rfl rfl) ?_
       refine TriL.c1 rfl (op_as (ltb rfl) rfl) ?_
       refine TriL.nil (Tri.ret ?_)
       exact ⟨.inr rfl, (ResOK.r1 rfl (.tmp rfl .nil)).cast (congrArg AV.bool (by grind [Stp.right])), rfl⟩
     ·iterate 5 (refine TriL.skipu rfl rfl (ltb rfl) (ltb rfl) rfl hg5 ?_)
      refine TriL.c1 rfl (op_pickf (ltb rfl) rfl hg5 rfl) ?_
      refine TriL.c1 rfl (op_mv (ltb rfl) rfl) ?_
      iterate 5 (refine TriL.skipu rfl rfl (ltb rfl) (ltb rfl) rfl rfl ?_)
      refine TriL.c1 rfl (op_pickf (ltb rfl) rfl rfl rfl) ?_
      refine TriL.c1 rfl (op_mv (ltb rfl) rfl) ?_
      iterate 2 (refine TriL.skipu rfl rfl (ltb rfl) (ltb rfl) rfl rfl ?_)
      refine TriL.c1 rfl (op_pickf (ltb rfl) rfl rfl rfl) ?_
      refine TriL.c1 rfl (op_mv (ltb rfl) rfl) ?_
      iterate 5 (refine TriL.skipu rfl rfl (ltb rfl) (ltb rfl) rfl rfl ?_)
      refine TriL.c1 rfl (op_pickf (ltb rfl) rfl rfl rfl) ?_
      refine TriL.c1 rfl (op_mv (ltb rfl) rfl) ?_
      iterate 4 (refine TriL.skipu rfl rfl (ltb rfl) (ltb rfl) rfl rfl ?_)
      refine TriL.c1 rfl (op_pickf (ltb rfl) rfl rfl rfl) ?_
      refine TriL.c1 rfl (op_as (ltb rfl) rfl) ?_
      refine TriL.nil (Tri.ret ?_)
      exact ⟨.inr rfl, (ResOK.r1 rfl (.tmp rfl .nil)).cast (congrArg AV.bool (by grind [Stp.right])), rfl⟩
    ·iterate 5 (refine TriL.skipu rfl rfl (ltb rfl) (ltb rfl) rfl hg4 ?_)
     refine TriL.c1 rfl (op_pickf (ltb rfl) rfl hg4 rfl) ?_
     refine TriL.c1 rfl (op_mv (ltb rfl) rfl) ?_
     iterate 5 (refine TriL.skipu rfl rfl (ltb rfl) (ltb rfl) rfl rfl ?_)
     refine TriL.c1 rfl (op_pickf (ltb rfl) rfl rfl rfl) ?_
     refine TriL.c1 rfl (op_mv (ltb rfl) rfl) ?_
     iterate 5 (refine TriL.skipu rfl rfl (ltb rfl) (ltb rfl) rfl rfl ?_)
     refine TriL.c1 rfl (op_pickf (ltb rfl) rfl rfl rfl) ?_
     refine TriL.c1 rfl (op_mv (ltb rfl) rfl) ?_
     iterate 2 (refine TriL.skipu rfl rfl (ltb rfl) (ltb rfl) rfl rfl ?_)
     refine TriL.c1 rfl (op_pickf (ltb rfl) rfl rfl rfl) ?_
     refine TriL.c1 rfl (op_mv (ltb rfl) rfl) ?_
     iterate 5 (refine TriL.skipu rfl rfl (ltb rfl) (ltb rfl) rfl rfl ?_)
     refine TriL.c1 rfl (op_pickf (ltb rfl) rfl rfl rfl) ?_
     refine TriL.c1 rfl (op_mv (ltb rfl) rfl) ?_
     iterate 4 (refine TriL.skipu rfl rfl (ltb rfl) (ltb rfl) rfl rfl ?_)
     refine TriL.c1 rfl (op_pickf (ltb rfl) rfl rfl rfl) ?_
     refine TriL.c1 rfl (op_as (ltb rfl) rfl) ?_
     refine TriL.nil (Tri.ret ?_)
     exact ⟨.inr rfl, (ResOK.r1 rfl (.tmp rfl .nil)).cast (congrArg AV.bool (by grind [Stp.right])), rfl⟩
   ·iterate 5 (refine TriL.skipu rfl rfl (ltb rfl) (ltb rfl) rfl hg3 ?_)
    refine TriL.c1 rfl (op_pickf (ltb rfl) rfl hg3 rfl) ?_
    refine TriL.c1 rfl (op_mv (ltb rfl) rfl) ?_
    iterate 5 (refine TriL.skipu rfl rfl (ltb rfl) (ltb rfl) rfl rfl ?_)
    refine TriL.c1 rfl (op_pickf (ltb rfl) rfl rfl rfl) ?_
    refine TriL.c1 rfl (op_mv (ltb rfl) rfl) ?_
    iterate 5 (refine TriL.skipu rfl rfl (ltb rfl) (ltb rfl) rfl rfl ?_)
    refine TriL.c1 rfl (op_pickf (ltb rfl) rfl rfl rfl) ?_
    refine TriL.c1 rfl (op_mv (ltb rfl) rfl) ?_
    iterate 5 (refine TriL.skipu rfl rfl (ltb rfl) (ltb rfl) rfl rfl ?_)
    refine TriL.c1 rfl (op_pickf (ltb rfl) rfl rfl rfl) ?_
    refine TriL.c1 rfl (op_mv (ltb rfl) rfl) ?_
    iterate 2 (refine TriL.skipu rfl rfl (ltb rfl) (ltb rfl) rfl rfl ?_)
    refine TriL.c1 rfl (op_pickf (ltb rfl) rfl rfl rfl) ?_
    refine TriL.c1 rfl (op_mv (ltb rfl) rfl) ?_
    iterate 5 (refine TriL.skipu rfl rfl (ltb rfl) (ltb rfl) rfl rfl ?_)
    refine TriL.c1 rfl (op_pickf (ltb rfl) rfl rfl rfl) ?_
    refine TriL.c1 rfl (op_mv (ltb rfl) rfl) ?_
    iterate 4 (refine TriL.skipu rfl rfl (ltb rfl) (ltb rfl) rfl rfl ?_)
    refine TriL.c1 rfl (op_pickf (ltb rfl) rfl rfl rfl) ?_
    refine TriL.c1 rfl (op_as (ltb rfl) rfl) ?_
    refine TriL.nil (Tri.ret ?_)
    exact ⟨.inr rfl, (ResOK.r1 rfl (.tmp rfl .nil)).cast (congrArg AV.bool (by grind [Stp.right])), rfl⟩
  ·iterate 3 (refine TriL.skipu rfl rfl (ltb rfl) (ltb rfl) rfl hg2 ?_)
   refine TriL.c1 rfl (op_pickf (ltb rfl) rfl hg2 rfl) ?_
   refine TriL.c1 rfl (op_mv (ltb rfl) rfl) ?_
   iterate 5 (refine TriL.skipu rfl rfl (ltb rfl) (ltb rfl) rfl rfl ?_)
   refine TriL.c1 rfl (op_pickf (ltb rfl) rfl rfl rfl) ?_
   refine TriL.c1 rfl (op_mv (ltb rfl) rfl) ?_
   iterate 5 (refine TriL.skipu rfl rfl (ltb rfl) (ltb rfl) rfl rfl ?_)
   refine TriL.c1 rfl (op_pickf (ltb rfl) rfl rfl rfl) ?_
   refine TriL.c1 rfl (op_mv (ltb rfl) rfl) ?_
   iterate 5 (refine TriL.skipu rfl rfl (ltb rfl) (ltb rfl) rfl rfl ?_)
   refine TriL.c1 rfl (op_pickf (ltb rfl) rfl rfl rfl) ?_
   refine TriL.c1 rfl (op_mv (ltb rfl) rfl) ?_
   iterate 5 (refine TriL.skipu rfl rfl (ltb rfl) (ltb rfl) rfl rfl ?_)
   refine TriL.c1 rfl (op_pickf (ltb rfl) rfl rfl rfl) ?_
   refine TriL.c1 rfl (op_mv (ltb rfl) rfl) ?_
   iterate 2 (refine TriL.skipu rfl rfl (ltb rfl) (ltb rfl) rfl rfl ?_)
   refine TriL.c1 rfl (op_pickf (ltb rfl) rfl rfl rfl) ?_
   refine TriL.c1 rfl (op_mv (ltb rfl) rfl) ?_
   iterate 5 (refine TriL.skipu rfl rfl (ltb rfl) (ltb rfl) rfl rfl ?_)
   refine TriL.c1 rfl (op_pickf (ltb rfl) rfl rfl rfl) ?_
   refine TriL.c1 rfl (op_mv (ltb rfl) rfl) ?_
   iterate 4 (refine TriL.skipu rfl rfl (ltb rfl) (ltb rfl) rfl rfl ?_)
   refine TriL.c1 rfl (op_pickf (ltb rfl) rfl rfl rfl) ?_
   refine TriL.c1 rfl (op_as (ltb rfl) rfl) ?_
   refine TriL.nil (Tri.ret ?_)
   exact ⟨.inr rfl, (ResOK.r1 rfl (.tmp rfl .nil)).cast (congrArg AV.bool (by grind [Stp.right])), rfl⟩
 ·iterate 3 (refine TriL.skipu rfl rfl (ltb rfl) (ltb rfl) rfl hg1 ?_)
  refine TriL.c1 rfl (op_pickf (ltb rfl) rfl hg1 rfl) ?_
  refine TriL.c1 rfl (op_mv (ltb rfl) rfl) ?_
  iterate 3 (refine TriL.skipu rfl rfl (ltb rfl) (ltb rfl) rfl rfl ?_)
  refine TriL.c1 rfl (op_pickf (ltb rfl) rfl rfl rfl) ?_
  refine TriL.c1 rfl (op_mv (ltb rfl) rfl) ?_
  iterate 5 (refine TriL.skipu rfl rfl (ltb rfl) (ltb rfl) rfl rfl ?_)
  refine TriL.c1 rfl (op_pickf (ltb rfl) rfl rfl rfl) ?_
  refine TriL.c1 rfl (op_mv (ltb rfl) rfl) ?_
  iterate 5 (refine TriL.skipu rfl rfl (ltb rfl) (ltb rfl) rfl rfl ?_)
  refine TriL.c1 rfl (op_pickf (ltb rfl) rfl rfl rfl) ?_
  refine TriL.c1 rfl (op_mv (ltb rfl) rfl) ?_
  iterate 5 (refine TriL.skipu rfl rfl (ltb rfl) (ltb rfl) rfl rfl ?_)
  refine TriL.c1 rfl (op_pickf (ltb rfl) rfl rfl rfl) ?_
  refine TriL.c1 rfl (op_mv (ltb rfl) rfl) ?_
  iterate 5 (refine TriL.skipu rfl rfl (ltb rfl) (ltb rfl) rfl rfl ?_)
  refine TriL.c1 rfl (op_pickf (ltb rfl) rfl rfl rfl) ?_
  refine TriL.c1 rfl (op_mv (ltb rfl) rfl) ?_
  iterate 2 (refine TriL.skipu rfl rfl (ltb rfl) (ltb rfl) rfl rfl ?_)
  refine TriL.c1 rfl (op_pickf (ltb rfl) rfl rfl rfl) ?_
  refine TriL.c1 rfl (op_mv (ltb rfl) rfl) ?_
  iterate 5 (refine TriL.skipu rfl rfl (ltb rfl) (ltb rfl) rfl rfl ?_)
  refine TriL.c1 rfl (op_pickf (ltb rfl) rfl rfl rfl) ?_
  refine TriL.c1 rfl (op_mv (ltb rfl) rfl) ?_
  iterate 4 (refine TriL.skipu rfl rfl (ltb rfl) (ltb rfl) rfl rfl ?_)
  refine TriL.c1 rfl (op_pickf (ltb rfl) rfl rfl rfl) ?_
  refine TriL.c1 rfl (op_as (ltb rfl) rfl) ?_
  refine TriL.nil (Tri.ret ?_)
  exact ⟨.inr rfl, (ResOK.r1 rfl (.tmp rfl .nil)).cast (congrArg AV.bool (by grind [Stp.right])), rfl⟩
def bareT (v : Val) : Bool := decide (v.n = 0) && v.s == [] && decide (v.m.length = 0)
def partT (x : Stp) (d a n o : Bool) : Bool :=
 if d ≠ !(x.dest == []) ∨ a ≠ !(x.also == []) ∨ n ≠ !decide (x.num = 0) ∨ o ≠ !decide (x.other = 0) then false
 else (!d || nameOK x.dest) && (!a || nameOK x.also) && (!n || fnum x.num) && (!o || fnum x.other)
def Stp.right2 (x : Stp) : Bool :=
 if nameOK x.msg = false ∨ nameOK x.field = false then false
 else if (x.kind ≠ 8 ∧ 0 < x.names.length) ∨ (x.kind ≠ 9 ∧ bareT x.dv = false) ∨ (x.kind ≠ 3 ∧ x.kind ≠ 9 ∧ x.ty ≠ 0) then false
 else if x.kind = 1 then partT x true false false false
 else if x.kind = 2 then partT x false false true false
 else if x.kind = 3 then partT x false false false false && wholeT x.ty
 else if x.kind = 4 then partT x true true true true
 else if x.kind = 5 ∨ x.kind = 6 then partT x true true true false
 else if x.kind = 7 ∨ x.kind = 10 then partT x false false false false
 else if x.kind = 8 then partT x false false false false && decide (1 ≤ x.names.length) && decide (x.names.length ≤ 10) && x.names.all nameOK && once x.names
 else if x.kind = 9 then partT x false false true false && decide (1 ≤ x.ty) && decide (x.ty ≤ 13) && x.dv.ok sch0 (fldT x.ty)
 else false
theorem part_nm (x : Stp) (d a n o : Bool) : partT x d a n o = (nmT d x.dest && nmT a x.also && nuT n x.num && nuT o x.other) := by
 have h1 : nameOK [] = false := name_nil
 have h2 : fnum 0 = false := by decide
 unfold partT nmT nuT
 by_cases e1 : x.dest = [] <;> by_cases e2 : x.also = [] <;> by_cases e3 : x.num = 0 <;> by_cases e4 : x.other = 0 <;> cases d <;> cases a <;> cases n <;> cases o <;> simp_all
theorem word_ne {t : Int} : (wordOf t == []) = !(decide (1 ≤ t) && decide (t ≤ 13)) := by
 by_cases h : t < 1 ∨ 13 < t
 ·rw [wordOf_out h]; simp; omega
 ·have : t = 1 ∨ t = 2 ∨ t = 3 ∨ t = 4 ∨ t = 5 ∨ t = 6 ∨ t = 7 ∨ t = 8 ∨ t = 9 ∨ t = 10 ∨ t = 11 ∨ t = 12 ∨ t = 13 := by omega
  rcases this with rfl | rfl | rfl | rfl | rfl | rfl | rfl | rfl | rfl | rfl | rfl | rfl | rfl <;> decide
theorem right_eq (x : Stp) : x.right2 = x.right := by
 unfold Stp.right2 Stp.right
 simp only [part_nm]
 by_cases hk : (x.kind < 1 ∨ 10 < x.kind)
 ·have h1 : (decide (1 ≤ x.kind) && decide (x.kind ≤ 10)) = false := by simp; omega
  rw [h1]
  simp only [Bool.false_and]
  split
  ·rfl
  split
  ·rfl
  rw [if_neg (by omega), if_neg (by omega), if_neg (by omega), if_neg (by omega), if_neg (by omega), if_neg (by omega), if_neg (by omega), if_neg (by omega)]
 ·have : x.kind = 1 ∨ x.kind = 2 ∨ x.kind = 3 ∨ x.kind = 4 ∨ x.kind = 5 ∨ x.kind = 6 ∨ x.kind = 7 ∨ x.kind = 8 ∨ x.kind = 9 ∨ x.kind = 10 := by omega
  rcases this with h | h | h | h | h | h | h | h | h | h
  all_goals
   simp only [h, shapeT, Stp.typed, lsT, vlT, word_ne]
   cases nameOK x.msg <;> cases nameOK x.field <;> simp [bareT, lsT, vlT]
   try grind
theorem r_bare (v : Val) : Pure Tryz.prog 35 [.agg v.cells] (.bool (bareT v)) := by
 refine Pure.of_tri Tryz.func35 rfl rfl (ltb rfl) fun H => ?_
 refine Tri.seq (Tri.region ?_)
 refine TriL.c2 rfl (op_box (ltb rfl) rfl rfl rfl) ?_
 refine TriL.c1 rfl (op_as (ltb rfl) rfl) ?_
 refine TriL.nil (Tri.seq (Tri.region ?_))
 refine TriL.c1 rfl (op_fal (ltb rfl) fo44_0_q rfl) ?_
 refine TriL.c1 rfl (op_ldl (ltb rfl) lk41_q rfl rfl rfl) ?_
 refine TriL.c1 rfl (op_bin (ltb rfl) rfl rfl rfl) ?_
 refine TriL.c1 rfl (op_mv (ltb rfl) rfl) ?_
 refine TriL.split (d := 6) rfl (fun hg1 => ?_) (fun hg1 => ?_)
 ·refine TriL.g1 rfl (ltb rfl) rfl hg1 (op_fal (ltb rfl) fo44_1_q rfl) ?_
  refine TriL.g1 rfl (ltb rfl) rfl hg1 (op_ldl (ltb rfl) lk9_q rfl rfl rfl) ?_
  refine TriL.g1 rfl (ltb rfl) rfl hg1 (op_bin (ltb rfl) rfl rfl rfl) ?_
  refine TriL.c1 rfl (op_pickt (ltb rfl) rfl hg1 rfl) ?_
  refine TriL.c1 rfl (op_mv (ltb rfl) rfl) ?_
  refine TriL.split (d := 11) rfl (fun hg2 => ?_) (fun hg2 => ?_)
  ·refine TriL.g1 rfl (ltb rfl) rfl hg2 (op_fal (ltb rfl) fo44_2_q rfl) ?_
   refine TriL.g1 rfl (ltb rfl) rfl hg2 (op_ldl (ltb rfl) lk42_q rfl rfl rfl) ?_
   refine TriL.g1 rfl (ltb rfl) rfl hg2 (op_lenl (ltb rfl) un42_q rfl) ?_
   refine TriL.g1 rfl (ltb rfl) rfl hg2 (op_bin (ltb rfl) rfl rfl rfl) ?_
   refine TriL.c1 rfl (op_pickt (ltb rfl) rfl hg2 rfl) ?_
   refine TriL.c1 rfl (op_as (ltb rfl) rfl) ?_
   refine TriL.nil (Tri.ret ?_)
   exact ⟨.inr rfl, (ResOK.r1 rfl (.tmp rfl .nil)).cast (congrArg AV.bool (by first | grind [bareT] | (rw [List.length_map]; simp_all [bareT]; try (rw [Bool.eq_iff_iff]; simp)))), rfl⟩
  ·iterate 4 (refine TriL.skipu rfl rfl (ltb rfl) (ltb rfl) rfl hg2 ?_)
   refine TriL.c1 rfl (op_pickf (ltb rfl) rfl hg2 rfl) ?_
   refine TriL.c1 rfl (op_as (ltb rfl) rfl) ?_
   refine TriL.nil (Tri.ret ?_)
   exact ⟨.inr rfl, (ResOK.r1 rfl (.tmp rfl .nil)).cast (congrArg AV.bool (by first | grind [bareT] | (rw [List.length_map]; simp_all [bareT]; try (rw [Bool.eq_iff_iff]; simp)))), rfl⟩
 ·iterate 3 (refine TriL.skipu rfl rfl (ltb rfl) (ltb rfl) rfl hg1 ?_)
  refine TriL.c1 rfl (op_pickf (ltb rfl) rfl hg1 rfl) ?_
  refine TriL.c1 rfl (op_mv (ltb rfl) rfl) ?_
  iterate 4 (refine TriL.skipu rfl rfl (ltb rfl) (ltb rfl) rfl rfl ?_)
  refine TriL.c1 rfl (op_pickf (ltb rfl) rfl rfl rfl) ?_
  refine TriL.c1 rfl (op_as (ltb rfl) rfl) ?_
  refine TriL.nil (Tri.ret ?_)
  exact ⟨.inr rfl, (ResOK.r1 rfl (.tmp rfl .nil)).cast (congrArg AV.bool (by first | grind [bareT] | (rw [List.length_map]; simp_all [bareT]; try (rw [Bool.eq_iff_iff]; simp)))), rfl⟩
theorem r_names (l : List Str) (hl : l.length ≤ 9223372036854775807) : Pure Tryz.prog 38 [.sl (l.map .str)] (.bool (l.all nameOK)) := by
 refine Pure.of_tri Tryz.func38 rfl rfl (ltb rfl) fun H => ?_
 refine Tri.seq (Tri.region ?_)
 refine TriL.c1 rfl (op_as (ltb rfl) rfl) ?_
 refine TriL.nil (Tri.seq (Tri.seq (Tri.region ?_)))
 refine TriL.c1 rfl (op_as (ltb rfl) rfl) ?_
 refine TriL.nil (Tri.blk ?_)
 refine Tri.ofKept (Kept.keep [.s 3, .h, .s 0] rfl (by decide) (Kept.now ?_))
 -- LOOP 1
 refine Tri.loopk (fun (k : Nat) => [(.s 3, .sv (.v (.int .i64 (k : Int))))]) _ (fun (k : Nat) => (l.drop k).all nameOK = l.all nameOK) (fun (k : Nat) => l.length - k) 0 rfl (by simp) ?_
 rintro k hI
 refine Tri.seq (Tri.seq (Tri.region ?_))
 iterate 2 (refine TriL.c1 rfl (op_mv (ltb rfl) rfl) ?_)
 refine TriL.c1 rfl (op_lenl (ltb rfl) un40_q rfl) ?_
 refine TriL.c1 rfl (op_bin (ltb rfl) rfl rfl rfl) ?_
 refine TriL.nil ?_
 refine Tri.cond rfl (fun hc1 => ?_) (fun hc1 => ?_)
 ·have hk := ltm hc1
  refine Tri.skip (Tri.seq (Tri.blk (Tri.seq (Tri.region ?_))))
  iterate 2 (refine TriL.c1 rfl (op_mv (ltb rfl) rfl) ?_)
  refine TriL.c1 rfl (op_iak (ltb rfl) ie40_q rfl rfl (Int.natCast_nonneg _) (ixm hk) rfl) ?_
  refine TriL.c1 rfl (op_ldk (ltb rfl) lk9_q rfl rfl) ?_
  refine TriL.c1 rfl (op_call (ltb rfl) fn34_q rfl (r_nameOK _)) ?_
  refine TriL.c1 rfl (op_un (ltb rfl) rfl rfl) ?_
  refine TriL.nil ?_
  refine Tri.cond rfl (fun hc2 => ?_) (fun hc2 => ?_)
  ·refine Tri.seq (Tri.region ?_)
   refine TriL.c1 rfl (op_as (ltb rfl) rfl) ?_
   refine TriL.nil (Tri.ret ?_)
   exact ⟨.inr rfl, (ResOK.r1 rfl (.tmp rfl .nil)).cast (congrArg AV.bool (by rw [← hI, all_step hk, show nameOK l[k] = false by simpa using hc2]; rfl)), rfl⟩
  ·refine Tri.skip (Tri.region ?_)
   refine TriL.c1 rfl (op_mv (ltb rfl) rfl) ?_
   refine TriL.c1 rfl (op_bin (ltb rfl) rfl rfl rfl) ?_
   refine TriL.c1 rfl (op_as (ltb rfl) rfl) ?_
   refine TriL.kept (Kept.seti 3 rfl (inc (by omega)) (Kept.keep [.s 3, .h, .s 0] rfl (by decide) (Kept.now ?_)))
   exact ⟨k + 1, by omega, by rw [← hI, all_step hk, show nameOK l[k] = true by simpa using hc2]; rfl, rfl⟩
 ·have hk := gem hc1
  refine Tri.exit (Tri.seq (Tri.region ?_))
  refine TriL.c1 rfl (op_as (ltb rfl) rfl) ?_
  refine TriL.nil (Tri.ret ?_)
  exact ⟨.inr rfl, (ResOK.r1 rfl (.tmp rfl .nil)).cast (congrArg AV.bool (by rw [← hI, all_end hk])), rfl⟩
theorem r_part (x : Stp) (d a n o : Bool) : Pure Tryz.prog 36 [x.av, .bool d, .bool a, .bool n, .bool o] (.bool (partT x d a n o)) := by
 refine Pure.of_tri Tryz.func36 rfl rfl (ltb rfl) fun H => ?_
 refine Tri.seq (Tri.region ?_)
 refine TriL.c2 rfl (op_box (ltb rfl) rfl rfl rfl) ?_
 refine TriL.c1 rfl (op_as (ltb rfl) rfl) ?_
 refine TriL.nil (Tri.seq (Tri.seq (Tri.region ?_)))
 refine TriL.c1 rfl (op_mv (ltb rfl) rfl) ?_
 refine TriL.c1 rfl (op_fal (ltb rfl) fo46_3_q rfl) ?_
 refine TriL.c1 rfl (op_ldl (ltb rfl) lk9_q rfl rfl rfl) ?_
 refine TriL.c1 rfl (op_bin (ltb rfl) rfl rfl rfl) ?_
 refine TriL.c1 rfl (op_neb (ltb rfl) un4_q rfl rfl) ?_
 refine TriL.c1 rfl (op_mv (ltb rfl) rfl) ?_
 refine TriL.split (d := 16) rfl (fun hg1 => ?_) (fun hg1 => ?_)
 ·iterate 5 (refine TriL.skipu rfl rfl (ltb rfl) (ltb rfl) rfl hg1 ?_)
  refine TriL.c1 rfl (op_pickt (ltb rfl) rfl hg1 rfl) ?_
  refine TriL.c1 rfl (op_mv (ltb rfl) rfl) ?_
  iterate 5 (refine TriL.skipu rfl rfl (ltb rfl) (ltb rfl) rfl rfl ?_)
  refine TriL.c1 rfl (op_pickt (ltb rfl) rfl rfl rfl) ?_
  refine TriL.c1 rfl (op_mv (ltb rfl) rfl) ?_
  iterate 5 (refine TriL.skipu rfl rfl (ltb rfl) (ltb rfl) rfl rfl ?_)
  refine TriL.c1 rfl (op_pickt (ltb rfl) rfl rfl rfl) ?_
  refine TriL.nil ?_
  refine Tri.condT rfl rfl ?_
  refine Tri.seq (Tri.region ?_)
  refine TriL.c1 rfl (op_as (ltb rfl) rfl) ?_
  refine TriL.nil (Tri.ret ?_)
  exact ⟨.inr rfl, (ResOK.r1 rfl (.tmp rfl .nil)).cast (congrArg AV.bool (by grind [partT])), rfl⟩
 ·refine TriL.g1 rfl (ltb rfl) rfl hg1 (op_mv (ltb rfl) rfl) ?_
  refine TriL.g1 rfl (ltb rfl) rfl hg1 (op_fal (ltb rfl) fo46_4_q rfl) ?_
  refine TriL.g1 rfl (ltb rfl) rfl hg1 (op_ldl (ltb rfl) lk9_q rfl rfl rfl) ?_
  refine TriL.g1 rfl (ltb rfl) rfl hg1 (op_bin (ltb rfl) rfl rfl rfl) ?_
  refine TriL.g1 rfl (ltb rfl) rfl hg1 (op_neb (ltb rfl) un4_q rfl rfl) ?_
  refine TriL.c1 rfl (op_pickf (ltb rfl) rfl hg1 rfl) ?_
  refine TriL.c1 rfl (op_mv (ltb rfl) rfl) ?_
  refine TriL.split (d := 23) rfl (fun hg2 => ?_) (fun hg2 => ?_)
  ·iterate 5 (refine TriL.skipu rfl rfl (ltb rfl) (ltb rfl) rfl hg2 ?_)
   refine TriL.c1 rfl (op_pickt (ltb rfl) rfl hg2 rfl) ?_
   refine TriL.c1 rfl (op_mv (ltb rfl) rfl) ?_
   iterate 5 (refine TriL.skipu rfl rfl (ltb rfl) (ltb rfl) rfl rfl ?_)
   refine TriL.c1 rfl (op_pickt (ltb rfl) rfl rfl rfl) ?_
   refine TriL.nil ?_
   refine Tri.condT rfl rfl ?_
   refine Tri.seq (Tri.region ?_)
   refine TriL.c1 rfl (op_as (ltb rfl) rfl) ?_
   refine TriL.nil (Tri.ret ?_)
   exact ⟨.inr rfl, (ResOK.r1 rfl (.tmp rfl .nil)).cast (congrArg AV.bool (by grind [partT])), rfl⟩
  ·refine TriL.g1 rfl (ltb rfl) rfl hg2 (op_mv (ltb rfl) rfl) ?_
   refine TriL.g1 rfl (ltb rfl) rfl hg2 (op_fal (ltb rfl) fo46_5_q rfl) ?_
   refine TriL.g1 rfl (ltb rfl) rfl hg2 (op_ldl (ltb rfl) lk3_q rfl rfl rfl) ?_
   refine TriL.g1 rfl (ltb rfl) rfl hg2 (op_bin (ltb rfl) rfl rfl rfl) ?_
   refine TriL.g1 rfl (ltb rfl) rfl hg2 (op_neb (ltb rfl) un4_q rfl rfl) ?_
   refine TriL.c1 rfl (op_pickf (ltb rfl) rfl hg2 rfl) ?_
   refine TriL.c1 rfl (op_mv (ltb rfl) rfl) ?_
   refine TriL.split (d := 30) rfl (fun hg3 => ?_) (fun hg3 => ?_)
   ·iterate 5 (refine TriL.skipu rfl rfl (ltb rfl) (ltb rfl) rfl hg3 ?_)
    refine TriL.c1 rfl (op_pickt (ltb rfl) rfl hg3 rfl) ?_
    refine TriL.nil ?_
    refine Tri.condT rfl rfl ?_
    refine Tri.seq (Tri.region ?_)
    refine TriL.c1 rfl (op_as (ltb rfl) rfl) ?_
    refine TriL.nil (Tri.ret ?_)
    exact ⟨.inr rfl, (ResOK.r1 rfl (.tmp rfl .nil)).cast (congrArg AV.bool (by grind [partT])), rfl⟩
   ·refine TriL.g1 rfl (ltb rfl) rfl hg3 (op_mv (ltb rfl) rfl) ?_
    refine TriL.g1 rfl (ltb rfl) rfl hg3 (op_fal (ltb rfl) fo46_6_q rfl) ?_
    refine TriL.g1 rfl (ltb rfl) rfl hg3 (op_ldl (ltb rfl) lk3_q rfl rfl rfl) ?_
    refine TriL.g1 rfl (ltb rfl) rfl hg3 (op_bin (ltb rfl) rfl rfl rfl) ?_
    refine TriL.g1 rfl (ltb rfl) rfl hg3 (op_neb (ltb rfl) un4_q rfl rfl) ?_
    refine TriL.c1 rfl (op_pickf (ltb rfl) rfl hg3 rfl) ?_
    refine TriL.nil ?_
    refine Tri.cond rfl (fun hc4 => ?_) (fun hc4 => ?_)
    ·refine Tri.seq (Tri.region ?_)
     refine TriL.c1 rfl (op_as (ltb rfl) rfl) ?_
     refine TriL.nil (Tri.ret ?_)
     exact ⟨.inr rfl, (ResOK.r1 rfl (.tmp rfl .nil)).cast (congrArg AV.bool (by grind [partT])), rfl⟩
    ·refine Tri.skip (Tri.seq (Tri.region ?_))
     refine TriL.c1 rfl (op_mv (ltb rfl) rfl) ?_
     refine TriL.c1 rfl (op_un (ltb rfl) rfl rfl) ?_
     refine TriL.c1 rfl (op_mv (ltb rfl) rfl) ?_
     refine TriL.split (d := 39) rfl (fun hg5 => ?_) (fun hg5 => ?_)
     ·iterate 3 (refine TriL.skipu rfl rfl (ltb rfl) (ltb rfl) rfl hg5 ?_)
      refine TriL.c1 rfl (op_pickt (ltb rfl) rfl hg5 rfl) ?_
      refine TriL.c1 rfl (op_mv (ltb rfl) rfl) ?_
      refine TriL.g1 rfl (ltb rfl) rfl rfl (op_mv (ltb rfl) rfl) ?_
      refine TriL.g1 rfl (ltb rfl) rfl rfl (op_un (ltb rfl) rfl rfl) ?_
      refine TriL.g1 rfl (ltb rfl) rfl rfl (op_mv (ltb rfl) rfl) ?_
      refine TriL.split (d := 47) rfl (fun hg6 => ?_) (fun hg6 => ?_)
      ·iterate 3 (refine TriL.skipu rfl rfl (ltb rfl) (ltb rfl) rfl hg6 ?_)
       refine TriL.g1 rfl (ltb rfl) rfl rfl (op_pickt (ltb rfl) rfl hg6 rfl) ?_
       refine TriL.c1 rfl (op_pickt (ltb rfl) rfl rfl rfl) ?_
       refine TriL.c1 rfl (op_mv (ltb rfl) rfl) ?_
       refine TriL.g1 rfl (ltb rfl) rfl rfl (op_mv (ltb rfl) rfl) ?_
       refine TriL.g1 rfl (ltb rfl) rfl rfl (op_un (ltb rfl) rfl rfl) ?_
       refine TriL.g1 rfl (ltb rfl) rfl rfl (op_mv (ltb rfl) rfl) ?_
       refine TriL.split (d := 56) rfl (fun hg7 => ?_) (fun hg7 => ?_)
       ·iterate 3 (refine TriL.skipu rfl rfl (ltb rfl) (ltb rfl) rfl hg7 ?_)
        refine TriL.g1 rfl (ltb rfl) rfl rfl (op_pickt (ltb rfl) rfl hg7 rfl) ?_
        refine TriL.c1 rfl (op_pickt (ltb rfl) rfl rfl rfl) ?_
        refine TriL.c1 rfl (op_mv (ltb rfl) rfl) ?_
        refine TriL.g1 rfl (ltb rfl) rfl rfl (op_mv (ltb rfl) rfl) ?_
        refine TriL.g1 rfl (ltb rfl) rfl rfl (op_un (ltb rfl) rfl rfl) ?_
        refine TriL.g1 rfl (ltb rfl) rfl rfl (op_mv (ltb rfl) rfl) ?_
        refine TriL.split (d := 65) rfl (fun hg8 => ?_) (fun hg8 => ?_)
        ·iterate 3 (refine TriL.skipu rfl rfl (ltb rfl) (ltb rfl) rfl hg8 ?_)
         refine TriL.g1 rfl (ltb rfl) rfl rfl (op_pickt (ltb rfl) rfl hg8 rfl) ?_
         refine TriL.c1 rfl (op_pickt (ltb rfl) rfl rfl rfl) ?_
         refine TriL.c1 rfl (op_as (ltb rfl) rfl) ?_
         refine TriL.nil (Tri.ret ?_)
         exact ⟨.inr rfl, (ResOK.r1 rfl (.tmp rfl .nil)).cast (congrArg AV.bool (by grind [partT])), rfl⟩
        ·refine TriL.g1 rfl (ltb rfl) rfl hg8 (op_fal (ltb rfl) fo46_6_q rfl) ?_
         refine TriL.g1 rfl (ltb rfl) rfl hg8 (op_ldl (ltb rfl) lk3_q rfl rfl rfl) ?_
         refine TriL.g1 rfl (ltb rfl) rfl hg8 (op_call (ltb rfl) fn72_q rfl (r_fnum _)) ?_
         refine TriL.g1 rfl (ltb rfl) rfl rfl (op_pickf (ltb rfl) rfl hg8 rfl) ?_
         refine TriL.c1 rfl (op_pickt (ltb rfl) rfl rfl rfl) ?_
         refine TriL.c1 rfl (op_as (ltb rfl) rfl) ?_
         refine TriL.nil (Tri.ret ?_)
         exact ⟨.inr rfl, (ResOK.r1 rfl (.tmp rfl .nil)).cast (congrArg AV.bool (by grind [partT])), rfl⟩
       ·refine TriL.g1 rfl (ltb rfl) rfl hg7 (op_fal (ltb rfl) fo46_5_q rfl) ?_
        refine TriL.g1 rfl (ltb rfl) rfl hg7 (op_ldl (ltb rfl) lk3_q rfl rfl rfl) ?_
        refine TriL.g1 rfl (ltb rfl) rfl hg7 (op_call (ltb rfl) fn72_q rfl (r_fnum _)) ?_
        refine TriL.g1 rfl (ltb rfl) rfl rfl (op_pickf (ltb rfl) rfl hg7 rfl) ?_
        refine TriL.c1 rfl (op_pickt (ltb rfl) rfl rfl rfl) ?_
        refine TriL.c1 rfl (op_mv (ltb rfl) rfl) ?_
        refine TriL.split (d := 62) rfl (fun hg9 => ?_) (fun hg9 => ?_)
        ·refine TriL.g1 rfl (ltb rfl) rfl hg9 (op_mv (ltb rfl) rfl) ?_
         refine TriL.g1 rfl (ltb rfl) rfl hg9 (op_un (ltb rfl) rfl rfl) ?_
         refine TriL.g1 rfl (ltb rfl) rfl hg9 (op_mv (ltb rfl) rfl) ?_
         refine TriL.split (d := 65) rfl (fun hg10 => ?_) (fun hg10 => ?_)
         ·iterate 3 (refine TriL.skipu rfl rfl (ltb rfl) (ltb rfl) rfl hg10 ?_)
          refine TriL.g1 rfl (ltb rfl) rfl hg9 (op_pickt (ltb rfl) rfl hg10 rfl) ?_
          refine TriL.c1 rfl (op_pickt (ltb rfl) rfl hg9 rfl) ?_
          refine TriL.c1 rfl (op_as (ltb rfl) rfl) ?_
          refine TriL.nil (Tri.ret ?_)
          exact ⟨.inr rfl, (ResOK.r1 rfl (.tmp rfl .nil)).cast (congrArg AV.bool (by grind [partT])), rfl⟩
         ·refine TriL.g1 rfl (ltb rfl) rfl hg10 (op_fal (ltb rfl) fo46_6_q rfl) ?_
          refine TriL.g1 rfl (ltb rfl) rfl hg10 (op_ldl (ltb rfl) lk3_q rfl rfl rfl) ?_
          refine TriL.g1 rfl (ltb rfl) rfl hg10 (op_call (ltb rfl) fn72_q rfl (r_fnum _)) ?_
          refine TriL.g1 rfl (ltb rfl) rfl hg9 (op_pickf (ltb rfl) rfl hg10 rfl) ?_
          refine TriL.c1 rfl (op_pickt (ltb rfl) rfl hg9 rfl) ?_
          refine TriL.c1 rfl (op_as (ltb rfl) rfl) ?_
          refine TriL.nil (Tri.ret ?_)
          exact ⟨.inr rfl, (ResOK.r1 rfl (.tmp rfl .nil)).cast (congrArg AV.bool (by grind [partT])), rfl⟩
        ·iterate 3 (refine TriL.skipu rfl rfl (ltb rfl) (ltb rfl) rfl hg9 ?_)
         iterate 3 (refine TriL.skipg rfl rfl (ltb rfl) (ltb rfl) rfl ?_)
         refine TriL.skipu rfl rfl (ltb rfl) (ltb rfl) rfl hg9 ?_
         refine TriL.c1 rfl (op_pickf (ltb rfl) rfl hg9 rfl) ?_
         refine TriL.c1 rfl (op_as (ltb rfl) rfl) ?_
         refine TriL.nil (Tri.ret ?_)
         exact ⟨.inr rfl, (ResOK.r1 rfl (.tmp rfl .nil)).cast (congrArg AV.bool (by grind [partT])), rfl⟩
      ·refine TriL.g1 rfl (ltb rfl) rfl hg6 (op_fal (ltb rfl) fo46_4_q rfl) ?_
       refine TriL.g1 rfl (ltb rfl) rfl hg6 (op_ldl (ltb rfl) lk9_q rfl rfl rfl) ?_
       refine TriL.g1 rfl (ltb rfl) rfl hg6 (op_call (ltb rfl) fn34_q rfl (r_nameOK _)) ?_
       refine TriL.g1 rfl (ltb rfl) rfl rfl (op_pickf (ltb rfl) rfl hg6 rfl) ?_
       refine TriL.c1 rfl (op_pickt (ltb rfl) rfl rfl rfl) ?_
       refine TriL.c1 rfl (op_mv (ltb rfl) rfl) ?_
       refine TriL.split (d := 53) rfl (fun hg11 => ?_) (fun hg11 => ?_)
       ·refine TriL.g1 rfl (ltb rfl) rfl hg11 (op_mv (ltb rfl) rfl) ?_
        refine TriL.g1 rfl (ltb rfl) rfl hg11 (op_un (ltb rfl) rfl rfl) ?_
        refine TriL.g1 rfl (ltb rfl) rfl hg11 (op_mv (ltb rfl) rfl) ?_
        refine TriL.split (d := 56) rfl (fun hg12 => ?_) (fun hg12 => ?_)
        ·iterate 3 (refine TriL.skipu rfl rfl (ltb rfl) (ltb rfl) rfl hg12 ?_)
         refine TriL.g1 rfl (ltb rfl) rfl hg11 (op_pickt (ltb rfl) rfl hg12 rfl) ?_
         refine TriL.c1 rfl (op_pickt (ltb rfl) rfl hg11 rfl) ?_
         refine TriL.c1 rfl (op_mv (ltb rfl) rfl) ?_
         refine TriL.g1 rfl (ltb rfl) rfl rfl (op_mv (ltb rfl) rfl) ?_
         refine TriL.g1 rfl (ltb rfl) rfl rfl (op_un (ltb rfl) rfl rfl) ?_
         refine TriL.g1 rfl (ltb rfl) rfl rfl (op_mv (ltb rfl) rfl) ?_
         refine TriL.split (d := 65) rfl (fun hg13 => ?_) (fun hg13 => ?_)
         ·iterate 3 (refine TriL.skipu rfl rfl (ltb rfl) (ltb rfl) rfl hg13 ?_)
          refine TriL.g1 rfl (ltb rfl) rfl rfl (op_pickt (ltb rfl) rfl hg13 rfl) ?_
          refine TriL.c1 rfl (op_pickt (ltb rfl) rfl rfl rfl) ?_
          refine TriL.c1 rfl (op_as (ltb rfl) rfl) ?_
          refine TriL.nil (Tri.ret ?_)
          exact ⟨.inr rfl, (ResOK.r1 rfl (.tmp rfl .nil)).cast (congrArg AV.bool (by grind [partT])), rfl⟩
         ·refine TriL.g1 rfl (ltb rfl) rfl hg13 (op_fal (ltb rfl) fo46_6_q rfl) ?_
          refine TriL.g1 rfl (ltb rfl) rfl hg13 (op_ldl (ltb rfl) lk3_q rfl rfl rfl) ?_
          refine TriL.g1 rfl (ltb rfl) rfl hg13 (op_call (ltb rfl) fn72_q rfl (r_fnum _)) ?_
          refine TriL.g1 rfl (ltb rfl) rfl rfl (op_pickf (ltb rfl) rfl hg13 rfl) ?_
          refine TriL.c1 rfl (op_pickt (ltb rfl) rfl rfl rfl) ?_
          refine TriL.c1 rfl (op_as (ltb rfl) rfl) ?_
          refine TriL.nil (Tri.ret ?_)
          exact ⟨.inr rfl, (ResOK.r1 rfl (.tmp rfl .nil)).cast (congrArg AV.bool (by grind [partT])), rfl⟩
        ·refine TriL.g1 rfl (ltb rfl) rfl hg12 (op_fal (ltb rfl) fo46_5_q rfl) ?_
         refine TriL.g1 rfl (ltb rfl) rfl hg12 (op_ldl (ltb rfl) lk3_q rfl rfl rfl) ?_
         refine TriL.g1 rfl (ltb rfl) rfl hg12 (op_call (ltb rfl) fn72_q rfl (r_fnum _)) ?_
         refine TriL.g1 rfl (ltb rfl) rfl hg11 (op_pickf (ltb rfl) rfl hg12 rfl) ?_
         refine TriL.c1 rfl (op_pickt (ltb rfl) rfl hg11 rfl) ?_
         refine TriL.c1 rfl (op_mv (ltb rfl) rfl) ?_
         refine TriL.split (d := 62) rfl (fun hg14 => ?_) (fun hg14 => ?_)
         ·refine TriL.g1 rfl (ltb rfl) rfl hg14 (op_mv (ltb rfl) rfl) ?_
          refine TriL.g1 rfl (ltb rfl) rfl hg14 (op_un (ltb rfl) rfl rfl) ?_
          refine TriL.g1 rfl (ltb rfl) rfl hg14 (op_mv (ltb rfl) rfl) ?_
          refine TriL.split (d := 65) rfl (fun hg15 => ?_) (fun hg15 => ?_)
          ·iterate 3 (refine TriL.skipu rfl rfl (ltb rfl) (ltb rfl) rfl hg15 ?_)
           refine TriL.g1 rfl (ltb rfl) rfl hg14 (op_pickt (ltb rfl) rfl hg15 rfl) ?_
           refine TriL.c1 rfl (op_pickt (ltb rfl) rfl hg14 rfl) ?_
           refine TriL.c1 rfl (op_as (ltb rfl) rfl) ?_
           refine TriL.nil (Tri.ret ?_)
           exact ⟨.inr rfl, (ResOK.r1 rfl (.tmp rfl .nil)).cast (congrArg AV.bool (by grind [partT])), rfl⟩
          ·refine TriL.g1 rfl (ltb rfl) rfl hg15 (op_fal (ltb rfl) fo46_6_q rfl) ?_
           refine TriL.g1 rfl (ltb rfl) rfl hg15 (op_ldl (ltb rfl) lk3_q rfl rfl rfl) ?_
           refine TriL.g1 rfl (ltb rfl) rfl hg15 (op_call (ltb rfl) fn72_q rfl (r_fnum _)) ?_
           refine TriL.g1 rfl (ltb rfl) rfl hg14 (op_pickf (ltb rfl) rfl hg15 rfl) ?_
           refine TriL.c1 rfl (op_pickt (ltb rfl) rfl hg14 rfl) ?_
           refine TriL.c1 rfl (op_as (ltb rfl) rfl) ?_
           refine TriL.nil (Tri.ret ?_)
           exact ⟨.inr rfl, (ResOK.r1 rfl (.tmp rfl .nil)).cast (congrArg AV.bool (by grind [partT])), rfl⟩
         ·iterate 3 (refine TriL.skipu rfl rfl (ltb rfl) (ltb rfl) rfl hg14 ?_)
          iterate 3 (refine TriL.skipg rfl rfl (ltb rfl) (ltb rfl) rfl ?_)
          refine TriL.skipu rfl rfl (ltb rfl) (ltb rfl) rfl hg14 ?_
          refine TriL.c1 rfl (op_pickf (ltb rfl) rfl hg14 rfl) ?_
          refine TriL.c1 rfl (op_as (ltb rfl) rfl) ?_
          refine TriL.nil (Tri.ret ?_)
          exact ⟨.inr rfl, (ResOK.r1 rfl (.tmp rfl .nil)).cast (congrArg AV.bool (by grind [partT])), rfl⟩
       ·iterate 3 (refine TriL.skipu rfl rfl (ltb rfl) (ltb rfl) rfl hg11 ?_)
        iterate 3 (refine TriL.skipg rfl rfl (ltb rfl) (ltb rfl) rfl ?_)
        refine TriL.skipu rfl rfl (ltb rfl) (ltb rfl) rfl hg11 ?_
        refine TriL.c1 rfl (op_pickf (ltb rfl) rfl hg11 rfl) ?_
        refine TriL.c1 rfl (op_mv (ltb rfl) rfl) ?_
        iterate 3 (refine TriL.skipu rfl rfl (ltb rfl) (ltb rfl) rfl rfl ?_)
        iterate 3 (refine TriL.skipg rfl rfl (ltb rfl) (ltb rfl) rfl ?_)
        refine TriL.skipu rfl rfl (ltb rfl) (ltb rfl) rfl rfl ?_
        refine TriL.c1 rfl (op_pickf (ltb rfl) rfl rfl rfl) ?_
        refine TriL.c1 rfl (op_as (ltb rfl) rfl) ?_
        refine TriL.nil (Tri.ret ?_)
        exact ⟨.inr rfl, (ResOK.r1 rfl (.tmp rfl .nil)).cast (congrArg AV.bool (by grind [partT])), rfl⟩
     ·refine TriL.g1 rfl (ltb rfl) rfl hg5 (op_fal (ltb rfl) fo46_3_q rfl) ?_
      refine TriL.g1 rfl (ltb rfl) rfl hg5 (op_ldl (ltb rfl) lk9_q rfl rfl rfl) ?_
      refine TriL.g1 rfl (ltb rfl) rfl hg5 (op_call (ltb rfl) fn34_q rfl (r_nameOK _)) ?_
      refine TriL.c1 rfl (op_pickf (ltb rfl) rfl hg5 rfl) ?_
      refine TriL.c1 rfl (op_mv (ltb rfl) rfl) ?_
      refine TriL.split (d := 44) rfl (fun hg16 => ?_) (fun hg16 => ?_)
      ·refine TriL.g1 rfl (ltb rfl) rfl hg16 (op_mv (ltb rfl) rfl) ?_
       refine TriL.g1 rfl (ltb rfl) rfl hg16 (op_un (ltb rfl) rfl rfl) ?_
       refine TriL.g1 rfl (ltb rfl) rfl hg16 (op_mv (ltb rfl) rfl) ?_
       refine TriL.split (d := 47) rfl (fun hg17 => ?_) (fun hg17 => ?_)
       ·iterate 3 (refine TriL.skipu rfl rfl (ltb rfl) (ltb rfl) rfl hg17 ?_)
        refine TriL.g1 rfl (ltb rfl) rfl hg16 (op_pickt (ltb rfl) rfl hg17 rfl) ?_
        refine TriL.c1 rfl (op_pickt (ltb rfl) rfl hg16 rfl) ?_
        refine TriL.c1 rfl (op_mv (ltb rfl) rfl) ?_
        refine TriL.g1 rfl (ltb rfl) rfl rfl (op_mv (ltb rfl) rfl) ?_
        refine TriL.g1 rfl (ltb rfl) rfl rfl (op_un (ltb rfl) rfl rfl) ?_
        refine TriL.g1 rfl (ltb rfl) rfl rfl (op_mv (ltb rfl) rfl) ?_
        refine TriL.split (d := 56) rfl (fun hg18 => ?_) (fun hg18 => ?_)
        ·iterate 3 (refine TriL.skipu rfl rfl (ltb rfl) (ltb rfl) rfl hg18 ?_)
         refine TriL.g1 rfl (ltb rfl) rfl rfl (op_pickt (ltb rfl) rfl hg18 rfl) ?_
         refine TriL.c1 rfl (op_pickt (ltb rfl) rfl rfl rfl) ?_
         refine TriL.c1 rfl (op_mv (ltb rfl) rfl) ?_
         refine TriL.g1 rfl (ltb rfl) rfl rfl (op_mv (ltb rfl) rfl) ?_
         refine TriL.g1 rfl (ltb rfl) rfl rfl (op_un (ltb rfl) rfl rfl) ?_
         refine TriL.g1 rfl (ltb rfl) rfl rfl (op_mv (ltb rfl) rfl) ?_
         refine TriL.split (d := 65) rfl (fun hg19 => ?_) (fun hg19 => ?_)
         ·iterate 3 (refine TriL.skipu rfl rfl (ltb rfl) (ltb rfl) rfl hg19 ?_)
          refine TriL.g1 rfl (ltb rfl) rfl rfl (op_pickt (ltb rfl) rfl hg19 rfl) ?_
          refine TriL.c1 rfl (op_pickt (ltb rfl) rfl rfl rfl) ?_
          refine TriL.c1 rfl (op_as (ltb rfl) rfl) ?_
          refine TriL.nil (Tri.ret ?_)
          exact ⟨.inr rfl, (ResOK.r1 rfl (.tmp rfl .nil)).cast (congrArg AV.bool (by grind [partT])), rfl⟩
         ·refine TriL.g1 rfl (ltb rfl) rfl hg19 (op_fal (ltb rfl) fo46_6_q rfl) ?_
          refine TriL.g1 rfl (ltb rfl) rfl hg19 (op_ldl (ltb rfl) lk3_q rfl rfl rfl) ?_
          refine TriL.g1 rfl (ltb rfl) rfl hg19 (op_call (ltb rfl) fn72_q rfl (r_fnum _)) ?_
          refine TriL.g1 rfl (ltb rfl) rfl rfl (op_pickf (ltb rfl) rfl hg19 rfl) ?_
          refine TriL.c1 rfl (op_pickt (ltb rfl) rfl rfl rfl) ?_
          refine TriL.c1 rfl (op_as (ltb rfl) rfl) ?_
          refine TriL.nil (Tri.ret ?_)
          exact ⟨.inr rfl, (ResOK.r1 rfl (.tmp rfl .nil)).cast (congrArg AV.bool (by grind [partT])), rfl⟩
        ·refine TriL.g1 rfl (ltb rfl) rfl hg18 (op_fal (ltb rfl) fo46_5_q rfl) ?_
         refine TriL.g1 rfl (ltb rfl) rfl hg18 (op_ldl (ltb rfl) lk3_q rfl rfl rfl) ?_
         refine TriL.g1 rfl (ltb rfl) rfl hg18 (op_call (ltb rfl) fn72_q rfl (r_fnum _)) ?_
         refine TriL.g1 rfl (ltb rfl) rfl rfl (op_pickf (ltb rfl) rfl hg18 rfl) ?_
         refine TriL.c1 rfl (op_pickt (ltb rfl) rfl rfl rfl) ?_
         refine TriL.c1 rfl (op_mv (ltb rfl) rfl) ?_
         refine TriL.split (d := 62) rfl (fun hg20 => ?_) (fun hg20 => ?_)
         ·refine TriL.g1 rfl (ltb rfl) rfl hg20 (op_mv (ltb rfl) rfl) ?_
          refine TriL.g1 rfl (ltb rfl) rfl hg20 (op_un (ltb rfl) rfl rfl) ?_
          refine TriL.g1 rfl (ltb rfl) rfl hg20 (op_mv (ltb rfl) rfl) ?_
          refine TriL.split (d := 65) rfl (fun hg21 => ?_) (fun hg21 => ?_)
          ·iterate 3 (refine TriL.skipu rfl rfl (ltb rfl) (ltb rfl) rfl hg21 ?_)
           refine TriL.g1 rfl (ltb rfl) rfl hg20 (op_pickt (ltb rfl) rfl hg21 rfl) ?_
           refine TriL.c1 rfl (op_pickt (ltb rfl) rfl hg20 rfl) ?_
           refine TriL.c1 rfl (op_as (ltb rfl) rfl) ?_
           refine TriL.nil (Tri.ret ?_)
           exact ⟨.inr rfl, (ResOK.r1 rfl (.tmp rfl .nil)).cast (congrArg AV.bool (by grind [partT])), rfl⟩
          ·refine TriL.g1 rfl (ltb rfl) rfl hg21 (op_fal (ltb rfl) fo46_6_q rfl) ?_
           refine TriL.g1 rfl (ltb rfl) rfl hg21 (op_ldl (ltb rfl) lk3_q rfl rfl rfl) ?_
           refine TriL.g1 rfl (ltb rfl) rfl hg21 (op_call (ltb rfl) fn72_q rfl (r_fnum _)) ?_
           refine TriL.g1 rfl (ltb rfl) rfl hg20 (op_pickf (ltb rfl) rfl hg21 rfl) ?_
           refine TriL.c1 rfl (op_pickt (ltb rfl) rfl hg20 rfl) ?_
           refine TriL.c1 rfl (op_as (ltb rfl) rfl) ?_
           refine TriL.nil (Tri.ret ?_)
           exact ⟨.inr rfl, (ResOK.r1 rfl (.tmp rfl .nil)).cast (congrArg AV.bool (by grind [partT])), rfl⟩
         ·iterate 3 (refine TriL.skipu rfl rfl (ltb rfl) (ltb rfl) rfl hg20 ?_)
          iterate 3 (refine TriL.skipg rfl rfl (ltb rfl) (ltb rfl) rfl ?_)
          refine TriL.skipu rfl rfl (ltb rfl) (ltb rfl) rfl hg20 ?_
          refine TriL.c1 rfl (op_pickf (ltb rfl) rfl hg20 rfl) ?_
          refine TriL.c1 rfl (op_as (ltb rfl) rfl) ?_
          refine TriL.nil (Tri.ret ?_)
          exact ⟨.inr rfl, (ResOK.r1 rfl (.tmp rfl .nil)).cast (congrArg AV.bool (by grind [partT])), rfl⟩
       ·refine TriL.g1 rfl (ltb rfl) rfl hg17 (op_fal (ltb rfl) fo46_4_q rfl) ?_
        refine TriL.g1 rfl (ltb rfl) rfl hg17 (op_ldl (ltb rfl) lk9_q rfl rfl rfl) ?_
        refine TriL.g1 rfl (ltb rfl) rfl hg17 (op_call (ltb rfl) fn34_q rfl (r_nameOK _)) ?_
        refine TriL.g1 rfl (ltb rfl) rfl hg16 (op_pickf (ltb rfl) rfl hg17 rfl) ?_
        refine TriL.c1 rfl (op_pickt (ltb rfl) rfl hg16 rfl) ?_
        refine TriL.c1 rfl (op_mv (ltb rfl) rfl) ?_
        refine TriL.split (d := 53) rfl (fun hg22 => ?_) (fun hg22 => ?_)
        ·refine TriL.g1 rfl (ltb rfl) rfl hg22 (op_mv (ltb rfl) rfl) ?_
         refine TriL.g1 rfl (ltb rfl) rfl hg22 (op_un (ltb rfl) rfl rfl) ?_
         refine TriL.g1 rfl (ltb rfl) rfl hg22 (op_mv (ltb rfl) rfl) ?_
         refine TriL.split (d := 56) rfl (fun hg23 => ?_) (fun hg23 => ?_)
         ·iterate 3 (refine TriL.skipu rfl rfl (ltb rfl) (ltb rfl) rfl hg23 ?_)
          refine TriL.g1 rfl (ltb rfl) rfl hg22 (op_pickt (ltb rfl) rfl hg23 rfl) ?_
          refine TriL.c1 rfl (op_pickt (ltb rfl) rfl hg22 rfl) ?_
          refine TriL.c1 rfl (op_mv (ltb rfl) rfl) ?_
          refine TriL.g1 rfl (ltb rfl) rfl rfl (op_mv (ltb rfl) rfl) ?_
          refine TriL.g1 rfl (ltb rfl) rfl rfl (op_un (ltb rfl) rfl rfl) ?_
          refine TriL.g1 rfl (ltb rfl) rfl rfl (op_mv (ltb rfl) rfl) ?_
          refine TriL.split (d := 65) rfl (fun hg24 => ?_) (fun hg24 => ?_)
          ·iterate 3 (refine TriL.skipu rfl rfl (ltb rfl) (ltb rfl) rfl hg24 ?_)
           refine TriL.g1 rfl (ltb rfl) rfl rfl (op_pickt (ltb rfl) rfl hg24 rfl) ?_
           refine TriL.c1 rfl (op_pickt (ltb rfl) rfl rfl rfl) ?_
           refine TriL.c1 rfl (op_as (ltb rfl) rfl) ?_
           refine TriL.nil (Tri.ret ?_)
           exact ⟨.inr rfl, (ResOK.r1 rfl (.tmp rfl .nil)).cast (congrArg AV.bool (by grind [partT])), rfl⟩
          ·refine TriL.g1 rfl (ltb rfl) rfl hg24 (op_fal (ltb rfl) fo46_6_q rfl) ?_
           refine TriL.g1 rfl (ltb rfl) rfl hg24 (op_ldl (ltb rfl) lk3_q rfl rfl rfl) ?_
           refine TriL.g1 rfl (ltb rfl) rfl hg24 (op_call (ltb rfl) fn72_q rfl (r_fnum _)) ?_
           refine TriL.g1 rfl (ltb rfl) rfl rfl (op_pickf (ltb rfl) rfl hg24 rfl) ?_
           refine TriL.c1 rfl (op_pickt (ltb rfl) rfl rfl rfl) ?_
           refine TriL.c1 rfl (op_as (ltb rfl) rfl) ?_
           refine TriL.nil (Tri.ret ?_)
           exact ⟨.inr rfl, (ResOK.r1 rfl (.tmp rfl .nil)).cast (congrArg AV.bool (by grind [partT])), rfl⟩
         ·refine TriL.g1 rfl (ltb rfl) rfl hg23 (op_fal (ltb rfl) fo46_5_q rfl) ?_
          refine TriL.g1 rfl (ltb rfl) rfl hg23 (op_ldl (ltb rfl) lk3_q rfl rfl rfl) ?_
          refine TriL.g1 rfl (ltb rfl) rfl hg23 (op_call (ltb rfl) fn72_q rfl (r_fnum _)) ?_
          refine TriL.g1 rfl (ltb rfl) rfl hg22 (op_pickf (ltb rfl) rfl hg23 rfl) ?_
          refine TriL.c1 rfl (op_pickt (ltb rfl) rfl hg22 rfl) ?_
          refine TriL.c1 rfl (op_mv (ltb rfl) rfl) ?_
          refine TriL.split (d := 62) rfl (fun hg25 => ?_) (fun hg25 => ?_)
          ·refine TriL.g1 rfl (ltb rfl) rfl hg25 (op_mv (ltb rfl) rfl) ?_
           refine TriL.g1 rfl (ltb rfl) rfl hg25 (op_un (ltb rfl) rfl rfl) ?_
           refine TriL.g1 rfl (ltb rfl) rfl hg25 (op_mv (ltb rfl) rfl) ?_
           refine TriL.split (d := 65) rfl (fun hg26 => ?_) (fun hg26 => ?_)
           ·iterate 3 (refine TriL.skipu rfl rfl (ltb rfl) (ltb rfl) rfl hg26 ?_)
            refine TriL.g1 rfl (ltb rfl) rfl hg25 (op_pickt (ltb rfl) rfl hg26 rfl) ?_
            refine TriL.c1 rfl (op_pickt (ltb rfl) rfl hg25 rfl) ?_
            refine TriL.c1 rfl (op_as (ltb rfl) rfl) ?_
            refine TriL.nil (Tri.ret ?_)
            exact ⟨.inr rfl, (ResOK.r1 rfl (.tmp rfl .nil)).cast (congrArg AV.bool (by grind [partT])), rfl⟩
           ·refine TriL.g1 rfl (ltb rfl) rfl hg26 (op_fal (ltb rfl) fo46_6_q rfl) ?_
            refine TriL.g1 rfl (ltb rfl) rfl hg26 (op_ldl (ltb rfl) lk3_q rfl rfl rfl) ?_
            refine TriL.g1 rfl (ltb rfl) rfl hg26 (op_call (ltb rfl) fn72_q rfl (r_fnum _)) ?_
            refine TriL.g1 rfl (ltb rfl) rfl hg25 (op_pickf (ltb rfl) rfl hg26 rfl) ?_
            refine TriL.c1 rfl (op_pickt (ltb rfl) rfl hg25 rfl) ?_
            refine TriL.c1 rfl (op_as (ltb rfl) rfl) ?_
            refine TriL.nil (Tri.ret ?_)
            exact ⟨.inr rfl, (ResOK.r1 rfl (.tmp rfl .nil)).cast (congrArg AV.bool (by grind [partT])), rfl⟩
          ·iterate 3 (refine TriL.skipu rfl rfl (ltb rfl) (ltb rfl) rfl hg25 ?_)
           iterate 3 (refine TriL.skipg rfl rfl (ltb rfl) (ltb rfl) rfl ?_)
           refine TriL.skipu rfl rfl (ltb rfl) (ltb rfl) rfl hg25 ?_
           refine TriL.c1 rfl (op_pickf (ltb rfl) rfl hg25 rfl) ?_
           refine TriL.c1 rfl (op_as (ltb rfl) rfl) ?_
           refine TriL.nil (Tri.ret ?_)
           exact ⟨.inr rfl, (ResOK.r1 rfl (.tmp rfl .nil)).cast (congrArg AV.bool (by grind [partT])), rfl⟩
        ·iterate 3 (refine TriL.skipu rfl rfl (ltb rfl) (ltb rfl) rfl hg22 ?_)
         iterate 3 (refine TriL.skipg rfl rfl (ltb rfl) (ltb rfl) rfl ?_)
         refine TriL.skipu rfl rfl (ltb rfl) (ltb rfl) rfl hg22 ?_
         refine TriL.c1 rfl (op_pickf (ltb rfl) rfl hg22 rfl) ?_
         refine TriL.c1 rfl (op_mv (ltb rfl) rfl) ?_
         iterate 3 (refine TriL.skipu rfl rfl (ltb rfl) (ltb rfl) rfl rfl ?_)
         iterate 3 (refine TriL.skipg rfl rfl (ltb rfl) (ltb rfl) rfl ?_)
         refine TriL.skipu rfl rfl (ltb rfl) (ltb rfl) rfl rfl ?_
         refine TriL.c1 rfl (op_pickf (ltb rfl) rfl rfl rfl) ?_
         refine TriL.c1 rfl (op_as (ltb rfl) rfl) ?_
         refine TriL.nil (Tri.ret ?_)
         exact ⟨.inr rfl, (ResOK.r1 rfl (.tmp rfl .nil)).cast (congrArg AV.bool (by grind [partT])), rfl⟩
      ·iterate 3 (refine TriL.skipu rfl rfl (ltb rfl) (ltb rfl) rfl hg16 ?_)
       iterate 3 (refine TriL.skipg rfl rfl (ltb rfl) (ltb rfl) rfl ?_)
       refine TriL.skipu rfl rfl (ltb rfl) (ltb rfl) rfl hg16 ?_
       refine TriL.c1 rfl (op_pickf (ltb rfl) rfl hg16 rfl) ?_
       refine TriL.c1 rfl (op_mv (ltb rfl) rfl) ?_
       iterate 3 (refine TriL.skipu rfl rfl (ltb rfl) (ltb rfl) rfl rfl ?_)
       iterate 3 (refine TriL.skipg rfl rfl (ltb rfl) (ltb rfl) rfl ?_)
       refine TriL.skipu rfl rfl (ltb rfl) (ltb rfl) rfl rfl ?_
       refine TriL.c1 rfl (op_pickf (ltb rfl) rfl rfl rfl) ?_
       refine TriL.c1 rfl (op_mv (ltb rfl) rfl) ?_
       iterate 3 (refine TriL.skipu rfl rfl (ltb rfl) (ltb rfl) rfl rfl ?_)
       iterate 3 (refine TriL.skipg rfl rfl (ltb rfl) (ltb rfl) rfl ?_)
       refine TriL.skipu rfl rfl (ltb rfl) (ltb rfl) rfl rfl ?_
       refine TriL.c1 rfl (op_pickf (ltb rfl) rfl rfl rfl) ?_
       refine TriL.c1 rfl (op_as (ltb rfl) rfl) ?_
       refine TriL.nil (Tri.ret ?_)
       exact ⟨.inr rfl, (ResOK.r1 rfl (.tmp rfl .nil)).cast (congrArg AV.bool (by grind [partT])), rfl⟩
set_option maxHeartbeats 4000000 in
theorem r_right2 (x : Stp) (hb : x.big) : Pure Tryz.prog 18 [x.av] (.bool x.right2) := by
 refine Pure.of_tri Tryz.func18 rfl rfl (ltb rfl) fun H => ?_
 refine Tri.seq (Tri.region ?_)
 refine TriL.c2 rfl (op_box (ltb rfl) rfl rfl rfl) ?_
 refine TriL.c1 rfl (op_as (ltb rfl) rfl) ?_
 refine TriL.nil ?_
 refine Tri.joinu [.h, .s 1, .b 1] (fun (_ : Unit) => []) (fun (_ : Unit) => ¬ (nameOK x.msg = false ∨ nameOK x.field = false)) rfl ?_ ?_
 ·refine Tri.seq (Tri.region ?_)
  refine TriL.c1 rfl (op_fal (ltb rfl) fo46_1_q rfl) ?_
  refine TriL.c1 rfl (op_ldl (ltb rfl) lk9_q rfl rfl rfl) ?_
  refine TriL.c1 rfl (op_call (ltb rfl) fn34_q rfl (r_nameOK _)) ?_
  refine TriL.c1 rfl (op_un (ltb rfl) rfl rfl) ?_
  refine TriL.c1 rfl (op_mv (ltb rfl) rfl) ?_
  refine TriL.split (d := 7) rfl (fun hg1 => ?_) (fun hg1 => ?_)
  ·iterate 4 (refine TriL.skipu rfl rfl (ltb rfl) (ltb rfl) rfl hg1 ?_)
   refine TriL.c1 rfl (op_pickt (ltb rfl) rfl hg1 rfl) ?_
   refine TriL.nil ?_
   refine Tri.condT rfl rfl ?_
   refine Tri.seq (Tri.region ?_)
   refine TriL.c1 rfl (op_as (ltb rfl) rfl) ?_
   refine TriL.nil (Tri.ret ?_)
   exact ⟨.inr rfl, (ResOK.r1 rfl (.tmp rfl .nil)).cast (congrArg AV.bool (by have hm : (x.names.map AV.str).length = x.names.length := List.length_map _; grind [Stp.right2])), rfl⟩
  ·refine TriL.g1 rfl (ltb rfl) rfl hg1 (op_fal (ltb rfl) fo46_2_q rfl) ?_
   refine TriL.g1 rfl (ltb rfl) rfl hg1 (op_ldl (ltb rfl) lk9_q rfl rfl rfl) ?_
   refine TriL.g1 rfl (ltb rfl) rfl hg1 (op_call (ltb rfl) fn34_q rfl (r_nameOK _)) ?_
   refine TriL.g1 rfl (ltb rfl) rfl hg1 (op_un (ltb rfl) rfl rfl) ?_
   refine TriL.c1 rfl (op_pickf (ltb rfl) rfl hg1 rfl) ?_
   refine TriL.nil ?_
   refine Tri.cond rfl (fun hc2 => ?_) (fun hc2 => ?_)
   ·refine Tri.seq (Tri.region ?_)
    refine TriL.c1 rfl (op_as (ltb rfl) rfl) ?_
    refine TriL.nil (Tri.ret ?_)
    exact ⟨.inr rfl, (ResOK.r1 rfl (.tmp rfl .nil)).cast (congrArg AV.bool (by have hm : (x.names.map AV.str).length = x.names.length := List.length_map _; grind [Stp.right2])), rfl⟩
   ·refine Tri.ofKept (Kept.keep [.h, .s 1, .b 1] rfl (by decide) (Kept.now ?_))
    refine Tri.skip ?_
    exact ⟨(), by have hm : (x.names.map AV.str).length = x.names.length := List.length_map _; grind, rfl⟩
 ·rintro _ hF3
  refine Tri.joinu [.h, .s 1, .b 1] (fun (_ : Unit) => []) (fun (_ : Unit) => ¬ ((x.kind ≠ 8 ∧ 0 < x.names.length) ∨ (x.kind ≠ 9 ∧ bareT x.dv = false) ∨ (x.kind ≠ 3 ∧ x.kind ≠ 9 ∧ x.ty ≠ 0))) rfl ?_ ?_
  ·refine Tri.seq (Tri.region ?_)
   refine TriL.c1 rfl (op_fal (ltb rfl) fo46_0_q rfl) ?_
   refine TriL.c1 rfl (op_ldl (ltb rfl) lk3_q rfl rfl rfl) ?_
   refine TriL.c1 rfl (op_bin (ltb rfl) rfl rfl rfl) ?_
   refine TriL.c1 rfl (op_mv (ltb rfl) rfl) ?_
   refine TriL.split (d := 16) rfl (fun hg3 => ?_) (fun hg3 => ?_)
   ·refine TriL.g1 rfl (ltb rfl) rfl hg3 (op_fal (ltb rfl) fo46_8_q rfl) ?_
    refine TriL.g1 rfl (ltb rfl) rfl hg3 (op_ldl (ltb rfl) lk40_q rfl rfl rfl) ?_
    refine TriL.g1 rfl (ltb rfl) rfl hg3 (op_lenl (ltb rfl) un40_q rfl) ?_
    refine TriL.g1 rfl (ltb rfl) rfl hg3 (op_bin (ltb rfl) rfl rfl rfl) ?_
    refine TriL.c1 rfl (op_pickt (ltb rfl) rfl hg3 rfl) ?_
    refine TriL.c1 rfl (op_mv (ltb rfl) rfl) ?_
    refine TriL.split (d := 22) rfl (fun hg4 => ?_) (fun hg4 => ?_)
    ·iterate 4 (refine TriL.skipu rfl rfl (ltb rfl) (ltb rfl) rfl hg4 ?_)
     iterate 4 (refine TriL.skipg rfl rfl (ltb rfl) (ltb rfl) rfl ?_)
     refine TriL.skipu rfl rfl (ltb rfl) (ltb rfl) rfl hg4 ?_
     refine TriL.c1 rfl (op_pickt (ltb rfl) rfl hg4 rfl) ?_
     refine TriL.c1 rfl (op_mv (ltb rfl) rfl) ?_
     iterate 4 (refine TriL.skipu rfl rfl (ltb rfl) (ltb rfl) rfl rfl ?_)
     iterate 3 (refine TriL.skipg rfl rfl (ltb rfl) (ltb rfl) rfl ?_)
     iterate 2 (refine TriL.skipu rfl rfl (ltb rfl) (ltb rfl) rfl rfl ?_)
     iterate 3 (refine TriL.skipg rfl rfl (ltb rfl) (ltb rfl) rfl ?_)
     refine TriL.skipu rfl rfl (ltb rfl) (ltb rfl) rfl rfl ?_
     refine TriL.c1 rfl (op_pickt (ltb rfl) rfl rfl rfl) ?_
     refine TriL.nil ?_
     refine Tri.condT rfl rfl ?_
     refine Tri.seq (Tri.region ?_)
     refine TriL.c1 rfl (op_as (ltb rfl) rfl) ?_
     refine TriL.nil (Tri.ret ?_)
     exact ⟨.inr rfl, (ResOK.r1 rfl (.tmp rfl .nil)).cast (congrArg AV.bool (by have hm : (x.names.map AV.str).length = x.names.length := List.length_map _; grind [Stp.right2])), rfl⟩
    ·refine TriL.g1 rfl (ltb rfl) rfl hg4 (op_fal (ltb rfl) fo46_0_q rfl) ?_
     refine TriL.g1 rfl (ltb rfl) rfl hg4 (op_ldl (ltb rfl) lk3_q rfl rfl rfl) ?_
     refine TriL.g1 rfl (ltb rfl) rfl hg4 (op_bin (ltb rfl) rfl rfl rfl) ?_
     refine TriL.g1 rfl (ltb rfl) rfl hg4 (op_mv (ltb rfl) rfl) ?_
     refine TriL.split (d := 26) rfl (fun hg5 => ?_) (fun hg5 => ?_)
     ·refine TriL.g1 rfl (ltb rfl) rfl hg5 (op_fal (ltb rfl) fo46_9_q rfl) ?_
      refine TriL.g1 rfl (ltb rfl) rfl hg5 (op_ldl (ltb rfl) lk44_q rfl rfl rfl) ?_
      refine TriL.g1 rfl (ltb rfl) rfl hg5 (op_call (ltb rfl) fn35_q rfl (r_bare _)) ?_
      refine TriL.g1 rfl (ltb rfl) rfl hg5 (op_un (ltb rfl) rfl rfl) ?_
      refine TriL.g1 rfl (ltb rfl) rfl hg4 (op_pickt (ltb rfl) rfl hg5 rfl) ?_
      refine TriL.c1 rfl (op_pickf (ltb rfl) rfl hg4 rfl) ?_
      refine TriL.c1 rfl (op_mv (ltb rfl) rfl) ?_
      refine TriL.split (d := 33) rfl (fun hg6 => ?_) (fun hg6 => ?_)
      ·iterate 4 (refine TriL.skipu rfl rfl (ltb rfl) (ltb rfl) rfl hg6 ?_)
       iterate 3 (refine TriL.skipg rfl rfl (ltb rfl) (ltb rfl) rfl ?_)
       iterate 2 (refine TriL.skipu rfl rfl (ltb rfl) (ltb rfl) rfl hg6 ?_)
       iterate 3 (refine TriL.skipg rfl rfl (ltb rfl) (ltb rfl) rfl ?_)
       refine TriL.skipu rfl rfl (ltb rfl) (ltb rfl) rfl hg6 ?_
       refine TriL.c1 rfl (op_pickt (ltb rfl) rfl hg6 rfl) ?_
       refine TriL.nil ?_
       refine Tri.condT rfl rfl ?_
       refine Tri.seq (Tri.region ?_)
       refine TriL.c1 rfl (op_as (ltb rfl) rfl) ?_
       refine TriL.nil (Tri.ret ?_)
       exact ⟨.inr rfl, (ResOK.r1 rfl (.tmp rfl .nil)).cast (congrArg AV.bool (by have hm : (x.names.map AV.str).length = x.names.length := List.length_map _; grind [Stp.right2])), rfl⟩
      ·refine TriL.g1 rfl (ltb rfl) rfl hg6 (op_fal (ltb rfl) fo46_0_q rfl) ?_
       refine TriL.g1 rfl (ltb rfl) rfl hg6 (op_ldl (ltb rfl) lk3_q rfl rfl rfl) ?_
       refine TriL.g1 rfl (ltb rfl) rfl hg6 (op_bin (ltb rfl) rfl rfl rfl) ?_
       refine TriL.g1 rfl (ltb rfl) rfl hg6 (op_mv (ltb rfl) rfl) ?_
       refine TriL.split (d := 37) rfl (fun hg7 => ?_) (fun hg7 => ?_)
       ·refine TriL.g1 rfl (ltb rfl) rfl hg7 (op_fal (ltb rfl) fo46_0_q rfl) ?_
        refine TriL.g1 rfl (ltb rfl) rfl hg7 (op_ldl (ltb rfl) lk3_q rfl rfl rfl) ?_
        refine TriL.g1 rfl (ltb rfl) rfl hg7 (op_bin (ltb rfl) rfl rfl rfl) ?_
        refine TriL.g1 rfl (ltb rfl) rfl hg6 (op_pickt (ltb rfl) rfl hg7 rfl) ?_
        refine TriL.g1 rfl (ltb rfl) rfl hg6 (op_mv (ltb rfl) rfl) ?_
        refine TriL.split (d := 42) rfl (fun hg8 => ?_) (fun hg8 => ?_)
        ·refine TriL.g1 rfl (ltb rfl) rfl hg8 (op_fal (ltb rfl) fo46_7_q rfl) ?_
         refine TriL.g1 rfl (ltb rfl) rfl hg8 (op_ldl (ltb rfl) lk3_q rfl rfl rfl) ?_
         refine TriL.g1 rfl (ltb rfl) rfl hg8 (op_bin (ltb rfl) rfl rfl rfl) ?_
         refine TriL.g1 rfl (ltb rfl) rfl hg6 (op_pickt (ltb rfl) rfl hg8 rfl) ?_
         refine TriL.c1 rfl (op_pickf (ltb rfl) rfl hg6 rfl) ?_
         refine TriL.nil ?_
         refine Tri.cond rfl (fun hc9 => ?_) (fun hc9 => ?_)
         ·refine Tri.seq (Tri.region ?_)
          refine TriL.c1 rfl (op_as (ltb rfl) rfl) ?_
          refine TriL.nil (Tri.ret ?_)
          exact ⟨.inr rfl, (ResOK.r1 rfl (.tmp rfl .nil)).cast (congrArg AV.bool (by have hm : (x.names.map AV.str).length = x.names.length := List.length_map _; grind [Stp.right2])), rfl⟩
         ·refine Tri.ofKept (Kept.keep [.h, .s 1, .b 1] rfl (by decide) (Kept.now ?_))
          refine Tri.skip ?_
          exact ⟨(), by have hm : (x.names.map AV.str).length = x.names.length := List.length_map _; grind, rfl⟩
        ·iterate 3 (refine TriL.skipu rfl rfl (ltb rfl) (ltb rfl) rfl hg8 ?_)
         refine TriL.g1 rfl (ltb rfl) rfl hg6 (op_pickf (ltb rfl) rfl hg8 rfl) ?_
         refine TriL.c1 rfl (op_pickf (ltb rfl) rfl hg6 rfl) ?_
         refine TriL.nil ?_
         refine Tri.condF rfl rfl ?_
         refine Tri.ofKept (Kept.keep [.h, .s 1, .b 1] rfl (by decide) (Kept.now ?_))
         refine Tri.skip ?_
         exact ⟨(), by have hm : (x.names.map AV.str).length = x.names.length := List.length_map _; grind, rfl⟩
       ·iterate 3 (refine TriL.skipu rfl rfl (ltb rfl) (ltb rfl) rfl hg7 ?_)
        refine TriL.g1 rfl (ltb rfl) rfl hg6 (op_pickf (ltb rfl) rfl hg7 rfl) ?_
        refine TriL.g1 rfl (ltb rfl) rfl hg6 (op_mv (ltb rfl) rfl) ?_
        iterate 3 (refine TriL.skipu rfl rfl (ltb rfl) (ltb rfl) rfl rfl ?_)
        refine TriL.g1 rfl (ltb rfl) rfl hg6 (op_pickf (ltb rfl) rfl rfl rfl) ?_
        refine TriL.c1 rfl (op_pickf (ltb rfl) rfl hg6 rfl) ?_
        refine TriL.nil ?_
        refine Tri.condF rfl rfl ?_
        refine Tri.ofKept (Kept.keep [.h, .s 1, .b 1] rfl (by decide) (Kept.now ?_))
        refine Tri.skip ?_
        exact ⟨(), by have hm : (x.names.map AV.str).length = x.names.length := List.length_map _; grind, rfl⟩
     ·iterate 4 (refine TriL.skipu rfl rfl (ltb rfl) (ltb rfl) rfl hg5 ?_)
      refine TriL.g1 rfl (ltb rfl) rfl hg4 (op_pickf (ltb rfl) rfl hg5 rfl) ?_
      refine TriL.c1 rfl (op_pickf (ltb rfl) rfl hg4 rfl) ?_
      refine TriL.c1 rfl (op_mv (ltb rfl) rfl) ?_
      refine TriL.g1 rfl (ltb rfl) rfl rfl (op_fal (ltb rfl) fo46_0_q rfl) ?_
      refine TriL.g1 rfl (ltb rfl) rfl rfl (op_ldl (ltb rfl) lk3_q rfl rfl rfl) ?_
      refine TriL.g1 rfl (ltb rfl) rfl rfl (op_bin (ltb rfl) rfl rfl rfl) ?_
      refine TriL.g1 rfl (ltb rfl) rfl rfl (op_mv (ltb rfl) rfl) ?_
      refine TriL.split (d := 37) rfl (fun hg10 => ?_) (fun hg10 => ?_)
      ·refine TriL.g1 rfl (ltb rfl) rfl hg10 (op_fal (ltb rfl) fo46_0_q rfl) ?_
       refine TriL.g1 rfl (ltb rfl) rfl hg10 (op_ldl (ltb rfl) lk3_q rfl rfl rfl) ?_
       refine TriL.g1 rfl (ltb rfl) rfl hg10 (op_bin (ltb rfl) rfl rfl rfl) ?_
       refine TriL.g1 rfl (ltb rfl) rfl rfl (op_pickt (ltb rfl) rfl hg10 rfl) ?_
       refine TriL.g1 rfl (ltb rfl) rfl rfl (op_mv (ltb rfl) rfl) ?_
       refine TriL.split (d := 42) rfl (fun hg11 => ?_) (fun hg11 => ?_)
       ·refine TriL.g1 rfl (ltb rfl) rfl hg11 (op_fal (ltb rfl) fo46_7_q rfl) ?_
        refine TriL.g1 rfl (ltb rfl) rfl hg11 (op_ldl (ltb rfl) lk3_q rfl rfl rfl) ?_
        refine TriL.g1 rfl (ltb rfl) rfl hg11 (op_bin (ltb rfl) rfl rfl rfl) ?_
        refine TriL.g1 rfl (ltb rfl) rfl rfl (op_pickt (ltb rfl) rfl hg11 rfl) ?_
        refine TriL.c1 rfl (op_pickf (ltb rfl) rfl rfl rfl) ?_
        refine TriL.nil ?_
        refine Tri.cond rfl (fun hc12 => ?_) (fun hc12 => ?_)
        ·refine Tri.seq (Tri.region ?_)
         refine TriL.c1 rfl (op_as (ltb rfl) rfl) ?_
         refine TriL.nil (Tri.ret ?_)
         exact ⟨.inr rfl, (ResOK.r1 rfl (.tmp rfl .nil)).cast (congrArg AV.bool (by have hm : (x.names.map AV.str).length = x.names.length := List.length_map _; grind [Stp.right2])), rfl⟩
        ·refine Tri.ofKept (Kept.keep [.h, .s 1, .b 1] rfl (by decide) (Kept.now ?_))
         refine Tri.skip ?_
         exact ⟨(), by have hm : (x.names.map AV.str).length = x.names.length := List.length_map _; grind, rfl⟩
       ·iterate 3 (refine TriL.skipu rfl rfl (ltb rfl) (ltb rfl) rfl hg11 ?_)
        refine TriL.g1 rfl (ltb rfl) rfl rfl (op_pickf (ltb rfl) rfl hg11 rfl) ?_
        refine TriL.c1 rfl (op_pickf (ltb rfl) rfl rfl rfl) ?_
        refine TriL.nil ?_
        refine Tri.condF rfl rfl ?_
        refine Tri.ofKept (Kept.keep [.h, .s 1, .b 1] rfl (by decide) (Kept.now ?_))
        refine Tri.skip ?_
        exact ⟨(), by have hm : (x.names.map AV.str).length = x.names.length := List.length_map _; grind, rfl⟩
      ·iterate 3 (refine TriL.skipu rfl rfl (ltb rfl) (ltb rfl) rfl hg10 ?_)
       refine TriL.g1 rfl (ltb rfl) rfl rfl (op_pickf (ltb rfl) rfl hg10 rfl) ?_
       refine TriL.g1 rfl (ltb rfl) rfl rfl (op_mv (ltb rfl) rfl) ?_
       iterate 3 (refine TriL.skipu rfl rfl (ltb rfl) (ltb rfl) rfl rfl ?_)
       refine TriL.g1 rfl (ltb rfl) rfl rfl (op_pickf (ltb rfl) rfl rfl rfl) ?_
       refine TriL.c1 rfl (op_pickf (ltb rfl) rfl rfl rfl) ?_
       refine TriL.nil ?_
       refine Tri.condF rfl rfl ?_
       refine Tri.ofKept (Kept.keep [.h, .s 1, .b 1] rfl (by decide) (Kept.now ?_))
       refine Tri.skip ?_
       exact ⟨(), by have hm : (x.names.map AV.str).length = x.names.length := List.length_map _; grind, rfl⟩
   ·iterate 4 (refine TriL.skipu rfl rfl (ltb rfl) (ltb rfl) rfl hg3 ?_)
    refine TriL.c1 rfl (op_pickf (ltb rfl) rfl hg3 rfl) ?_
    refine TriL.c1 rfl (op_mv (ltb rfl) rfl) ?_
    refine TriL.g1 rfl (ltb rfl) rfl rfl (op_fal (ltb rfl) fo46_0_q rfl) ?_
    refine TriL.g1 rfl (ltb rfl) rfl rfl (op_ldl (ltb rfl) lk3_q rfl rfl rfl) ?_
    refine TriL.g1 rfl (ltb rfl) rfl rfl (op_bin (ltb rfl) rfl rfl rfl) ?_
    refine TriL.g1 rfl (ltb rfl) rfl rfl (op_mv (ltb rfl) rfl) ?_
    refine TriL.split (d := 26) rfl (fun hg13 => ?_) (fun hg13 => ?_)
    ·refine TriL.g1 rfl (ltb rfl) rfl hg13 (op_fal (ltb rfl) fo46_9_q rfl) ?_
     refine TriL.g1 rfl (ltb rfl) rfl hg13 (op_ldl (ltb rfl) lk44_q rfl rfl rfl) ?_
     refine TriL.g1 rfl (ltb rfl) rfl hg13 (op_call (ltb rfl) fn35_q rfl (r_bare _)) ?_
     refine TriL.g1 rfl (ltb rfl) rfl hg13 (op_un (ltb rfl) rfl rfl) ?_
     refine TriL.g1 rfl (ltb rfl) rfl rfl (op_pickt (ltb rfl) rfl hg13 rfl) ?_
     refine TriL.c1 rfl (op_pickf (ltb rfl) rfl rfl rfl) ?_
     refine TriL.c1 rfl (op_mv (ltb rfl) rfl) ?_
     refine TriL.split (d := 33) rfl (fun hg14 => ?_) (fun hg14 => ?_)
     ·iterate 4 (refine TriL.skipu rfl rfl (ltb rfl) (ltb rfl) rfl hg14 ?_)
      iterate 3 (refine TriL.skipg rfl rfl (ltb rfl) (ltb rfl) rfl ?_)
      iterate 2 (refine TriL.skipu rfl rfl (ltb rfl) (ltb rfl) rfl hg14 ?_)
      iterate 3 (refine TriL.skipg rfl rfl (ltb rfl) (ltb rfl) rfl ?_)
      refine TriL.skipu rfl rfl (ltb rfl) (ltb rfl) rfl hg14 ?_
      refine TriL.c1 rfl (op_pickt (ltb rfl) rfl hg14 rfl) ?_
      refine TriL.nil ?_
      refine Tri.condT rfl rfl ?_
      refine Tri.seq (Tri.region ?_)
      refine TriL.c1 rfl (op_as (ltb rfl) rfl) ?_
      refine TriL.nil (Tri.ret ?_)
      exact ⟨.inr rfl, (ResOK.r1 rfl (.tmp rfl .nil)).cast (congrArg AV.bool (by have hm : (x.names.map AV.str).length = x.names.length := List.length_map _; grind [Stp.right2])), rfl⟩
     ·refine TriL.g1 rfl (ltb rfl) rfl hg14 (op_fal (ltb rfl) fo46_0_q rfl) ?_
      refine TriL.g1 rfl (ltb rfl) rfl hg14 (op_ldl (ltb rfl) lk3_q rfl rfl rfl) ?_
      refine TriL.g1 rfl (ltb rfl) rfl hg14 (op_bin (ltb rfl) rfl rfl rfl) ?_
      refine TriL.g1 rfl (ltb rfl) rfl hg14 (op_mv (ltb rfl) rfl) ?_
      refine TriL.split (d := 37) rfl (fun hg15 => ?_) (fun hg15 => ?_)
      ·refine TriL.g1 rfl (ltb rfl) rfl hg15 (op_fal (ltb rfl) fo46_0_q rfl) ?_
       refine TriL.g1 rfl (ltb rfl) rfl hg15 (op_ldl (ltb rfl) lk3_q rfl rfl rfl) ?_
       refine TriL.g1 rfl (ltb rfl) rfl hg15 (op_bin (ltb rfl) rfl rfl rfl) ?_
       refine TriL.g1 rfl (ltb rfl) rfl hg14 (op_pickt (ltb rfl) rfl hg15 rfl) ?_
       refine TriL.g1 rfl (ltb rfl) rfl hg14 (op_mv (ltb rfl) rfl) ?_
       refine TriL.split (d := 42) rfl (fun hg16 => ?_) (fun hg16 => ?_)
       ·refine TriL.g1 rfl (ltb rfl) rfl hg16 (op_fal (ltb rfl) fo46_7_q rfl) ?_
        refine TriL.g1 rfl (ltb rfl) rfl hg16 (op_ldl (ltb rfl) lk3_q rfl rfl rfl) ?_
        refine TriL.g1 rfl (ltb rfl) rfl hg16 (op_bin (ltb rfl) rfl rfl rfl) ?_
        refine TriL.g1 rfl (ltb rfl) rfl hg14 (op_pickt (ltb rfl) rfl hg16 rfl) ?_
        refine TriL.c1 rfl (op_pickf (ltb rfl) rfl hg14 rfl) ?_
        refine TriL.nil ?_
        refine Tri.cond rfl (fun hc17 => ?_) (fun hc17 => ?_)
        ·refine Tri.seq (Tri.region ?_)
         refine TriL.c1 rfl (op_as (ltb rfl) rfl) ?_
         refine TriL.nil (Tri.ret ?_)
         exact ⟨.inr rfl, (ResOK.r1 rfl (.tmp rfl .nil)).cast (congrArg AV.bool (by have hm : (x.names.map AV.str).length = x.names.length := List.length_map _; grind [Stp.right2])), rfl⟩
        ·refine Tri.ofKept (Kept.keep [.h, .s 1, .b 1] rfl (by decide) (Kept.now ?_))
         refine Tri.skip ?_
         exact ⟨(), by have hm : (x.names.map AV.str).length = x.names.length := List.length_map _; grind, rfl⟩
       ·iterate 3 (refine TriL.skipu rfl rfl (ltb rfl) (ltb rfl) rfl hg16 ?_)
        refine TriL.g1 rfl (ltb rfl) rfl hg14 (op_pickf (ltb rfl) rfl hg16 rfl) ?_
        refine TriL.c1 rfl (op_pickf (ltb rfl) rfl hg14 rfl) ?_
        refine TriL.nil ?_
        refine Tri.condF rfl rfl ?_
        refine Tri.ofKept (Kept.keep [.h, .s 1, .b 1] rfl (by decide) (Kept.now ?_))
        refine Tri.skip ?_
        exact ⟨(), by have hm : (x.names.map AV.str).length = x.names.length := List.length_map _; grind, rfl⟩
      ·iterate 3 (refine TriL.skipu rfl rfl (ltb rfl) (ltb rfl) rfl hg15 ?_)
       refine TriL.g1 rfl (ltb rfl) rfl hg14 (op_pickf (ltb rfl) rfl hg15 rfl) ?_
       refine TriL.g1 rfl (ltb rfl) rfl hg14 (op_mv (ltb rfl) rfl) ?_
       iterate 3 (refine TriL.skipu rfl rfl (ltb rfl) (ltb rfl) rfl rfl ?_)
       refine TriL.g1 rfl (ltb rfl) rfl hg14 (op_pickf (ltb rfl) rfl rfl rfl) ?_
       refine TriL.c1 rfl (op_pickf (ltb rfl) rfl hg14 rfl) ?_
       refine TriL.nil ?_
       refine Tri.condF rfl rfl ?_
       refine Tri.ofKept (Kept.keep [.h, .s 1, .b 1] rfl (by decide) (Kept.now ?_))
       refine Tri.skip ?_
       exact ⟨(), by have hm : (x.names.map AV.str).length = x.names.length := List.length_map _; grind, rfl⟩
    ·iterate 4 (refine TriL.skipu rfl rfl (ltb rfl) (ltb rfl) rfl hg13 ?_)
     refine TriL.g1 rfl (ltb rfl) rfl rfl (op_pickf (ltb rfl) rfl hg13 rfl) ?_
     refine TriL.c1 rfl (op_pickf (ltb rfl) rfl rfl rfl) ?_
     refine TriL.c1 rfl (op_mv (ltb rfl) rfl) ?_
     refine TriL.g1 rfl (ltb rfl) rfl rfl (op_fal (ltb rfl) fo46_0_q rfl) ?_
     refine TriL.g1 rfl (ltb rfl) rfl rfl (op_ldl (ltb rfl) lk3_q rfl rfl rfl) ?_
     refine TriL.g1 rfl (ltb rfl) rfl rfl (op_bin (ltb rfl) rfl rfl rfl) ?_
     refine TriL.g1 rfl (ltb rfl) rfl rfl (op_mv (ltb rfl) rfl) ?_
     refine TriL.split (d := 37) rfl (fun hg18 => ?_) (fun hg18 => ?_)
     ·refine TriL.g1 rfl (ltb rfl) rfl hg18 (op_fal (ltb rfl) fo46_0_q rfl) ?_
      refine TriL.g1 rfl (ltb rfl) rfl hg18 (op_ldl (ltb rfl) lk3_q rfl rfl rfl) ?_
      refine TriL.g1 rfl (ltb rfl) rfl hg18 (op_bin (ltb rfl) rfl rfl rfl) ?_
      refine TriL.g1 rfl (ltb rfl) rfl rfl (op_pickt (ltb rfl) rfl hg18 rfl) ?_
      refine TriL.g1 rfl (ltb rfl) rfl rfl (op_mv (ltb rfl) rfl) ?_
      refine TriL.split (d := 42) rfl (fun hg19 => ?_) (fun hg19 => ?_)
      ·refine TriL.g1 rfl (ltb rfl) rfl hg19 (op_fal (ltb rfl) fo46_7_q rfl) ?_
       refine TriL.g1 rfl (ltb rfl) rfl hg19 (op_ldl (ltb rfl) lk3_q rfl rfl rfl) ?_
       refine TriL.g1 rfl (ltb rfl) rfl hg19 (op_bin (ltb rfl) rfl rfl rfl) ?_
       refine TriL.g1 rfl (ltb rfl) rfl rfl (op_pickt (ltb rfl) rfl hg19 rfl) ?_
       refine TriL.c1 rfl (op_pickf (ltb rfl) rfl rfl rfl) ?_
       refine TriL.nil ?_
       refine Tri.cond rfl (fun hc20 => ?_) (fun hc20 => ?_)
       ·refine Tri.seq (Tri.region ?_)
        refine TriL.c1 rfl (op_as (ltb rfl) rfl) ?_
        refine TriL.nil (Tri.ret ?_)
        exact ⟨.inr rfl, (ResOK.r1 rfl (.tmp rfl .nil)).cast (congrArg AV.bool (by have hm : (x.names.map AV.str).length = x.names.length := List.length_map _; grind [Stp.right2])), rfl⟩
       ·refine Tri.ofKept (Kept.keep [.h, .s 1, .b 1] rfl (by decide) (Kept.now ?_))
        refine Tri.skip ?_
        exact ⟨(), by have hm : (x.names.map AV.str).length = x.names.length := List.length_map _; grind, rfl⟩
      ·iterate 3 (refine TriL.skipu rfl rfl (ltb rfl) (ltb rfl) rfl hg19 ?_)
       refine TriL.g1 rfl (ltb rfl) rfl rfl (op_pickf (ltb rfl) rfl hg19 rfl) ?_
       refine TriL.c1 rfl (op_pickf (ltb rfl) rfl rfl rfl) ?_
       refine TriL.nil ?_
       refine Tri.condF rfl rfl ?_
       refine Tri.ofKept (Kept.keep [.h, .s 1, .b 1] rfl (by decide) (Kept.now ?_))
       refine Tri.skip ?_
       exact ⟨(), by have hm : (x.names.map AV.str).length = x.names.length := List.length_map _; grind, rfl⟩
     ·iterate 3 (refine TriL.skipu rfl rfl (ltb rfl) (ltb rfl) rfl hg18 ?_)
      refine TriL.g1 rfl (ltb rfl) rfl rfl (op_pickf (ltb rfl) rfl hg18 rfl) ?_
      refine TriL.g1 rfl (ltb rfl) rfl rfl (op_mv (ltb rfl) rfl) ?_
      iterate 3 (refine TriL.skipu rfl rfl (ltb rfl) (ltb rfl) rfl rfl ?_)
      refine TriL.g1 rfl (ltb rfl) rfl rfl (op_pickf (ltb rfl) rfl rfl rfl) ?_
      refine TriL.c1 rfl (op_pickf (ltb rfl) rfl rfl rfl) ?_
      refine TriL.nil ?_
      refine Tri.condF rfl rfl ?_
      refine Tri.ofKept (Kept.keep [.h, .s 1, .b 1] rfl (by decide) (Kept.now ?_))
      refine Tri.skip ?_
      exact ⟨(), by have hm : (x.names.map AV.str).length = x.names.length := List.length_map _; grind, rfl⟩
  ·rintro _ hF5
   refine Tri.seq (Tri.seq (Tri.region ?_))
   refine TriL.c1 rfl (op_fal (ltb rfl) fo46_0_q rfl) ?_
   refine TriL.c1 rfl (op_ldl (ltb rfl) lk3_q rfl rfl rfl) ?_
   refine TriL.nil (Tri.blk (Tri.seq (Tri.region ?_)))
   refine TriL.c1 rfl (op_bin (ltb rfl) rfl rfl rfl) ?_
   refine TriL.c1 rfl (op_as (ltb rfl) rfl) ?_
   refine TriL.nil ?_
   refine Tri.cond rfl (fun hc21 => ?_) (fun hc21 => ?_)
   ·refine Tri.seq (Tri.region ?_)
    refine TriL.c1 rfl (op_ldl (ltb rfl) lk46_q rfl rfl rfl) ?_
    refine TriL.c1 rfl (op_call (ltb rfl) fn36_q rfl (r_part _ _ _ _ _)) ?_
    refine TriL.c1 rfl (op_as (ltb rfl) rfl) ?_
    refine TriL.nil (Tri.ret ?_)
    exact ⟨.inr rfl, (ResOK.r1 rfl (.tmp rfl .nil)).cast (congrArg AV.bool (by have hm : (x.names.map AV.str).length = x.names.length := List.length_map _; grind [Stp.right2])), rfl⟩
   ·refine Tri.seq (Tri.region ?_)
    refine TriL.c1 rfl (op_bin (ltb rfl) rfl rfl rfl) ?_
    refine TriL.c1 rfl (op_as (ltb rfl) rfl) ?_
    refine TriL.nil ?_
    refine Tri.cond rfl (fun hc22 => ?_) (fun hc22 => ?_)
    ·refine Tri.seq (Tri.region ?_)
     refine TriL.c1 rfl (op_ldl (ltb rfl) lk46_q rfl rfl rfl) ?_
     refine TriL.c1 rfl (op_call (ltb rfl) fn36_q rfl (r_part _ _ _ _ _)) ?_
     refine TriL.c1 rfl (op_as (ltb rfl) rfl) ?_
     refine TriL.nil (Tri.ret ?_)
     exact ⟨.inr rfl, (ResOK.r1 rfl (.tmp rfl .nil)).cast (congrArg AV.bool (by have hm : (x.names.map AV.str).length = x.names.length := List.length_map _; grind [Stp.right2])), rfl⟩
    ·refine Tri.seq (Tri.region ?_)
     refine TriL.c1 rfl (op_bin (ltb rfl) rfl rfl rfl) ?_
     refine TriL.c1 rfl (op_as (ltb rfl) rfl) ?_
     refine TriL.nil ?_
     refine Tri.cond rfl (fun hc23 => ?_) (fun hc23 => ?_)
     ·refine Tri.seq (Tri.region ?_)
      refine TriL.c1 rfl (op_ldl (ltb rfl) lk46_q rfl rfl rfl) ?_
      refine TriL.c1 rfl (op_call (ltb rfl) fn36_q rfl (r_part _ _ _ _ _)) ?_
      refine TriL.c1 rfl (op_mv (ltb rfl) rfl) ?_
      refine TriL.split (d := 62) rfl (fun hg24 => ?_) (fun hg24 => ?_)
      ·refine TriL.g1 rfl (ltb rfl) rfl hg24 (op_fal (ltb rfl) fo46_7_q rfl) ?_
       refine TriL.g1 rfl (ltb rfl) rfl hg24 (op_ldl (ltb rfl) lk3_q rfl rfl rfl) ?_
       refine TriL.g1 rfl (ltb rfl) rfl hg24 (op_call (ltb rfl) fn37_q rfl (r_wholeT _)) ?_
       refine TriL.c1 rfl (op_pickt (ltb rfl) rfl hg24 rfl) ?_
       refine TriL.c1 rfl (op_as (ltb rfl) rfl) ?_
       refine TriL.nil (Tri.ret ?_)
       exact ⟨.inr rfl, (ResOK.r1 rfl (.tmp rfl .nil)).cast (congrArg AV.bool (by have hm : (x.names.map AV.str).length = x.names.length := List.length_map _; grind [Stp.right2])), rfl⟩
      ·iterate 3 (refine TriL.skipu rfl rfl (ltb rfl) (ltb rfl) rfl hg24 ?_)
       refine TriL.c1 rfl (op_pickf (ltb rfl) rfl hg24 rfl) ?_
       refine TriL.c1 rfl (op_as (ltb rfl) rfl) ?_
       refine TriL.nil (Tri.ret ?_)
       exact ⟨.inr rfl, (ResOK.r1 rfl (.tmp rfl .nil)).cast (congrArg AV.bool (by have hm : (x.names.map AV.str).length = x.names.length := List.length_map _; grind [Stp.right2])), rfl⟩
     ·refine Tri.seq (Tri.region ?_)
      refine TriL.c1 rfl (op_bin (ltb rfl) rfl rfl rfl) ?_
      refine TriL.c1 rfl (op_as (ltb rfl) rfl) ?_
      refine TriL.nil ?_
      refine Tri.cond rfl (fun hc25 => ?_) (fun hc25 => ?_)
      ·refine Tri.seq (Tri.region ?_)
       refine TriL.c1 rfl (op_ldl (ltb rfl) lk46_q rfl rfl rfl) ?_
       refine TriL.c1 rfl (op_call (ltb rfl) fn36_q rfl (r_part _ _ _ _ _)) ?_
       refine TriL.c1 rfl (op_as (ltb rfl) rfl) ?_
       refine TriL.nil (Tri.ret ?_)
       exact ⟨.inr rfl, (ResOK.r1 rfl (.tmp rfl .nil)).cast (congrArg AV.bool (by have hm : (x.names.map AV.str).length = x.names.length := List.length_map _; grind [Stp.right2])), rfl⟩
      ·refine Tri.seq (Tri.seq (Tri.region ?_))
       refine TriL.c1 rfl (op_bin (ltb rfl) rfl rfl rfl) ?_
       refine TriL.c1 rfl (op_as (ltb rfl) rfl) ?_
       refine TriL.nil ?_
       refine Tri.cond rfl (fun hc26 => ?_) (fun hc26 => ?_)
       ·refine Tri.skip ?_
        refine Tri.condT rfl hc26 ?_
        refine Tri.seq (Tri.region ?_)
        refine TriL.c1 rfl (op_ldl (ltb rfl) lk46_q rfl rfl rfl) ?_
        refine TriL.c1 rfl (op_call (ltb rfl) fn36_q rfl (r_part _ _ _ _ _)) ?_
        refine TriL.c1 rfl (op_as (ltb rfl) rfl) ?_
        refine TriL.nil (Tri.ret ?_)
        exact ⟨.inr rfl, (ResOK.r1 rfl (.tmp rfl .nil)).cast (congrArg AV.bool (by have hm : (x.names.map AV.str).length = x.names.length := List.length_map _; grind [Stp.right2])), rfl⟩
       ·-- region 15 ref.go:54
        refine Tri.region ?_
        refine TriL.c1 rfl (op_bin (ltb rfl) rfl rfl rfl) ?_
        refine TriL.c1 rfl (op_as (ltb rfl) rfl) ?_
        refine TriL.nil ?_
        refine Tri.cond rfl (fun hc27 => ?_) (fun hc27 => ?_)
        ·refine Tri.seq (Tri.region ?_)
         refine TriL.c1 rfl (op_ldl (ltb rfl) lk46_q rfl rfl rfl) ?_
         refine TriL.c1 rfl (op_call (ltb rfl) fn36_q rfl (r_part _ _ _ _ _)) ?_
         refine TriL.c1 rfl (op_as (ltb rfl) rfl) ?_
         refine TriL.nil (Tri.ret ?_)
         exact ⟨.inr rfl, (ResOK.r1 rfl (.tmp rfl .nil)).cast (congrArg AV.bool (by have hm : (x.names.map AV.str).length = x.names.length := List.length_map _; grind [Stp.right2])), rfl⟩
        ·refine Tri.seq (Tri.seq (Tri.region ?_))
         refine TriL.c1 rfl (op_bin (ltb rfl) rfl rfl rfl) ?_
         refine TriL.c1 rfl (op_as (ltb rfl) rfl) ?_
         refine TriL.nil ?_
         refine Tri.cond rfl (fun hc28 => ?_) (fun hc28 => ?_)
         ·refine Tri.skip ?_
          refine Tri.condT rfl hc28 ?_
          refine Tri.seq (Tri.region ?_)
          refine TriL.c1 rfl (op_ldl (ltb rfl) lk46_q rfl rfl rfl) ?_
          refine TriL.c1 rfl (op_call (ltb rfl) fn36_q rfl (r_part _ _ _ _ _)) ?_
          refine TriL.c1 rfl (op_as (ltb rfl) rfl) ?_
          refine TriL.nil (Tri.ret ?_)
          exact ⟨.inr rfl, (ResOK.r1 rfl (.tmp rfl .nil)).cast (congrArg AV.bool (by have hm : (x.names.map AV.str).length = x.names.length := List.length_map _; grind [Stp.right2])), rfl⟩
         ·-- region 18 ref.go:56
          refine Tri.region ?_
          refine TriL.c1 rfl (op_bin (ltb rfl) rfl rfl rfl) ?_
          refine TriL.c1 rfl (op_as (ltb rfl) rfl) ?_
          refine TriL.nil ?_
          refine Tri.cond rfl (fun hc29 => ?_) (fun hc29 => ?_)
          ·refine Tri.seq (Tri.region ?_)
           refine TriL.c1 rfl (op_ldl (ltb rfl) lk46_q rfl rfl rfl) ?_
           refine TriL.c1 rfl (op_call (ltb rfl) fn36_q rfl (r_part _ _ _ _ _)) ?_
           refine TriL.c1 rfl (op_as (ltb rfl) rfl) ?_
           refine TriL.nil (Tri.ret ?_)
           exact ⟨.inr rfl, (ResOK.r1 rfl (.tmp rfl .nil)).cast (congrArg AV.bool (by have hm : (x.names.map AV.str).length = x.names.length := List.length_map _; grind [Stp.right2])), rfl⟩
          ·refine Tri.seq (Tri.region ?_)
           refine TriL.c1 rfl (op_bin (ltb rfl) rfl rfl rfl) ?_
           refine TriL.c1 rfl (op_as (ltb rfl) rfl) ?_
           refine TriL.nil ?_
           refine Tri.cond rfl (fun hc30 => ?_) (fun hc30 => ?_)
           ·refine Tri.seq (Tri.region ?_)
            refine TriL.c1 rfl (op_ldl (ltb rfl) lk46_q rfl rfl rfl) ?_
            refine TriL.c1 rfl (op_call (ltb rfl) fn36_q rfl (r_part _ _ _ _ _)) ?_
            refine TriL.c1 rfl (op_mv (ltb rfl) rfl) ?_
            refine TriL.split (d := 85) rfl (fun hg31 => ?_) (fun hg31 => ?_)
            ·refine TriL.g1 rfl (ltb rfl) rfl hg31 (op_fal (ltb rfl) fo46_8_q rfl) ?_
             refine TriL.g1 rfl (ltb rfl) rfl hg31 (op_ldl (ltb rfl) lk40_q rfl rfl rfl) ?_
             refine TriL.g1 rfl (ltb rfl) rfl hg31 (op_lenl (ltb rfl) un40_q rfl) ?_
             refine TriL.g1 rfl (ltb rfl) rfl hg31 (op_bin (ltb rfl) rfl rfl rfl) ?_
             refine TriL.c1 rfl (op_pickt (ltb rfl) rfl hg31 rfl) ?_
             refine TriL.c1 rfl (op_mv (ltb rfl) rfl) ?_
             refine TriL.split (d := 91) rfl (fun hg32 => ?_) (fun hg32 => ?_)
             ·refine TriL.g1 rfl (ltb rfl) rfl hg32 (op_fal (ltb rfl) fo46_8_q rfl) ?_
              refine TriL.g1 rfl (ltb rfl) rfl hg32 (op_ldl (ltb rfl) lk40_q rfl rfl rfl) ?_
              refine TriL.g1 rfl (ltb rfl) rfl hg32 (op_lenl (ltb rfl) un40_q rfl) ?_
              refine TriL.g1 rfl (ltb rfl) rfl hg32 (op_bin (ltb rfl) rfl rfl rfl) ?_
              refine TriL.c1 rfl (op_pickt (ltb rfl) rfl hg32 rfl) ?_
              refine TriL.c1 rfl (op_mv (ltb rfl) rfl) ?_
              refine TriL.split (d := 97) rfl (fun hg33 => ?_) (fun hg33 => ?_)
              ·refine TriL.g1 rfl (ltb rfl) rfl hg33 (op_fal (ltb rfl) fo46_8_q rfl) ?_
               refine TriL.g1 rfl (ltb rfl) rfl hg33 (op_ldl (ltb rfl) lk40_q rfl rfl rfl) ?_
               refine TriL.g1 rfl (ltb rfl) rfl hg33 (op_call (ltb rfl) fn38_q rfl (r_names _ hb.n)) ?_
               refine TriL.c1 rfl (op_pickt (ltb rfl) rfl hg33 rfl) ?_
               refine TriL.c1 rfl (op_mv (ltb rfl) rfl) ?_
               refine TriL.split (d := 102) rfl (fun hg34 => ?_) (fun hg34 => ?_)
               ·refine TriL.g1 rfl (ltb rfl) rfl hg34 (op_fal (ltb rfl) fo46_8_q rfl) ?_
                refine TriL.g1 rfl (ltb rfl) rfl hg34 (op_ldl (ltb rfl) lk40_q rfl rfl rfl) ?_
                refine TriL.g1 rfl (ltb rfl) rfl hg34 (op_call (ltb rfl) fn39_q rfl (r_once _ hb.n)) ?_
                refine TriL.c1 rfl (op_pickt (ltb rfl) rfl hg34 rfl) ?_
                refine TriL.c1 rfl (op_as (ltb rfl) rfl) ?_
                refine TriL.nil (Tri.ret ?_)
                exact ⟨.inr rfl, (ResOK.r1 rfl (.tmp rfl .nil)).cast (congrArg AV.bool (by have hm : (x.names.map AV.str).length = x.names.length := List.length_map _; grind [Stp.right2])), rfl⟩
               ·iterate 3 (refine TriL.skipu rfl rfl (ltb rfl) (ltb rfl) rfl hg34 ?_)
                refine TriL.c1 rfl (op_pickf (ltb rfl) rfl hg34 rfl) ?_
                refine TriL.c1 rfl (op_as (ltb rfl) rfl) ?_
                refine TriL.nil (Tri.ret ?_)
                exact ⟨.inr rfl, (ResOK.r1 rfl (.tmp rfl .nil)).cast (congrArg AV.bool (by have hm : (x.names.map AV.str).length = x.names.length := List.length_map _; grind [Stp.right2])), rfl⟩
              ·iterate 3 (refine TriL.skipu rfl rfl (ltb rfl) (ltb rfl) rfl hg33 ?_)
               refine TriL.c1 rfl (op_pickf (ltb rfl) rfl hg33 rfl) ?_
               refine TriL.c1 rfl (op_mv (ltb rfl) rfl) ?_
               iterate 3 (refine TriL.skipu rfl rfl (ltb rfl) (ltb rfl) rfl rfl ?_)
               refine TriL.c1 rfl (op_pickf (ltb rfl) rfl rfl rfl) ?_
               refine TriL.c1 rfl (op_as (ltb rfl) rfl) ?_
               refine TriL.nil (Tri.ret ?_)
               exact ⟨.inr rfl, (ResOK.r1 rfl (.tmp rfl .nil)).cast (congrArg AV.bool (by have hm : (x.names.map AV.str).length = x.names.length := List.length_map _; grind [Stp.right2])), rfl⟩
             ·iterate 4 (refine TriL.skipu rfl rfl (ltb rfl) (ltb rfl) rfl hg32 ?_)
              refine TriL.c1 rfl (op_pickf (ltb rfl) rfl hg32 rfl) ?_
              refine TriL.c1 rfl (op_mv (ltb rfl) rfl) ?_
              iterate 3 (refine TriL.skipu rfl rfl (ltb rfl) (ltb rfl) rfl rfl ?_)
              refine TriL.c1 rfl (op_pickf (ltb rfl) rfl rfl rfl) ?_
              refine TriL.c1 rfl (op_mv (ltb rfl) rfl) ?_
              iterate 3 (refine TriL.skipu rfl rfl (ltb rfl) (ltb rfl) rfl rfl ?_)
              refine TriL.c1 rfl (op_pickf (ltb rfl) rfl rfl rfl) ?_
              refine TriL.c1 rfl (op_as (ltb rfl) rfl) ?_
              refine TriL.nil (Tri.ret ?_)
              exact ⟨.inr rfl, (ResOK.r1 rfl (.tmp rfl .nil)).cast (congrArg AV.bool (by have hm : (x.names.map AV.str).length = x.names.length := List.length_map _; grind [Stp.right2])), rfl⟩
            ·iterate 4 (refine TriL.skipu rfl rfl (ltb rfl) (ltb rfl) rfl hg31 ?_)
             refine TriL.c1 rfl (op_pickf (ltb rfl) rfl hg31 rfl) ?_
             refine TriL.c1 rfl (op_mv (ltb rfl) rfl) ?_
             iterate 4 (refine TriL.skipu rfl rfl (ltb rfl) (ltb rfl) rfl rfl ?_)
             refine TriL.c1 rfl (op_pickf (ltb rfl) rfl rfl rfl) ?_
             refine TriL.c1 rfl (op_mv (ltb rfl) rfl) ?_
             iterate 3 (refine TriL.skipu rfl rfl (ltb rfl) (ltb rfl) rfl rfl ?_)
             refine TriL.c1 rfl (op_pickf (ltb rfl) rfl rfl rfl) ?_
             refine TriL.c1 rfl (op_mv (ltb rfl) rfl) ?_
             iterate 3 (refine TriL.skipu rfl rfl (ltb rfl) (ltb rfl) rfl rfl ?_)
             refine TriL.c1 rfl (op_pickf (ltb rfl) rfl rfl rfl) ?_
             refine TriL.c1 rfl (op_as (ltb rfl) rfl) ?_
             refine TriL.nil (Tri.ret ?_)
             exact ⟨.inr rfl, (ResOK.r1 rfl (.tmp rfl .nil)).cast (congrArg AV.bool (by have hm : (x.names.map AV.str).length = x.names.length := List.length_map _; grind [Stp.right2])), rfl⟩
           ·refine Tri.seq (Tri.region ?_)
            refine TriL.c1 rfl (op_bin (ltb rfl) rfl rfl rfl) ?_
            refine TriL.c1 rfl (op_as (ltb rfl) rfl) ?_
            refine TriL.nil ?_
            refine Tri.cond rfl (fun hc35 => ?_) (fun hc35 => ?_)
            ·refine Tri.seq (Tri.region ?_)
             refine TriL.c1 rfl (op_ldl (ltb rfl) lk46_q rfl rfl rfl) ?_
             refine TriL.c1 rfl (op_call (ltb rfl) fn36_q rfl (r_part _ _ _ _ _)) ?_
             refine TriL.c1 rfl (op_mv (ltb rfl) rfl) ?_
             refine TriL.split (d := 111) rfl (fun hg36 => ?_) (fun hg36 => ?_)
             ·refine TriL.g1 rfl (ltb rfl) rfl hg36 (op_fal (ltb rfl) fo46_7_q rfl) ?_
              refine TriL.g1 rfl (ltb rfl) rfl hg36 (op_ldl (ltb rfl) lk3_q rfl rfl rfl) ?_
              refine TriL.g1 rfl (ltb rfl) rfl hg36 (op_bin (ltb rfl) rfl rfl rfl) ?_
              refine TriL.c1 rfl (op_pickt (ltb rfl) rfl hg36 rfl) ?_
              refine TriL.c1 rfl (op_mv (ltb rfl) rfl) ?_
              refine TriL.split (d := 116) rfl (fun hg37 => ?_) (fun hg37 => ?_)
              ·refine TriL.g1 rfl (ltb rfl) rfl hg37 (op_fal (ltb rfl) fo46_7_q rfl) ?_
               refine TriL.g1 rfl (ltb rfl) rfl hg37 (op_ldl (ltb rfl) lk3_q rfl rfl rfl) ?_
               refine TriL.g1 rfl (ltb rfl) rfl hg37 (op_bin (ltb rfl) rfl rfl rfl) ?_
               refine TriL.c1 rfl (op_pickt (ltb rfl) rfl hg37 rfl) ?_
               refine TriL.c1 rfl (op_mv (ltb rfl) rfl) ?_
               refine TriL.split (d := 121) rfl (fun hg38 => ?_) (fun hg38 => ?_)
               ·refine TriL.g1 rfl (ltb rfl) rfl hg38 (op_bld (ltb rfl) spl94_q zA94_q rfl rfl) ?_
                refine TriL.g1 rfl (ltb rfl) rfl hg38 (op_fal (ltb rfl) fo46_7_q rfl) ?_
                refine TriL.g1 rfl (ltb rfl) rfl hg38 (op_ldl (ltb rfl) lk3_q rfl rfl rfl) ?_
                refine TriL.g1 rfl (ltb rfl) rfl hg38 (op_bld (ltb rfl) spl96_q zA96_q rfl rfl) ?_
                refine TriL.g1 rfl (ltb rfl) rfl hg38 (op_fal (ltb rfl) fo46_9_q rfl) ?_
                refine TriL.g1 rfl (ltb rfl) rfl hg38 (op_ldl (ltb rfl) lk44_q rfl rfl rfl) ?_
                refine TriL.g1 rfl (ltb rfl) rfl hg38 (op_call (ltb rfl) fn40_q rfl (r_val sch0 (fldT x.ty) x.dv hb.s fun u hu name => r_tree sch0 sch0_fine u (hb.u u hu) name)) ?_
                refine TriL.c1 rfl (op_pickt (ltb rfl) rfl hg38 rfl) ?_
                refine TriL.c1 rfl (op_as (ltb rfl) rfl) ?_
                refine TriL.nil (Tri.ret ?_)
                exact ⟨.inr rfl, (ResOK.r1 rfl (.tmp rfl .nil)).cast (congrArg AV.bool (by have hm : (x.names.map AV.str).length = x.names.length := List.length_map _; grind [Stp.right2])), rfl⟩
               ·iterate 7 (refine TriL.skipu rfl rfl (ltb rfl) (ltb rfl) rfl hg38 ?_)
                refine TriL.c1 rfl (op_pickf (ltb rfl) rfl hg38 rfl) ?_
                refine TriL.c1 rfl (op_as (ltb rfl) rfl) ?_
                refine TriL.nil (Tri.ret ?_)
                exact ⟨.inr rfl, (ResOK.r1 rfl (.tmp rfl .nil)).cast (congrArg AV.bool (by have hm : (x.names.map AV.str).length = x.names.length := List.length_map _; grind [Stp.right2])), rfl⟩
              ·iterate 3 (refine TriL.skipu rfl rfl (ltb rfl) (ltb rfl) rfl hg37 ?_)
               refine TriL.c1 rfl (op_pickf (ltb rfl) rfl hg37 rfl) ?_
               refine TriL.c1 rfl (op_mv (ltb rfl) rfl) ?_
               iterate 7 (refine TriL.skipu rfl rfl (ltb rfl) (ltb rfl) rfl rfl ?_)
               refine TriL.c1 rfl (op_pickf (ltb rfl) rfl rfl rfl) ?_
               refine TriL.c1 rfl (op_as (ltb rfl) rfl) ?_
               refine TriL.nil (Tri.ret ?_)
               exact ⟨.inr rfl, (ResOK.r1 rfl (.tmp rfl .nil)).cast (congrArg AV.bool (by have hm : (x.names.map AV.str).length = x.names.length := List.length_map _; grind [Stp.right2])), rfl⟩
             ·iterate 3 (refine TriL.skipu rfl rfl (ltb rfl) (ltb rfl) rfl hg36 ?_)
              refine TriL.c1 rfl (op_pickf (ltb rfl) rfl hg36 rfl) ?_
              refine TriL.c1 rfl (op_mv (ltb rfl) rfl) ?_
              iterate 3 (refine TriL.skipu rfl rfl (ltb rfl) (ltb rfl) rfl rfl ?_)
              refine TriL.c1 rfl (op_pickf (ltb rfl) rfl rfl rfl) ?_
              refine TriL.c1 rfl (op_mv (ltb rfl) rfl) ?_
              iterate 7 (refine TriL.skipu rfl rfl (ltb rfl) (ltb rfl) rfl rfl ?_)
              refine TriL.c1 rfl (op_pickf (ltb rfl) rfl rfl rfl) ?_
              refine TriL.c1 rfl (op_as (ltb rfl) rfl) ?_
              refine TriL.nil (Tri.ret ?_)
              exact ⟨.inr rfl, (ResOK.r1 rfl (.tmp rfl .nil)).cast (congrArg AV.bool (by have hm : (x.names.map AV.str).length = x.names.length := List.length_map _; grind [Stp.right2])), rfl⟩
            ·refine Tri.skip (Tri.seq (Tri.region ?_))
             refine TriL.c1 rfl (op_as (ltb rfl) rfl) ?_
             refine TriL.nil (Tri.ret ?_)
             exact ⟨.inr rfl, (ResOK.r1 rfl (.tmp rfl .nil)).cast (congrArg AV.bool (by have hm : (x.names.map AV.str).length = x.names.length := List.length_map _; grind [Stp.right2])), rfl⟩
theorem r_right (x : Stp) (hb : x.big) : Pure Tryz.prog 18 [x.av] (.bool x.right) := right_eq x ▸ r_right2 x hb
/- Plain laws: what is read of a text is not longer than it. No condition. -/
theorem txtGo_len : ∀ (n : Nat) (l out : List UInt8) (p : Nat) (o : List UInt8) (k : Nat), l.length ≤ n → txtGo l out p = some (o, k) → o.length ≤ out.length + l.length
 | n, [], out, p, o, k, _, h => by simp [txtGo] at h
 | 0, c :: r, out, p, o, k, hn, h => by simp at hn
 | n + 1, c :: r, out, p, o, k, hn, h => by
  unfold txtGo at h
  split at h
  ·split at h
   ·cases h; simp
   ·rename_i d r'
    split at h
    ·have := txtGo_len n r' _ _ o k (by simp at hn; omega) h
     simp at this ⊢; omega
    ·cases h; simp
  ·have := txtGo_len n r _ _ o k (by simp at hn; omega) h
   simp at this ⊢; omega
theorem nxt_s (s : List UInt8) : (nxtT s).1.s.length ≤ s.length := by
 unfold nxtT
 split
 ·cases s with
  | nil => simp [wordT]
  | cons c r =>
   unfold wordT
   simp only
   split
   ·simp; omega
   ·simp
 ·split
  ·unfold numTk
   split <;> simp [zeroT]
  ·split
   ·unfold txtTk
    split
    ·rename_i o k e
     cases s with
     | nil => simp [txtT] at e
     | cons c r =>
      unfold txtT at e
      simp only at e
      split at e
      ·have := txtGo_len _ r [] 1 o k (Nat.le_refl _) e
       simp at this ⊢; omega
      ·cases e
    ·simp [zeroT]
   ·cases s with
    | nil => simp [markT, zeroT]
    | cons c r =>
     unfold markT
     simp only
     split
     ·simp
     ·simp [zeroT]
theorem lexGo_s : ∀ (n : Nat) (r : List UInt8) (p : Nat), r.length ≤ n → ∀ t ∈ (lexGo r p).1, t.s.length ≤ r.length
 | n, [], p, _, t, h => by simp [lexGo_nil] at h
 | 0, c :: r, p, hn, _, _ => by simp at hn
 | n + 1, c :: r, p, hn, t, h => by
  by_cases hb : isBl c = true
  ·rw [lexGo_bl hb] at h
   have := lexGo_s n r (p + 1) (by simp at hn; omega) t h
   simp; omega
  ·have hb' : isBl c = false := by simpa using hb
   by_cases hr : isRem (c :: r) = true
   ·rw [lexGo_rem hb' hr] at h
    have h3 := spn_rem hr
    have := lexGo_s n _ _ (by rw [List.length_drop]; simp at hn ⊢; omega) t h
    rw [List.length_drop] at this; omega
   ·have hr' : isRem (c :: r) = false := by simpa using hr
    by_cases hk : (nxtT (c :: r)).2 = 0
    ·rw [lexGo_no hb' hr' hk] at h; simp at h
    ·rw [lexGo_tok hb' hr' hk] at h
     rcases List.mem_cons.1 h with rfl | h
     ·exact nxt_s _
     ·have := lexGo_s n _ _ (by rw [List.length_drop]; simp at hn ⊢; omega) t h
      rw [List.length_drop] at this; omega
theorem lexT_s {s : Str} (i : Nat) : (tkAt (lexT s) i).s.length ≤ s.length := by
 unfold tkAt
 rw [List.getD_eq_getElem?_getD]
 cases e : (lexT s)[i]? with
 | none => simp [endTk]
 | some t =>
  simp only [Option.getD_some]
  rcases List.mem_append.1 (List.mem_of_getElem? e) with h | h
  ·exact lexGo_s s.length s 0 (Nat.le_refl _) t h
  ·simp at h; subst h; simp [endAt]
/-- what is read into a step is not long -/
structure Stp.lim (N : Nat) (x : Stp) : Prop where
 n : x.names.length ≤ N
 s : x.dv.s.length ≤ N
 m : x.dv.m = []
theorem gFields_same {L : List Tk} {x y : Stp} {i j : Nat} (h : gFields L x i = .ok y j) : y.names = x.names ∧ y.dv = x.dv ∧ y.kind = x.kind ∧ y.msg = x.msg ∧ y.field = x.field := by
 unfold gFields at h
 obtain ⟨x1, a1, h1, h⟩ := PR.inv h
 have m1 : x1.names = x.names ∧ x1.dv = x.dv ∧ x1.kind = x.kind ∧ x1.msg = x.msg ∧ x1.field = x.field := by
  split at h1
  ·obtain ⟨_, _, _, h1⟩ := PR.inv h1
   obtain ⟨_, _, _, h1⟩ := PR.inv h1
   cases h1; exact ⟨rfl, rfl, rfl, rfl, rfl⟩
  ·cases h1; exact ⟨rfl, rfl, rfl, rfl, rfl⟩
 obtain ⟨_, _, _, h⟩ := PR.inv h
 obtain ⟨_, _, _, h⟩ := PR.inv h
 obtain ⟨x2, a2, h2, h⟩ := PR.inv h
 have m2 : x2.names = x.names ∧ x2.dv = x.dv ∧ x2.kind = x.kind ∧ x2.msg = x.msg ∧ x2.field = x.field := by
  split at h2
  ·obtain ⟨_, _, _, h2⟩ := PR.inv h2
   obtain ⟨_, _, _, h2⟩ := PR.inv h2
   cases h2; exact m1
  ·cases h2; exact m1
 obtain ⟨_, _, _, h⟩ := PR.inv h
 split at h
 ·obtain ⟨_, _, _, h⟩ := PR.inv h
  obtain ⟨_, _, _, h⟩ := PR.inv h
  obtain ⟨_, _, _, h⟩ := PR.inv h
  cases h; exact m2
 ·cases h; exact m2
theorem gMore_len {L : List Tk} : ∀ {n : Nat} {acc : List Str} {i j : Nat} {l : List Str}, gMore L n acc i = .ok l j → l.length ≤ acc.length + n
 | 0, acc, i, j, l, h => by cases h; simp
 | n + 1, acc, i, j, l, h => by
  unfold gMore at h
  split at h
  ·obtain ⟨_, _, _, h⟩ := PR.inv h
   have := gMore_len h
   simp at this; omega
  ·cases h; omega
theorem gNames_len {L : List Tk} {i j : Nat} {l : List Str} (h : gNames L i = .ok l j) : l.length ≤ L.length + 1 := by
 unfold gNames at h
 obtain ⟨_, _, _, h⟩ := PR.inv h
 have := gMore_len h
 simp at this; omega
theorem gVal_s {L : List Tk} {N : Nat} (hN : ∀ i, (tkAt L i).s.length ≤ N) {t : Int} {i j : Nat} {v : Val} (h : gVal L t i = .ok v j) : v.s.length ≤ N := by
 unfold gVal at h
 split at h
 ·split at h
  ·cases h; exact Nat.zero_le _
  ·obtain ⟨_, _, _, h⟩ := PR.inv h
   cases h; exact Nat.zero_le _
 ·split at h
  ·obtain ⟨x, _, h1, h⟩ := PR.inv h
   cases h
   rw [(gOf_ok h1).2.2.1]; exact hN i
  ·obtain ⟨_, _, _, h⟩ := PR.inv h
   cases h; exact Nat.zero_le _
theorem gRest_lim {L : List Tk} {N : Nat} (hN : ∀ i, (tkAt L i).s.length ≤ N) (hL : L.length + 1 ≤ N) {x y : Stp} {i j : Nat} (h : gRest L x i = .ok y j) (hm : x.lim N) : y.lim N := by
 unfold gRest at h
 obtain ⟨z, a, h0, h⟩ := PR.inv h
 obtain ⟨_, _, _, h⟩ := PR.inv h
 cases h
 unfold gRest0 at h0
 split at h0
 ·obtain ⟨_, _, _, h0⟩ := PR.inv h0
  obtain ⟨_, _, _, h0⟩ := PR.inv h0
  cases h0; exact ⟨hm.n, hm.s, hm.m⟩
 split at h0
 ·obtain ⟨_, _, _, h0⟩ := PR.inv h0
  obtain ⟨_, _, _, h0⟩ := PR.inv h0
  cases h0; exact ⟨hm.n, hm.s, hm.m⟩
 split at h0
 ·obtain ⟨_, _, _, h0⟩ := PR.inv h0
  obtain ⟨_, _, _, h0⟩ := PR.inv h0
  cases h0; exact ⟨hm.n, hm.s, hm.m⟩
 split at h0
 ·have := gFields_same h0
  exact ⟨by rw [this.1]; exact hm.n, by rw [this.2.1]; exact hm.s, by rw [this.2.1]; exact hm.m⟩
 split at h0
 ·obtain ⟨_, _, _, h0⟩ := PR.inv h0
  obtain ⟨l, _, h1, h0⟩ := PR.inv h0
  cases h0; exact ⟨Nat.le_trans (gNames_len h1) hL, hm.s, hm.m⟩
 split at h0
 ·obtain ⟨_, _, _, h0⟩ := PR.inv h0
  obtain ⟨_, _, _, h0⟩ := PR.inv h0
  obtain ⟨_, _, _, h0⟩ := PR.inv h0
  obtain ⟨_, _, h1, h0⟩ := PR.inv h0
  cases h0; exact ⟨hm.n, gVal_s hN h1, gVal_m h1⟩
 ·cases h0; exact hm
theorem gStep_lim {L : List Tk} {N : Nat} (hN : ∀ i, (tkAt L i).s.length ≤ N) (hL : L.length + 1 ≤ N) {y : Stp} {i j : Nat} (h : gStep L i = .ok y j) : y.lim N := by
 unfold gStep at h
 obtain ⟨_, _, _, h⟩ := PR.inv h
 obtain ⟨_, _, _, h⟩ := PR.inv h
 obtain ⟨_, _, _, h⟩ := PR.inv h
 obtain ⟨_, _, _, h⟩ := PR.inv h
 exact gRest_lim hN hL h ⟨Nat.zero_le _, Nat.zero_le _, rfl⟩
theorem gSteps_lim {L : List Tk} {N : Nat} (hN : ∀ i, (tkAt L i).s.length ≤ N) (hL : L.length + 1 ≤ N) : ∀ {n : Nat} {acc : List (Stp × Nat)} {i j : Nat} {l : List (Stp × Nat)}, gSteps L n acc i = .ok l j → (∀ p ∈ acc, p.1.lim N) → ∀ p ∈ l, p.1.lim N
 | 0, acc, i, j, l, h, ha => by cases h; exact ha
 | n + 1, acc, i, j, l, h, ha => by
  unfold gSteps at h
  split at h
  ·cases h; exact ha
  ·obtain ⟨x, k, h1, h2⟩ := PR.inv h
   refine gSteps_lim hN hL h2 fun p hp => ?_
   rcases List.mem_append.1 hp with hp | hp
   ·exact ha p hp
   ·simp at hp; subst hp; exact gStep_lim hN hL h1
theorem gSteps_len {L : List Tk} : ∀ {n : Nat} {acc : List (Stp × Nat)} {i j : Nat} {l : List (Stp × Nat)}, gSteps L n acc i = .ok l j → l.length ≤ acc.length + n
 | 0, acc, i, j, l, h => by cases h; simp
 | n + 1, acc, i, j, l, h => by
  unfold gSteps at h
  split at h
  ·cases h; omega
  ·obtain ⟨x, k, h1, h2⟩ := PR.inv h
   have := gSteps_len h2
   simp at this; omega
theorem mSteps_lim {s : Str} : (∀ p ∈ (mSteps s).l, p.1.lim 6010) ∧ (mSteps s).l.length ≤ 6010 := by
 unfold mSteps
 split
 ·exact ⟨by simp, by simp⟩
 ·rename_i hs
  have hl := lexGo_len s.length s 0 (Nat.le_refl _)
  have hT : (lexT s).length ≤ 6001 := by simp [lexT]; omega
  split
  ·exact ⟨by simp, by simp⟩
  ·cases e : gSteps (lexT s) (lexT s).length [] 0 with
   | ok l j => exact ⟨gSteps_lim (fun i => by have := lexT_s (s := s) i; omega) (by omega) e (by simp), by have := gSteps_len e; simp [mOf] at this ⊢; omega⟩
   | bad j => exact ⟨by simp [mOf], by simp [mOf]⟩
theorem Stp.lim.big {N : Nat} {x : Stp} (h : x.lim N) (hN : N ≤ 9223372036854775807) : x.big := ⟨Nat.le_trans h.s hN, (fun t ht => (by rw [h.m] at ht; cases ht)), Nat.le_trans h.n hN⟩
/-- Parse: the steps, or where they are wrong -/
def mParse (s : Str) : List Stp × Nat × Int :=
 if (mSteps s).e ≠ 0 then ([], (mSteps s).n, (mSteps s).e)
 else if 16 < (mSteps s).l.length then ([], s.length, 4)
 else match (mSteps s).l.find? (fun p => !p.1.right) with
  | some p => ([], p.2, 1)
  | none => ((mSteps s).l.map (·.1), s.length, 0)
def parseV (s : Str) : AV := .tup [.sl ((mParse s).1.map Stp.av), .int .i64 ((mParse s).2.1 : Int), .int .i64 (mParse s).2.2]
theorem find_step {α : Type} {p : α → Bool} {l : List α} {k : Nat} (h : k < l.length) : (l.drop k).find? p = if p l[k] then some l[k] else (l.drop (k + 1)).find? p := by
 rw [List.drop_eq_getElem_cons h, List.find?_cons]
 cases p l[k] <;> rfl
theorem find_end {α : Type} {p : α → Bool} {l : List α} {k : Nat} (h : l.length ≤ k) : (l.drop k).find? p = none := by
 rw [List.drop_of_length_le h]; rfl
/- mparse: Starts and Parse. -/
theorem fn16_q : isFn Tryz.prog 16 = true := by kernel_rfl
theorem fn17_q : isFn Tryz.prog 17 = true := by kernel_rfl
theorem ie23_q : ie Tryz.prog 23 = some 12 := by kernel_rfl
theorem ie34_q : ie Tryz.prog 34 = some 1 := by kernel_rfl
theorem un23_q : Tryz.prog.underlying 23 = some (TypeDesc.slice 46) := Tryz.underlying23
theorem steps_pure (s : Str) (hs : s.length ≤ 1073741824) : Pure Tryz.prog 16 [.str s] (mSteps s).av := by
 have hA := all_pure s 6000 hs
 by_cases h : 6000 < s.length
 ·rw [allV_long (by omega)] at hA
  exact steps_bad s 0 3 (by decide) (if_pos h) hA
 ·cases e : lexGo s 0 with
  | mk ts o =>
   cases o with
   | some p =>
    rw [allV_bad (by omega) e] at hA
    exact steps_bad s p 2 (by decide) (by unfold mSteps; rw [if_neg h, e]) hA
   | none =>
    rw [allV_ok (by omega) e] at hA
    have e2 : (lexGo s 0).2 = none := by rw [e]
    have e3 : lexT s = ts ++ [(⟨0, [], 0, false, s.length⟩ : Tk)] := by unfold lexT; rw [e]; rfl
    rw [← e3] at hA
    exact steps_ok s (by omega) e2 hA
theorem len_gt {α β : Type} {f : α → β} {l : List α} {n : Nat} (h : decide (((l.map f).length : Int) > (n : Int)) = true) : n < l.length := by
 have := of_decide_eq_true h; rw [List.length_map] at this; omega
theorem len_le {α β : Type} {f : α → β} {l : List α} {n : Nat} (h : decide (((l.map f).length : Int) > (n : Int)) = false) : ¬ n < l.length := by
 have := of_decide_eq_false h; rw [List.length_map] at this; omega
theorem mpparse_no {s : Str} (h : (mSteps s).e ≠ 0) : parseV s = .tup [.sl [], .int .i64 ((mSteps s).n : Int), .int .i64 (mSteps s).e] := by unfold parseV mParse; rw [if_pos h]; rfl
theorem mpparse_many {s : Str} (h : (mSteps s).e = 0) (h2 : 16 < (mSteps s).l.length) : parseV s = .tup [.sl [], .int .i64 (s.length : Int), .int .i64 4] := by unfold parseV mParse; rw [if_neg (by simp [h]), if_pos h2]; rfl
theorem mpparse_bad {s : Str} (h : (mSteps s).e = 0) (h2 : ¬ 16 < (mSteps s).l.length) {p : Stp × Nat} (h3 : (mSteps s).l.find? (fun p => !p.1.right) = some p) : parseV s = .tup [.sl [], .int .i64 (p.2 : Int), .int .i64 1] := by unfold parseV mParse; rw [if_neg (by simp [h]), if_neg h2, h3]; rfl
theorem mpparse_ok {s : Str} (h : (mSteps s).e = 0) (h2 : ¬ 16 < (mSteps s).l.length) (h3 : (mSteps s).l.find? (fun p => !p.1.right) = none) : parseV s = .tup [stpsV (mSteps s).l, .int .i64 (s.length : Int), .int .i64 0] := by
 unfold parseV mParse; rw [if_neg (by simp [h]), if_neg h2, h3]
 simp [stpsV]
theorem parse_pure (s : Str) (hs : s.length ≤ 1073741824) : Pure Tryz.prog 7 [.str s] (parseV s) := by
 refine Pure.of_tri Tryz.func7 rfl rfl (ltb rfl) fun H => ?_
 refine Tri.seq (Tri.region ?_)
 iterate 3 (refine TriL.c1 rfl (op_as (ltb rfl) rfl) ?_)
 refine TriL.nil (Tri.seq (Tri.region ?_))
 refine TriL.c1 rfl (op_mv (ltb rfl) rfl) ?_
 refine TriL.c1 rfl (op_call (ltb rfl) fn16_q rfl (steps_pure s hs)) ?_
 refine TriL.c1 rfl (op_mv (ltb rfl) rfl) ?_
 iterate 4 (refine TriL.c1 rfl (op_ext (ltb rfl) rfl rfl) ?_)
 iterate 4 (refine TriL.c1 rfl (op_as (ltb rfl) rfl) ?_)
 refine TriL.nil (Tri.seq (Tri.blk (Tri.seq (Tri.region ?_))))
 refine TriL.c1 rfl (op_mv (ltb rfl) rfl) ?_
 refine TriL.c1 rfl (op_bin (ltb rfl) rfl rfl rfl) ?_
 refine TriL.c1 rfl (op_as (ltb rfl) rfl) ?_
 refine TriL.nil ?_
 refine Tri.cond rfl (fun hc1 => ?_) (fun hc1 => ?_)
 ·refine Tri.seq (Tri.region ?_)
  iterate 2 (refine TriL.c1 rfl (op_mv (ltb rfl) rfl) ?_)
  iterate 3 (refine TriL.c1 rfl (op_as (ltb rfl) rfl) ?_)
  refine TriL.nil (Tri.ret ?_)
  exact ⟨.inr rfl, (ResOK.r3 rfl (.tmp rfl (.tmp rfl (.tmp rfl .nil)))).cast (mpparse_no (by simpa using hc1)).symm, rfl⟩
 ·refine Tri.seq (Tri.region ?_)
  refine TriL.c1 rfl (op_mv (ltb rfl) rfl) ?_
  refine TriL.c1 rfl (op_lenl (ltb rfl) un23_q rfl) ?_
  refine TriL.c1 rfl (op_bin (ltb rfl) rfl rfl rfl) ?_
  refine TriL.c1 rfl (op_as (ltb rfl) rfl) ?_
  refine TriL.nil ?_
  refine Tri.cond rfl (fun hc2 => ?_) (fun hc2 => ?_)
  ·refine Tri.seq (Tri.region ?_)
   refine TriL.c1 rfl (op_mv (ltb rfl) rfl) ?_
   refine TriL.c1 rfl (op_lens (ltb rfl) un9_q rfl) ?_
   iterate 3 (refine TriL.c1 rfl (op_as (ltb rfl) rfl) ?_)
   refine TriL.nil (Tri.ret ?_)
   exact ⟨.inr rfl, (ResOK.r3 rfl (.tmp rfl (.tmp rfl (.tmp rfl .nil)))).cast (mpparse_many (by simpa using hc1) (len_gt hc2)).symm, rfl⟩
  ·refine Tri.skip (Tri.seq (Tri.seq (Tri.region ?_)))
   refine TriL.c1 rfl (op_mv (ltb rfl) rfl) ?_
   refine TriL.c1 rfl (op_lenl (ltb rfl) un23_q rfl) ?_
   refine TriL.c1 rfl (op_mv (ltb rfl) rfl) ?_
   refine TriL.nil (Tri.blk ?_)
   refine Tri.ofKept (Kept.keep [.s 31, .h, .s 0, .s 5, .s 6, .s 29, .s 30] rfl (by decide) (Kept.now ?_))
   -- LOOP 1
   refine Tri.loopk (fun (k : Nat) => [(.s 31, .sv (.v (.int .i64 (k : Int))))]) _ (fun (k : Nat) => ((mSteps s).l.drop k).find? (fun p => !p.1.right) = (mSteps s).l.find? (fun p => !p.1.right)) (fun (k : Nat) => (mSteps s).l.length - k) 0 rfl (by simp) ?_
   rintro k hI
   refine Tri.seq (Tri.region ?_)
   refine TriL.c1 rfl (op_bin (ltb rfl) rfl rfl rfl) ?_
   refine TriL.nil (Tri.seq ?_)
   refine Tri.cond rfl (fun hc3 => ?_) (fun hc3 => ?_)
   ·have hk := ltm hc3
    refine Tri.skip (Tri.seq (Tri.blk (Tri.seq (Tri.region ?_))))
    refine TriL.c1 rfl (op_mv (ltb rfl) rfl) ?_
    refine TriL.c1 rfl (op_iak (ltb rfl) ie23_q rfl rfl (Int.natCast_nonneg _) (ixm hk) rfl) ?_
    refine TriL.c1 rfl (op_ldk (ltb rfl) lk46_q rfl rfl) ?_
    refine TriL.c2 rfl (op_all (ltb rfl) zA46_q rfl) ?_
    refine TriL.c1 rfl (op_as (ltb rfl) rfl) ?_
    refine TriL.c1 rfl (op_stl lk46_q rfl rfl rfl rfl rfl (leb rfl)) ?_
    refine TriL.nil (Tri.seq (Tri.region ?_))
    refine TriL.c1 rfl (op_ldl (ltb rfl) lk46_q rfl rfl rfl) ?_
    refine TriL.c1 rfl (op_call (ltb rfl) fn17_q rfl (p_right _ ((mSteps_lim.1 _ (List.getElem_mem hk)).big (by decide)))) ?_
    refine TriL.c1 rfl (op_un (ltb rfl) rfl rfl) ?_
    refine TriL.nil ?_
    refine Tri.cond rfl (fun hc4 => ?_) (fun hc4 => ?_)
    ·refine Tri.seq ?_
     refine Tri.drawn mixed rfl ?_
     iterate 2 (refine TriD.c1 rfl (op_mv (ltb rfl) rfl) ?_)
     refine TriD.c1 rfl (op_iak (ltb rfl) ie34_q rfl rfl (Int.natCast_nonneg _) (ixm hk) rfl) ?_
     refine TriD.c1 rfl (op_ldk (ltb rfl) lk3_q rfl rfl) ?_
     iterate 3 (refine TriD.c1 rfl (op_as (ltb rfl) rfl) ?_)
     refine TriD.nil (by kernel_rfl) (Kept.now ?_)
     refine Tri.ret ?_
     exact ⟨.inr rfl, (ResOK.r3 rfl (.tmp rfl (.tmp rfl (.tmp rfl .nil)))).cast (mpparse_bad (by simpa using hc1) (len_le hc2) (by rw [← hI, find_step hk, if_pos (by simpa using hc4)])).symm, rfl⟩
    ·refine Tri.skip (Tri.region ?_)
     refine TriL.c1 rfl (op_bin (ltb rfl) rfl rfl rfl) ?_
     refine TriL.c1 rfl (op_mv (ltb rfl) rfl) ?_
     refine TriL.kept (Kept.seti 31 rfl (inc (by have := (mSteps_lim (s := s)).2; omega)) (Kept.keep [.s 31, .h, .s 0, .s 5, .s 6, .s 29, .s 30] rfl (by decide) (Kept.now ?_)))
     exact ⟨k + 1, by omega, by rw [← hI, find_step hk, if_neg (by simpa using hc4)], rfl⟩
   ·have hk := gem hc3
    refine Tri.exit (Tri.seq (Tri.region ?_))
    iterate 2 (refine TriL.c1 rfl (op_mv (ltb rfl) rfl) ?_)
    refine TriL.c1 rfl (op_lens (ltb rfl) un9_q rfl) ?_
    iterate 3 (refine TriL.c1 rfl (op_as (ltb rfl) rfl) ?_)
    refine TriL.nil (Tri.ret ?_)
    exact ⟨.inr rfl, (ResOK.r3 rfl (.tmp rfl (.tmp rfl (.tmp rfl .nil)))).cast (mpparse_ok (by simpa using hc1) (len_le hc2) (by rw [← hI, find_end hk])).symm, rfl⟩

/- the document: tokens, one by one. -/
/- the document: steps. -/
section
variable {L : List Tk} {t : Int} {i : Nat}
end
section
variable (L : List Tk)
end
/- the document: a step; all steps of a text. -/
/- Plain laws: what the document makes of tokens is what the grammar says, or wrong where it says. No condition. -/
def Fol {α : Type} (t : α × Nat × Bool) (r : PR α) : Prop := match r with
 | .ok a j => t = (a, j, false)
 | .bad j => t.2 = (j, true)
theorem Fol.cases {α : Type} {t : α × Nat × Bool} {r : PR α} (h : Fol t r) : (∃ a j, r = .ok a j ∧ t = (a, j, false)) ∨ ∃ j, r = .bad j ∧ t.2 = (j, true) := by
 cases r with
 | ok a j => exact .inl ⟨a, j, rfl, h⟩
 | bad j => exact .inr ⟨j, rfl, h⟩
/-- one behind the other -/
theorem Fol.bind {α β : Type} {t : α × Nat × Bool} {r : PR α} {f : α → Nat → PR β} {u : β × Nat × Bool} (h : Fol t r) (hok : ∀ a j, t = (a, j, false) → Fol u (f a j)) (hbad : ∀ j, t.2 = (j, true) → u.2 = (j, true)) : Fol u (r.bind f) := by
 cases r with
 | ok a j => exact hok a j h
 | bad j => exact hbad j h
section
variable {L : List Tk}
end
/- the document: the steps of a text, and what it answers. -/
end Go.Proofs.YtabihkfhoohfnaaGreatDoor.X
