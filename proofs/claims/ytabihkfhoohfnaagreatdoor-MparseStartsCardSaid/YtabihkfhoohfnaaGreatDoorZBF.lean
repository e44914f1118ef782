/-
 DERIVED: THE SHELF's CONTRACTS AT THIS DUMP, IN PLAIN WORDS (tools/lay-plain.mjs out of 'TryzShelf.lean', which tools/lay-shelf.mjs wrote): THE SAME DECLARATIONS UNDER THE SAME NAMES: 'import', 'namespace', 'open', 'def', 'theorem' AND NOTHING ELSE: no command of the shelf's: FOR A HAND-IN. Each laying: the table of numbers ('.._ren') and one theorem, a field a fact of the dump's own or the kernel's comparison; each contract: ONE APPLICATION.
-/
import Derived.Shelf.Strings.Builder1
import Derived.Shelf.Small.Bits
import Derived.Shelf.Small.Strs
import Derived.Shelf.Small.Wraps
import Derived.Shelf.Strings.BuilderF
import Derived.Shelf.Strings.BuilderK
import Derived.Shelf.Strconv.Itoa0
import Derived.Shelf.Strconv.Itoa1
import Derived.Shelf.LaysM
import Derived.Shelf.Strconv.Itoa2
import Derived.Shelf.Strconv.Itoa3
import Derived.Shelf.Strconv.Clone
import Derived.Ground.MpProg
import Derived.Shelf.Pu.ParseUintPublic10
import Derived.Shelf.Pu.ErrVarParseUint
import Derived.Shelf.Strings.Search1
import Derived.Shelf.Strings.Search2
import Derived.Shelf.Strings.Search3
import Derived.Shelf.Strings.Shaped
import Derived.Shelf.Sort.Plain
import Derived.Shelf.Strings.Prefix
import Derived.Shelf.Strings.BuilderCap
import Derived.Ground.Names2Prog
import Derived.Shelf.Slices.Clone
import Derived.Shelf.Slices.In.SortNone
import Derived.Ground.SlgnProg
import Derived.Shelf.SlicesE.Clone
import Derived.Test.YtabihkfhoohfnaaGreatDoorProg
import Derived.Lib.Walk
import Derived.Lib.ItoaMem
import Derived.WalkKit
import Derived.BigCall
import Derived.BigGuard
import Derived.Test.YtabihkfhoohfnaaGreatDoorZBC
import Derived.Lib.SmallJoins
import Derived.Test.YtabihkfhoohfnaaGreatDoorZBD
import Derived.Test.YtabihkfhoohfnaaGreatDoorZBE
namespace Go.Proofs
open Go.Shelf
def Tryz.lays137_ren : Go.Shelf.Ren := ⟨fun | 137 => 131 | 217 => 161 | 266 => 195 | n => n, fun | 9 => 9 | 5 => 5 | 3 => 3 | n => n, fun | n => n⟩
theorem Tryz.lays137 : Go.Proofs.Lays.n137 Tryz.prog Tryz.lays137_ren := {
 mixed := by kernel_rfl
 f137 := Tryz.func131.trans (congrArg some (by kernel_rfl))
 f217 := Tryz.func161.trans (congrArg some (by kernel_rfl))
 f266 := Tryz.func195.trans (congrArg some (by kernel_rfl))
 t3 := Tryz.underlying3
 a3 := Tryz.isAgg3
 z3 := Tryz.sizeOf3
 v3 := Tryz.zeroValue3
 t5 := Tryz.underlying5
 a5 := Tryz.isAgg5
 z5 := Tryz.sizeOf5
 v5 := Tryz.zeroValue5
 t9 := Tryz.underlying9
 a9 := Tryz.isAgg9
 z9 := Tryz.sizeOf9
 v9 := Tryz.zeroValue9 }
open Go.RowKit in
/-- strings.IndexByte: "IndexByte returns the index of the first instance of c in s, or -1 if c is not present in s.": IT RETURNS 'Lib.indexByte s c'; the world is as it was. (LAID: no walk: one application.) -/
theorem Tryz.strings_IndexByte (s : ByteArray) (c : Int) (w : World) :
  Calls Tryz.prog 131 #[.string s, .int .u8 c] w fun e w' => e = .returned (.int .i64 (Lib.indexByte s.data.toList c.toNat.toUInt8)) ∧ w' = w := Any.strings_IndexByte Tryz.lays137 s c w
def Tryz.lays103_ren : Go.Shelf.Ren := ⟨fun | 103 => 125 | 210 => 155 | 206 => 92 | n => n, fun | 9 => 9 | 4 => 4 | 24 => 165 | 3 => 3 | n => n, fun | n => n⟩
theorem Tryz.lays103 : Go.Proofs.Lays.n103 Tryz.prog Tryz.lays103_ren := {
 mixed := by kernel_rfl
 f103 := Tryz.func125.trans (congrArg some (by kernel_rfl))
 f206 := Tryz.func92.trans (congrArg some (by kernel_rfl))
 f210 := Tryz.func155.trans (congrArg some (by kernel_rfl))
 t3 := Tryz.underlying3
 a3 := Tryz.isAgg3
 z3 := Tryz.sizeOf3
 v3 := Tryz.zeroValue3
 t4 := Tryz.underlying4
 a4 := Tryz.isAgg4
 z4 := Tryz.sizeOf4
 v4 := Tryz.zeroValue4
 t9 := Tryz.underlying9
 a9 := Tryz.isAgg9
 z9 := Tryz.sizeOf9
 v9 := Tryz.zeroValue9
 t24 := Tryz.underlying165
 a24 := Tryz.isAgg165
 z24 := Tryz.sizeOf165
 v24 := Tryz.zeroValue165 }
open Go.RowKit in
/-- strings.CutPrefix: "CutPrefix returns s without the provided leading prefix string and reports whether it found the prefix. If s doesn't start with prefix, CutPrefix returns s, false. If prefix is the empty string, CutPrefix returns s, true.": IT RETURNS '(Lib.trimPrefix s p, Lib.hasPrefix s p)'; the world is as it was. (LAID: no walk: one application.) -/
theorem Tryz.strings_CutPrefix (s p : ByteArray) (w : World) :
  Calls Tryz.prog 125 #[.string s, .string p] w fun e w' => e = .returned (.tuple #[.string ⟨(Lib.trimPrefix s.data.toList p.data.toList).toArray⟩, .bool (Lib.hasPrefix s.data.toList p.data.toList)]) ∧ w' = w := Any.strings_CutPrefix Tryz.lays103 s p w
def Tryz.lays283_ren : Go.Shelf.Ren := ⟨fun | 283 => 211 | n => n, fun | 3 => 3 | 9 => 9 | 4 => 4 | n => n, fun | n => n⟩
theorem Tryz.lays283 : Go.Proofs.Lays.n283 Tryz.prog Tryz.lays283_ren := {
 mixed := by kernel_rfl
 f283 := Tryz.func211.trans (congrArg some (by kernel_rfl))
 t3 := Tryz.underlying3
 a3 := Tryz.isAgg3
 z3 := Tryz.sizeOf3
 v3 := Tryz.zeroValue3
 t4 := Tryz.underlying4
 a4 := Tryz.isAgg4
 z4 := Tryz.sizeOf4
 v4 := Tryz.zeroValue4
 t9 := Tryz.underlying9
 a9 := Tryz.isAgg9
 z9 := Tryz.sizeOf9
 v9 := Tryz.zeroValue9 }
open Go.Lib in
/-- internal/strconv.small: "small returns the string for an i with 0 <= i < nSmalls.": i's decimal numeral. The world is as it was. (LAID: no walk: one application.) -/
theorem Tryz.internal_strconv_small (i : Nat) (h : i < 100) (w : World) :
  Calls Tryz.prog 211 #[.int .i64 i] w fun e w' => e = .returned (.string ⟨(Lib.decDigits i).toArray⟩) ∧ w' = w := Any.internal_strconv_small Tryz.lays283 i h w
def Tryz.laysM284_ren : Go.Shelf.Ren := ⟨fun | 284 => 212 | 129 => 177 | 317 => 219 | 318 => 220 | n => n, fun | 53 => 41 | 3 => 3 | 212 => 242 | 0 => 0 | 4 => 4 | 46 => 153 | 5 => 5 | 9 => 9 | n => n, fun | 17 => 5 | n => n⟩
theorem Tryz.laysM284 : Go.Proofs.LaysM.n284 Tryz.prog Tryz.laysM284_ren := {
 mixed := by kernel_rfl
 f129 := Tryz.func177.trans (congrArg some (by kernel_rfl))
 f284 := Tryz.func212.trans (congrArg some (by kernel_rfl))
 f317 := Tryz.func219.trans (congrArg some (by kernel_rfl))
 f318 := Tryz.func220.trans (congrArg some (by kernel_rfl))
 t0 := Tryz.underlying0
 a0 := Tryz.isAgg0
 z0 := Tryz.sizeOf0
 v0 := Tryz.zeroValue0
 t3 := Tryz.underlying3
 a3 := Tryz.isAgg3
 z3 := Tryz.sizeOf3
 v3 := Tryz.zeroValue3
 t4 := Tryz.underlying4
 a4 := Tryz.isAgg4
 z4 := Tryz.sizeOf4
 v4 := Tryz.zeroValue4
 t5 := Tryz.underlying5
 a5 := Tryz.isAgg5
 z5 := Tryz.sizeOf5
 v5 := Tryz.zeroValue5
 t9 := Tryz.underlying9
 a9 := Tryz.isAgg9
 z9 := Tryz.sizeOf9
 v9 := Tryz.zeroValue9
 t46 := Tryz.underlying153
 a46 := Tryz.isAgg153
 z46 := Tryz.sizeOf153
 v46 := Tryz.zeroValue153
 t53 := Tryz.underlying41
 a53 := Tryz.isAgg41
 z53 := Tryz.sizeOf41
 v53 := Tryz.zeroValue41
 t212 := Tryz.underlying242
 a212 := Tryz.isAgg242
 z212 := Tryz.sizeOf242
 v212 := Tryz.zeroValue242
 g17 := by kernel_rfl
 i0 := by kernel_rfl
 i3 := by kernel_rfl
 i4 := by kernel_rfl
 i5 := by kernel_rfl
 i9 := by kernel_rfl
 i46 := by kernel_rfl
 i53 := by kernel_rfl
 i212 := by kernel_rfl
 m17 := by kernel_rfl }
open Go.Lib in
/-- internal/strconv.numDigits, at a d that is not 0: THE NUMBER OF d's DECIMAL DIGITS. The world is as it was. (LAID: no walk: one application.) -/
theorem Tryz.internal_strconv_numDigits (u : Nat) (h1 : 1 ≤ u) (h2 : u < 18446744073709551616) (w : World) (htab : Lib.TabIs Tryz.prog w "internal/strconv.uint64pow10" .u64 Lib.pow10Tab) :
  Calls Tryz.prog 212 #[.int .u64 u] w fun e w' => e = .returned (.int .i64 (Lib.nDigits u)) ∧ w' = w := Any.internal_strconv_numDigits Tryz.laysM284 u h1 h2 w htab
def Tryz.lays285_ren : Go.Shelf.Ren := ⟨fun | 285 => 213 | n => n, fun | 37 => 161 | 53 => 41 | 3 => 3 | 4 => 4 | 51 => 201 | 9 => 9 | 5 => 5 | 0 => 0 | n => n, fun | n => n⟩
theorem Tryz.lays285 : Go.Proofs.Lays.n285 Tryz.prog Tryz.lays285_ren := {
 mixed := by kernel_rfl
 f285 := Tryz.func213.trans (congrArg some (by kernel_rfl))
 t0 := Tryz.underlying0
 a0 := Tryz.isAgg0
 z0 := Tryz.sizeOf0
 v0 := Tryz.zeroValue0
 t3 := Tryz.underlying3
 a3 := Tryz.isAgg3
 z3 := Tryz.sizeOf3
 v3 := Tryz.zeroValue3
 t4 := Tryz.underlying4
 a4 := Tryz.isAgg4
 z4 := Tryz.sizeOf4
 v4 := Tryz.zeroValue4
 t5 := Tryz.underlying5
 a5 := Tryz.isAgg5
 z5 := Tryz.sizeOf5
 v5 := Tryz.zeroValue5
 t9 := Tryz.underlying9
 a9 := Tryz.isAgg9
 z9 := Tryz.sizeOf9
 v9 := Tryz.zeroValue9
 t37 := Tryz.underlying161
 a37 := Tryz.isAgg161
 z37 := Tryz.sizeOf161
 v37 := Tryz.zeroValue161
 t51 := Tryz.underlying201
 a51 := Tryz.isAgg201
 z51 := Tryz.sizeOf201
 v51 := Tryz.zeroValue201
 t53 := Tryz.underlying41
 a53 := Tryz.isAgg41
 z53 := Tryz.sizeOf41
 v53 := Tryz.zeroValue41 }
open Go.RowKit Go.Sort Go.Lib in
/-- internal/strconv.formatBase10: "formatBase10 formats the decimal representation of u into a. The caller is responsible for ensuring that a is big enough to hold u. If a is too big, leading zeros will be filled in as needed.": THE ROW HOLDS u's DIGITS ('FmtInv .. 0 ..': every place t holds 'dg u (len - 1 - t)'); all else is as it was but for the count of draws. (LAID: no walk: one application.) -/
theorem Tryz.internal_strconv_formatBase10 (blk off cap : Nat) (u : Nat) (d : Array UInt8) (w : World) (hH : Holds (fun (b : UInt8) => Value.int .u8 (b.toNat : Int)) w blk off d) (hu : u < 10 ^ d.size) (hu64 : u < 18446744073709551616) (hsz : d.size < 4611686018427387904) :
  Calls Tryz.prog 213 #[.slice (some ⟨blk, off, none⟩) d.size cap, .int .u64 u] w fun e w' =>
   e = .returned (.tuple #[]) ∧ ∃ (n v' : Nat) (dk : Array UInt8), w' = (putRow (fun (b : UInt8) => Value.int .u8 (b.toNat : Int)) w blk off dk).drewN n ∧ FmtInv d.size u 0 v' dk := Any.internal_strconv_formatBase10 Tryz.lays285 blk off cap u d w hH hu hu64 hsz
def Tryz.laysPu14_ren : Go.Shelf.Ren := ⟨fun | 14 => 126 | 16 => 156 | 17 => 157 | 19 => 184 | 20 => 185 | 21 => 186 | 22 => 187 | 23 => 188 | 24 => 189 | 25 => 208 | 27 => 210 | 26 => 209 | 28 => 218 | 29 => 223 | 30 => 211 | 31 => 212 | 32 => 213 | 33 => 214 | 35 => 177 | 34 => 219 | 36 => 220 | 37 => 221 | 38 => 222 | 39 => 224 | 40 => 225 | n => n, fun | 9 => 9 | 3 => 3 | 22 => 41 | 24 => 168 | 25 => 169 | 4 => 4 | 34 => 207 | 5 => 5 | 36 => 153 | 37 => 161 | 0 => 0 | 39 => 209 | 21 => 21 | 44 => 226 | 47 => 191 | 50 => 240 | 48 => 238 | 2 => 2 | 52 => 228 | 55 => 230 | 59 => 242 | 60 => 201 | 20 => 20 | 61 => 243 | 65 => 245 | 66 => 246 | 67 => 106 | n => n, fun | 0 => 3 | 1 => 4 | 2 => 5 | 3 => 6 | 4 => 7 | n => n⟩
theorem Tryz.laysPu14 : Go.Proofs.LaysPu.n14 Tryz.prog Tryz.laysPu14_ren := {
 mixed := by kernel_rfl
 f14 := Tryz.func126.trans (congrArg some (by kernel_rfl))
 f16 := Tryz.func156.trans (congrArg some (by kernel_rfl))
 f17 := Tryz.func157.trans (congrArg some (by kernel_rfl))
 f19 := Tryz.func184.trans (congrArg some (by kernel_rfl))
 f20 := Tryz.func185.trans (congrArg some (by kernel_rfl))
 f21 := Tryz.func186.trans (congrArg some (by kernel_rfl))
 f22 := Tryz.func187.trans (congrArg some (by kernel_rfl))
 f23 := Tryz.func188.trans (congrArg some (by kernel_rfl))
 f24 := Tryz.func189.trans (congrArg some (by kernel_rfl))
 f25 := Tryz.func208.trans (congrArg some (by kernel_rfl))
 f26 := Tryz.func209.trans (congrArg some (by kernel_rfl))
 f27 := Tryz.func210.trans (congrArg some (by kernel_rfl))
 f28 := Tryz.func218.trans (congrArg some (by kernel_rfl))
 f29 := Tryz.func223.trans (congrArg some (by kernel_rfl))
 f30 := Tryz.func211.trans (congrArg some (by kernel_rfl))
 f31 := Tryz.func212.trans (congrArg some (by kernel_rfl))
 f32 := Tryz.func213.trans (congrArg some (by kernel_rfl))
 f33 := Tryz.func214.trans (congrArg some (by kernel_rfl))
 f34 := Tryz.func219.trans (congrArg some (by kernel_rfl))
 f35 := Tryz.func177.trans (congrArg some (by kernel_rfl))
 f36 := Tryz.func220.trans (congrArg some (by kernel_rfl))
 f37 := Tryz.func221.trans (congrArg some (by kernel_rfl))
 f38 := Tryz.func222.trans (congrArg some (by kernel_rfl))
 f39 := Tryz.func224.trans (congrArg some (by kernel_rfl))
 f40 := Tryz.func225.trans (congrArg some (by kernel_rfl))
 t0 := Tryz.underlying0
 a0 := Tryz.isAgg0
 z0 := Tryz.sizeOf0
 v0 := Tryz.zeroValue0
 i0 := by kernel_rfl
 t2 := Tryz.underlying2
 a2 := Tryz.isAgg2
 z2 := Tryz.sizeOf2
 v2 := Tryz.zeroValue2
 i2 := by kernel_rfl
 t3 := Tryz.underlying3
 a3 := Tryz.isAgg3
 z3 := Tryz.sizeOf3
 v3 := Tryz.zeroValue3
 i3 := by kernel_rfl
 t4 := Tryz.underlying4
 a4 := Tryz.isAgg4
 z4 := Tryz.sizeOf4
 v4 := Tryz.zeroValue4
 i4 := by kernel_rfl
 t5 := Tryz.underlying5
 a5 := Tryz.isAgg5
 z5 := Tryz.sizeOf5
 v5 := Tryz.zeroValue5
 i5 := by kernel_rfl
 t9 := Tryz.underlying9
 a9 := Tryz.isAgg9
 z9 := Tryz.sizeOf9
 v9 := Tryz.zeroValue9
 i9 := by kernel_rfl
 t20 := Tryz.underlying20
 a20 := Tryz.isAgg20
 z20 := Tryz.sizeOf20
 v20 := Tryz.zeroValue20
 i20 := by kernel_rfl
 t21 := Tryz.underlying21
 a21 := Tryz.isAgg21
 z21 := Tryz.sizeOf21
 v21 := Tryz.zeroValue21
 i21 := by kernel_rfl
 t22 := Tryz.underlying41
 a22 := Tryz.isAgg41
 z22 := Tryz.sizeOf41
 v22 := Tryz.zeroValue41
 i22 := by kernel_rfl
 t24 := Tryz.underlying168
 a24 := Tryz.isAgg168
 z24 := Tryz.sizeOf168
 v24 := Tryz.zeroValue168
 i24 := by kernel_rfl
 t25 := Tryz.underlying169
 a25 := Tryz.isAgg169
 z25 := Tryz.sizeOf169
 v25 := Tryz.zeroValue169
 i25 := by kernel_rfl
 t34 := Tryz.underlying207
 a34 := Tryz.isAgg207
 z34 := Tryz.sizeOf207
 v34 := Tryz.zeroValue207
 i34 := by kernel_rfl
 c34 := by kernel_rfl
 t36 := Tryz.underlying153
 a36 := Tryz.isAgg153
 z36 := Tryz.sizeOf153
 v36 := Tryz.zeroValue153
 i36 := by kernel_rfl
 t37 := Tryz.underlying161
 a37 := Tryz.isAgg161
 z37 := Tryz.sizeOf161
 v37 := Tryz.zeroValue161
 i37 := by kernel_rfl
 t39 := Tryz.underlying209
 a39 := Tryz.isAgg209
 z39 := Tryz.sizeOf209
 v39 := Tryz.zeroValue209
 i39 := by kernel_rfl
 t44 := Tryz.underlying226
 a44 := Tryz.isAgg226
 z44 := Tryz.sizeOf226
 v44 := Tryz.zeroValue226
 i44 := by kernel_rfl
 t47 := Tryz.underlying191
 a47 := Tryz.isAgg191
 z47 := Tryz.sizeOf191
 v47 := Tryz.zeroValue191
 i47 := by kernel_rfl
 t48 := Tryz.underlying238
 a48 := Tryz.isAgg238
 z48 := Tryz.sizeOf238
 v48 := Tryz.zeroValue238
 i48 := by kernel_rfl
 t50 := Tryz.underlying240
 a50 := Tryz.isAgg240
 z50 := Tryz.sizeOf240
 v50 := Tryz.zeroValue240
 i50 := by kernel_rfl
 t52 := Tryz.underlying228
 a52 := Tryz.isAgg228
 z52 := Tryz.sizeOf228
 v52 := Tryz.zeroValue228
 i52 := by kernel_rfl
 t55 := Tryz.underlying230
 a55 := Tryz.isAgg230
 z55 := Tryz.sizeOf230
 v55 := Tryz.zeroValue230
 i55 := by kernel_rfl
 t59 := Tryz.underlying242
 a59 := Tryz.isAgg242
 z59 := Tryz.sizeOf242
 v59 := Tryz.zeroValue242
 i59 := by kernel_rfl
 t60 := Tryz.underlying201
 a60 := Tryz.isAgg201
 z60 := Tryz.sizeOf201
 v60 := Tryz.zeroValue201
 i60 := by kernel_rfl
 t61 := Tryz.underlying243
 a61 := Tryz.isAgg243
 z61 := Tryz.sizeOf243
 t65 := Tryz.underlying245
 a65 := Tryz.isAgg245
 z65 := Tryz.sizeOf245
 v65 := Tryz.zeroValue245
 i65 := by kernel_rfl
 t66 := Tryz.underlying246
 a66 := Tryz.isAgg246
 z66 := Tryz.sizeOf246
 v66 := Tryz.zeroValue246
 i66 := by kernel_rfl
 t67 := Tryz.underlying106
 a67 := Tryz.isAgg106
 z67 := Tryz.sizeOf106
 v67 := Tryz.zeroValue106
 i67 := by kernel_rfl
 g0 := by kernel_rfl
 m0 := by kernel_rfl
 g1 := by kernel_rfl
 m1 := by kernel_rfl
 g2 := by kernel_rfl
 m2 := by kernel_rfl
 g3 := by kernel_rfl
 m3 := by kernel_rfl
 g4 := by kernel_rfl
 m4 := by kernel_rfl }
open Go.RowKit in
/-- strconv.ParseUint(s, 10, 64), AT EVERY STRING THAT SPELLS A uint64 ('Lib.parseUintB 64 s.data.toList = .ok u'): u, AND NO ERROR. (LAID: no walk: one application.) -/
theorem Tryz.strconv_ParseUint_10_at64_ok (s : ByteArray) (hmax : s.size ≤ 9223372036854775806) (u : Nat) (h : Lib.parseUintB 64 s.data.toList = .ok u) (w : World) :
  Calls Tryz.prog 126 #[.string s, .int .i64 10, .int .i64 64] w fun e w' => e = .returned (.tuple #[.int .u64 u, .nilIface]) ∧ (w' = w ∨ w' = Lib.bytesWorld w 5 s) := Any.strconv_ParseUint_10_at64_ok Tryz.laysPu14 s hmax u h w
open Go.RowKit in
/-- strconv.ParseUint(s, 10, 64), AT EVERY STRING THAT IS NO ROW OF DECIMAL DIGITS (a sign is a fault): 0, AND AN ERROR THAT IS NOT nil: a *NumError in a new block N: {Func: "ParseUint", Num: s's bytes, Err: what the variable ErrSyntax holds}. Of what was there nothing has turned. (LAID: no walk: one application.) -/
theorem Tryz.strconv_ParseUint_10_at64_syntax (s : ByteArray) (hlim : s.size ≤ 281474976710656) (h : Lib.parseUintB 64 s.data.toList = Lib.parseUintB 64 []) (ev : Value) (w : World) (hv : w.cell? ⟨3, 0, none⟩ = some ev) (hev : ev = .nilIface ∨ ∃ te pe, ev = .iface te pe) :
  Calls Tryz.prog 126 #[.string s, .int .i64 10, .int .i64 64] w fun e w' => ∃ N, e = .returned (.tuple #[.int .u64 0, .iface 209 (.pointer (some ⟨N, 0, none⟩))]) ∧ w.heap.size ≤ N ∧ w'.heap[N]? = some (.cells #[.string ⟨#[80, 97, 114, 115, 101, 85, 105, 110, 116]⟩, .string s, ev] 226 (0, 0)) ∧ Below w.heap.size w w' := Any.strconv_ParseUint_10_at64_syntax Tryz.laysPu14 s hlim h ev w hv hev
open Go.RowKit in
/-- strconv.ParseUint(s, 10, 64), AT EVERY NUMERAL THAT NO uint64 HOLDS: THE GREATEST uint64, AND AN ERROR THAT IS NOT nil: a *NumError in a new block N: {Func: "ParseUint", Num: s's bytes, Err: what the variable ErrRange holds}. Of what was there nothing has turned. (LAID: no walk: one application.) -/
theorem Tryz.strconv_ParseUint_10_at64_range (s : ByteArray) (hlim : s.size ≤ 281474976710656) (h : Lib.parseUintB 64 s.data.toList = .range) (ev : Value) (w : World) (hv : w.cell? ⟨4, 0, none⟩ = some ev) (hev : ev = .nilIface ∨ ∃ te pe, ev = .iface te pe) :
  Calls Tryz.prog 126 #[.string s, .int .i64 10, .int .i64 64] w fun e w' => ∃ N, e = .returned (.tuple #[.int .u64 18446744073709551615, .iface 209 (.pointer (some ⟨N, 0, none⟩))]) ∧ w.heap.size ≤ N ∧ w'.heap[N]? = some (.cells #[.string ⟨#[80, 97, 114, 115, 101, 85, 105, 110, 116]⟩, .string s, ev] 226 (0, 0)) ∧ Below w.heap.size w w' := Any.strconv_ParseUint_10_at64_range Tryz.laysPu14 s hlim h ev w hv hev
def Tryz.lays143_ren : Go.Shelf.Ren := ⟨fun | 143 => 128 | 219 => 159 | 217 => 161 | 225 => 191 | 224 => 192 | 267 => 193 | 266 => 195 | 314 => 215 | n => n, fun | 9 => 9 | 3 => 3 | 4 => 4 | 5 => 5 | 46 => 153 | 146 => 232 | 51 => 201 | n => n, fun | 1 => 2 | n => n⟩
theorem Tryz.lays143 : Go.Proofs.Lays.n143 Tryz.prog Tryz.lays143_ren := {
 mixed := by kernel_rfl
 f143 := Tryz.func128.trans (congrArg some (by kernel_rfl))
 f217 := Tryz.func161.trans (congrArg some (by kernel_rfl))
 f219 := Tryz.func159.trans (congrArg some (by kernel_rfl))
 f224 := Tryz.func192.trans (congrArg some (by kernel_rfl))
 f225 := Tryz.func191.trans (congrArg some (by kernel_rfl))
 f266 := Tryz.func195.trans (congrArg some (by kernel_rfl))
 f267 := Tryz.func193.trans (congrArg some (by kernel_rfl))
 f314 := Tryz.func215.trans (congrArg some (by kernel_rfl))
 t3 := Tryz.underlying3
 a3 := Tryz.isAgg3
 z3 := Tryz.sizeOf3
 v3 := Tryz.zeroValue3
 t4 := Tryz.underlying4
 a4 := Tryz.isAgg4
 z4 := Tryz.sizeOf4
 v4 := Tryz.zeroValue4
 t5 := Tryz.underlying5
 a5 := Tryz.isAgg5
 z5 := Tryz.sizeOf5
 v5 := Tryz.zeroValue5
 t9 := Tryz.underlying9
 a9 := Tryz.isAgg9
 z9 := Tryz.sizeOf9
 v9 := Tryz.zeroValue9
 t46 := Tryz.underlying153
 a46 := Tryz.isAgg153
 z46 := Tryz.sizeOf153
 v46 := Tryz.zeroValue153
 t51 := Tryz.underlying201
 a51 := Tryz.isAgg201
 z51 := Tryz.sizeOf201
 v51 := Tryz.zeroValue201
 t146 := Tryz.underlying232
 a146 := Tryz.isAgg232
 z146 := Tryz.sizeOf232
 v146 := Tryz.zeroValue232
 g1 := by kernel_rfl }
open Go.RowKit Go.Lib in
/-- strings.Index: "Index returns the index of the first instance of substr in s, or -1 if substr is not present in s.": AT A substr OF ONE BYTE c: IT RETURNS 'Lib.indexByte s c'; the world is as it was. (LAID: no walk: one application.) -/
theorem Tryz.strings_Index_one (s : ByteArray) (c : UInt8) (w : World) :
  Calls Tryz.prog 128 #[.string s, .string ⟨#[c]⟩] w fun e w' => e = .returned (.int .i64 (Lib.indexByte s.data.toList c)) ∧ w' = w := Any.strings_Index_one Tryz.lays143 s c w
def Tryz.lays190_ren : Go.Shelf.Ren := ⟨fun | 190 => 105 | 125 => 146 | 258 => 145 | 128 => 176 | 129 => 177 | 302 => 167 | 303 => 168 | 304 => 169 | 305 => 170 | 306 => 171 | 307 => 172 | 308 => 173 | 309 => 174 | 310 => 175 | 333 => 198 | 329 => 199 | 330 => 200 | 334 => 201 | 335 => 202 | 336 => 203 | 344 => 217 | n => n, fun | 31 => 40 | 9 => 9 | 3 => 3 | 46 => 153 | 0 => 0 | 51 => 201 | 53 => 41 | 4 => 4 | 183 => 194 | 182 => 193 | 131 => 198 | 5 => 5 | 218 => 218 | 222 => 222 | 228 => 235 | 229 => 236 | n => n, fun | n => n⟩
theorem Tryz.lays190 : Go.Proofs.Lays.n190 Tryz.prog Tryz.lays190_ren := {
 mixed := by kernel_rfl
 f125 := Tryz.func146.trans (congrArg some (by kernel_rfl))
 f128 := Tryz.func176.trans (congrArg some (by kernel_rfl))
 f129 := Tryz.func177.trans (congrArg some (by kernel_rfl))
 f190 := Tryz.func105.trans (congrArg some (by kernel_rfl))
 f258 := Tryz.func145.trans (congrArg some (by kernel_rfl))
 f302 := Tryz.func167.trans (congrArg some (by kernel_rfl))
 f303 := Tryz.func168.trans (congrArg some (by kernel_rfl))
 f304 := Tryz.func169.trans (congrArg some (by kernel_rfl))
 f305 := Tryz.func170.trans (congrArg some (by kernel_rfl))
 f306 := Tryz.func171.trans (congrArg some (by kernel_rfl))
 f307 := Tryz.func172.trans (congrArg some (by kernel_rfl))
 f308 := Tryz.func173.trans (congrArg some (by kernel_rfl))
 f309 := Tryz.func174.trans (congrArg some (by kernel_rfl))
 f310 := Tryz.func175.trans (congrArg some (by kernel_rfl))
 f329 := Tryz.func199.trans (congrArg some (by kernel_rfl))
 f330 := Tryz.func200.trans (congrArg some (by kernel_rfl))
 f333 := Tryz.func198.trans (congrArg some (by kernel_rfl))
 f334 := Tryz.func201.trans (congrArg some (by kernel_rfl))
 f335 := Tryz.func202.trans (congrArg some (by kernel_rfl))
 f336 := Tryz.func203.trans (congrArg some (by kernel_rfl))
 f344 := Tryz.func217.trans (congrArg some (by kernel_rfl))
 t0 := Tryz.underlying0
 a0 := Tryz.isAgg0
 z0 := Tryz.sizeOf0
 v0 := Tryz.zeroValue0
 t3 := Tryz.underlying3
 a3 := Tryz.isAgg3
 z3 := Tryz.sizeOf3
 v3 := Tryz.zeroValue3
 t4 := Tryz.underlying4
 a4 := Tryz.isAgg4
 z4 := Tryz.sizeOf4
 v4 := Tryz.zeroValue4
 t5 := Tryz.underlying5
 a5 := Tryz.isAgg5
 z5 := Tryz.sizeOf5
 v5 := Tryz.zeroValue5
 t9 := Tryz.underlying9
 a9 := Tryz.isAgg9
 z9 := Tryz.sizeOf9
 v9 := Tryz.zeroValue9
 t31 := Tryz.underlying40
 a31 := Tryz.isAgg40
 z31 := Tryz.sizeOf40
 v31 := Tryz.zeroValue40
 t46 := Tryz.underlying153
 a46 := Tryz.isAgg153
 z46 := Tryz.sizeOf153
 v46 := Tryz.zeroValue153
 t51 := Tryz.underlying201
 a51 := Tryz.isAgg201
 z51 := Tryz.sizeOf201
 v51 := Tryz.zeroValue201
 t53 := Tryz.underlying41
 a53 := Tryz.isAgg41
 z53 := Tryz.sizeOf41
 v53 := Tryz.zeroValue41
 t131 := Tryz.underlying198
 a131 := Tryz.isAgg198
 z131 := Tryz.sizeOf198
 v131 := Tryz.zeroValue198
 t182 := Tryz.underlying193
 a182 := Tryz.isAgg193
 z182 := Tryz.sizeOf193
 v182 := Tryz.zeroValue193
 t183 := Tryz.underlying194
 a183 := Tryz.isAgg194
 z183 := Tryz.sizeOf194
 v183 := Tryz.zeroValue194
 t218 := Tryz.underlying218
 a218 := Tryz.isAgg218
 z218 := Tryz.sizeOf218
 v218 := Tryz.zeroValue218
 t222 := Tryz.underlying222
 a222 := Tryz.isAgg222
 z222 := Tryz.sizeOf222
 v222 := Tryz.zeroValue222
 t228 := Tryz.underlying235
 a228 := Tryz.isAgg235
 z228 := Tryz.sizeOf235
 v228 := Tryz.zeroValue235
 t229 := Tryz.underlying236
 a229 := Tryz.isAgg236
 z229 := Tryz.sizeOf236
 v229 := Tryz.zeroValue236 }
open Go.Sort Go.RowKit in
theorem Tryz.slices_Sort_string (blk off cap : Nat) (ss : List (List UInt8)) (w : World) (hH : Holds encStr w blk off ss.toArray) (hblk : blk < w.heap.size) (hsz : ss.length < 4611686018427387904) :
  Calls Tryz.prog 105 #[.slice (some ⟨blk, off, none⟩) ss.length cap] w fun e w' =>
   e = .returned (.tuple #[]) ∧ ∃ n os, w' = grow (putRow encStr (Sort.ahead w n) blk off (ss.mergeSort fun x y => decide (x ≤ y)).toArray) os := Any.slices_Sort_string Tryz.lays190 blk off cap ss w hH hblk hsz
def Tryz.lays99_ren : Go.Shelf.Ren := ⟨fun | 99 => 54 | 206 => 92 | n => n, fun | 9 => 9 | 4 => 4 | 3 => 3 | n => n, fun | n => n⟩
theorem Tryz.lays99 : Go.Proofs.Lays.n99 Tryz.prog Tryz.lays99_ren := {
 mixed := by kernel_rfl
 f99 := Tryz.func54.trans (congrArg some (by kernel_rfl))
 f206 := Tryz.func92.trans (congrArg some (by kernel_rfl))
 t3 := Tryz.underlying3
 a3 := Tryz.isAgg3
 z3 := Tryz.sizeOf3
 v3 := Tryz.zeroValue3
 t4 := Tryz.underlying4
 a4 := Tryz.isAgg4
 z4 := Tryz.sizeOf4
 v4 := Tryz.zeroValue4
 t9 := Tryz.underlying9
 a9 := Tryz.isAgg9
 z9 := Tryz.sizeOf9
 v9 := Tryz.zeroValue9 }
open Go.RowKit Go.Lib in
/-- strings.HasPrefix: "HasPrefix reports whether the string s begins with prefix.": IT RETURNS 'Lib.hasPrefix s prefix'; the world is as it was. (LAID: no walk: one application.) -/
theorem Tryz.strings_HasPrefix (s p : ByteArray) (w : World) :
  Calls Tryz.prog 54 #[.string s, .string p] w fun e w' => e = .returned (.bool (Lib.hasPrefix s.data.toList p.data.toList)) ∧ w' = w := Any.strings_HasPrefix Tryz.lays99 s p w
def Tryz.laysNm216_ren : Go.Shelf.Ren := ⟨fun | 16 => 104 | n => n, fun | 24 => 40 | 9 => 9 | 4 => 4 | n => n, fun | n => n⟩
theorem Tryz.laysNm216 : Go.Proofs.Lays2.n16 Tryz.prog Tryz.laysNm216_ren := {
 mixed := by kernel_rfl
 f16 := Tryz.func104.trans (congrArg some (by kernel_rfl))
 t4 := Tryz.underlying4
 a4 := Tryz.isAgg4
 z4 := Tryz.sizeOf4
 v4 := Tryz.zeroValue4
 t9 := Tryz.underlying9
 a9 := Tryz.isAgg9
 z9 := Tryz.sizeOf9
 v9 := Tryz.zeroValue9
 t24 := Tryz.underlying40
 a24 := Tryz.isAgg40
 z24 := Tryz.sizeOf40
 v24 := Tryz.zeroValue40
 i9 := by kernel_rfl }
open Go.RowKit Go.Lib in
/-- slices.Clone at []string: "Clone returns a copy of the slice. The elements are copied using assignment, so this is a shallow clone. The result may have additional unused capacity. The result preserves the nilness of s.": OF A SLICE THAT IS NOT nil IT RETURNS A SLICE THAT IS NOT nil, OF THE SAME ELEMENTS, IN MEMORY OF THE CALL's OWN: in the how-to's words (6f): 'w'.ownsRow B e 1 v' n cells': v' begins at the head of a row among the blocks from B on (B: the heap's size at the call), not frozen, whose first cells are the elements · 'Below B w w'': below B all is as it was. The capacity is whatever the run-time gives. 'zs': what the cells behind the slice's address hold; 'zs.take n': its elements. (LAID: no walk: one application.) -/
theorem Tryz.slices_Clone_string (b off n c : Nat) (zs : List ByteArray) (w : World) (hz : n ≤ zs.length) (hbig : n * 16 ≤ 140737488355328) (hc : ∀ j, j < zs.length → w.cell? ⟨b, off + j, none⟩ = some (.string (zs.getD j ByteArray.empty))) :
  Calls Tryz.prog 104 #[.slice (some ⟨b, off, none⟩) n c] w fun e w' => ∃ v', e = .returned v' ∧ w'.ownsRow w.heap.size 9 1 v' n ((zs.take n).map (Value.string)) ∧ v' ≠ .slice none 0 0 ∧ Below w.heap.size w w' := Any.slices_Clone_string Tryz.laysNm216 b off n c zs w hz hbig hc
open Go.RowKit Go.Lib in
/-- The same at nil: nil comes back; the world is as it was. (LAID: no walk: one application.) -/
theorem Tryz.slices_Clone_string_nil (n c : Nat) (w : World) :
  Calls Tryz.prog 104 #[.slice none n c] w fun e w' => e = .returned (.slice none 0 0) ∧ w' = w := Any.slices_Clone_string_nil Tryz.laysNm216 n c w
open Go.RowKit Go.Lib in
/-- The same at a slice of length 0 that is not nil, WHATEVER ITS ADDRESS (no cell is asked for): a slice that is not nil and owns nothing comes back. (LAID: no walk: one application.) -/
theorem Tryz.slices_Clone_string_zero (a : Addr) (c : Nat) (w : World) :
  Calls Tryz.prog 104 #[.slice (some a) 0 c] w fun e w' => ∃ v', e = .returned v' ∧ w'.ownsRow w.heap.size 9 1 v' 0 [] ∧ v' ≠ .slice none 0 0 ∧ Below w.heap.size w w' := Any.slices_Clone_string_zero Tryz.laysNm216 a c w
open Go.RowKit Go.Sort in
/-- .. and plain. (LAID: no walk: one application.) -/
theorem Tryz.slices_Sort_string_none (p : Option Addr) (cap : Nat) (w : World) :
  Calls Tryz.prog 105 #[.slice p 0 cap] w fun e w' => e = .returned (.tuple #[]) ∧ w' = w := Any.slices_Sort_string_none Tryz.lays190 p cap w
end Go.Proofs
/- strconv.FormatUint at base 10. -/
set_option linter.unusedVariables false
set_option linter.unusedSimpArgs false
namespace Go.Proofs
open Go.Shelf Go.RowKit Go.Sort Go.Lib
theorem Tryz.below_put (w : World) (o : Obj) (off : Nat) (dk : Array UInt8) (k : Nat) : Below w.heap.size w ((putRow (fun (b : UInt8) => Value.int .u8 (b.toNat : Int)) (w.alloc o) w.heap.size off dk).drewN k) := by
 rw [alloc_eq_grow]
 obtain ⟨os', _, e⟩ := putRow_grow_new (fun (b : UInt8) => Value.int .u8 (b.toNat : Int)) w #[o] w.heap.size off dk (Nat.le_refl _)
 rw [e]
 refine ⟨rfl, rfl, rfl, ?_, fun j hj => ?_⟩
 ·show w.heap.size ≤ (w.heap ++ os').size
  simp
 ·show (w.heap ++ os')[j]? = w.heap[j]?
  rw [Array.getElem?_append_left hj]
set_option maxHeartbeats 4000000 in
set_option maxRecDepth 100000 in
theorem Tryz.inner_FormatUint (u : Nat) (hu64 : u < 18446744073709551616) (w : World) (htab : Lib.TabIs Tryz.prog w "internal/strconv.uint64pow10" .u64 Lib.pow10Tab) :
  Calls Tryz.prog 190 #[.int .u64 (u : Int), .int .i64 10] w fun e w' => e = .returned (.string ⟨(Lib.decDigits u).toArray⟩) ∧ Below w.heap.size w w' := by
 by_cases hi : u < 100
 ·go_enter Tryz.func190, Tryz.ntmps190
  go_wp2_with (go_at_call 211; refine (Tryz.internal_strconv_small u hi _).mono ?_; rintro e w' ⟨rfl, rfl⟩)
  go_ret
  exact ⟨rfl, Below.refl _ _⟩
 ·have hu1 : 1 ≤ u := by omega
  have hnd20 : Lib.nDigits u ≤ 20 := by have := Lib.numDigits_eq u hu1 hu64; split at this <;> omega
  have hal : Tryz.prog.arrayLen 228 = 24 := by simp [Program.arrayLen, Tryz.underlying228]
  have hsl1 : ∀ W, (Instr.sliceAt 228 (.pointer (some ⟨w.heap.size, 0, none⟩)) none (some (.int .i64 (Lib.nDigits u : Int))) none).run Tryz.prog W = .ok (.slice (some ⟨w.heap.size, 0, none⟩) (Lib.nDigits u) 24) W := fun W => by
   rw [run_sliceAt_array_h W 228 ⟨w.heap.size, 0, none⟩ (by simp [Program.arrayLen, Program.elem, Tryz.underlying228]) .i64 (Lib.nDigits u : Int) (by omega) (by rw [hal]; omega)]
   go_simp
  have hH0 : Holds (fun (b : UInt8) => Value.int .u8 (b.toNat : Int)) (w.alloc (.cells Lib.zeros24 228)) w.heap.size 0 (Array.replicate (Lib.nDigits u) 0) := by
   intro j hj
   rw [Array.size_replicate] at hj
   refine ⟨?_, World.frozen?_alloc_new _ _ _ _⟩
   rw [World.cell?_alloc_new, Nat.zero_add, Lib.zeros24_at j (by omega)]
   simp [hj]
  have hfmt := Tryz.internal_strconv_formatBase10 w.heap.size 0 24 u (Array.replicate (Lib.nDigits u) 0) (w.alloc (.cells Lib.zeros24 228)) hH0 (by rw [Array.size_replicate]; exact Lib.lt_pow_nDigits u) hu64 (by rw [Array.size_replicate]; omega)
  rw [Array.size_replicate] at hfmt
  have HH0 := Lib.hid hH0
  clear hH0 hal
  go_enter Tryz.func190, Tryz.ntmps190
  go_wp2_with (first
   | (go_at_call 212; refine (Tryz.internal_strconv_numDigits u hu1 hu64 _ (Lib.tabIs_alloc htab _)).mono ?_; rintro e w' ⟨rfl, rfl⟩))
  go_at_call 213
  refine hfmt.mono ?_
  rintro e w' ⟨rfl, k, v', dk, rfl, hF⟩
  have hcv : (convert 161 9 (.slice (some ⟨w.heap.size, 0, none⟩) (Lib.nDigits u) 24)).run Tryz.prog ((putRow (fun (b : UInt8) => Value.int .u8 (b.toNat : Int)) (w.alloc (.cells Lib.zeros24 228)) w.heap.size 0 dk).drewN k) = .ok (.string ⟨(Lib.decDigits u).toArray⟩) ((putRow (fun (b : UInt8) => Value.int .u8 (b.toNat : Int)) (w.alloc (.cells Lib.zeros24 228)) w.heap.size 0 dk).drewN k) := by
   have h := run_convert_bytes_back (P := Tryz.prog) ((putRow (fun (b : UInt8) => Value.int .u8 (b.toNat : Int)) (w.alloc (.cells Lib.zeros24 228)) w.heap.size 0 dk).drewN k) 161 9 5 ⟨w.heap.size, 0, none⟩ 24 (Lib.decDigits u) Tryz.underlying161 Tryz.underlying5 Tryz.underlying9 (fun j hj => by
    rw [Lib.row_is_numeral hF j hj, Lib.add_plain, World.cell?_drewN]
    exact cell?_putRow (fun (b : UInt8) => Value.int .u8 (b.toNat : Int)) _ w.heap.size 0 _ dk HH0.out (by rw [hF.size, Array.size_replicate]) j (by rw [hF.size]; rw [Lib.decDigits_length] at hj; exact hj))
   rw [Lib.decDigits_length] at h
   exact h
  go_wp2
  go_ret
  exact ⟨rfl, Tryz.below_put w _ 0 dk k⟩
end Go.Proofs
/- strings.Builder's copyCheck and WriteString, of a builder that the call itself has made. No condition but the builder's and the lengths' own. -/
set_option linter.unusedVariables false
set_option linter.unusedSimpArgs false
namespace Go.Proofs
open Go.Shelf Go.RowKit
theorem Tryz.sizeBld : (Tryz.prog.info? 173).map (·.size) = some 2 := by kernel_rfl
theorem Tryz.infoByte1 : (Tryz.prog.info? 5).map (fun i => (i.zero, i.size, i.bytes)) = some (some (.int .u8 0), 1, 1) := by kernel_rfl
theorem Tryz.cellsByte1 : Tryz.prog.cellsOf 5 = 1 := by kernel_rfl
theorem Tryz.liesBld : liesAt Tryz.prog Tryz.prog.depth 173 (2 / Tryz.prog.cellsOf 173) 0 173 1 = true := by kernel_rfl
set_option maxHeartbeats 4000000 in
set_option maxRecDepth 100000 in
theorem Tryz.bld_used (b : Nat) (w : World) (h0 : w.cell? ⟨b, 0, none⟩ = some (.pointer (some ⟨b, 0, none⟩))) :
  Calls Tryz.prog 160 #[.pointer (some ⟨b, 0, none⟩)] w fun e w' => e = .returned (.tuple #[]) ∧ w' = w := by
 obtain ⟨j, hj, _⟩ := Option.map_eq_some_iff.1 Tryz.sizeBld
 go_enter Tryz.func160, Tryz.ntmps160
 go_wp2
 rw [Lib.run_neq_ptr_same w _ Tryz.underlying171 hj]
 go_wp2
 go_end0
 exact ⟨rfl, rfl⟩
set_option maxHeartbeats 4000000 in
set_option maxRecDepth 100000 in
theorem Tryz.bld_fresh (b : Nat) (w : World) (h0 : w.cell? ⟨b, 0, none⟩ = some (.pointer none)) (hsh : w.shape? b = some (173, 2)) (hfz : w.frozen? ⟨b, 0, none⟩ = false) :
  Calls Tryz.prog 160 #[.pointer (some ⟨b, 0, none⟩)] w fun e w' => e = .returned (.tuple #[]) ∧ w' = w.setCell ⟨b, 0, none⟩ (.pointer (some ⟨b, 0, none⟩)) := by
 obtain ⟨j, hj, hjs⟩ := Option.map_eq_some_iff.1 Tryz.sizeBld
 go_enter Tryz.func160, Tryz.ntmps160
 go_wp2
 rw [Lib.run_to_unsafe w ⟨b, 0, none⟩ Tryz.underlying171 Tryz.underlying212 hj (by rw [hjs]; decide) hsh (Nat.zero_lt_succ 1)]
 simp only [Result.andThen]
 rw [Oper.upon_value]
 go_wp2
 rw [run_callFunc_extern Tryz.func194 (by kernel_rfl) (by kernel_rfl) (by kernel_rfl) (e := Extern.AbiNoEscape.same) (by kernel_rfl)]
 rw [Lib.run_noEscape]
 simp only [Result.andThen]
 rw [Oper.upon_value]
 go_wp2
 rw [Lib.run_from_unsafe w ⟨b, 0, none⟩ Tryz.underlying212 Tryz.underlying171 hj hsh Tryz.liesBld]
 simp only [Result.andThen]
 rw [Oper.upon_value]
 go_wp2
 go_end0
 exact ⟨rfl, rfl⟩
/-- A world that differs in one block alone. -/
structure BlockTurned (b : Nat) (w w' : World) : Prop where
 os : w'.os = w.os
 tape : w'.tape = w.tape
 output : w'.output = w.output
 size : w'.heap.size = w.heap.size
 block : ∀ j, j ≠ b → w'.heap[j]? = w.heap[j]?
theorem BlockTurned.refl (b : Nat) (w : World) : BlockTurned b w w := ⟨rfl, rfl, rfl, rfl, fun _ _ => rfl⟩
theorem BlockTurned.setCell (b o : Nat) (w : World) (v : Value) : BlockTurned b w (w.setCell ⟨b, o, none⟩ v) := by
 refine ⟨by simp [World.setCell], by simp [World.setCell], by simp [World.setCell], by simp, fun j hj => ?_⟩
 simp [World.setCell, Array.getElem?_modify, Ne.symm hj]
theorem BlockTurned.at {b : Nat} {w : World} {x y : Value} {T : TypeId} {fr : Nat × Nat} (h : w.heap[b]? = some (.cells #[x, y] T fr)) (o : Nat) (v : Value) (ho : o = 0 ∨ o = 1) :
  (w.setCell ⟨b, o, none⟩ v).heap[b]? = some (.cells (if o = 0 then #[v, y] else #[x, v]) T fr) := by
 have hlt : b < w.heap.size := (Array.getElem?_eq_some_iff.1 h).1
 rcases ho with rfl | rfl <;> simp [World.setCell, Array.getElem?_modify, h]
set_option maxHeartbeats 4000000 in
set_option maxRecDepth 100000 in
theorem Tryz.bld_check {b : Nat} {p v : Value} {w : World} (hbk : w.heap[b]? = some (.cells #[p, v] 173 (0, 0))) (hp : p = .pointer none ∨ p = .pointer (some ⟨b, 0, none⟩)) :
  Calls Tryz.prog 160 #[.pointer (some ⟨b, 0, none⟩)] w fun e w' => e = .returned (.tuple #[]) ∧ BlockTurned b w w' ∧ w'.heap[b]? = some (.cells #[.pointer (some ⟨b, 0, none⟩), v] 173 (0, 0)) := by
 have c0 : w.cell? ⟨b, 0, none⟩ = some p := by rw [Lib.cell_of_heap hbk]; rfl
 rcases hp with rfl | rfl
 ·refine (Tryz.bld_fresh b w c0 (by simp [World.shape?, hbk]) (Lib.frozen_of_heap hbk 0)).mono ?_
  rintro e w' ⟨rfl, rfl⟩
  exact ⟨rfl, BlockTurned.setCell b 0 w _, by simpa using BlockTurned.at hbk 0 (.pointer (some ⟨b, 0, none⟩)) (.inl rfl)⟩
 ·refine (Tryz.bld_used b w c0).mono ?_
  rintro e w' ⟨rfl, rfl⟩
  exact ⟨rfl, BlockTurned.refl b _, hbk⟩
/-- append(row, text...) as a step. -/
theorem wpList_apps {P : Program} {w : World} {ops : Array Oper} {rest : List Oper} {o : Oper} {a : Act} {Q : Exit → Act → World → Prop} (hgd : o.guard = none) (sl x : Operand) (t u : TypeId)
  (ho : o.op = .call { callee := .builtin .append, args := #[sl, x], argTypes := #[t, u] }) (v v1 : Value) (w1 : World) (s : ByteArray) (hs : a.eval sl = v) (hx : a.eval x = .string s)
  (hr : (Builtin.append_ #[t, u] o.type #[v, .string s]).run P w = .ok v1 w1) (h : wpList P ops Q rest (a.put o.dst v1) w1) : wpList P ops Q (o :: rest) a w := by
 refine wpList_plain hgd fun K hK => ?_
 unfold Oper.wp execOp
 simp only [ho, resolve, invoke, builtin, Sem.run_bind, Sem.run_pure, Result.andThen_ok, List.map_toArray, List.map_cons, List.map_nil, hs, hx, hr]
 exact hK _ _ h
set_option maxHeartbeats 4000000 in
set_option maxRecDepth 100000 in
/-- WriteString, step by step. -/
theorem Tryz.bld_ws {b n : Nat} {p v : Value} {cells : List Value} {s : ByteArray} {w : World} (hbk : w.heap[b]? = some (.cells #[p, v] 173 (0, 0))) (hp : p = .pointer none ∨ p = .pointer (some ⟨b, 0, none⟩))
  (hown : w.ownsRow 0 5 1 v n cells) (hne : v.ownBlock ≠ some b) (hlen : n + s.size ≤ 140737488355328) :
  Calls Tryz.prog 129 #[.pointer (some ⟨b, 0, none⟩), .string s] w fun e w' => e = .returned (.tuple #[.int .i64 s.size, .nilIface]) ∧
   ∃ w1 v' w2, BlockTurned b w w1 ∧ w1.heap[b]? = some (.cells #[.pointer (some ⟨b, 0, none⟩), v] 173 (0, 0)) ∧ w1.ownsRow 0 5 1 v n cells ∧
    w2.ownsRow 0 5 1 v' (n + s.size) (cells ++ Lib.strCells s) ∧ w1.grownBy w2 v.ownBlock ∧ (v'.ownBlock = v.ownBlock ∨ v'.ownBlock = some w1.heap.size) ∧
    (∀ b, v.ownBlock = some b → ∀ o u, cells[o]? = some u → w2.cell? ⟨b, o, none⟩ = some u) ∧
    BlockTurned b w2 w' ∧ w2.heap[b]? = some (.cells #[.pointer (some ⟨b, 0, none⟩), v] 173 (0, 0)) ∧ w'.heap[b]? = some (.cells #[.pointer (some ⟨b, 0, none⟩), v'] 173 (0, 0)) := by
 obtain ⟨i0, hi, hz0, hz1, hz2⟩ := info_parts Tryz.infoByte1
 go_enter Tryz.func129, Tryz.ntmps129
 go_wp2_with (go_at_call 160; refine (Tryz.bld_check hbk hp).mono ?_)
 rintro e w1 ⟨rfl, hb1, hk1⟩
 have hown1 : w1.ownsRow 0 5 1 v n cells := by
  refine ⟨hown.1, ?_⟩
  rcases hown.2 with h | ⟨g, cap, cur, rfl, hb0, hg, rest⟩
  ·exact .inl h
  ·exact .inr ⟨g, cap, cur, rfl, hb0, (hb1.block g (fun e => hne (by rw [e]; rfl))).trans hg, rest⟩
 have c0 : w1.cell? ⟨b, 0, none⟩ = some (.pointer (some ⟨b, 0, none⟩)) := by rw [Lib.cell_of_heap hk1]; rfl
 have c1 : w1.cell? ⟨b, 1, none⟩ = some v := by rw [Lib.cell_of_heap hk1]; rfl
 obtain ⟨v', w2, hrun, ho1, hg, hat, hcell⟩ := YtabihkfhoohfnaaGreatDoor.X.run_apps (P := Tryz.prog) (ty := 161) Tryz.underlying161 Tryz.underlying9 hi hz0 rfl hz1 hown1 s (by omega) (by rw [hz2]; omega) (Nat.zero_le _)
 have A : Aside (w2.ownsRow 0 5 1 v' (n + s.size) (cells ++ Lib.strCells s) ∧ w1.grownBy w2 v.ownBlock ∧ (v'.ownBlock = v.ownBlock ∨ v'.ownBlock = some w1.heap.size) ∧ (∀ b, v.ownBlock = some b → ∀ o u, cells[o]? = some u → w2.cell? ⟨b, o, none⟩ = some u)) := ⟨ho1, hg, hat, hcell⟩
 have hlt : b < w1.heap.size := (Array.getElem?_eq_some_iff.1 hk1).1
 have hb2 : w2.heap[b]? = some (.cells #[.pointer (some ⟨b, 0, none⟩), v] 173 (0, 0)) := by
  rw [hg.block b hlt (fun e => hne e.symm)]
  exact hk1
 clear ho1 hg hat hcell
 have d0 : w2.cell? ⟨b, 0, none⟩ = some (.pointer (some ⟨b, 0, none⟩)) := by rw [Lib.cell_of_heap hb2]; rfl
 have d1 : w2.cell? ⟨b, 1, none⟩ = some v := by rw [Lib.cell_of_heap hb2]; rfl
 have f1 : w2.frozen? ⟨b, 1, none⟩ = false := Lib.frozen_of_heap hb2 1
 obtain ⟨ho1, hg, hat, hcell⟩ := A.out
 obtain ⟨ao, n', cap, rfl⟩ : ∃ ao n' cap, v' = .slice ao n' cap := by
  rcases ho1.2 with ⟨hv, _⟩ | ⟨g, cap, cur, hv, _⟩
  ·exact ⟨_, _, _, hv⟩
  ·exact ⟨_, _, _, hv⟩
 clear ho1 hg hat hcell
 go_wp2_with (at_builtin; refine wpList_apps rfl _ _ 161 9 rfl v _ w2 s rfl rfl hrun ?_)
 go_wp2
 go_ret2
 obtain ⟨ho1, hg, hat, hcell⟩ := A.out
 exact ⟨rfl, w1, _, w2, hb1, hk1, hown1, ho1, hg, hat, hcell, BlockTurned.setCell b 1 w2 _, hb2, by simpa using BlockTurned.at hb2 1 (.slice ao n' cap) (.inr rfl)⟩
theorem grownBy_drew {w w' : World} {r : Option Nat} (h : w.grownBy w' r) : w.grownBy w'.drew r := ⟨h.os, h.tape, h.output, h.size, h.block⟩
theorem grownBy_freeze (w : World) (g n : Nat) : w.grownBy (w.freeze ⟨g, 0, none⟩ n) (some g) := by
 unfold World.freeze
 split
 ·exact ⟨rfl, rfl, rfl, Nat.le_refl _, fun _ _ _ => rfl⟩
 ·refine ⟨rfl, rfl, rfl, by simp, fun k hk hne => ?_⟩
  have : g ≠ k := fun e => hne (by rw [e])
  simp [Array.getElem?_modify, this]
set_option maxHeartbeats 4000000 in
set_option maxRecDepth 100000 in
/-- String, of a builder that holds some bytes. -/
theorem Tryz.bld_str1 {b g cap : Nat} {p : Value} {cur : Array Value} {l : List UInt8} {w : World} (h0 : l ≠ []) (hbk : w.heap[b]? = some (.cells #[p, .slice (some ⟨g, 0, none⟩) l.length cap] 173 (0, 0)))
  (hg : w.heap[g]? = some (.cells cur 5 (0, 0))) (hnc : l.length ≤ cap) (hcm : cap ≤ maxLen) (hcs : cur.size = cap * 1) (hown : w.ownsRow 0 5 1 (.slice (some ⟨g, 0, none⟩) l.length cap) l.length (Lib.byteCells l)) :
  Calls Tryz.prog 130 #[.pointer (some ⟨b, 0, none⟩)] w fun e w' => e = .returned (.string ⟨l.toArray⟩) ∧ w.grownBy w' (some g) := by
 have hl0 : l.length ≠ 0 := by simpa using h0
 have c1 : w.drew.cell? ⟨b, 1, none⟩ = some (.slice (some ⟨g, 0, none⟩) l.length cap) := by
  have : w.drew.heap[b]? = some (.cells #[p, .slice (some ⟨g, 0, none⟩) l.length cap] 173 (0, 0)) := hbk
  rw [Lib.cell_of_heap this]; rfl
 have hSD : (Builtin.unsafeSliceData_ #[161] 191 #[.slice (some ⟨g, 0, none⟩) l.length cap]).run Tryz.prog w.drew = .ok (.pointer (some ⟨g, 0, none⟩)) w.drew :=
  Lib.run_unsafeSliceData_row _ _ _ _ _ _ (by omega)
 have hUS : (Builtin.unsafeString_ #[191, 3] 9 #[.pointer (some ⟨g, 0, none⟩), .int .i64 l.length]).run Tryz.prog w.drew = .ok (.string ⟨l.toArray⟩) (w.drew.freeze ⟨g, 0, none⟩ l.length) := by
  refine Lib.run_unsafeString_row w.drew 191 3 9 5 Tryz.underlying191 Tryz.cellsByte1 g cur.size (by have hg' : w.drew.heap[g]? = some (.cells cur 5 (0, 0)) := hg; simp [World.shape?, hg']) l h0 (by omega) (by unfold maxLen at hcm; omega) ?_
  intro j x hx
  have := hown.cells (g := g) rfl j (.int .u8 x.toNat) (by simp [Lib.byteCells, hx])
  exact this
 have A : Aside (w.grownBy (w.drew.freeze ⟨g, 0, none⟩ l.length) (some g)) := ⟨(grownBy_freeze w.drew g l.length).os, (grownBy_freeze w.drew g l.length).tape, (grownBy_freeze w.drew g l.length).output, (grownBy_freeze w.drew g l.length).size, (grownBy_freeze w.drew g l.length).block⟩
 clear hown hcs hcm hnc hg
 go_enter Tryz.func130, Tryz.ntmps130
 go_wp2
 go_region
 all_goals (go_wp2; go_ret; exact ⟨rfl, A.out⟩)
set_option maxHeartbeats 4000000 in
set_option maxRecDepth 100000 in
/-- .. that holds none. -/
theorem Tryz.bld_str0 {b : Nat} {p : Value} {w : World} (hbk : w.heap[b]? = some (.cells #[p, .slice none 0 0] 173 (0, 0))) :
  Calls Tryz.prog 130 #[.pointer (some ⟨b, 0, none⟩)] w fun e w' => e = .returned (.string ⟨#[]⟩) ∧ w.grownBy w' none := by
 have hUS : ∀ W q, (Builtin.unsafeString_ #[191, 3] 9 #[.pointer q, .int .i64 0]).run Tryz.prog W = .ok (.string .empty) W := fun W q => Lib.run_unsafeString_none W _ _ _ q
 have c1 : w.drew.cell? ⟨b, 1, none⟩ = some (.slice none 0 0) := by
  have : w.drew.heap[b]? = some (.cells #[p, .slice none 0 0] 173 (0, 0)) := hbk
  rw [Lib.cell_of_heap this]; rfl
 have hSD : (Builtin.unsafeSliceData_ #[161] 191 #[.slice none 0 0]).run Tryz.prog w.drew = .ok (.pointer none) w.drew := rfl
 have A : Aside (w.grownBy w.drew none) := grownBy_drew (World.grownBy.refl w none)
 go_enter Tryz.func130, Tryz.ntmps130
 go_wp2
 go_region
 all_goals (go_wp2; go_ret; exact ⟨rfl, A.out⟩)
set_option maxHeartbeats 4000000 in
set_option maxRecDepth 100000 in
theorem Tryz.bld_str0r {b g cap : Nat} {p : Value} {cur : Array Value} {w : World} (hbk : w.heap[b]? = some (.cells #[p, .slice (some ⟨g, 0, none⟩) 0 cap] 173 (0, 0))) (hc0 : cap ≠ 0) :
  Calls Tryz.prog 130 #[.pointer (some ⟨b, 0, none⟩)] w fun e w' => e = .returned (.string ⟨#[]⟩) ∧ w.grownBy w' none := by
 have hUS : ∀ W q, (Builtin.unsafeString_ #[191, 3] 9 #[.pointer q, .int .i64 0]).run Tryz.prog W = .ok (.string .empty) W := fun W q => Lib.run_unsafeString_none W _ _ _ q
 have c1 : w.drew.cell? ⟨b, 1, none⟩ = some (.slice (some ⟨g, 0, none⟩) 0 cap) := by
  have : w.drew.heap[b]? = some (.cells #[p, .slice (some ⟨g, 0, none⟩) 0 cap] 173 (0, 0)) := hbk
  rw [Lib.cell_of_heap this]; rfl
 have hSD : (Builtin.unsafeSliceData_ #[161] 191 #[.slice (some ⟨g, 0, none⟩) 0 cap]).run Tryz.prog w.drew = .ok (.pointer (some ⟨g, 0, none⟩)) w.drew :=
  Lib.run_unsafeSliceData_row _ _ _ _ _ _ hc0
 have A : Aside (w.grownBy w.drew none) := grownBy_drew (World.grownBy.refl w none)
 clear hc0
 go_enter Tryz.func130, Tryz.ntmps130
 go_wp2
 go_region
 all_goals (go_wp2; go_ret; exact ⟨rfl, A.out⟩)
set_option maxHeartbeats 4000000 in
set_option maxRecDepth 100000 in
theorem Tryz.bld_str0n {b g : Nat} {p : Value} {cur : Array Value} {w : World} (hbk : w.heap[b]? = some (.cells #[p, .slice (some ⟨g, 0, none⟩) 0 0] 173 (0, 0))) (hg : w.heap[g]? = some (.cells cur 5 (0, 0))) :
  Calls Tryz.prog 130 #[.pointer (some ⟨b, 0, none⟩)] w fun e w' => e = .returned (.string ⟨#[]⟩) ∧ w.grownBy w' none := by
 have hUS : ∀ W q, (Builtin.unsafeString_ #[191, 3] 9 #[.pointer q, .int .i64 0]).run Tryz.prog W = .ok (.string .empty) W := fun W q => Lib.run_unsafeString_none W _ _ _ q
 have hlt : b < w.heap.size := (Array.getElem?_eq_some_iff.1 hbk).1
 have c1 : w.drew.cell? ⟨b, 1, none⟩ = some (.slice (some ⟨g, 0, none⟩) 0 0) := by
  have : w.drew.heap[b]? = some (.cells #[p, .slice (some ⟨g, 0, none⟩) 0 0] 173 (0, 0)) := hbk
  rw [Lib.cell_of_heap this]; rfl
 have hSD : (Builtin.unsafeSliceData_ #[161] 191 #[.slice (some ⟨g, 0, none⟩) 0 0]).run Tryz.prog w.drew = .ok (.pointer (some ⟨w.drew.heap.size, 0, none⟩)) (w.drew.alloc (.view ⟨g, 0, none⟩ 5)) :=
  Lib.run_unsafeSliceData_zero w.drew _ _ 5 Tryz.underlying191 ⟨g, 0, none⟩ 0 (5, cur.size) (by have hg' : w.drew.heap[g]? = some (.cells cur 5 (0, 0)) := hg; simp [World.shape?, hg'])
 have c2 : (w.drew.alloc (.view ⟨g, 0, none⟩ 5)).cell? ⟨b, 1, none⟩ = some (.slice (some ⟨g, 0, none⟩) 0 0) := by
  have : (w.drew.alloc (.view ⟨g, 0, none⟩ 5)).heap[b]? = _ := (Lib.alloc_old w.drew _ b hlt).trans hbk
  rw [Lib.cell_of_heap this]; rfl
 have c3 : (w.alloc (.view ⟨g, 0, none⟩ 5)).drew.cell? ⟨b, 1, none⟩ = some (.slice (some ⟨g, 0, none⟩) 0 0) := c2
 have c0 : w.cell? ⟨b, 1, none⟩ = some (.slice (some ⟨g, 0, none⟩) 0 0) := c1
 have A : Aside (w.grownBy (w.alloc (.view ⟨g, 0, none⟩ 5)).drew none) := grownBy_drew (World.grownBy_alloc w _ none)
 go_enter Tryz.func130, Tryz.ntmps130
 go_wp2
 go_region
 all_goals (go_wp2; go_ret; exact ⟨rfl, A.out⟩)
theorem grownBy_none {w w' : World} (h : w.grownBy w' none) (r : Option Nat) : w.grownBy w' r := ⟨h.os, h.tape, h.output, h.size, fun k hk _ => h.block k hk (by simp)⟩
/-- String. -/
theorem Tryz.bld_str {b : Nat} {p v : Value} {l : List UInt8} {w : World} (hbk : w.heap[b]? = some (.cells #[p, v] 173 (0, 0))) (hown : w.ownsRow 0 5 1 v l.length (Lib.byteCells l)) :
  Calls Tryz.prog 130 #[.pointer (some ⟨b, 0, none⟩)] w fun e w' => e = .returned (.string ⟨l.toArray⟩) ∧ w.grownBy w' v.ownBlock := by
 have hown2 := hown
 rcases hown.2 with ⟨rfl, h0⟩ | ⟨g, cap, cur, rfl, hb0, hg, hnc, hcm, hcs, htake⟩
 ·have hl : l = [] := List.eq_nil_of_length_eq_zero h0
  subst hl
  exact (Tryz.bld_str0 hbk).mono fun e w' ⟨h1, h2⟩ => ⟨h1, grownBy_none h2 _⟩
 ·by_cases h0 : l = []
  ·subst h0
   by_cases hc : cap = 0
   ·subst hc
    exact (Tryz.bld_str0n hbk hg).mono fun e w' ⟨h1, h2⟩ => ⟨h1, grownBy_none h2 _⟩
   ·exact (Tryz.bld_str0r (cur := cur) hbk hc).mono fun e w' ⟨h1, h2⟩ => ⟨h1, grownBy_none h2 _⟩
  ·exact Tryz.bld_str1 h0 hbk hg hnc hcm hcs hown2
end Go.Proofs
/- The program logic's rules: a strings.Builder in a local box. No condition. -/
set_option linter.unusedVariables false
set_option linter.unusedSimpArgs false
namespace Go.Proofs.YtabihkfhoohfnaaGreatDoor.X
open Go Go.RowKit Go.Proofs
section
variable {N : Nat} {s : St} {d : Nat} {ty : TypeId} {pos : String} {af : Array Edge} {g : Option (Nat × Bool)}
theorem zero66' : (Tryz.prog.info? 173).bind (·.zero) = some (.agg #[.pointer none, .slice none 0 0]) := by kernel_rfl
theorem zero66 : ∃ i, Tryz.prog.info? 173 = some i ∧ i.zero = some (.agg #[.pointer none, .slice none 0 0]) := Option.bind_eq_some_iff.1 zero66'
theorem bt_new {G : Gh} {L : Loc} {f : Nat} (hf : L.tok f = some (.slice none 0 0)) : ObjOK G L (.cells #[.pointer none, .slice none 0 0] 173) (.bt 173 [.v .nilp, .om f 0]) := by
 refine ⟨#[.pointer none, .slice none 0 0], rfl, rfl, fun j x e => ?_⟩
 match j, e with
 | 0, e => cases e; exact ⟨rfl, .nilp⟩
 | 1, e => cases e; exact ⟨rfl, hf, none, 0, rfl⟩
/-- var b strings.Builder; its row: f -/
theorem op_alb' {P : Program} {i : TypeInfo} (hi : P.info? 173 = some i) (hz : i.zero = some (.agg #[.pointer none, .slice none 0 0])) {f : Nat} (hN : d < N) (hk : get s (.b d) = none) (hf : get s (.t f) = none) :
  OpOK P N ⟨some d, .alloc 173, ty, pos, af, g⟩ s [.b d, .t f] [(.s d, .sv (.lp d 0)), (.b d, .bt 173 [.v .nilp, .om f 0]), (.t f, .tk true 5 1 [])] := by
 intro t hR E G L a w hr K Q hK
 have hk' : get t (.b d) = none := by rw [hR (.b d) (by simp)]; exact hk
 have hf' : get t (.t f) = none := by rw [hR (.t f) (by simp)]; exact hf
 have hr0 := hr.niltok (el := 5) (esz := 1) hf' (by decide)
 have hr1 := hr0.alloc d (by simpa [get] using hk') (.cells #[.pointer none, .slice none 0 0] 173) (.bt 173 [.v .nilp, .om f 0]) rfl rfl (bt_new (by simp [Loc.setBox, Loc.setTok]))
 have he : (execOp a.eval ⟨some d, .alloc 173, ty, pos, af, g⟩).run P w = .ok (.value (.pointer (some ⟨w.heap.size, 0, none⟩))) (w.alloc (.cells #[.pointer none, .slice none 0 0] 173)) := by
  simp [execOp, Instr.alloc, zeroValue, typeInfo, hi, hz, newVar, newRow]
  rfl
 unfold Oper.wp
 rw [he]
 exact hK _ _ G _ (hr1.put d hN _ (.lp d 0) ⟨w.heap.size, by simp [Loc.setBox], rfl⟩)
set_option maxRecDepth 1000000 in
theorem op_alb {f : Nat} (hN : d < N) (hk : get s (.b d) = none) (hf : get s (.t f) = none) :
  OpOK Tryz.prog N ⟨some d, .alloc 173, ty, pos, af, g⟩ s [.b d, .t f] [(.s d, .sv (.lp d 0)), (.b d, .bt 173 [.v .nilp, .om f 0]), (.t f, .tk true 5 1 [])] :=
 Exists.elim zero66 fun i h => op_alb' h.1 h.2 hN hk hf
theorem lay_bytes {G : Gh} {l : List UInt8} {cells : List Value} (h : Lay G 1 (bsl l) cells) (hl : cells.length = l.length) : cells = Lib.byteCells l := by
 refine List.ext_getElem? fun i => ?_
 by_cases hi : i < l.length
 ·have h1 : (bsl l)[i]? = some (.int .u8 ((l[i]).toNat : Int)) := by simp [bsl, hi]
  have h2 := (h.2 i _ 0 (.int .u8 ((l[i]).toNat : Int)) h1 rfl).2
  have h3 : cells.getD (i * 1 + 0) undef = .int .u8 ((l[i]).toNat : Int) := V.int_eq h2
  simp only [Nat.mul_one, Nat.add_zero] at h3
  rw [List.getD_eq_getElem?_getD, List.getElem?_eq_getElem (by omega)] at h3
  rw [List.getElem?_eq_getElem (by omega)]
  simp only [Lib.byteCells, List.getElem?_map, List.getElem?_eq_getElem hi, Option.map_some]
  simpa using h3
 ·rw [List.getElem?_eq_none (by omega), List.getElem?_eq_none (by simp [Lib.byteCells]; omega)]
/-- What a builder's box is. -/
theorem bt_open {E : Ent} {G : Gh} {L : Loc} {a : Act} {w : World} {t : St} (hr : Rel E N G L a w t) {k f n : Nat} {c0 : Sv} (hk : get t (.b k) = some (.bt 173 [c0, .om f n])) (hc0 : c0 = .v .nilp ∨ c0 = .lp k 0) :
  ∃ b p v, L.box k = some b ∧ L.tok f = some v ∧ w.heap[b]? = some (.cells #[p, v] 173 (0, 0)) ∧ (p = .pointer none ∨ p = .pointer (some ⟨b, 0, none⟩)) := by
 obtain ⟨b, o, hb, _, hh, ⟨arr, rfl, hsz, hc⟩, _⟩ := hr.box k _ hk rfl
 have hp := (hc 0 c0 rfl).2
 have hv := (hc 1 (.om f n) rfl).2.1
 obtain ⟨al⟩ := arr
 match al, hsz with
 | [p, v], _ =>
  refine ⟨b, p, v, hb, hv, hh, ?_⟩
  rcases hc0 with rfl | rfl
  ·have h1 : V G p .nilp := hp
   cases h1; exact .inl rfl
  ·obtain ⟨b2, h2, h3⟩ := hp
   rw [hb] at h2; cases h2
   exact .inr h3
set_option maxRecDepth 1000000 in
set_option maxHeartbeats 2000000 in
/-- b.WriteString(text) -/
theorem op_bws {x y : Operand} {tys : Array TypeId} {k f n : Nat} {c0 : Sv} {xs : List UInt8} {l : List UInt8} (hN : d < N) (hx : opd x s = some (.lp k 0)) (hk : get s (.b k) = some (.bt 173 [c0, .om f n])) (hc0 : c0 = .v .nilp ∨ c0 = .lp k 0)
  (hf : get s (.t f) = some (.tk true 5 1 (bsl xs))) (hy : opv y s = some (.str l)) (hd : get s (.t d) = none) (hfn : isFn Tryz.prog 129 = true) (hlen : xs.length + l.length ≤ 140737488355328) :
  OpOK Tryz.prog N ⟨some d, .call { callee := .value (.func 129), args := #[x, y], argTypes := tys }, ty, pos, af, g⟩ s (rd x ++ (rd y ++ [.b k, .t f, .t d]))
   [(.s d, .sv (.v (.tup [.int .i64 l.length, .nili]))), (.b k, .bt 173 [.lp k 0, .om d (xs ++ l).length]), (.t d, .tk true 5 1 (bsl (xs ++ l))), (.t f, .gone)] := by
 intro t hR E G L a w hr K Q hK
 have hk' : get t (.b k) = some (.bt 173 [c0, .om f n]) := by rw [hR (.b k) (by simp)]; exact hk
 have hf' : get t (.t f) = some (.tk true 5 1 (bsl xs)) := by rw [hR (.t f) (by simp)]; exact hf
 have hd' : get t (.t d) = none := by rw [hR (.t d) (by simp)]; exact hd
 obtain ⟨b, p, v, hb, hv, hbk, hp⟩ := bt_open hr hk' hc0
 have hx1 : a.eval x = .pointer (some ⟨b, 0, none⟩) := by
  obtain ⟨b2, h2, h3⟩ := opd_sound hr hR.left hx
  rw [hb] at h2; cases h2; exact h3
 have hy1 : a.eval y = .string ⟨l.toArray⟩ := V.str_eq (opv_sound hr hR.right.left hy)
 obtain ⟨v2, hv2, ⟨cells, _, hown, hz, hL, hkn0⟩, hmay⟩ := hr.tok f true 5 1 (bsl xs) hf'
 rw [hv] at hv2; cases hv2
 have hlx : (bsl xs).length = xs.length := by simp [bsl]
 have hne : v.ownBlock ≠ some b := fun e => by
  have := hr.disj (.t f) (.b k) b ⟨⟨_, _, _, _, hf'⟩, v, hv, e⟩ ⟨⟨_, hk', rfl⟩, hb⟩
  cases this
 have hsz : (⟨l.toArray⟩ : ByteArray).size = l.length := by simp [ByteArray.size]
 have he : (execOp a.eval ⟨some d, .call { callee := .value (.func 129), args := #[x, y], argTypes := tys }, ty, pos, af, g⟩).run Tryz.prog w = .ok (.enter 129 #[.pointer (some ⟨b, 0, none⟩), .string ⟨l.toArray⟩]) w := by
  have heF : a.eval (.func 129) = .func (.func 129) #[] #[] := rfl
  have e : #[] ++ Array.map a.eval #[x, y] ++ #[] = #[.pointer (some ⟨b, 0, none⟩), .string ⟨l.toArray⟩] := by simp [hx1, hy1]
  simp only [execOp, resolve, heF, Deferred.ofValue, Sem.run_bind, Sem.run_pure, Result.andThen_ok, invoke, run_callFunc hfn, e]
 unfold Oper.wp
 rw [he]
 refine (Tryz.bld_ws hbk hp hown hne (by rw [hsz, hlx]; exact hlen)).mono ?_
 rintro e w' ⟨rfl, w1, v', w2, t1, hk1, hown1, ho2, hg, hat, hcell, t2, hk2, hk3⟩
 have hr1 := hr.turn (cv0 := .bt 173 [c0, .om f n]) (cv := .bt 173 [.lp k 0, .om f n]) hk' rfl rfl rfl hb (o := .cells #[.pointer (some ⟨b, 0, none⟩), v] 173 (0, 0)) ⟨_, rfl, rfl, fun j z e => by
  match j, e with
  | 0, e => cases e; exact ⟨rfl, b, hb, rfl⟩
  | 1, e =>
   cases e
   obtain ⟨_, _, _, _, _, ⟨arr, h1, h2, h3⟩, _⟩ := hr.box k _ hk' rfl
   refine ⟨rfl, hv, ?_⟩
   obtain ⟨b0, o0, q1, _, q3, ⟨arr0, q4, q5, q6⟩, _⟩ := hr.box k _ hk' rfl
   rw [hb] at q1; cases q1
   rw [hbk] at q3; cases q3
   cases q4
   exact (q6 1 _ rfl).2.2⟩ t1.os t1.tape t1.output t1.size t1.block hk1
 have hbl : (bsl l).length = l.length := by simp [bsl]
 obtain ⟨G', _, hle, hr2⟩ := grow_tok hr1 (k := f) (d := d) (m := true) (el := 5) (esz := 1) (xs := bsl xs) (ys := bsl l) (v1 := v') (w1 := w2) (news := Lib.strCells ⟨l.toArray⟩) (by simpa [get] using hf') (by simpa [get] using hd') hv hown1 hL (by decide)
  (fun blk e o u h => by have := hkn0 blk e o; rw [this] at h; cases h) (by rw [hbl, ← hsz]; exact ho2) hg hat hcell (strCells_lay G l)
 have e1 : bsl xs ++ bsl l = bsl (xs ++ l) := by simp [bsl]
 rw [e1] at hr2
 have hs2 : ∃ A C, v' = .slice A (xs ++ l).length C := by
  have hn : (bsl xs).length + (⟨l.toArray⟩ : ByteArray).size = (xs ++ l).length := by rw [hlx, hsz, List.length_append]
  rcases ho2.2 with ⟨h1, h2⟩ | ⟨g2, cap, cur, h1, _⟩
  ·rw [hn] at h2; exact ⟨none, 0, by rw [h2]; exact h1⟩
  ·exact ⟨_, _, by rw [← hn]; exact h1⟩
 have hr3 := hr2.turn (cv0 := .bt 173 [.lp k 0, .om f n]) (cv := .bt 173 [.lp k 0, .om d (xs ++ l).length]) (k := k) (by simp [get]) rfl rfl rfl (blk := b) hb (o := .cells #[.pointer (some ⟨b, 0, none⟩), v'] 173 (0, 0)) ⟨_, rfl, rfl, fun j z e => by
  match j, e with
  | 0, e => cases e; exact ⟨rfl, b, hb, rfl⟩
  | 1, e => cases e; exact ⟨rfl, by simp [Loc.setTok], hs2⟩⟩ t2.os t2.tape t2.output t2.size t2.block hk3
 have hr4 := hr3.put d hN (.tuple #[.int .i64 (⟨l.toArray⟩ : ByteArray).size, .nilIface]) (.v (.tup [.int .i64 l.length, .nili])) (by rw [hsz]; exact V.tup2 (.int _ _) .nili)
 refine hK _ w' G' (L.setTok d v') (hr4.ext fun c => ?_)
 simp only [List.cons_append, List.nil_append, get]
 repeat' split
 all_goals first | rfl | (rename_i h1 h2; subst h1; cases h2) | (exfalso; simp_all)
set_option maxRecDepth 1000000 in
set_option maxHeartbeats 2000000 in
/-- b.String(): the builder is not written any more -/
theorem op_bstr {x : Operand} {tys : Array TypeId} {k f n : Nat} {c0 : Sv} {xs : List UInt8} (hN : d < N) (hx : opd x s = some (.lp k 0)) (hk : get s (.b k) = some (.bt 173 [c0, .om f n])) (hc0 : c0 = .v .nilp ∨ c0 = .lp k 0)
  (hf : get s (.t f) = some (.tk true 5 1 (bsl xs))) (hd : get s (.t d) = none) (hfn : isFn Tryz.prog 130 = true) :
  OpOK Tryz.prog N ⟨some d, .call { callee := .value (.func 130), args := #[x], argTypes := tys }, ty, pos, af, g⟩ s (rd x ++ [.b k, .t f, .t d])
   [(.s d, .sv (.v (.str xs))), (.t d, .tk true 5 1 []), (.t f, .gone)] := by
 intro t hR E G L a w hr K Q hK
 have hk' : get t (.b k) = some (.bt 173 [c0, .om f n]) := by rw [hR (.b k) (by simp)]; exact hk
 have hf' : get t (.t f) = some (.tk true 5 1 (bsl xs)) := by rw [hR (.t f) (by simp)]; exact hf
 have hd' : get t (.t d) = none := by rw [hR (.t d) (by simp)]; exact hd
 have hne' : d ≠ f := by rintro rfl; rw [hf'] at hd'; cases hd'
 obtain ⟨b, p, v, hb, hv, hbk, hp⟩ := bt_open hr hk' hc0
 have hx1 : a.eval x = .pointer (some ⟨b, 0, none⟩) := by
  obtain ⟨b2, h2, h3⟩ := opd_sound hr hR.left hx
  rw [hb] at h2; cases h2; exact h3
 obtain ⟨v2, hv2, ⟨cells, _, hown, hz, hL, hkn0⟩, hmay⟩ := hr.tok f true 5 1 (bsl xs) hf'
 rw [hv] at hv2; cases hv2
 have hlx : (bsl xs).length = xs.length := by simp [bsl]
 have he : (execOp a.eval ⟨some d, .call { callee := .value (.func 130), args := #[x], argTypes := tys }, ty, pos, af, g⟩).run Tryz.prog w = .ok (.enter 130 #[.pointer (some ⟨b, 0, none⟩)]) w := by
  have heF : a.eval (.func 130) = .func (.func 130) #[] #[] := rfl
  have e : #[] ++ Array.map a.eval #[x] ++ #[] = #[.pointer (some ⟨b, 0, none⟩)] := by simp [hx1]
  simp only [execOp, resolve, heF, Deferred.ofValue, Sem.run_bind, Sem.run_pure, Result.andThen_ok, invoke, run_callFunc hfn, e]
 unfold Oper.wp
 rw [he]
 have hcl : cells.length = xs.length := by have := hown.1; rw [hlx] at this; simpa using this
 have hcb := lay_bytes hL hcl
 rw [hlx, hcb] at hown
 refine (Tryz.bld_str hbk hown).mono ?_
 rintro e w' ⟨rfl, hg⟩
 have hr1 := hr.gonetok hf'
 have hmine : ∀ b, v.ownBlock = some b → owns t L (.t f) b := fun b hb => ⟨⟨_, _, _, _, hf'⟩, v, hv, hb⟩
 obtain ⟨G', _, hle, hr2⟩ := hr1.newtok true (d := d) (el := 5) (esz := 1) (xs := []) (v1 := .slice none 0 0) (cells := []) (row := v.ownBlock) (by simp [get, Ne.symm hne']; exact hd') (by decide) hg (fun b hb => by
   refine ⟨(owns_lt hr (hmine b hb)).2, fun c hc => ?_, fun H g => hr.hdisj _ _ (hmine b hb) H (by simpa [get] using g), (hmay b hb).2, fun o u e => ?_⟩
   ·by_cases e : c = .t f
    ·subst e; obtain ⟨⟨m, el, esz, xs, g⟩, _⟩ := hc; simp [get] at g
    ·exact e (hr.disj c (.t f) b (owns_cons e hc) (hmine b hb))
   ·have := hkn0 b hb o
    rw [this] at e; cases e) (fun b hb => by simp [Value.ownBlock] at hb) (World.ownsRow_nil w' 0 5 1) ⟨fun i e h => by simp at h, fun i e j c h => by simp at h⟩ (fun b hb => by simp [Value.ownBlock] at hb)
 have hr4 := hr2.put d hN (.string ⟨xs.toArray⟩) (.v (.str xs)) (.str _)
 exact hK _ w' G' _ hr4
end
/- The library's functions as calls of the logic: HasPrefix, CutPrefix, Index, IndexByte, ParseUint, FormatUint, ReplaceAll. Condition: the texts are not too long. -/
theorem ba (s : List UInt8) : (⟨s.toArray⟩ : ByteArray).data.toList = s := by simp
theorem bas (s : List UInt8) : (⟨s.toArray⟩ : ByteArray).size = s.length := by simp [ByteArray.size]
theorem has_pure (s p : List UInt8) : Pure Tryz.prog 54 [.str s, .str p] (.bool (Lib.hasPrefix s p)) := Pure.of_same fun G w c _ _ _ hV => by
 obtain ⟨x, y, rfl, hx, hy⟩ := hV.two
 rw [hx.str_eq, hy.str_eq]
 refine (Tryz.strings_HasPrefix _ _ w).mono fun e w' ⟨he, hw⟩ => ⟨⟨_, he, ?_⟩, hw⟩
 rw [ba, ba]; exact .bool _
theorem cut_pure (s p : List UInt8) : Pure Tryz.prog 125 [.str s, .str p] (.tup [.str (Lib.trimPrefix s p), .bool (Lib.hasPrefix s p)]) := Pure.of_same fun G w c _ _ _ hV => by
 obtain ⟨x, y, rfl, hx, hy⟩ := hV.two
 rw [hx.str_eq, hy.str_eq]
 refine (Tryz.strings_CutPrefix _ _ w).mono fun e w' ⟨he, hw⟩ => ⟨⟨_, he, ?_⟩, hw⟩
 rw [ba, ba]; exact V.tup2 (.str _) (.bool _)
theorem index_pure (s : List UInt8) (c : UInt8) : Pure Tryz.prog 128 [.str s, .str [c]] (.int .i64 (Lib.indexByte s c)) := Pure.of_same fun G w cc _ _ _ hV => by
 obtain ⟨x, y, rfl, hx, hy⟩ := hV.two
 rw [hx.str_eq, hy.str_eq]
 refine (Tryz.strings_Index_one _ c w).mono fun e w' ⟨he, hw⟩ => ⟨⟨_, he, ?_⟩, hw⟩
 rw [ba]; exact .int _ _
theorem indexByte_pure (s : List UInt8) (c : UInt8) : Pure Tryz.prog 131 [.str s, .int .u8 (c.toNat : Int)] (.int .i64 (Lib.indexByte s c)) := Pure.of_same fun G w cc _ _ _ hV => by
 obtain ⟨x, y, rfl, hx, hy⟩ := hV.two
 rw [hx.str_eq, hy.int_eq]
 refine (Tryz.strings_IndexByte _ _ w).mono fun e w' ⟨he, hw⟩ => ⟨⟨_, he, ?_⟩, hw⟩
 rw [ba]
 have : ((c.toNat : Int).toNat.toUInt8) = c := by simp
 rw [this]; exact .int _ _
theorem parse_ok (s : List UInt8) (h63 : s.length ≤ 281474976710656) (u : Nat) (h : Lib.parseUintB 64 s = .ok u) : Pure Tryz.prog 126 [.str s, .int .i64 10, .int .i64 64] (.tup [.int .u64 u, .nili]) := Pure.of_calls fun G w c _ _ _ hV => by
 obtain ⟨x, y, z, rfl, hx, hy, hz⟩ := hV.three
 rw [hx.str_eq, hy.int_eq, hz.int_eq]
 refine (Tryz.strconv_ParseUint_10_at64_ok _ (by rw [bas]; omega) u (by rw [ba]; exact h) w).mono fun e w' ⟨he, hw⟩ => ⟨_, he, V.tup2 (.int _ _) .nili, ?_⟩
 rcases hw with rfl | rfl
 ·exact Below.refl _ _
 ·exact Go.Joins.below_bytesWorld _ _ _ _ (Nat.le_refl _)
theorem parse_bad (s : List UInt8) (h63 : s.length ≤ 281474976710656) (h : ∀ u, Lib.parseUintB 64 s ≠ .ok u) : ∃ u : Nat, Pure Tryz.prog 126 [.str s, .int .i64 10, .int .i64 64] (.tup [.int .u64 u, .ifc 209 .junk]) := by
 rcases h2 : Lib.parseUintB 64 s with u | _ | _
 ·exact absurd h2 (h u)
 ·
  refine ⟨0, Pure.of_calls fun G w c hg _ _ hV => ?_⟩
  obtain ⟨x, y, z, rfl, hx, hy, hz⟩ := hV.three
  rw [hx.str_eq, hy.int_eq, hz.int_eq]
  obtain ⟨te, pe, h4⟩ := gokSyn hg
  refine (Tryz.strconv_ParseUint_10_at64_syntax _ (by rw [bas]; omega) (by rw [ba]; exact h2.trans rfl) _ w h4 (.inr ⟨te, pe, rfl⟩)).mono fun e w' ⟨n, he, _, _, hw⟩ => ⟨_, he, V.tup2 (.int _ _) (.ifc _ _ _ (.junk _ rfl)), hw⟩
 ·
  refine ⟨18446744073709551615, Pure.of_calls fun G w c hg _ _ hV => ?_⟩
  obtain ⟨x, y, z, rfl, hx, hy, hz⟩ := hV.three
  rw [hx.str_eq, hy.int_eq, hz.int_eq]
  obtain ⟨te, pe, h4⟩ := gokRange hg
  refine (Tryz.strconv_ParseUint_10_at64_range _ (by rw [bas]; omega) (by rw [ba]; exact h2) _ w h4 (.inr ⟨te, pe, rfl⟩)).mono fun e w' ⟨n, he, _, _, hw⟩ => ⟨_, he, V.tup2 (.int _ _) (.ifc _ _ _ (.junk _ rfl)), hw⟩
theorem format_pure (u : Nat) (hu : u < 18446744073709551616) : Pure Tryz.prog 190 [.int .u64 u, .int .i64 10] (.str (Lib.decDigits u)) := Pure.of_calls fun G w c hg _ _ hV => by
 obtain ⟨x, y, rfl, hx, hy⟩ := hV.two
 rw [hx.int_eq, hy.int_eq]
 exact (Tryz.inner_FormatUint u hu w (gokPow hg)).mono fun e w' ⟨he, hw⟩ => ⟨_, he, .str _, hw⟩
set_option linter.unusedSectionVars false
set_option maxRecDepth 100000
/- lex: what a byte is, in the program and in the document. -/
theorem fn122_q : isFn Tryz.prog 122 = true := by kernel_rfl
theorem fn124_q : isFn Tryz.prog 124 = true := by kernel_rfl
theorem wru64 {n : Int} (h0 : 0 ≤ n) (h : n < 18446744073709551616) : IntKind.u64.wrap n = n := by simp only [IntKind.wrap, IntKind.bits, IntKind.signed]; simp; omega
theorem wru8 {n : Int} (h0 : 0 ≤ n) (h : n < 256) : IntKind.u8.wrap n = n := by simp only [IntKind.wrap, IntKind.bits, IntKind.signed]; simp; omega
theorem letter_pure (c : UInt8) : Pure Tryz.prog 122 [.int .u8 (c.toNat : Int)] (.bool (isLet c)) := by
 refine Pure.of_tri Tryz.func122 rfl rfl (ltb rfl) fun H => ?_
 refine Tri.seq (Tri.region ?_)
 refine TriL.c1 rfl (op_as (ltb rfl) rfl) ?_
 refine TriL.nil (Tri.seq (Tri.region ?_))
 refine TriL.c1 rfl (op_mv (ltb rfl) rfl) ?_
 refine TriL.c1 rfl (op_bin (ltb rfl) rfl rfl rfl) ?_
 refine TriL.c1 rfl (op_mv (ltb rfl) rfl) ?_
 refine TriL.split (d := 5) rfl (fun hg1 => ?_) (fun hg1 => ?_)
 ·refine TriL.g1 rfl (ltb rfl) rfl hg1 (op_mv (ltb rfl) rfl) ?_
  refine TriL.g1 rfl (ltb rfl) rfl hg1 (op_bin (ltb rfl) rfl rfl rfl) ?_
  refine TriL.c1 rfl (op_pickt (ltb rfl) rfl hg1 rfl) ?_
  refine TriL.c1 rfl (op_mv (ltb rfl) rfl) ?_
  refine TriL.split (d := 9) rfl (fun hg2 => ?_) (fun hg2 => ?_)
  ·iterate 3 (refine TriL.skipu rfl rfl (ltb rfl) (ltb rfl) rfl hg2 ?_)
   iterate 2 (refine TriL.skipg rfl rfl (ltb rfl) (ltb rfl) rfl ?_)
   refine TriL.skipu rfl rfl (ltb rfl) (ltb rfl) rfl hg2 ?_
   refine TriL.c1 rfl (op_pickt (ltb rfl) rfl hg2 rfl) ?_
   refine TriL.c1 rfl (op_as (ltb rfl) rfl) ?_
   refine TriL.nil (Tri.ret ?_)
   exact ⟨.inr rfl, (ResOK.r1 rfl (.tmp rfl .nil)).cast (by exact congrArg AV.bool (Bool.eq_iff_iff.2 (by simp [isLet] at *; omega))), rfl⟩
  ·refine TriL.g1 rfl (ltb rfl) rfl hg2 (op_mv (ltb rfl) rfl) ?_
   refine TriL.g1 rfl (ltb rfl) rfl hg2 (op_bin (ltb rfl) rfl rfl rfl) ?_
   refine TriL.g1 rfl (ltb rfl) rfl hg2 (op_mv (ltb rfl) rfl) ?_
   refine TriL.split (d := 12) rfl (fun hg3 => ?_) (fun hg3 => ?_)
   ·refine TriL.g1 rfl (ltb rfl) rfl hg3 (op_mv (ltb rfl) rfl) ?_
    refine TriL.g1 rfl (ltb rfl) rfl hg3 (op_bin (ltb rfl) rfl rfl rfl) ?_
    refine TriL.g1 rfl (ltb rfl) rfl hg2 (op_pickt (ltb rfl) rfl hg3 rfl) ?_
    refine TriL.c1 rfl (op_pickf (ltb rfl) rfl hg2 rfl) ?_
    refine TriL.c1 rfl (op_as (ltb rfl) rfl) ?_
    refine TriL.nil (Tri.ret ?_)
    exact ⟨.inr rfl, (ResOK.r1 rfl (.tmp rfl .nil)).cast (by exact congrArg AV.bool (Bool.eq_iff_iff.2 (by simp [isLet] at *; omega))), rfl⟩
   ·iterate 2 (refine TriL.skipu rfl rfl (ltb rfl) (ltb rfl) rfl hg3 ?_)
    refine TriL.g1 rfl (ltb rfl) rfl hg2 (op_pickf (ltb rfl) rfl hg3 rfl) ?_
    refine TriL.c1 rfl (op_pickf (ltb rfl) rfl hg2 rfl) ?_
    refine TriL.c1 rfl (op_as (ltb rfl) rfl) ?_
    refine TriL.nil (Tri.ret ?_)
    exact ⟨.inr rfl, (ResOK.r1 rfl (.tmp rfl .nil)).cast (by exact congrArg AV.bool (Bool.eq_iff_iff.2 (by simp [isLet] at *; omega))), rfl⟩
 ·iterate 2 (refine TriL.skipu rfl rfl (ltb rfl) (ltb rfl) rfl hg1 ?_)
  refine TriL.c1 rfl (op_pickf (ltb rfl) rfl hg1 rfl) ?_
  refine TriL.c1 rfl (op_mv (ltb rfl) rfl) ?_
  refine TriL.g1 rfl (ltb rfl) rfl rfl (op_mv (ltb rfl) rfl) ?_
  refine TriL.g1 rfl (ltb rfl) rfl rfl (op_bin (ltb rfl) rfl rfl rfl) ?_
  refine TriL.g1 rfl (ltb rfl) rfl rfl (op_mv (ltb rfl) rfl) ?_
  refine TriL.split (d := 12) rfl (fun hg4 => ?_) (fun hg4 => ?_)
  ·refine TriL.g1 rfl (ltb rfl) rfl hg4 (op_mv (ltb rfl) rfl) ?_
   refine TriL.g1 rfl (ltb rfl) rfl hg4 (op_bin (ltb rfl) rfl rfl rfl) ?_
   refine TriL.g1 rfl (ltb rfl) rfl rfl (op_pickt (ltb rfl) rfl hg4 rfl) ?_
   refine TriL.c1 rfl (op_pickf (ltb rfl) rfl rfl rfl) ?_
   refine TriL.c1 rfl (op_as (ltb rfl) rfl) ?_
   refine TriL.nil (Tri.ret ?_)
   exact ⟨.inr rfl, (ResOK.r1 rfl (.tmp rfl .nil)).cast (by exact congrArg AV.bool (Bool.eq_iff_iff.2 (by simp [isLet] at *; omega))), rfl⟩
  ·iterate 2 (refine TriL.skipu rfl rfl (ltb rfl) (ltb rfl) rfl hg4 ?_)
   refine TriL.g1 rfl (ltb rfl) rfl rfl (op_pickf (ltb rfl) rfl hg4 rfl) ?_
   refine TriL.c1 rfl (op_pickf (ltb rfl) rfl rfl rfl) ?_
   refine TriL.c1 rfl (op_as (ltb rfl) rfl) ?_
   refine TriL.nil (Tri.ret ?_)
   exact ⟨.inr rfl, (ResOK.r1 rfl (.tmp rfl .nil)).cast (by exact congrArg AV.bool (Bool.eq_iff_iff.2 (by simp [isLet] at *; omega))), rfl⟩
theorem digit_pure (c : UInt8) : Pure Tryz.prog 124 [.int .u8 (c.toNat : Int)] (.bool (isDig c)) := by
 refine Pure.of_tri Tryz.func124 rfl rfl (ltb rfl) fun H => ?_
 refine Tri.seq (Tri.region ?_)
 refine TriL.c1 rfl (op_as (ltb rfl) rfl) ?_
 refine TriL.nil (Tri.seq (Tri.region ?_))
 refine TriL.c1 rfl (op_mv (ltb rfl) rfl) ?_
 refine TriL.c1 rfl (op_bin (ltb rfl) rfl rfl rfl) ?_
 refine TriL.c1 rfl (op_mv (ltb rfl) rfl) ?_
 refine TriL.split (d := 5) rfl (fun hg1 => ?_) (fun hg1 => ?_)
 ·refine TriL.g1 rfl (ltb rfl) rfl hg1 (op_mv (ltb rfl) rfl) ?_
  refine TriL.g1 rfl (ltb rfl) rfl hg1 (op_bin (ltb rfl) rfl rfl rfl) ?_
  refine TriL.c1 rfl (op_pickt (ltb rfl) rfl hg1 rfl) ?_
  refine TriL.c1 rfl (op_as (ltb rfl) rfl) ?_
  refine TriL.nil (Tri.ret ?_)
  exact ⟨.inr rfl, (ResOK.r1 rfl (.tmp rfl .nil)).cast (by exact congrArg AV.bool (Bool.eq_iff_iff.2 (by simp [isDig] at *; omega))), rfl⟩
 ·iterate 2 (refine TriL.skipu rfl rfl (ltb rfl) (ltb rfl) rfl hg1 ?_)
  refine TriL.c1 rfl (op_pickf (ltb rfl) rfl hg1 rfl) ?_
  refine TriL.c1 rfl (op_as (ltb rfl) rfl) ?_
  refine TriL.nil (Tri.ret ?_)
  exact ⟨.inr rfl, (ResOK.r1 rfl (.tmp rfl .nil)).cast (by exact congrArg AV.bool (Bool.eq_iff_iff.2 (by simp [isDig] at *; omega))), rfl⟩
theorem nonl_pure (c : UInt8) : Pure Tryz.prog 56 [.int .u8 (c.toNat : Int)] (.bool (noNl c)) := by
 refine Pure.of_tri Tryz.func56 rfl rfl (ltb rfl) fun H => ?_
 refine Tri.seq (Tri.region ?_)
 refine TriL.c1 rfl (op_as (ltb rfl) rfl) ?_
 refine TriL.nil (Tri.seq (Tri.region ?_))
 refine TriL.c1 rfl (op_mv (ltb rfl) rfl) ?_
 refine TriL.c1 rfl (op_bin (ltb rfl) rfl rfl rfl) ?_
 refine TriL.c1 rfl (op_as (ltb rfl) rfl) ?_
 refine TriL.nil (Tri.ret ?_)
 exact ⟨.inr rfl, (ResOK.r1 rfl (.tmp rfl .nil)).cast (by exact congrArg AV.bool (Bool.eq_iff_iff.2 (by simp [noNl] at *; omega))), rfl⟩
theorem rletter_pure (c : UInt8) : Pure Tryz.prog 70 [.int .u8 (c.toNat : Int)] (.bool (isLet c)) := by
 refine Pure.of_tri Tryz.func70 rfl rfl (ltb rfl) fun H => ?_
 refine Tri.seq (Tri.region ?_)
 refine TriL.c1 rfl (op_as (ltb rfl) rfl) ?_
 refine TriL.nil (Tri.seq (Tri.region ?_))
 refine TriL.c1 rfl (op_mv (ltb rfl) rfl) ?_
 refine TriL.c1 rfl (op_bin (ltb rfl) rfl rfl rfl) ?_
 refine TriL.c1 rfl (op_mv (ltb rfl) rfl) ?_
 refine TriL.split (d := 5) rfl (fun hg1 => ?_) (fun hg1 => ?_)
 ·refine TriL.g1 rfl (ltb rfl) rfl hg1 (op_mv (ltb rfl) rfl) ?_
  refine TriL.g1 rfl (ltb rfl) rfl hg1 (op_bin (ltb rfl) rfl rfl rfl) ?_
  refine TriL.c1 rfl (op_pickt (ltb rfl) rfl hg1 rfl) ?_
  refine TriL.c1 rfl (op_mv (ltb rfl) rfl) ?_
  refine TriL.split (d := 9) rfl (fun hg2 => ?_) (fun hg2 => ?_)
  ·iterate 3 (refine TriL.skipu rfl rfl (ltb rfl) (ltb rfl) rfl hg2 ?_)
   iterate 2 (refine TriL.skipg rfl rfl (ltb rfl) (ltb rfl) rfl ?_)
   refine TriL.skipu rfl rfl (ltb rfl) (ltb rfl) rfl hg2 ?_
   refine TriL.c1 rfl (op_pickt (ltb rfl) rfl hg2 rfl) ?_
   refine TriL.c1 rfl (op_as (ltb rfl) rfl) ?_
   refine TriL.nil (Tri.ret ?_)
   exact ⟨.inr rfl, (ResOK.r1 rfl (.tmp rfl .nil)).cast (by exact congrArg AV.bool (Bool.eq_iff_iff.2 (by simp [isLet] at *; omega))), rfl⟩
  ·refine TriL.g1 rfl (ltb rfl) rfl hg2 (op_mv (ltb rfl) rfl) ?_
   refine TriL.g1 rfl (ltb rfl) rfl hg2 (op_bin (ltb rfl) rfl rfl rfl) ?_
   refine TriL.g1 rfl (ltb rfl) rfl hg2 (op_mv (ltb rfl) rfl) ?_
   refine TriL.split (d := 12) rfl (fun hg3 => ?_) (fun hg3 => ?_)
   ·refine TriL.g1 rfl (ltb rfl) rfl hg3 (op_mv (ltb rfl) rfl) ?_
    refine TriL.g1 rfl (ltb rfl) rfl hg3 (op_bin (ltb rfl) rfl rfl rfl) ?_
    refine TriL.g1 rfl (ltb rfl) rfl hg2 (op_pickt (ltb rfl) rfl hg3 rfl) ?_
    refine TriL.c1 rfl (op_pickf (ltb rfl) rfl hg2 rfl) ?_
    refine TriL.c1 rfl (op_as (ltb rfl) rfl) ?_
    refine TriL.nil (Tri.ret ?_)
    exact ⟨.inr rfl, (ResOK.r1 rfl (.tmp rfl .nil)).cast (by exact congrArg AV.bool (Bool.eq_iff_iff.2 (by simp [isLet] at *; omega))), rfl⟩
   ·iterate 2 (refine TriL.skipu rfl rfl (ltb rfl) (ltb rfl) rfl hg3 ?_)
    refine TriL.g1 rfl (ltb rfl) rfl hg2 (op_pickf (ltb rfl) rfl hg3 rfl) ?_
    refine TriL.c1 rfl (op_pickf (ltb rfl) rfl hg2 rfl) ?_
    refine TriL.c1 rfl (op_as (ltb rfl) rfl) ?_
    refine TriL.nil (Tri.ret ?_)
    exact ⟨.inr rfl, (ResOK.r1 rfl (.tmp rfl .nil)).cast (by exact congrArg AV.bool (Bool.eq_iff_iff.2 (by simp [isLet] at *; omega))), rfl⟩
 ·iterate 2 (refine TriL.skipu rfl rfl (ltb rfl) (ltb rfl) rfl hg1 ?_)
  refine TriL.c1 rfl (op_pickf (ltb rfl) rfl hg1 rfl) ?_
  refine TriL.c1 rfl (op_mv (ltb rfl) rfl) ?_
  refine TriL.g1 rfl (ltb rfl) rfl rfl (op_mv (ltb rfl) rfl) ?_
  refine TriL.g1 rfl (ltb rfl) rfl rfl (op_bin (ltb rfl) rfl rfl rfl) ?_
  refine TriL.g1 rfl (ltb rfl) rfl rfl (op_mv (ltb rfl) rfl) ?_
  refine TriL.split (d := 12) rfl (fun hg4 => ?_) (fun hg4 => ?_)
  ·refine TriL.g1 rfl (ltb rfl) rfl hg4 (op_mv (ltb rfl) rfl) ?_
   refine TriL.g1 rfl (ltb rfl) rfl hg4 (op_bin (ltb rfl) rfl rfl rfl) ?_
   refine TriL.g1 rfl (ltb rfl) rfl rfl (op_pickt (ltb rfl) rfl hg4 rfl) ?_
   refine TriL.c1 rfl (op_pickf (ltb rfl) rfl rfl rfl) ?_
   refine TriL.c1 rfl (op_as (ltb rfl) rfl) ?_
   refine TriL.nil (Tri.ret ?_)
   exact ⟨.inr rfl, (ResOK.r1 rfl (.tmp rfl .nil)).cast (by exact congrArg AV.bool (Bool.eq_iff_iff.2 (by simp [isLet] at *; omega))), rfl⟩
  ·iterate 2 (refine TriL.skipu rfl rfl (ltb rfl) (ltb rfl) rfl hg4 ?_)
   refine TriL.g1 rfl (ltb rfl) rfl rfl (op_pickf (ltb rfl) rfl hg4 rfl) ?_
   refine TriL.c1 rfl (op_pickf (ltb rfl) rfl rfl rfl) ?_
   refine TriL.c1 rfl (op_as (ltb rfl) rfl) ?_
   refine TriL.nil (Tri.ret ?_)
   exact ⟨.inr rfl, (ResOK.r1 rfl (.tmp rfl .nil)).cast (by exact congrArg AV.bool (Bool.eq_iff_iff.2 (by simp [isLet] at *; omega))), rfl⟩
theorem rdigit_pure (c : UInt8) : Pure Tryz.prog 119 [.int .u8 (c.toNat : Int)] (.bool (isDig c)) := by
 refine Pure.of_tri Tryz.func119 rfl rfl (ltb rfl) fun H => ?_
 refine Tri.seq (Tri.region ?_)
 refine TriL.c1 rfl (op_as (ltb rfl) rfl) ?_
 refine TriL.nil (Tri.seq (Tri.region ?_))
 refine TriL.c1 rfl (op_mv (ltb rfl) rfl) ?_
 refine TriL.c1 rfl (op_bin (ltb rfl) rfl rfl rfl) ?_
 refine TriL.c1 rfl (op_mv (ltb rfl) rfl) ?_
 refine TriL.split (d := 5) rfl (fun hg1 => ?_) (fun hg1 => ?_)
 ·refine TriL.g1 rfl (ltb rfl) rfl hg1 (op_mv (ltb rfl) rfl) ?_
  refine TriL.g1 rfl (ltb rfl) rfl hg1 (op_bin (ltb rfl) rfl rfl rfl) ?_
  refine TriL.c1 rfl (op_pickt (ltb rfl) rfl hg1 rfl) ?_
  refine TriL.c1 rfl (op_as (ltb rfl) rfl) ?_
  refine TriL.nil (Tri.ret ?_)
  exact ⟨.inr rfl, (ResOK.r1 rfl (.tmp rfl .nil)).cast (by exact congrArg AV.bool (Bool.eq_iff_iff.2 (by simp [isDig] at *; omega))), rfl⟩
 ·iterate 2 (refine TriL.skipu rfl rfl (ltb rfl) (ltb rfl) rfl hg1 ?_)
  refine TriL.c1 rfl (op_pickf (ltb rfl) rfl hg1 rfl) ?_
  refine TriL.c1 rfl (op_as (ltb rfl) rfl) ?_
  refine TriL.nil (Tri.ret ?_)
  exact ⟨.inr rfl, (ResOK.r1 rfl (.tmp rfl .nil)).cast (by exact congrArg AV.bool (Bool.eq_iff_iff.2 (by simp [isDig] at *; omega))), rfl⟩
theorem rmark_pure (c : UInt8) : Pure Tryz.prog 85 [.int .u8 (c.toNat : Int)] (.bool (isMark c)) := by
 refine Pure.of_tri Tryz.func85 rfl rfl (ltb rfl) fun H => ?_
 refine Tri.seq (Tri.region ?_)
 refine TriL.c1 rfl (op_as (ltb rfl) rfl) ?_
 refine TriL.nil (Tri.seq (Tri.region ?_))
 refine TriL.c1 rfl (op_mv (ltb rfl) rfl) ?_
 refine TriL.c1 rfl (op_bin (ltb rfl) rfl rfl rfl) ?_
 refine TriL.c1 rfl (op_mv (ltb rfl) rfl) ?_
 refine TriL.split (d := 5) rfl (fun hg1 => ?_) (fun hg1 => ?_)
 ·iterate 2 (refine TriL.skipu rfl rfl (ltb rfl) (ltb rfl) rfl hg1 ?_)
  refine TriL.c1 rfl (op_pickt (ltb rfl) rfl hg1 rfl) ?_
  refine TriL.c1 rfl (op_mv (ltb rfl) rfl) ?_
  iterate 2 (refine TriL.skipu rfl rfl (ltb rfl) (ltb rfl) rfl rfl ?_)
  refine TriL.c1 rfl (op_pickt (ltb rfl) rfl rfl rfl) ?_
  refine TriL.c1 rfl (op_mv (ltb rfl) rfl) ?_
  iterate 2 (refine TriL.skipu rfl rfl (ltb rfl) (ltb rfl) rfl rfl ?_)
  refine TriL.c1 rfl (op_pickt (ltb rfl) rfl rfl rfl) ?_
  refine TriL.c1 rfl (op_mv (ltb rfl) rfl) ?_
  iterate 2 (refine TriL.skipu rfl rfl (ltb rfl) (ltb rfl) rfl rfl ?_)
  refine TriL.c1 rfl (op_pickt (ltb rfl) rfl rfl rfl) ?_
  refine TriL.c1 rfl (op_mv (ltb rfl) rfl) ?_
  iterate 2 (refine TriL.skipu rfl rfl (ltb rfl) (ltb rfl) rfl rfl ?_)
  refine TriL.c1 rfl (op_pickt (ltb rfl) rfl rfl rfl) ?_
  refine TriL.c1 rfl (op_mv (ltb rfl) rfl) ?_
  iterate 2 (refine TriL.skipu rfl rfl (ltb rfl) (ltb rfl) rfl rfl ?_)
  refine TriL.c1 rfl (op_pickt (ltb rfl) rfl rfl rfl) ?_
  refine TriL.c1 rfl (op_mv (ltb rfl) rfl) ?_
  iterate 2 (refine TriL.skipu rfl rfl (ltb rfl) (ltb rfl) rfl rfl ?_)
  refine TriL.c1 rfl (op_pickt (ltb rfl) rfl rfl rfl) ?_
  refine TriL.c1 rfl (op_as (ltb rfl) rfl) ?_
  refine TriL.nil (Tri.ret ?_)
  exact ⟨.inr rfl, (ResOK.r1 rfl (.tmp rfl .nil)).cast (by exact congrArg AV.bool (Bool.eq_iff_iff.2 (by simp [isMark] at *; omega))), rfl⟩
 ·refine TriL.g1 rfl (ltb rfl) rfl hg1 (op_mv (ltb rfl) rfl) ?_
  refine TriL.g1 rfl (ltb rfl) rfl hg1 (op_bin (ltb rfl) rfl rfl rfl) ?_
  refine TriL.c1 rfl (op_pickf (ltb rfl) rfl hg1 rfl) ?_
  refine TriL.c1 rfl (op_mv (ltb rfl) rfl) ?_
  refine TriL.split (d := 9) rfl (fun hg2 => ?_) (fun hg2 => ?_)
  ·iterate 2 (refine TriL.skipu rfl rfl (ltb rfl) (ltb rfl) rfl hg2 ?_)
   refine TriL.c1 rfl (op_pickt (ltb rfl) rfl hg2 rfl) ?_
   refine TriL.c1 rfl (op_mv (ltb rfl) rfl) ?_
   iterate 2 (refine TriL.skipu rfl rfl (ltb rfl) (ltb rfl) rfl rfl ?_)
   refine TriL.c1 rfl (op_pickt (ltb rfl) rfl rfl rfl) ?_
   refine TriL.c1 rfl (op_mv (ltb rfl) rfl) ?_
   iterate 2 (refine TriL.skipu rfl rfl (ltb rfl) (ltb rfl) rfl rfl ?_)
   refine TriL.c1 rfl (op_pickt (ltb rfl) rfl rfl rfl) ?_
   refine TriL.c1 rfl (op_mv (ltb rfl) rfl) ?_
   iterate 2 (refine TriL.skipu rfl rfl (ltb rfl) (ltb rfl) rfl rfl ?_)
   refine TriL.c1 rfl (op_pickt (ltb rfl) rfl rfl rfl) ?_
   refine TriL.c1 rfl (op_mv (ltb rfl) rfl) ?_
   iterate 2 (refine TriL.skipu rfl rfl (ltb rfl) (ltb rfl) rfl rfl ?_)
   refine TriL.c1 rfl (op_pickt (ltb rfl) rfl rfl rfl) ?_
   refine TriL.c1 rfl (op_mv (ltb rfl) rfl) ?_
   iterate 2 (refine TriL.skipu rfl rfl (ltb rfl) (ltb rfl) rfl rfl ?_)
   refine TriL.c1 rfl (op_pickt (ltb rfl) rfl rfl rfl) ?_
   refine TriL.c1 rfl (op_as (ltb rfl) rfl) ?_
   refine TriL.nil (Tri.ret ?_)
   exact ⟨.inr rfl, (ResOK.r1 rfl (.tmp rfl .nil)).cast (by exact congrArg AV.bool (Bool.eq_iff_iff.2 (by simp [isMark] at *; omega))), rfl⟩
  ·refine TriL.g1 rfl (ltb rfl) rfl hg2 (op_mv (ltb rfl) rfl) ?_
   refine TriL.g1 rfl (ltb rfl) rfl hg2 (op_bin (ltb rfl) rfl rfl rfl) ?_
   refine TriL.c1 rfl (op_pickf (ltb rfl) rfl hg2 rfl) ?_
   refine TriL.c1 rfl (op_mv (ltb rfl) rfl) ?_
   refine TriL.split (d := 13) rfl (fun hg3 => ?_) (fun hg3 => ?_)
   ·iterate 2 (refine TriL.skipu rfl rfl (ltb rfl) (ltb rfl) rfl hg3 ?_)
    refine TriL.c1 rfl (op_pickt (ltb rfl) rfl hg3 rfl) ?_
    refine TriL.c1 rfl (op_mv (ltb rfl) rfl) ?_
    iterate 2 (refine TriL.skipu rfl rfl (ltb rfl) (ltb rfl) rfl rfl ?_)
    refine TriL.c1 rfl (op_pickt (ltb rfl) rfl rfl rfl) ?_
    refine TriL.c1 rfl (op_mv (ltb rfl) rfl) ?_
    iterate 2 (refine TriL.skipu rfl rfl (ltb rfl) (ltb rfl) rfl rfl ?_)
    refine TriL.c1 rfl (op_pickt (ltb rfl) rfl rfl rfl) ?_
    refine TriL.c1 rfl (op_mv (ltb rfl) rfl) ?_
    iterate 2 (refine TriL.skipu rfl rfl (ltb rfl) (ltb rfl) rfl rfl ?_)
    refine TriL.c1 rfl (op_pickt (ltb rfl) rfl rfl rfl) ?_
    refine TriL.c1 rfl (op_mv (ltb rfl) rfl) ?_
    iterate 2 (refine TriL.skipu rfl rfl (ltb rfl) (ltb rfl) rfl rfl ?_)
    refine TriL.c1 rfl (op_pickt (ltb rfl) rfl rfl rfl) ?_
    refine TriL.c1 rfl (op_as (ltb rfl) rfl) ?_
    refine TriL.nil (Tri.ret ?_)
    exact ⟨.inr rfl, (ResOK.r1 rfl (.tmp rfl .nil)).cast (by exact congrArg AV.bool (Bool.eq_iff_iff.2 (by simp [isMark] at *; omega))), rfl⟩
   ·refine TriL.g1 rfl (ltb rfl) rfl hg3 (op_mv (ltb rfl) rfl) ?_
    refine TriL.g1 rfl (ltb rfl) rfl hg3 (op_bin (ltb rfl) rfl rfl rfl) ?_
    refine TriL.c1 rfl (op_pickf (ltb rfl) rfl hg3 rfl) ?_
    refine TriL.c1 rfl (op_mv (ltb rfl) rfl) ?_
    refine TriL.split (d := 17) rfl (fun hg4 => ?_) (fun hg4 => ?_)
    ·iterate 2 (refine TriL.skipu rfl rfl (ltb rfl) (ltb rfl) rfl hg4 ?_)
     refine TriL.c1 rfl (op_pickt (ltb rfl) rfl hg4 rfl) ?_
     refine TriL.c1 rfl (op_mv (ltb rfl) rfl) ?_
     iterate 2 (refine TriL.skipu rfl rfl (ltb rfl) (ltb rfl) rfl rfl ?_)
     refine TriL.c1 rfl (op_pickt (ltb rfl) rfl rfl rfl) ?_
     refine TriL.c1 rfl (op_mv (ltb rfl) rfl) ?_
     iterate 2 (refine TriL.skipu rfl rfl (ltb rfl) (ltb rfl) rfl rfl ?_)
     refine TriL.c1 rfl (op_pickt (ltb rfl) rfl rfl rfl) ?_
     refine TriL.c1 rfl (op_mv (ltb rfl) rfl) ?_
     iterate 2 (refine TriL.skipu rfl rfl (ltb rfl) (ltb rfl) rfl rfl ?_)
     refine TriL.c1 rfl (op_pickt (ltb rfl) rfl rfl rfl) ?_
     refine TriL.c1 rfl (op_as (ltb rfl) rfl) ?_
     refine TriL.nil (Tri.ret ?_)
     exact ⟨.inr rfl, (ResOK.r1 rfl (.tmp rfl .nil)).cast (by exact congrArg AV.bool (Bool.eq_iff_iff.2 (by simp [isMark] at *; omega))), rfl⟩
    ·refine TriL.g1 rfl (ltb rfl) rfl hg4 (op_mv (ltb rfl) rfl) ?_
     refine TriL.g1 rfl (ltb rfl) rfl hg4 (op_bin (ltb rfl) rfl rfl rfl) ?_
     refine TriL.c1 rfl (op_pickf (ltb rfl) rfl hg4 rfl) ?_
     refine TriL.c1 rfl (op_mv (ltb rfl) rfl) ?_
     refine TriL.split (d := 21) rfl (fun hg5 => ?_) (fun hg5 => ?_)
     ·iterate 2 (refine TriL.skipu rfl rfl (ltb rfl) (ltb rfl) rfl hg5 ?_)
      refine TriL.c1 rfl (op_pickt (ltb rfl) rfl hg5 rfl) ?_
      refine TriL.c1 rfl (op_mv (ltb rfl) rfl) ?_
      iterate 2 (refine TriL.skipu rfl rfl (ltb rfl) (ltb rfl) rfl rfl ?_)
      refine TriL.c1 rfl (op_pickt (ltb rfl) rfl rfl rfl) ?_
      refine TriL.c1 rfl (op_mv (ltb rfl) rfl) ?_
      iterate 2 (refine TriL.skipu rfl rfl (ltb rfl) (ltb rfl) rfl rfl ?_)
      refine TriL.c1 rfl (op_pickt (ltb rfl) rfl rfl rfl) ?_
      refine TriL.c1 rfl (op_as (ltb rfl) rfl) ?_
      refine TriL.nil (Tri.ret ?_)
      exact ⟨.inr rfl, (ResOK.r1 rfl (.tmp rfl .nil)).cast (by exact congrArg AV.bool (Bool.eq_iff_iff.2 (by simp [isMark] at *; omega))), rfl⟩
     ·refine TriL.g1 rfl (ltb rfl) rfl hg5 (op_mv (ltb rfl) rfl) ?_
      refine TriL.g1 rfl (ltb rfl) rfl hg5 (op_bin (ltb rfl) rfl rfl rfl) ?_
      refine TriL.c1 rfl (op_pickf (ltb rfl) rfl hg5 rfl) ?_
      refine TriL.c1 rfl (op_mv (ltb rfl) rfl) ?_
      refine TriL.split (d := 25) rfl (fun hg6 => ?_) (fun hg6 => ?_)
      ·iterate 2 (refine TriL.skipu rfl rfl (ltb rfl) (ltb rfl) rfl hg6 ?_)
       refine TriL.c1 rfl (op_pickt (ltb rfl) rfl hg6 rfl) ?_
       refine TriL.c1 rfl (op_mv (ltb rfl) rfl) ?_
       iterate 2 (refine TriL.skipu rfl rfl (ltb rfl) (ltb rfl) rfl rfl ?_)
       refine TriL.c1 rfl (op_pickt (ltb rfl) rfl rfl rfl) ?_
       refine TriL.c1 rfl (op_as (ltb rfl) rfl) ?_
       refine TriL.nil (Tri.ret ?_)
       exact ⟨.inr rfl, (ResOK.r1 rfl (.tmp rfl .nil)).cast (by exact congrArg AV.bool (Bool.eq_iff_iff.2 (by simp [isMark] at *; omega))), rfl⟩
      ·refine TriL.g1 rfl (ltb rfl) rfl hg6 (op_mv (ltb rfl) rfl) ?_
       refine TriL.g1 rfl (ltb rfl) rfl hg6 (op_bin (ltb rfl) rfl rfl rfl) ?_
       refine TriL.c1 rfl (op_pickf (ltb rfl) rfl hg6 rfl) ?_
       refine TriL.c1 rfl (op_mv (ltb rfl) rfl) ?_
       refine TriL.split (d := 29) rfl (fun hg7 => ?_) (fun hg7 => ?_)
       ·iterate 2 (refine TriL.skipu rfl rfl (ltb rfl) (ltb rfl) rfl hg7 ?_)
        refine TriL.c1 rfl (op_pickt (ltb rfl) rfl hg7 rfl) ?_
        refine TriL.c1 rfl (op_as (ltb rfl) rfl) ?_
        refine TriL.nil (Tri.ret ?_)
        exact ⟨.inr rfl, (ResOK.r1 rfl (.tmp rfl .nil)).cast (by exact congrArg AV.bool (Bool.eq_iff_iff.2 (by simp [isMark] at *; omega))), rfl⟩
       ·refine TriL.g1 rfl (ltb rfl) rfl hg7 (op_mv (ltb rfl) rfl) ?_
        refine TriL.g1 rfl (ltb rfl) rfl hg7 (op_bin (ltb rfl) rfl rfl rfl) ?_
        refine TriL.c1 rfl (op_pickf (ltb rfl) rfl hg7 rfl) ?_
        refine TriL.c1 rfl (op_as (ltb rfl) rfl) ?_
        refine TriL.nil (Tri.ret ?_)
        exact ⟨.inr rfl, (ResOK.r1 rfl (.tmp rfl .nil)).cast (by exact congrArg AV.bool (Bool.eq_iff_iff.2 (by simp [isMark] at *; omega))), rfl⟩
theorem wd_pure (c : UInt8) : Pure Tryz.prog 123 [.int .u8 (c.toNat : Int)] (.bool (isWd c)) := by
 refine Pure.of_tri Tryz.func123 rfl rfl (ltb rfl) fun H => ?_
 refine Tri.seq (Tri.region ?_)
 refine TriL.c1 rfl (op_as (ltb rfl) rfl) ?_
 refine TriL.nil (Tri.seq (Tri.region ?_))
 refine TriL.c1 rfl (op_mv (ltb rfl) rfl) ?_
 refine TriL.c1 rfl (op_call (ltb rfl) fn122_q rfl (letter_pure c)) ?_
 refine TriL.c1 rfl (op_mv (ltb rfl) rfl) ?_
 refine TriL.split (d := 5) rfl (fun hg1 => ?_) (fun hg1 => ?_)
 ·iterate 2 (refine TriL.skipu rfl rfl (ltb rfl) (ltb rfl) rfl hg1 ?_)
  refine TriL.c1 rfl (op_pickt (ltb rfl) rfl hg1 rfl) ?_
  refine TriL.c1 rfl (op_mv (ltb rfl) rfl) ?_
  iterate 2 (refine TriL.skipu rfl rfl (ltb rfl) (ltb rfl) rfl rfl ?_)
  refine TriL.c1 rfl (op_pickt (ltb rfl) rfl rfl rfl) ?_
  refine TriL.c1 rfl (op_as (ltb rfl) rfl) ?_
  refine TriL.nil (Tri.ret ?_)
  exact ⟨.inr rfl, (ResOK.r1 rfl (.tmp rfl .nil)).cast (by exact congrArg AV.bool (Bool.eq_iff_iff.2 (by simp [isWd] at *; simp_all <;> omega))), rfl⟩
 ·refine TriL.g1 rfl (ltb rfl) rfl hg1 (op_mv (ltb rfl) rfl) ?_
  refine TriL.g1 rfl (ltb rfl) rfl hg1 (op_call (ltb rfl) fn124_q rfl (digit_pure c)) ?_
  refine TriL.c1 rfl (op_pickf (ltb rfl) rfl hg1 rfl) ?_
  refine TriL.c1 rfl (op_mv (ltb rfl) rfl) ?_
  refine TriL.split (d := 9) rfl (fun hg2 => ?_) (fun hg2 => ?_)
  ·iterate 2 (refine TriL.skipu rfl rfl (ltb rfl) (ltb rfl) rfl hg2 ?_)
   refine TriL.c1 rfl (op_pickt (ltb rfl) rfl hg2 rfl) ?_
   refine TriL.c1 rfl (op_as (ltb rfl) rfl) ?_
   refine TriL.nil (Tri.ret ?_)
   exact ⟨.inr rfl, (ResOK.r1 rfl (.tmp rfl .nil)).cast (by exact congrArg AV.bool (Bool.eq_iff_iff.2 (by simp [isWd] at *; simp_all <;> omega))), rfl⟩
  ·refine TriL.g1 rfl (ltb rfl) rfl hg2 (op_mv (ltb rfl) rfl) ?_
   refine TriL.g1 rfl (ltb rfl) rfl hg2 (op_bin (ltb rfl) rfl rfl rfl) ?_
   refine TriL.c1 rfl (op_pickf (ltb rfl) rfl hg2 rfl) ?_
   refine TriL.c1 rfl (op_as (ltb rfl) rfl) ?_
   refine TriL.nil (Tri.ret ?_)
   exact ⟨.inr rfl, (ResOK.r1 rfl (.tmp rfl .nil)).cast (by exact congrArg AV.bool (Bool.eq_iff_iff.2 (by simp [isWd] at *; simp_all <;> omega))), rfl⟩
/- lex: how many bytes are such; a word; a mark; a number's digits. -/
theorem fn119_q : isFn Tryz.prog 119 = true := by kernel_rfl
theorem fn70_q : isFn Tryz.prog 70 = true := by kernel_rfl
theorem tup2 {a b c d : AV} (h : a = c) (k : b = d) : AV.tup [a, b] = AV.tup [c, d] := by rw [h, k]
def Tk.av (t : Tk) : AV := .agg [.int .i64 t.k, .str t.s, .int .u64 t.n, .bool t.neg, .int .i64 t.pos]
def tkn (x : Tk × Nat) : AV := .tup [x.1.av, .int .i64 x.2]
def StSp (H : Hp) (s : List UInt8) (f : FuncId) (j : Int) : St := [(.h, .hp H), (.s 0, .sv (.v (.str s))), (.s 1, .sv (.v (.fn f []))), (.s 5, .sv (.v (.int .i64 j)))]
theorem ixc {s : List UInt8} {i : Nat} {j : Int} {c : UInt8} (hj : j = i) (h : s[i]? = some c) : s[j.toNat]? = some c := by subst hj; simpa using h
theorem span_pure (s : List UInt8) (f : FuncId) (p : UInt8 → Bool) (hf : ∀ c : UInt8, Pure Tryz.prog f [.int .u8 (c.toNat : Int)] (.bool (p c))) (hfn : isFn Tryz.prog f = true) (hs : s.length ≤ 1073741824) :
  Pure Tryz.prog 55 [.str s, .fn f []] (.int .i64 (spn p s : Nat)) := by
 refine Pure.of_tri Tryz.func55 rfl rfl (ltb rfl) fun H => ?_
 refine Tri.seq (Tri.region ?_)
 refine TriL.c1 rfl (op_as (ltb rfl) rfl) ?_
 refine TriL.nil (Tri.seq (Tri.region ?_))
 refine TriL.c1 rfl (op_as (ltb rfl) rfl) ?_
 refine TriL.kept (Kept.keep [.h, .s 0, .s 1, .s 5] rfl (by decide) (Kept.now ?_))
 refine Tri.seq (Tri.blk ?_)
 -- LOOP 1: KEEP
 refine Tri.loop (fun q w => ∃ (i : Nat) (j : Int), w = StSp H s f j ∧ j = i ∧ i ≤ spn p s ∧ q = s.length - i) ?_ (n := s.length) ⟨0, 0, rfl, rfl, Nat.zero_le _, rfl⟩
 rintro q w ⟨i, j, rfl, hj, hi, rfl⟩
 have hsl := spn_le p s
 refine Tri.seq (Tri.seq (Tri.region ?_))
 iterate 2 (refine TriL.c1 rfl (op_mv (ltb rfl) rfl) ?_)
 refine TriL.c1 rfl (op_lens (ltb rfl) un9_q rfl) ?_
 refine TriL.c1 rfl (op_bin (ltb rfl) rfl rfl rfl) ?_
 refine TriL.c1 rfl (op_mv (ltb rfl) rfl) ?_
 refine TriL.split (d := 10) rfl (fun hg1 => ?_) (fun hg1 => ?_)
 ·have hlt : i < s.length := by have := of_decide_eq_true hg1; omega
  obtain ⟨c, hc⟩ : ∃ c, s[i]? = some c := ⟨s[i], List.getElem?_eq_getElem hlt⟩
  have hd := spn_drop p s i c hi hc
  iterate 3 (refine TriL.g1 rfl (ltb rfl) rfl hg1 (op_mv (ltb rfl) rfl) ?_)
  refine TriL.g1 rfl (ltb rfl) rfl hg1 (op_ixs (ltb rfl) un9_q rfl rfl (by omega) (ixc hj hc)) ?_
  refine TriL.g1 rfl (ltb rfl) rfl hg1 (op_callc (ltb rfl) hfn rfl rfl (hf c)) ?_
  refine TriL.c1 rfl (op_pickt (ltb rfl) rfl hg1 rfl) ?_
  refine TriL.nil ?_
  refine Tri.cond rfl (fun hc2 => ?_) (fun hc2 => ?_)
  ·refine Tri.skip (Tri.blk (Tri.region ?_))
   refine TriL.c1 rfl (op_mv (ltb rfl) rfl) ?_
   refine TriL.c1 rfl (op_bin (ltb rfl) rfl rfl rfl) ?_
   refine TriL.c1 rfl (op_as (ltb rfl) rfl) ?_
   refine TriL.kept (Kept.keep [.h, .s 0, .s 1, .s 5] rfl (by decide) (Kept.now ?_))
   refine ⟨s.length - (i + 1), by omega, i + 1, IntKind.i64.wrap (j + 1), rfl, by rw [hj, wr64] <;> omega, hd.1 hc2, rfl⟩
  ·refine Tri.exit (Tri.seq (Tri.region ?_))
   refine TriL.c1 rfl (op_mv (ltb rfl) rfl) ?_
   refine TriL.c1 rfl (op_as (ltb rfl) rfl) ?_
   refine TriL.nil (Tri.ret ?_)
   exact ⟨.inr rfl, (ResOK.r1 rfl (.tmp rfl .nil)).cast (by rw [hd.2 hc2, hj]), rfl⟩
 ·iterate 5 (refine TriL.skipu rfl rfl (ltb rfl) (ltb rfl) rfl hg1 ?_)
  refine TriL.c1 rfl (op_pickf (ltb rfl) rfl hg1 rfl) ?_
  refine TriL.nil ?_
  refine Tri.condF rfl rfl ?_
  refine Tri.exit (Tri.seq (Tri.region ?_))
  refine TriL.c1 rfl (op_mv (ltb rfl) rfl) ?_
  refine TriL.c1 rfl (op_as (ltb rfl) rfl) ?_
  refine TriL.nil (Tri.ret ?_)
  exact ⟨.inr rfl, (ResOK.r1 rfl (.tmp rfl .nil)).cast (by rw [hj]; have := of_decide_eq_false hg1; rw [show spn p s = i by omega]), rfl⟩
/-- how long the name is that a text begins with -/
def wordN (s : List UInt8) : Nat := (wordT s).2
def StRw (H : Hp) (s : List UInt8) (j : Int) : St := [(.h, .hp H), (.s 0, .sv (.v (.str s))), (.s 3, .sv (.v (.int .i64 j)))]
theorem wordN_step {s : List UInt8} {i : Nat} {c : UInt8} (hi : i ≤ wordN s) (hc : s[i]? = some c) : (isLet c = true → i + 1 ≤ wordN s) ∧ (isLet c = false → 0 < i → isDig c = true → i + 1 ≤ wordN s) ∧ (isLet c = false → 0 < i → c.toNat = 95 → i + 1 ≤ wordN s) ∧
  (isLet c = false → i = 0 → wordN s = i) ∧ (isLet c = false → isDig c = false → c.toNat ≠ 95 → wordN s = i) := by
 cases s with
 | nil => simp at hc
 | cons d r =>
  simp only [wordN, wordT] at hi ⊢
  cases i with
  | zero =>
   simp at hc; subst hc
   by_cases h : isLet d = true
   ·have hw : isWd d = true := by simp [isWd, h]
    simp [h, spn, hw]
   ·simp at h; simp [h]
  | succ i =>
   by_cases hd : isLet d = true
   ·rw [if_pos hd] at hi ⊢
    obtain ⟨h1, h2⟩ := spn_drop isWd (d :: r) (i + 1) c hi hc
    refine ⟨fun e => h1 (by simp [isWd, e]), fun _ _ e => h1 (by simp [isWd, e]), fun _ _ e => h1 (by simp [isWd, e]), fun _ e => by omega, fun e1 e2 e3 => h2 (by simp [isWd, e1, e2, e3])⟩
   ·rw [if_neg hd] at hi; simp at hi
theorem wordN_le (s : List UInt8) : wordN s ≤ s.length := by
 cases s with
 | nil => simp [wordN, wordT]
 | cons d r =>
  simp only [wordN, wordT]
  split
  ·exact spn_le _ _
  ·simp
theorem rword_pure (s : List UInt8) (hs : s.length ≤ 1073741824) : Pure Tryz.prog 82 [.str s] (.int .i64 (wordN s : Nat)) := by
 refine Pure.of_tri Tryz.func82 rfl rfl (ltb rfl) fun H => ?_
 refine Tri.seq (Tri.region ?_)
 refine TriL.c1 rfl (op_as (ltb rfl) rfl) ?_
 refine TriL.nil (Tri.seq (Tri.region ?_))
 refine TriL.c1 rfl (op_as (ltb rfl) rfl) ?_
 refine TriL.kept (Kept.keep [.h, .s 0, .s 3] rfl (by decide) (Kept.now ?_))
 refine Tri.seq (Tri.blk ?_)
 -- LOOP 1: KEEP
 refine Tri.loop (fun q w => ∃ (i : Nat) (j : Int), w = StRw H s j ∧ j = i ∧ i ≤ wordN s ∧ q = s.length - i) ?_ (n := s.length) ⟨0, 0, rfl, rfl, Nat.zero_le _, rfl⟩
 rintro q w ⟨i, j, rfl, hj, hi, rfl⟩
 have hsl := wordN_le s
 refine Tri.seq (Tri.seq (Tri.region ?_))
 iterate 2 (refine TriL.c1 rfl (op_mv (ltb rfl) rfl) ?_)
 refine TriL.c1 rfl (op_lens (ltb rfl) un9_q rfl) ?_
 refine TriL.c1 rfl (op_bin (ltb rfl) rfl rfl rfl) ?_
 refine TriL.c1 rfl (op_mv (ltb rfl) rfl) ?_
 refine TriL.split (d := 8) rfl (fun hg1 => ?_) (fun hg1 => ?_)
 ·have hlt : i < s.length := by have := of_decide_eq_true hg1; omega
  obtain ⟨c, hc⟩ : ∃ c, s[i]? = some c := ⟨s[i], List.getElem?_eq_getElem hlt⟩
  obtain ⟨w1, w2, w3, w4, w5⟩ := wordN_step hi hc
  iterate 2 (refine TriL.g1 rfl (ltb rfl) rfl hg1 (op_mv (ltb rfl) rfl) ?_)
  refine TriL.g1 rfl (ltb rfl) rfl hg1 (op_ixs (ltb rfl) un9_q rfl rfl (by omega) (ixc hj hc)) ?_
  refine TriL.g1 rfl (ltb rfl) rfl hg1 (op_call (ltb rfl) fn70_q rfl (rletter_pure c)) ?_
  refine TriL.g1 rfl (ltb rfl) rfl hg1 (op_mv (ltb rfl) rfl) ?_
  refine TriL.split (d := 13) rfl (fun hg2 => ?_) (fun hg2 => ?_)
  ·iterate 3 (refine TriL.skipu rfl rfl (ltb rfl) (ltb rfl) rfl hg2 ?_)
   iterate 10 (refine TriL.skipg rfl rfl (ltb rfl) (ltb rfl) rfl ?_)
   refine TriL.skipu rfl rfl (ltb rfl) (ltb rfl) rfl hg2 ?_
   refine TriL.g1 rfl (ltb rfl) rfl hg1 (op_pickt (ltb rfl) rfl hg2 rfl) ?_
   refine TriL.c1 rfl (op_pickt (ltb rfl) rfl hg1 rfl) ?_
   refine TriL.nil ?_
   refine Tri.condT rfl rfl ?_
   refine Tri.skip (Tri.blk (Tri.region ?_))
   refine TriL.c1 rfl (op_mv (ltb rfl) rfl) ?_
   refine TriL.c1 rfl (op_bin (ltb rfl) rfl rfl rfl) ?_
   refine TriL.c1 rfl (op_as (ltb rfl) rfl) ?_
   refine TriL.kept (Kept.keep [.h, .s 0, .s 3] rfl (by decide) (Kept.now ?_))
   refine ⟨s.length - (i + 1), by omega, i + 1, IntKind.i64.wrap (j + 1), rfl, by rw [hj, wr64] <;> omega, w1 hg2, rfl⟩
  ·refine TriL.g1 rfl (ltb rfl) rfl hg2 (op_mv (ltb rfl) rfl) ?_
   refine TriL.g1 rfl (ltb rfl) rfl hg2 (op_bin (ltb rfl) rfl rfl rfl) ?_
   refine TriL.g1 rfl (ltb rfl) rfl hg2 (op_mv (ltb rfl) rfl) ?_
   refine TriL.split (d := 16) rfl (fun hg3 => ?_) (fun hg3 => ?_)
   ·iterate 2 (refine TriL.g1 rfl (ltb rfl) rfl hg3 (op_mv (ltb rfl) rfl) ?_)
    refine TriL.g1 rfl (ltb rfl) rfl hg3 (op_ixs (ltb rfl) un9_q rfl rfl (by omega) (ixc hj hc)) ?_
    refine TriL.g1 rfl (ltb rfl) rfl hg3 (op_call (ltb rfl) fn119_q rfl (rdigit_pure c)) ?_
    refine TriL.g1 rfl (ltb rfl) rfl hg3 (op_mv (ltb rfl) rfl) ?_
    refine TriL.split (d := 21) rfl (fun hg4 => ?_) (fun hg4 => ?_)
    ·iterate 4 (refine TriL.skipu rfl rfl (ltb rfl) (ltb rfl) rfl hg4 ?_)
     refine TriL.g1 rfl (ltb rfl) rfl hg3 (op_pickt (ltb rfl) rfl hg4 rfl) ?_
     refine TriL.g1 rfl (ltb rfl) rfl hg2 (op_pickt (ltb rfl) rfl hg3 rfl) ?_
     refine TriL.g1 rfl (ltb rfl) rfl hg1 (op_pickf (ltb rfl) rfl hg2 rfl) ?_
     refine TriL.c1 rfl (op_pickt (ltb rfl) rfl hg1 rfl) ?_
     refine TriL.nil ?_
     refine Tri.condT rfl rfl ?_
     refine Tri.skip (Tri.blk (Tri.region ?_))
     refine TriL.c1 rfl (op_mv (ltb rfl) rfl) ?_
     refine TriL.c1 rfl (op_bin (ltb rfl) rfl rfl rfl) ?_
     refine TriL.c1 rfl (op_as (ltb rfl) rfl) ?_
     refine TriL.kept (Kept.keep [.h, .s 0, .s 3] rfl (by decide) (Kept.now ?_))
     refine ⟨s.length - (i + 1), by omega, i + 1, IntKind.i64.wrap (j + 1), rfl, by rw [hj, wr64] <;> omega, w2 hg2 (by have := of_decide_eq_true hg3; omega) hg4, rfl⟩
    ·iterate 2 (refine TriL.g1 rfl (ltb rfl) rfl hg4 (op_mv (ltb rfl) rfl) ?_)
     refine TriL.g1 rfl (ltb rfl) rfl hg4 (op_ixs (ltb rfl) un9_q rfl rfl (by omega) (ixc hj hc)) ?_
     refine TriL.g1 rfl (ltb rfl) rfl hg4 (op_bin (ltb rfl) rfl rfl rfl) ?_
     refine TriL.g1 rfl (ltb rfl) rfl hg3 (op_pickf (ltb rfl) rfl hg4 rfl) ?_
     refine TriL.g1 rfl (ltb rfl) rfl hg2 (op_pickt (ltb rfl) rfl hg3 rfl) ?_
     refine TriL.g1 rfl (ltb rfl) rfl hg1 (op_pickf (ltb rfl) rfl hg2 rfl) ?_
     refine TriL.c1 rfl (op_pickt (ltb rfl) rfl hg1 rfl) ?_
     refine TriL.nil ?_
     refine Tri.cond rfl (fun hc5 => ?_) (fun hc5 => ?_)
     ·refine Tri.skip (Tri.blk (Tri.region ?_))
      refine TriL.c1 rfl (op_mv (ltb rfl) rfl) ?_
      refine TriL.c1 rfl (op_bin (ltb rfl) rfl rfl rfl) ?_
      refine TriL.c1 rfl (op_as (ltb rfl) rfl) ?_
      refine TriL.kept (Kept.keep [.h, .s 0, .s 3] rfl (by decide) (Kept.now ?_))
      refine ⟨s.length - (i + 1), by omega, i + 1, IntKind.i64.wrap (j + 1), rfl, by rw [hj, wr64] <;> omega, w3 hg2 (by have := of_decide_eq_true hg3; omega) (by have := eq_of_beq hc5; omega), rfl⟩
     ·refine Tri.exit (Tri.seq (Tri.region ?_))
      refine TriL.c1 rfl (op_mv (ltb rfl) rfl) ?_
      refine TriL.c1 rfl (op_as (ltb rfl) rfl) ?_
      refine TriL.nil (Tri.ret ?_)
      exact ⟨.inr rfl, (ResOK.r1 rfl (.tmp rfl .nil)).cast (by rw [hj]; rw [show wordN s = i by exact w5 hg2 hg4 (by have := beq_eq_false_iff_ne.1 hc5; omega)]), rfl⟩
   ·iterate 5 (refine TriL.skipu rfl rfl (ltb rfl) (ltb rfl) rfl hg3 ?_)
    iterate 4 (refine TriL.skipg rfl rfl (ltb rfl) (ltb rfl) rfl ?_)
    refine TriL.skipu rfl rfl (ltb rfl) (ltb rfl) rfl hg3 ?_
    refine TriL.g1 rfl (ltb rfl) rfl hg2 (op_pickf (ltb rfl) rfl hg3 rfl) ?_
    refine TriL.g1 rfl (ltb rfl) rfl hg1 (op_pickf (ltb rfl) rfl hg2 rfl) ?_
    refine TriL.c1 rfl (op_pickt (ltb rfl) rfl hg1 rfl) ?_
    refine TriL.nil ?_
    refine Tri.condF rfl rfl ?_
    refine Tri.exit (Tri.seq (Tri.region ?_))
    refine TriL.c1 rfl (op_mv (ltb rfl) rfl) ?_
    refine TriL.c1 rfl (op_as (ltb rfl) rfl) ?_
    refine TriL.nil (Tri.ret ?_)
    exact ⟨.inr rfl, (ResOK.r1 rfl (.tmp rfl .nil)).cast (by rw [hj]; rw [show wordN s = i by exact w4 hg2 (by have := of_decide_eq_false hg3; omega)]), rfl⟩
 ·iterate 5 (refine TriL.skipu rfl rfl (ltb rfl) (ltb rfl) rfl hg1 ?_)
  iterate 14 (refine TriL.skipg rfl rfl (ltb rfl) (ltb rfl) rfl ?_)
  refine TriL.skipu rfl rfl (ltb rfl) (ltb rfl) rfl hg1 ?_
  refine TriL.c1 rfl (op_pickf (ltb rfl) rfl hg1 rfl) ?_
  refine TriL.nil ?_
  refine Tri.condF rfl rfl ?_
  refine Tri.exit (Tri.seq (Tri.region ?_))
  refine TriL.c1 rfl (op_mv (ltb rfl) rfl) ?_
  refine TriL.c1 rfl (op_as (ltb rfl) rfl) ?_
  refine TriL.nil (Tri.ret ?_)
  exact ⟨.inr rfl, (ResOK.r1 rfl (.tmp rfl .nil)).cast (by rw [hj]; rw [show wordN s = i by have := of_decide_eq_false hg1; omega]), rfl⟩
/- lex: a word, a mark, a number's digits. -/
theorem fn131_q : isFn Tryz.prog 131 = true := by kernel_rfl
theorem fn158_q : isFn Tryz.prog 158 = true := by kernel_rfl
theorem fn190_q : isFn Tryz.prog 190 = true := by kernel_rfl
theorem fn55_q : isFn Tryz.prog 55 = true := by kernel_rfl
theorem lk112_q : lk Tryz.prog 112 = some (true, 5) := by kernel_rfl
theorem spl112_q : spl Tryz.prog 112 = some [(0, 1), (1, 1), (2, 1), (3, 1), (4, 1)] := by kernel_rfl
theorem zA112_q : zeroA Tryz.prog 112 = some [AV.int IntKind.i64 (0), AV.str [], AV.int IntKind.u64 (0), AV.bool false, AV.int IntKind.i64 (0)] := by kernel_rfl
theorem empty_of {s : List UInt8} (h : (s == ([] : List UInt8)) = true) : s = [] := by simpa using h
theorem cons_of {s : List UInt8} (h : (s == ([] : List UInt8)) = false) : ∃ c r, s = c :: r := by
 cases s with
 | nil => simp at h
 | cons c r => exact ⟨c, r, rfl⟩
theorem ib_spec (c : UInt8) : ∀ l : List UInt8, (Lib.indexByte l c = -1 ∧ c ∉ l) ∨ ∃ n : Nat, Lib.indexByte l c = n ∧ l[n]? = some c ∧ c ∉ l.take n
 | [] => .inl ⟨rfl, by simp⟩
 | b :: l => by
  simp only [Lib.indexByte]
  by_cases hb : b = c
  ·subst hb
   rw [if_pos (by simp)]
   exact .inr ⟨0, rfl, by simp, by simp⟩
  ·rw [if_neg (by simpa using hb)]
   rcases ib_spec c l with ⟨h1, h2⟩ | ⟨n, h1, h2, h3⟩
   ·rw [if_pos (by simp [h1])]
    exact .inl ⟨rfl, by simp [h2, Ne.symm hb]⟩
   ·have hn : ¬ ((Lib.indexByte l c == -1) = true) := by rw [h1]; simp
    rw [if_neg hn, h1]
    exact .inr ⟨n + 1, by omega, by simpa using h2, by simp [h3, Ne.symm hb]⟩
theorem indexByte_mark (c : UInt8) : (Lib.indexByte [123, 125, 40, 41, 61, 44, 46, 59] c < 0) ↔ isMark c = false := by
 have e : c ∉ ([123, 125, 40, 41, 61, 44, 46, 59] : List UInt8) ↔ isMark c = false := by
  simp only [isMark, List.mem_cons, List.not_mem_nil, or_false, decide_eq_false_iff_not, ← UInt8.toNat_inj, UInt8.reduceToNat]
 rcases ib_spec c [123, 125, 40, 41, 61, 44, 46, 59] with ⟨h1, h2⟩ | ⟨n, h1, h2, h3⟩
 ·rw [h1]; exact ⟨fun _ => e.1 h2, fun _ => by decide⟩
 ·rw [h1]
  exact ⟨fun h => by omega, fun h => absurd (List.mem_of_getElem? h2) (e.2 h)⟩
theorem word_pure (s : List UInt8) (hs : s.length ≤ 1073741824) : Pure Tryz.prog 93 [.str s] (tkn (wordT s)) := by
 refine Pure.of_tri Tryz.func93 rfl rfl (ltb rfl) fun H => ?_
 refine Tri.seq (Tri.region ?_)
 refine TriL.c2 rfl (op_all (ltb rfl) zA112_q rfl) ?_
 refine TriL.c1 rfl (op_as (ltb rfl) rfl) ?_
 refine TriL.nil (Tri.seq (Tri.seq (Tri.region ?_)))
 refine TriL.c1 rfl (op_mv (ltb rfl) rfl) ?_
 refine TriL.c1 rfl (op_bin (ltb rfl) rfl rfl rfl) ?_
 refine TriL.c1 rfl (op_mv (ltb rfl) rfl) ?_
 refine TriL.split (d := 7) rfl (fun hg1 => ?_) (fun hg1 => ?_)
 ·iterate 4 (refine TriL.skipu rfl rfl (ltb rfl) (ltb rfl) rfl hg1 ?_)
  refine TriL.c1 rfl (op_pickt (ltb rfl) rfl hg1 rfl) ?_
  refine TriL.nil ?_
  refine Tri.condT rfl rfl ?_
  refine Tri.seq (Tri.region ?_)
  refine TriL.c1 rfl (op_bld (ltb rfl) spl112_q zA112_q rfl rfl) ?_
  refine TriL.c1 rfl (op_stl lk112_q rfl rfl rfl rfl rfl (leb rfl)) ?_
  refine TriL.c1 rfl (op_as (ltb rfl) rfl) ?_
  refine TriL.nil (Tri.ret ?_)
  exact ⟨.inr rfl, (ResOK.r2 rfl (.cell lk112_q rfl rfl rfl rfl (.tmp rfl .nil))).cast (by rw [empty_of hg1]; rfl), rfl⟩
 ·obtain ⟨c, r, rfl⟩ := cons_of hg1
  refine TriL.g1 rfl (ltb rfl) rfl hg1 (op_mv (ltb rfl) rfl) ?_
  refine TriL.g1 rfl (ltb rfl) rfl hg1 (op_ixs (ltb rfl) un9_q rfl rfl (by decide) rfl) ?_
  refine TriL.g1 rfl (ltb rfl) rfl hg1 (op_call (ltb rfl) fn122_q rfl (letter_pure c)) ?_
  refine TriL.g1 rfl (ltb rfl) rfl hg1 (op_un (ltb rfl) rfl rfl) ?_
  refine TriL.c1 rfl (op_pickf (ltb rfl) rfl hg1 rfl) ?_
  refine TriL.nil ?_
  refine Tri.cond rfl (fun hc2 => ?_) (fun hc2 => ?_)
  ·refine Tri.seq (Tri.region ?_)
   refine TriL.c1 rfl (op_bld (ltb rfl) spl112_q zA112_q rfl rfl) ?_
   refine TriL.c1 rfl (op_stl lk112_q rfl rfl rfl rfl rfl (leb rfl)) ?_
   refine TriL.c1 rfl (op_as (ltb rfl) rfl) ?_
   refine TriL.nil (Tri.ret ?_)
   exact ⟨.inr rfl, (ResOK.r2 rfl (.cell lk112_q rfl rfl rfl rfl (.tmp rfl .nil))).cast (by
     have : isLet c = false := by simpa using hc2
     simp only [tkn, wordT, this]; rfl), rfl⟩
  ·refine Tri.skip (Tri.seq (Tri.region ?_))
   refine TriL.c1 rfl (op_mv (ltb rfl) rfl) ?_
   refine TriL.c1 rfl (op_call (ltb rfl) fn55_q rfl (span_pure (c :: r) _ isWd wd_pure (by kernel_rfl) hs)) ?_
   refine TriL.c1 rfl (op_as (ltb rfl) rfl) ?_
   refine TriL.nil (Tri.seq (Tri.region ?_))
   iterate 2 (refine TriL.c1 rfl (op_mv (ltb rfl) rfl) ?_)
   refine TriL.c1 rfl (op_cuts (ltb rfl) un9_q rfl rfl rfl (by omega) (by omega) (by have := spn_le isWd (c :: r); omega)) ?_
   refine TriL.c1 rfl (op_bld (ltb rfl) spl112_q zA112_q rfl rfl) ?_
   refine TriL.c1 rfl (op_mv (ltb rfl) rfl) ?_
   refine TriL.c1 rfl (op_stl lk112_q rfl rfl rfl rfl rfl (leb rfl)) ?_
   refine TriL.c1 rfl (op_as (ltb rfl) rfl) ?_
   refine TriL.nil (Tri.ret ?_)
   exact ⟨.inr rfl, (ResOK.r2 rfl (.cell lk112_q rfl rfl rfl rfl (.tmp rfl .nil))).cast (by
     have : isLet c = true := by simpa using hc2
     simp only [tkn, wordT, this, if_true, Tk.av]; simp), rfl⟩
set_option maxRecDepth 100000 in
theorem mark_pure (s : List UInt8) (hs : s.length ≤ 1073741824) : Pure Tryz.prog 96 [.str s] (tkn (markT s)) := by
 refine Pure.of_tri Tryz.func96 rfl rfl (ltb rfl) fun H => ?_
 refine Tri.seq (Tri.region ?_)
 refine TriL.c2 rfl (op_all (ltb rfl) zA112_q rfl) ?_
 refine TriL.c1 rfl (op_as (ltb rfl) rfl) ?_
 refine TriL.nil (Tri.seq (Tri.seq (Tri.region ?_)))
 refine TriL.c1 rfl (op_mv (ltb rfl) rfl) ?_
 refine TriL.c1 rfl (op_bin (ltb rfl) rfl rfl rfl) ?_
 refine TriL.c1 rfl (op_mv (ltb rfl) rfl) ?_
 refine TriL.split (d := 6) rfl (fun hg1 => ?_) (fun hg1 => ?_)
 ·iterate 4 (refine TriL.skipu rfl rfl (ltb rfl) (ltb rfl) rfl hg1 ?_)
  refine TriL.c1 rfl (op_pickt (ltb rfl) rfl hg1 rfl) ?_
  refine TriL.nil ?_
  refine Tri.condT rfl rfl ?_
  refine Tri.seq (Tri.region ?_)
  refine TriL.c1 rfl (op_bld (ltb rfl) spl112_q zA112_q rfl rfl) ?_
  refine TriL.c1 rfl (op_stl lk112_q rfl rfl rfl rfl rfl (leb rfl)) ?_
  refine TriL.c1 rfl (op_as (ltb rfl) rfl) ?_
  refine TriL.nil (Tri.ret ?_)
  exact ⟨.inr rfl, (ResOK.r2 rfl (.cell lk112_q rfl rfl rfl rfl (.tmp rfl .nil))).cast (by rw [empty_of hg1]; rfl), rfl⟩
 ·obtain ⟨c, r, rfl⟩ := cons_of hg1
  refine TriL.g1 rfl (ltb rfl) rfl hg1 (op_mv (ltb rfl) rfl) ?_
  refine TriL.g1 rfl (ltb rfl) rfl hg1 (op_ixs (ltb rfl) un9_q rfl rfl (by decide) rfl) ?_
  refine TriL.g1 rfl (ltb rfl) rfl hg1 (op_call (ltb rfl) fn131_q rfl (indexByte_pure _ c)) ?_
  refine TriL.g1 rfl (ltb rfl) rfl hg1 (op_bin (ltb rfl) rfl rfl rfl) ?_
  refine TriL.c1 rfl (op_pickf (ltb rfl) rfl hg1 rfl) ?_
  refine TriL.nil ?_
  refine Tri.cond rfl (fun hc2 => ?_) (fun hc2 => ?_)
  ·refine Tri.seq (Tri.region ?_)
   refine TriL.c1 rfl (op_bld (ltb rfl) spl112_q zA112_q rfl rfl) ?_
   refine TriL.c1 rfl (op_stl lk112_q rfl rfl rfl rfl rfl (leb rfl)) ?_
   refine TriL.c1 rfl (op_as (ltb rfl) rfl) ?_
   refine TriL.nil (Tri.ret ?_)
   exact ⟨.inr rfl, (ResOK.r2 rfl (.cell lk112_q rfl rfl rfl rfl (.tmp rfl .nil))).cast (by
     have := (indexByte_mark c).1 (of_decide_eq_true hc2)
     simp only [tkn, markT, this]; rfl), rfl⟩
  ·refine Tri.skip (Tri.seq (Tri.region ?_))
   refine TriL.c1 rfl (op_mv (ltb rfl) rfl) ?_
   refine TriL.c1 rfl (op_cuts (ltb rfl) un9_q rfl rfl rfl (by omega) (by omega) (by simp <;> omega)) ?_
   refine TriL.c1 rfl (op_bld (ltb rfl) spl112_q zA112_q rfl rfl) ?_
   refine TriL.c1 rfl (op_stl lk112_q rfl rfl rfl rfl rfl (leb rfl)) ?_
   refine TriL.c1 rfl (op_as (ltb rfl) rfl) ?_
   refine TriL.nil (Tri.ret ?_)
   exact ⟨.inr rfl, (ResOK.r2 rfl (.cell lk112_q rfl rfl rfl rfl (.tmp rfl .nil))).cast (by
     have : isMark c = true := by
      cases h : isMark c
      ·exact absurd ((indexByte_mark c).2 h) (of_decide_eq_false hc2)
      ·rfl
     simp only [tkn, markT, this, if_true, Tk.av]; rfl), rfl⟩
theorem fmt_pure (u : Nat) (hu : u < 18446744073709551616) : Pure Tryz.prog 158 [.int .u64 u, .int .i64 10] (.str (Lib.decDigits u)) := by
 refine Pure.of_tri Tryz.func158 rfl rfl (ltb rfl) fun H => ?_
 refine Tri.seq (Tri.region ?_)
 refine TriL.c1 rfl (op_as (ltb rfl) rfl) ?_
 refine TriL.nil (Tri.seq (Tri.region ?_))
 iterate 2 (refine TriL.c1 rfl (op_mv (ltb rfl) rfl) ?_)
 refine TriL.c1 rfl (op_call (ltb rfl) fn190_q rfl (format_pure u hu)) ?_
 refine TriL.c1 rfl (op_as (ltb rfl) rfl) ?_
 refine TriL.nil (Tri.ret ?_)
 exact ⟨.inr rfl, (ResOK.r1 rfl (.tmp rfl .nil)), rfl⟩
theorem digs_len {u : Nat} (hu : u < 18446744073709551616) : (Lib.decDigits u).length ≤ 20 := by
 rw [Lib.decDigits_length]
 by_cases h : 1 ≤ u
 ·have := Lib.numDigits_eq u h hu; split at this <;> omega
 ·have : u = 0 := by omega
  subst this; simp [Lib.nDigits]
theorem digits_pure (u : Nat) (neg : Bool) (hu : u < 18446744073709551616) : Pure Tryz.prog 127 [.int .u64 u, .bool neg] (.str (digs u neg)) := by
 refine Pure.of_tri Tryz.func127 rfl rfl (ltb rfl) fun H => ?_
 refine Tri.seq (Tri.region ?_)
 refine TriL.c1 rfl (op_as (ltb rfl) rfl) ?_
 refine TriL.nil (Tri.seq (Tri.region ?_))
 refine TriL.c1 rfl (op_mv (ltb rfl) rfl) ?_
 refine TriL.c1 rfl (op_call (ltb rfl) fn158_q rfl (fmt_pure u hu)) ?_
 refine TriL.c1 rfl (op_as (ltb rfl) rfl) ?_
 refine TriL.nil (Tri.seq (Tri.seq (Tri.region ?_)))
 iterate 2 (refine TriL.c1 rfl (op_mv (ltb rfl) rfl) ?_)
 refine TriL.split (d := 9) rfl (fun hg1 => ?_) (fun hg1 => ?_)
 ·refine TriL.g1 rfl (ltb rfl) rfl hg1 (op_mv (ltb rfl) rfl) ?_
  refine TriL.g1 rfl (ltb rfl) rfl hg1 (op_bin (ltb rfl) rfl rfl rfl) ?_
  refine TriL.c1 rfl (op_pickt (ltb rfl) rfl hg1 rfl) ?_
  refine TriL.nil ?_
  refine Tri.cond rfl (fun hc2 => ?_) (fun hc2 => ?_)
  ·refine Tri.seq (Tri.region ?_)
   refine TriL.c1 rfl (op_mv (ltb rfl) rfl) ?_
   refine TriL.c1 rfl (op_cat (ltb rfl) rfl rfl (by have := digs_len hu; simp; omega)) ?_
   refine TriL.c1 rfl (op_as (ltb rfl) rfl) ?_
   refine TriL.nil (Tri.ret ?_)
   exact ⟨.inr rfl, (ResOK.r1 rfl (.tmp rfl .nil)).cast (by
     have h2 : u ≠ 0 := by simpa using hc2
     have h1 : neg = true := hg1
     simp [digs, h1, h2]), rfl⟩
  ·refine Tri.skip (Tri.seq (Tri.region ?_))
   refine TriL.c1 rfl (op_mv (ltb rfl) rfl) ?_
   refine TriL.c1 rfl (op_as (ltb rfl) rfl) ?_
   refine TriL.nil (Tri.ret ?_)
   exact ⟨.inr rfl, (ResOK.r1 rfl (.tmp rfl .nil)).cast (by
     have h2 : u = 0 := by simpa using hc2
     have h1 : neg = true := hg1
     simp [digs, h1, h2]), rfl⟩
 ·iterate 2 (refine TriL.skipu rfl rfl (ltb rfl) (ltb rfl) rfl hg1 ?_)
  refine TriL.c1 rfl (op_pickf (ltb rfl) rfl hg1 rfl) ?_
  refine TriL.nil ?_
  refine Tri.condF rfl rfl ?_
  refine Tri.skip (Tri.seq (Tri.region ?_))
  refine TriL.c1 rfl (op_mv (ltb rfl) rfl) ?_
  refine TriL.c1 rfl (op_as (ltb rfl) rfl) ?_
  refine TriL.nil (Tri.ret ?_)
  exact ⟨.inr rfl, (ResOK.r1 rfl (.tmp rfl .nil)).cast (by
    have h1 : neg = false := hg1
    simp [digs, h1]), rfl⟩
/- lex: a number; the document's digits. -/
theorem fn125_q : isFn Tryz.prog 125 = true := by kernel_rfl
theorem fn126_q : isFn Tryz.prog 126 = true := by kernel_rfl
theorem fn127_q : isFn Tryz.prog 127 = true := by kernel_rfl
theorem mi168_q : Tryz.prog.underlying 168 = some (.interface (Tryz.prog.methodsAt 168)) := by kernel_rfl
theorem se161_q : se Tryz.prog 161 = some (5, 1, 1) := by kernel_rfl
theorem un161_q : Tryz.prog.underlying 161 = some (TypeDesc.slice 5) := Tryz.underlying161
theorem un5_q : Tryz.prog.underlying 5 = some (TypeDesc.int IntKind.u8) := Tryz.underlying5
theorem unel161_q : Tryz.prog.underlying 5 = some (TypeDesc.int IntKind.u8) := Tryz.underlying5
theorem zAe161_q : zeroA Tryz.prog 5 = some [AV.int IntKind.u8 (0)] := by kernel_rfl
theorem decDigits_small {u : Nat} (h : u < 10) : Lib.decDigits u = [UInt8.ofNat (48 + u)] := by rw [Lib.decDigits, dif_pos h]
theorem decDigits_step {u : Nat} (h : ¬ u < 10) : Lib.decDigits u = Lib.decDigits (u / 10) ++ [UInt8.ofNat (48 + u % 10)] := by rw [Lib.decDigits, dif_neg h]
/-- what is told so far of n: u is left -/
def DigI (n u : Nat) (t : List UInt8) : Prop := (u = 0 ∧ t = Lib.decDigits n) ∨ (0 < u ∧ Lib.decDigits u ++ t = Lib.decDigits n)
theorem DigI.step {n u : Nat} {t : List UInt8} (h : DigI n u t) (h0 : 0 < u) : DigI n (u / 10) ([UInt8.ofNat (48 + u % 10)] ++ t) := by
 rcases h with ⟨h, _⟩ | ⟨_, h⟩
 ·omega
 ·by_cases hu : u < 10
  ·refine .inl ⟨by omega, ?_⟩
   rw [← h, decDigits_small hu, show u % 10 = u by omega]
  ·refine .inr ⟨by omega, ?_⟩
   rw [← h, decDigits_step hu, List.append_assoc]
theorem DigI.len {n u : Nat} {t : List UInt8} (h : DigI n u t) (hn : n < 18446744073709551616) : t.length ≤ 20 := by
 have := digs_len hn
 rcases h with ⟨_, h⟩ | ⟨_, h⟩
 ·rw [h]; exact this
 ·rw [← h, List.length_append] at this; omega
def StDg (H : Hp) (neg : Bool) (t : List UInt8) (u : Nat) : St := [(.h, .hp H), (.s 1, .sv (.v (.bool neg))), (.s 5, .sv (.v (.str t))), (.s 6, .sv (.v (.int .u64 (u : Int))))]
theorem dgc (u : Nat) : IntKind.u8.wrap (IntKind.u64.wrap (48 + ((u : Int).tmod 10))) = (((UInt8.ofNat (48 + u % 10)).toNat : Nat) : Int) := by
 have e : (u : Int).tmod 10 = ((u % 10 : Nat) : Int) := by rw [Int.tmod_eq_emod_of_nonneg (by omega)]; omega
 rw [e, wru64 (by omega) (by omega), wru8 (by omega) (by omega), UInt8.toNat_ofNat_of_lt' (by simp [UInt8.size]; omega)]; omega
theorem dgq (u : Nat) (hu : u < 18446744073709551616) : IntKind.u64.wrap ((u : Int).tdiv 10) = ((u / 10 : Nat) : Int) := by
 rw [Int.tdiv_eq_ediv_of_nonneg (by omega), wru64 (by omega) (by omega)]; omega
theorem dgb (u : Nat) : bytesOf [AV.int .u8 (IntKind.u8.wrap (IntKind.u64.wrap (48 + ((u : Int).tmod 10))))] = some [UInt8.ofNat (48 + u % 10)] := by
 rw [dgc]; exact bytesOf_bsl [UInt8.ofNat (48 + u % 10)]
theorem rdigits_pure (n : Nat) (neg : Bool) (hu : n < 18446744073709551616) : Pure Tryz.prog 78 [.int .u64 n, .bool neg] (.str (digs n neg)) := by
 refine Pure.of_tri Tryz.func78 rfl rfl (ltb rfl) fun H => ?_
 refine Tri.seq (Tri.region ?_)
 refine TriL.c1 rfl (op_as (ltb rfl) rfl) ?_
 refine TriL.nil (Tri.seq (Tri.region ?_))
 refine TriL.c1 rfl (op_as (ltb rfl) rfl) ?_
 refine TriL.nil (Tri.seq (Tri.seq (Tri.region ?_)))
 refine TriL.c1 rfl (op_mv (ltb rfl) rfl) ?_
 refine TriL.c1 rfl (op_bin (ltb rfl) rfl rfl rfl) ?_
 refine TriL.nil ?_
 refine Tri.cond rfl (fun hc1 => ?_) (fun hc1 => ?_)
 ·refine Tri.seq (Tri.region ?_)
  refine TriL.c1 rfl (op_as (ltb rfl) rfl) ?_
  refine TriL.nil (Tri.ret ?_)
  exact ⟨.inr rfl, (ResOK.r1 rfl (.tmp rfl .nil)).cast (by
    have h0 : n = 0 := by have := eq_of_beq hc1; omega
    subst h0
    simp [digs, decDigits_small]), rfl⟩
 ·refine Tri.skip (Tri.seq (Tri.seq (Tri.region ?_)))
  refine TriL.c1 rfl (op_mv (ltb rfl) rfl) ?_
  refine TriL.c1 rfl (op_as (ltb rfl) rfl) ?_
  refine TriL.kept (Kept.keep [.h, .s 1, .s 5, .s 6] rfl (by decide) (Kept.now ?_))
  refine Tri.blk ?_
  -- LOOP 1: KEEP
  refine Tri.loop (fun q w => ∃ (u : Nat) (t : List UInt8), w = StDg H neg t u ∧ DigI n u t ∧ u ≤ n ∧ q = u) ?_ (n := n) ⟨n, [], rfl, .inr ⟨by have := beq_eq_false_iff_ne.1 hc1; omega, by simp⟩, Nat.le_refl _, rfl⟩
  rintro q w ⟨u, t, rfl, hi, hle, rfl⟩
  have hnz : n ≠ 0 := by have := beq_eq_false_iff_ne.1 hc1; omega
  refine Tri.seq (Tri.seq (Tri.region ?_))
  refine TriL.c1 rfl (op_mv (ltb rfl) rfl) ?_
  refine TriL.c1 rfl (op_bin (ltb rfl) rfl rfl rfl) ?_
  refine TriL.nil ?_
  refine Tri.cond rfl (fun hc2 => ?_) (fun hc2 => ?_)
  ·refine Tri.skip (Tri.seq (Tri.blk (Tri.region ?_)))
   refine TriL.c1 rfl (op_mv (ltb rfl) rfl) ?_
   iterate 2 (refine TriL.c1 rfl (op_bin (ltb rfl) rfl rfl rfl) ?_)
   refine TriL.c1 rfl (op_cvi (ltb rfl) un41_q un5_q rfl) ?_
   refine TriL.c1 rfl (op_lit («as» := [_]) (ltb rfl) se161_q zAe161_q rfl rfl rfl (leb rfl)) ?_
   refine TriL.c1 rfl (op_b2s (ltb rfl) un161_q unel161_q un9_q rfl (dgb q)) ?_
   refine TriL.c1 rfl (op_mv (ltb rfl) rfl) ?_
   refine TriL.c1 rfl (op_cat (ltb rfl) rfl rfl (by have := hi.len hu; simp; omega)) ?_
   refine TriL.c1 rfl (op_as (ltb rfl) rfl) ?_
   refine TriL.nil (Tri.region ?_)
   refine TriL.c1 rfl (op_mv (ltb rfl) rfl) ?_
   refine TriL.c1 rfl (op_bin (ltb rfl) rfl rfl rfl) ?_
   refine TriL.c1 rfl (op_as (ltb rfl) rfl) ?_
   refine TriL.kept (Kept.keep [.h, .s 1, .s 5, .s 6] rfl (by decide) (Kept.now ?_))
   have h0 : 0 < q := by have := of_decide_eq_true hc2; omega
   exact ⟨q / 10, by omega, q / 10, [UInt8.ofNat (48 + q % 10)] ++ t, by rw [dgq q (by omega)]; rfl, hi.step h0, by omega, rfl⟩
  ·have hq : q = 0 := by have := of_decide_eq_false hc2; omega
   have ht : t = Lib.decDigits n := by rcases hi with ⟨_, h⟩ | ⟨h, _⟩; exact h; omega
   refine Tri.exit (Tri.seq (Tri.seq (Tri.region ?_)))
   refine TriL.c1 rfl (op_mv (ltb rfl) rfl) ?_
   refine TriL.nil ?_
   refine Tri.cond rfl (fun hc3 => ?_) (fun hc3 => ?_)
   ·refine Tri.seq (Tri.region ?_)
    refine TriL.c1 rfl (op_mv (ltb rfl) rfl) ?_
    refine TriL.c1 rfl (op_cat (ltb rfl) rfl rfl (by have := hi.len hu; simp; omega)) ?_
    refine TriL.c1 rfl (op_as (ltb rfl) rfl) ?_
    refine TriL.nil (Tri.ret ?_)
    exact ⟨.inr rfl, (ResOK.r1 rfl (.tmp rfl .nil)).cast (by have h1 : neg = true := hc3; rw [ht]; simp [digs, h1, hnz]), rfl⟩
   ·refine Tri.skip (Tri.seq (Tri.region ?_))
    refine TriL.c1 rfl (op_mv (ltb rfl) rfl) ?_
    refine TriL.c1 rfl (op_as (ltb rfl) rfl) ?_
    refine TriL.nil (Tri.ret ?_)
    exact ⟨.inr rfl, (ResOK.r1 rfl (.tmp rfl .nil)).cast (by have h1 : neg = false := hc3; rw [ht]; simp [digs, h1]), rfl⟩
theorem unsg_le (s : List UInt8) : (unsg s).length ≤ s.length := by
 unfold unsg Lib.trimPrefix
 split
 ·simp
 ·exact Nat.le_refl _
def numS (s : List UInt8) : List UInt8 := (unsg s).take (spn isDig (unsg s))
theorem numTk_ok {s : List UInt8} {u : Nat} (h : Lib.parseUintB 64 (numS s) = .ok u) (h1 : ¬ (isNeg s = true ∧ 9223372036854775808 < u)) (h2 : digs u (isNeg s) = s.take (numB s)) : numTk s = (⟨2, [], u, isNeg s, 0⟩, numB s) := by
 unfold numS at h
 unfold numTk numTok
 rw [h]
 simp only []
 rw [if_neg (by rintro (h3 | h3); exact h1 h3; exact h3 h2)]
theorem numTk_no {s : List UInt8} {u : Nat} (h : Lib.parseUintB 64 (numS s) = .ok u) (h1 : (isNeg s = true ∧ 9223372036854775808 < u) ∨ digs u (isNeg s) ≠ s.take (numB s)) : numTk s = zeroT := by
 unfold numS at h
 unfold numTk numTok
 rw [h]
 simp only []
 rw [if_pos h1]
theorem numTk_bad {s : List UInt8} (h : ∀ u, Lib.parseUintB 64 (numS s) ≠ .ok u) : numTk s = zeroT := by
 unfold numS at h
 unfold numTk numTok
 split
 ·rename_i x y e
  split at e
  ·rename_i u e2; exact absurd e2 (h u)
  ·cases e
 ·rfl
theorem parseM_lt : ∀ (l : List UInt8) (a u : Nat), a < 18446744073709551616 → Lib.parseUintM 18446744073709551615 a l = .ok u → u < 18446744073709551616
 | [], a, u, ha, h => by simp [Lib.parseUintM] at h; omega
 | c :: r, a, u, ha, h => by
  simp only [Lib.parseUintM] at h
  split at h
  ·split at h
   ·cases h
   ·split at h
    ·cases h
    ·exact parseM_lt r _ u (by omega) h
  ·cases h
theorem parse_lt {l : List UInt8} {u : Nat} (h : Lib.parseUintB 64 l = .ok u) : u < 18446744073709551616 := by
 unfold Lib.parseUintB at h
 split at h
 ·cases h
 ·exact parseM_lt l 0 u (by decide) h
theorem cutneg_pure (s : List UInt8) : Pure Tryz.prog 125 [.str s, .str [45]] (.tup [.str (unsg s), .bool (isNeg s)]) := cut_pure s [45]
theorem number_bad (s : List UInt8) (u : Nat) (hs : s.length ≤ 1073741824) (hp : Pure Tryz.prog 126 [.str (((unsg s).drop (0 : Int).toNat).take (((spn isDig (unsg s) : Nat) : Int).toNat - (0 : Int).toNat)), .int .i64 10, .int .i64 64] (.tup [.int .u64 u, .ifc 209 .junk])) (hb : ∀ u, Lib.parseUintB 64 (numS s) ≠ .ok u) : Pure Tryz.prog 94 [.str s] (tkn (numTk s)) := by
 have h1 := unsg_le s
 have h2 := spn_le isDig (unsg s)
 refine Pure.of_tri Tryz.func94 rfl rfl (ltb rfl) fun H => ?_
 refine Tri.seq (Tri.region ?_)
 refine TriL.c2 rfl (op_all (ltb rfl) zA112_q rfl) ?_
 refine TriL.c1 rfl (op_as (ltb rfl) rfl) ?_
 refine TriL.nil (Tri.seq (Tri.region ?_))
 refine TriL.c1 rfl (op_mv (ltb rfl) rfl) ?_
 refine TriL.c1 rfl (op_call (ltb rfl) fn125_q rfl (cutneg_pure s)) ?_
 refine TriL.c1 rfl (op_mv (ltb rfl) rfl) ?_
 iterate 2 (refine TriL.c1 rfl (op_ext (ltb rfl) rfl rfl) ?_)
 iterate 2 (refine TriL.c1 rfl (op_as (ltb rfl) rfl) ?_)
 refine TriL.nil (Tri.seq (Tri.region ?_))
 refine TriL.c1 rfl (op_mv (ltb rfl) rfl) ?_
 refine TriL.c1 rfl (op_call (ltb rfl) fn55_q rfl (span_pure (unsg s) _ isDig digit_pure (by kernel_rfl) (by omega))) ?_
 refine TriL.c1 rfl (op_as (ltb rfl) rfl) ?_
 refine TriL.nil (Tri.seq (Tri.region ?_))
 iterate 2 (refine TriL.c1 rfl (op_mv (ltb rfl) rfl) ?_)
 refine TriL.c1 rfl (op_cuts (ltb rfl) un9_q rfl rfl rfl (by omega) (by omega) (by omega)) ?_
 refine TriL.c1 rfl (op_call (ltb rfl) fn126_q rfl hp) ?_
 refine TriL.c1 rfl (op_mv (ltb rfl) rfl) ?_
 iterate 2 (refine TriL.c1 rfl (op_ext (ltb rfl) rfl rfl) ?_)
 iterate 2 (refine TriL.c1 rfl (op_as (ltb rfl) rfl) ?_)
 refine TriL.nil (Tri.seq (Tri.seq ?_))
 refine Tri.drawn mixed rfl ?_
 refine TriD.c1 rfl (op_mv (ltb rfl) rfl) ?_
 refine TriD.c1 rfl (op_nei (ltb rfl) mi168_q rfl rfl) ?_
 refine TriD.c1 rfl (op_mv (ltb rfl) rfl) ?_
 iterate 2 (refine TriD.skipu rfl rfl (ltb rfl) (ltb rfl) rfl rfl ?_)
 iterate 2 (refine TriD.skipg rfl rfl (ltb rfl) (ltb rfl) rfl ?_)
 refine TriD.skipu rfl rfl (ltb rfl) (ltb rfl) rfl rfl ?_
 refine TriD.c1 rfl (op_pickt (ltb rfl) rfl rfl rfl) ?_
 refine TriD.c1 rfl (op_mv (ltb rfl) rfl) ?_
 iterate 13 (refine TriD.skipu rfl rfl (ltb rfl) (ltb rfl) rfl rfl ?_)
 refine TriD.c1 rfl (op_pickt (ltb rfl) rfl rfl rfl) ?_
 refine TriD.nil (by kernel_rfl) (Kept.now ?_)
 refine Tri.condT rfl rfl ?_
 refine Tri.seq (Tri.region ?_)
 refine TriL.c1 rfl (op_bld (ltb rfl) spl112_q zA112_q rfl rfl) ?_
 refine TriL.c1 rfl (op_stl lk112_q rfl rfl rfl rfl rfl (leb rfl)) ?_
 refine TriL.c1 rfl (op_as (ltb rfl) rfl) ?_
 refine TriL.nil (Tri.ret ?_)
 exact ⟨.inr rfl, (ResOK.r2 rfl (.cell lk112_q rfl rfl rfl rfl (.tmp rfl .nil))).cast (by rw [numTk_bad hb]; rfl), rfl⟩
theorem number_ok (s : List UInt8) (u : Nat) (hu : u < 18446744073709551616) (hs : s.length ≤ 1073741824) (hp : Pure Tryz.prog 126 [.str (((unsg s).drop (0 : Int).toNat).take (((spn isDig (unsg s) : Nat) : Int).toNat - (0 : Int).toNat)), .int .i64 10, .int .i64 64] (.tup [.int .u64 u, .nili])) (hk : Lib.parseUintB 64 (numS s) = .ok u) : Pure Tryz.prog 94 [.str s] (tkn (numTk s)) := by
 have h1 := unsg_le s
 have h2 := spn_le isDig (unsg s)
 have e1 : IntKind.i64.wrap (IntKind.i64.wrap ((s.length : Int) - ((unsg s).length : Int)) + ((spn isDig (unsg s) : Nat) : Int)) = ((numB s : Nat) : Int) := by
  rw [wr64 (n := (s.length : Int) - ((unsg s).length : Int)) (by omega) (by omega), wr64 (by omega) (by omega)]; unfold numB; omega
 have e3 : numB s ≤ s.length := by unfold numB; omega
 have e2 : (s.drop (0 : Int).toNat).take ((IntKind.i64.wrap (IntKind.i64.wrap ((s.length : Int) - ((unsg s).length : Int)) + ((spn isDig (unsg s) : Nat) : Int))).toNat - (0 : Int).toNat) = s.take (numB s) := by rw [e1]; simp
 refine Pure.of_tri Tryz.func94 rfl rfl (ltb rfl) fun H => ?_
 refine Tri.seq (Tri.region ?_)
 refine TriL.c2 rfl (op_all (ltb rfl) zA112_q rfl) ?_
 refine TriL.c1 rfl (op_as (ltb rfl) rfl) ?_
 refine TriL.nil (Tri.seq (Tri.region ?_))
 refine TriL.c1 rfl (op_mv (ltb rfl) rfl) ?_
 refine TriL.c1 rfl (op_call (ltb rfl) fn125_q rfl (cutneg_pure s)) ?_
 refine TriL.c1 rfl (op_mv (ltb rfl) rfl) ?_
 iterate 2 (refine TriL.c1 rfl (op_ext (ltb rfl) rfl rfl) ?_)
 iterate 2 (refine TriL.c1 rfl (op_as (ltb rfl) rfl) ?_)
 refine TriL.nil (Tri.seq (Tri.region ?_))
 refine TriL.c1 rfl (op_mv (ltb rfl) rfl) ?_
 refine TriL.c1 rfl (op_call (ltb rfl) fn55_q rfl (span_pure (unsg s) _ isDig digit_pure (by kernel_rfl) (by omega))) ?_
 refine TriL.c1 rfl (op_as (ltb rfl) rfl) ?_
 refine TriL.nil (Tri.seq (Tri.region ?_))
 iterate 2 (refine TriL.c1 rfl (op_mv (ltb rfl) rfl) ?_)
 refine TriL.c1 rfl (op_cuts (ltb rfl) un9_q rfl rfl rfl (by omega) (by omega) (by omega)) ?_
 refine TriL.c1 rfl (op_call (ltb rfl) fn126_q rfl hp) ?_
 refine TriL.c1 rfl (op_mv (ltb rfl) rfl) ?_
 iterate 2 (refine TriL.c1 rfl (op_ext (ltb rfl) rfl rfl) ?_)
 iterate 2 (refine TriL.c1 rfl (op_as (ltb rfl) rfl) ?_)
 refine TriL.nil (Tri.seq (Tri.seq ?_))
 refine Tri.drawn mixed rfl ?_
 refine TriD.c1 rfl (op_mv (ltb rfl) rfl) ?_
 refine TriD.c1 rfl (op_nei (ltb rfl) mi168_q rfl rfl) ?_
 refine TriD.c1 rfl (op_mv (ltb rfl) rfl) ?_
 iterate 2 (refine TriD.g1 rfl (ltb rfl) rfl rfl (op_mv (ltb rfl) rfl) ?_)
 refine TriD.split (d := 27) rfl (fun hg1 => ?_) (fun hg1 => ?_)
 ·refine TriD.g1 rfl (ltb rfl) rfl hg1 (op_mv (ltb rfl) rfl) ?_
  refine TriD.g1 rfl (ltb rfl) rfl hg1 (op_bin (ltb rfl) rfl rfl rfl) ?_
  refine TriD.g1 rfl (ltb rfl) rfl rfl (op_pickt (ltb rfl) rfl hg1 rfl) ?_
  refine TriD.c1 rfl (op_pickf (ltb rfl) rfl rfl rfl) ?_
  refine TriD.c1 rfl (op_mv (ltb rfl) rfl) ?_
  refine TriD.split (d := 32) rfl (fun hg2 => ?_) (fun hg2 => ?_)
  ·iterate 13 (refine TriD.skipu rfl rfl (ltb rfl) (ltb rfl) rfl hg2 ?_)
   refine TriD.c1 rfl (op_pickt (ltb rfl) rfl hg2 rfl) ?_
   refine TriD.nil (by kernel_rfl) (Kept.now ?_)
   refine Tri.condT rfl rfl ?_
   refine Tri.seq (Tri.region ?_)
   refine TriL.c1 rfl (op_bld (ltb rfl) spl112_q zA112_q rfl rfl) ?_
   refine TriL.c1 rfl (op_stl lk112_q rfl rfl rfl rfl rfl (leb rfl)) ?_
   refine TriL.c1 rfl (op_as (ltb rfl) rfl) ?_
   refine TriL.nil (Tri.ret ?_)
   exact ⟨.inr rfl, (ResOK.r2 rfl (.cell lk112_q rfl rfl rfl rfl (.tmp rfl .nil))).cast (by rw [numTk_no hk (.inl ⟨hg1, by have := of_decide_eq_true hg2; omega⟩)]; rfl), rfl⟩
  ·iterate 2 (refine TriD.g1 rfl (ltb rfl) rfl hg2 (op_mv (ltb rfl) rfl) ?_)
   refine TriD.g1 rfl (ltb rfl) rfl hg2 (op_call (ltb rfl) fn127_q rfl (digits_pure u (isNeg s) hu)) ?_
   iterate 2 (refine TriD.g1 rfl (ltb rfl) rfl hg2 (op_mv (ltb rfl) rfl) ?_)
   refine TriD.g1 rfl (ltb rfl) rfl hg2 (op_lens (ltb rfl) un9_q rfl) ?_
   refine TriD.g1 rfl (ltb rfl) rfl hg2 (op_mv (ltb rfl) rfl) ?_
   refine TriD.g1 rfl (ltb rfl) rfl hg2 (op_lens (ltb rfl) un9_q rfl) ?_
   refine TriD.g1 rfl (ltb rfl) rfl hg2 (op_bin (ltb rfl) rfl rfl rfl) ?_
   refine TriD.g1 rfl (ltb rfl) rfl hg2 (op_mv (ltb rfl) rfl) ?_
   refine TriD.g1 rfl (ltb rfl) rfl hg2 (op_bin (ltb rfl) rfl rfl rfl) ?_
   refine TriD.g1 rfl (ltb rfl) rfl hg2 (op_cuts (ltb rfl) un9_q rfl rfl rfl (by omega) (by have := e1; omega) (by have := e1; omega)) ?_
   refine TriD.g1 rfl (ltb rfl) rfl hg2 (op_bin (ltb rfl) rfl rfl rfl) ?_
   refine TriD.c1 rfl (op_pickf (ltb rfl) rfl hg2 rfl) ?_
   refine TriD.nil (by kernel_rfl) (Kept.now ?_)
   refine Tri.cond rfl (fun hc3 => ?_) (fun hc3 => ?_)
   ·refine Tri.seq (Tri.region ?_)
    refine TriL.c1 rfl (op_bld (ltb rfl) spl112_q zA112_q rfl rfl) ?_
    refine TriL.c1 rfl (op_stl lk112_q rfl rfl rfl rfl rfl (leb rfl)) ?_
    refine TriL.c1 rfl (op_as (ltb rfl) rfl) ?_
    refine TriL.nil (Tri.ret ?_)
    exact ⟨.inr rfl, (ResOK.r2 rfl (.cell lk112_q rfl rfl rfl rfl (.tmp rfl .nil))).cast (by
      have hne : digs u (isNeg s) ≠ s.take (numB s) := by
       rw [← e2]
       intro e
       have h := hc3
       simp only [Bool.not_eq_true', beq_eq_false_iff_ne, ne_eq] at h
       exact h e
      rw [numTk_no hk (.inr hne)]; rfl), rfl⟩
   ·refine Tri.skip (Tri.seq (Tri.region ?_))
    iterate 2 (refine TriL.c1 rfl (op_mv (ltb rfl) rfl) ?_)
    refine TriL.c1 rfl (op_bld (ltb rfl) spl112_q zA112_q rfl rfl) ?_
    refine TriL.c1 rfl (op_mv (ltb rfl) rfl) ?_
    refine TriL.c1 rfl (op_lens (ltb rfl) un9_q rfl) ?_
    refine TriL.c1 rfl (op_mv (ltb rfl) rfl) ?_
    refine TriL.c1 rfl (op_lens (ltb rfl) un9_q rfl) ?_
    refine TriL.c1 rfl (op_bin (ltb rfl) rfl rfl rfl) ?_
    refine TriL.c1 rfl (op_mv (ltb rfl) rfl) ?_
    refine TriL.c1 rfl (op_bin (ltb rfl) rfl rfl rfl) ?_
    refine TriL.c1 rfl (op_stl lk112_q rfl rfl rfl rfl rfl (leb rfl)) ?_
    refine TriL.c1 rfl (op_as (ltb rfl) rfl) ?_
    refine TriL.nil (Tri.ret ?_)
    exact ⟨.inr rfl, (ResOK.r2 rfl (.cell lk112_q rfl rfl rfl rfl (.tmp rfl .nil))).cast (by
      have heq : digs u (isNeg s) = s.take (numB s) := by
       rw [← e2]
       have h := hc3
       simp only [Bool.not_eq_false', beq_iff_eq] at h
       exact h
      rw [numTk_ok hk (fun h => (by have := of_decide_eq_false hg2; omega)) heq, e1]; rfl), rfl⟩
 ·iterate 2 (refine TriD.skipu rfl rfl (ltb rfl) (ltb rfl) rfl hg1 ?_)
  refine TriD.g1 rfl (ltb rfl) rfl rfl (op_pickf (ltb rfl) rfl hg1 rfl) ?_
  refine TriD.c1 rfl (op_pickf (ltb rfl) rfl rfl rfl) ?_
  refine TriD.c1 rfl (op_mv (ltb rfl) rfl) ?_
  iterate 2 (refine TriD.g1 rfl (ltb rfl) rfl rfl (op_mv (ltb rfl) rfl) ?_)
  refine TriD.g1 rfl (ltb rfl) rfl rfl (op_call (ltb rfl) fn127_q rfl (digits_pure u (isNeg s) hu)) ?_
  iterate 2 (refine TriD.g1 rfl (ltb rfl) rfl rfl (op_mv (ltb rfl) rfl) ?_)
  refine TriD.g1 rfl (ltb rfl) rfl rfl (op_lens (ltb rfl) un9_q rfl) ?_
  refine TriD.g1 rfl (ltb rfl) rfl rfl (op_mv (ltb rfl) rfl) ?_
  refine TriD.g1 rfl (ltb rfl) rfl rfl (op_lens (ltb rfl) un9_q rfl) ?_
  refine TriD.g1 rfl (ltb rfl) rfl rfl (op_bin (ltb rfl) rfl rfl rfl) ?_
  refine TriD.g1 rfl (ltb rfl) rfl rfl (op_mv (ltb rfl) rfl) ?_
  refine TriD.g1 rfl (ltb rfl) rfl rfl (op_bin (ltb rfl) rfl rfl rfl) ?_
  refine TriD.g1 rfl (ltb rfl) rfl rfl (op_cuts (ltb rfl) un9_q rfl rfl rfl (by omega) (by have := e1; omega) (by have := e1; omega)) ?_
  refine TriD.g1 rfl (ltb rfl) rfl rfl (op_bin (ltb rfl) rfl rfl rfl) ?_
  refine TriD.c1 rfl (op_pickf (ltb rfl) rfl rfl rfl) ?_
  refine TriD.nil (by kernel_rfl) (Kept.now ?_)
  refine Tri.cond rfl (fun hc4 => ?_) (fun hc4 => ?_)
  ·refine Tri.seq (Tri.region ?_)
   refine TriL.c1 rfl (op_bld (ltb rfl) spl112_q zA112_q rfl rfl) ?_
   refine TriL.c1 rfl (op_stl lk112_q rfl rfl rfl rfl rfl (leb rfl)) ?_
   refine TriL.c1 rfl (op_as (ltb rfl) rfl) ?_
   refine TriL.nil (Tri.ret ?_)
   exact ⟨.inr rfl, (ResOK.r2 rfl (.cell lk112_q rfl rfl rfl rfl (.tmp rfl .nil))).cast (by
     have hne : digs u (isNeg s) ≠ s.take (numB s) := by
      rw [← e2]
      intro e
      have h := hc4
      simp only [Bool.not_eq_true', beq_eq_false_iff_ne, ne_eq] at h
      exact h e
     rw [numTk_no hk (.inr hne)]; rfl), rfl⟩
  ·refine Tri.skip (Tri.seq (Tri.region ?_))
   iterate 2 (refine TriL.c1 rfl (op_mv (ltb rfl) rfl) ?_)
   refine TriL.c1 rfl (op_bld (ltb rfl) spl112_q zA112_q rfl rfl) ?_
   refine TriL.c1 rfl (op_mv (ltb rfl) rfl) ?_
   refine TriL.c1 rfl (op_lens (ltb rfl) un9_q rfl) ?_
   refine TriL.c1 rfl (op_mv (ltb rfl) rfl) ?_
   refine TriL.c1 rfl (op_lens (ltb rfl) un9_q rfl) ?_
   refine TriL.c1 rfl (op_bin (ltb rfl) rfl rfl rfl) ?_
   refine TriL.c1 rfl (op_mv (ltb rfl) rfl) ?_
   refine TriL.c1 rfl (op_bin (ltb rfl) rfl rfl rfl) ?_
   refine TriL.c1 rfl (op_stl lk112_q rfl rfl rfl rfl rfl (leb rfl)) ?_
   refine TriL.c1 rfl (op_as (ltb rfl) rfl) ?_
   refine TriL.nil (Tri.ret ?_)
   exact ⟨.inr rfl, (ResOK.r2 rfl (.cell lk112_q rfl rfl rfl rfl (.tmp rfl .nil))).cast (by
     have heq : digs u (isNeg s) = s.take (numB s) := by
      rw [← e2]
      have h := hc4
      simp only [Bool.not_eq_false', beq_iff_eq] at h
      exact h
     rw [numTk_ok hk (fun h => (by have h5 : isNeg s = false := hg1; rw [h5] at h; cases h.1)) heq, e1]; rfl), rfl⟩
theorem number_pure (s : List UInt8) (hs : s.length ≤ 1073741824) : Pure Tryz.prog 94 [.str s] (tkn (numTk s)) := by
 have h1 := unsg_le s
 have h2 := spn_le isDig (unsg s)
 have e : (((unsg s).drop (0 : Int).toNat).take (((spn isDig (unsg s) : Nat) : Int).toNat - (0 : Int).toNat)) = numS s := by simp [numS]
 have hl : (numS s).length ≤ 281474976710656 := by simp [numS]; omega
 by_cases hb : ∃ u, Lib.parseUintB 64 (numS s) = .ok u
 ·obtain ⟨u, hk⟩ := hb
  exact number_ok s u (parse_lt hk) hs (by rw [e]; exact parse_ok _ hl u hk) hk
 ·have hb' : ∀ u, Lib.parseUintB 64 (numS s) ≠ .ok u := fun u e => hb ⟨u, e⟩
  obtain ⟨u, hp⟩ := parse_bad _ hl hb'
  exact number_bad s u hs (by rw [e]; exact hp) hb'
end Go.Proofs.YtabihkfhoohfnaaGreatDoor.X
