/- The library's functions as calls of the logic: HasPrefix, CutPrefix, Index, IndexByte, ParseUint, FormatUint, ReplaceAll. Condition: the texts are not too long. -/
import Derived.Test.YthoncmadikifnaaDoorL3
import Derived.Lib.SmallJoins
set_option linter.unusedVariables false
namespace Go.Proofs.YthoncmadikifnaaDoor.X
open Go Go.RowKit Go.Proofs
theorem ba (s : List UInt8) : (⟨s.toArray⟩ : ByteArray).data.toList = s := by simp
theorem bas (s : List UInt8) : (⟨s.toArray⟩ : ByteArray).size = s.length := by simp [ByteArray.size]
theorem has_pure (s p : List UInt8) : Pure Tryd.prog 15 [.str s, .str p] (.bool (Lib.hasPrefix s p)) := Pure.of_same fun G w c _ _ _ hV => by
  obtain ⟨x, y, rfl, hx, hy⟩ := hV.two
  rw [hx.str_eq, hy.str_eq]
  refine (Tryd.strings_HasPrefix _ _ w).mono fun e w' ⟨he, hw⟩ => ⟨⟨_, he, ?_⟩, hw⟩
  rw [ba, ba]; exact .bool _
theorem cut_pure (s p : List UInt8) : Pure Tryd.prog 37 [.str s, .str p] (.tup [.str (Lib.trimPrefix s p), .bool (Lib.hasPrefix s p)]) := Pure.of_same fun G w c _ _ _ hV => by
  obtain ⟨x, y, rfl, hx, hy⟩ := hV.two
  rw [hx.str_eq, hy.str_eq]
  refine (Tryd.strings_CutPrefix _ _ w).mono fun e w' ⟨he, hw⟩ => ⟨⟨_, he, ?_⟩, hw⟩
  rw [ba, ba]; exact V.tup2 (.str _) (.bool _)
theorem index_pure (s : List UInt8) (c : UInt8) : Pure Tryd.prog 39 [.str s, .str [c]] (.int .i64 (Lib.indexByte s c)) := Pure.of_same fun G w cc _ _ _ hV => by
  obtain ⟨x, y, rfl, hx, hy⟩ := hV.two
  rw [hx.str_eq, hy.str_eq]
  refine (Tryd.strings_Index_one _ c w).mono fun e w' ⟨he, hw⟩ => ⟨⟨_, he, ?_⟩, hw⟩
  rw [ba]; exact .int _ _
theorem indexByte_pure (s : List UInt8) (c : UInt8) : Pure Tryd.prog 42 [.str s, .int .u8 (c.toNat : Int)] (.int .i64 (Lib.indexByte s c)) := Pure.of_same fun G w cc _ _ _ hV => by
  obtain ⟨x, y, rfl, hx, hy⟩ := hV.two
  rw [hx.str_eq, hy.int_eq]
  refine (Tryd.strings_IndexByte _ _ w).mono fun e w' ⟨he, hw⟩ => ⟨⟨_, he, ?_⟩, hw⟩
  rw [ba]
  have : ((c.toNat : Int).toNat.toUInt8) = c := by simp
  rw [this]; exact .int _ _
theorem parse_ok (s : List UInt8) (h63 : s.length ≤ 281474976710656) (u : Nat) (h : Lib.parseUintB 64 s = .ok u) : Pure Tryd.prog 38 [.str s, .int .i64 10, .int .i64 64] (.tup [.int .u64 u, .nili]) := Pure.of_calls fun G w c _ _ _ hV => by
  obtain ⟨x, y, z, rfl, hx, hy, hz⟩ := hV.three
  rw [hx.str_eq, hy.int_eq, hz.int_eq]
  refine (Tryd.strconv_ParseUint_10_at64_ok _ (by rw [bas]; omega) u (by rw [ba]; exact h) w).mono fun e w' ⟨he, hw⟩ => ⟨_, he, V.tup2 (.int _ _) .nili, ?_⟩
  rcases hw with rfl | rfl
  · exact Below.refl _ _
  · exact Go.Joins.below_bytesWorld _ _ _ _ (Nat.le_refl _)
theorem parse_bad (s : List UInt8) (h63 : s.length ≤ 281474976710656) (h : ∀ u, Lib.parseUintB 64 s ≠ .ok u) : ∃ u : Nat, Pure Tryd.prog 38 [.str s, .int .i64 10, .int .i64 64] (.tup [.int .u64 u, .ifc 94 .junk]) := by
  rcases h2 : Lib.parseUintB 64 s with u | _ | _
  · exact absurd h2 (h u)
  ·
    refine ⟨0, Pure.of_calls fun G w c hg _ _ hV => ?_⟩
    obtain ⟨x, y, z, rfl, hx, hy, hz⟩ := hV.three
    rw [hx.str_eq, hy.int_eq, hz.int_eq]
    obtain ⟨te, pe, h4⟩ := hg.1
    refine (Tryd.strconv_ParseUint_10_at64_syntax _ (by rw [bas]; omega) (by rw [ba]; exact h2.trans rfl) _ w h4 (.inr ⟨te, pe, rfl⟩)).mono fun e w' ⟨n, he, _, _, hw⟩ => ⟨_, he, V.tup2 (.int _ _) (.ifc _ _ _ (.junk _ rfl)), hw⟩
  ·
    refine ⟨18446744073709551615, Pure.of_calls fun G w c hg _ _ hV => ?_⟩
    obtain ⟨x, y, z, rfl, hx, hy, hz⟩ := hV.three
    rw [hx.str_eq, hy.int_eq, hz.int_eq]
    obtain ⟨te, pe, h4⟩ := hg.2.1
    refine (Tryd.strconv_ParseUint_10_at64_range _ (by rw [bas]; omega) (by rw [ba]; exact h2) _ w h4 (.inr ⟨te, pe, rfl⟩)).mono fun e w' ⟨n, he, _, _, hw⟩ => ⟨_, he, V.tup2 (.int _ _) (.ifc _ _ _ (.junk _ rfl)), hw⟩
theorem format_pure (u : Nat) (hu : u < 18446744073709551616) : Pure Tryd.prog 33 [.int .u64 u, .int .i64 10] (.str (Lib.decDigits u)) := Pure.of_calls fun G w c hg _ _ hV => by
  obtain ⟨x, y, rfl, hx, hy⟩ := hV.two
  rw [hx.int_eq, hy.int_eq]
  exact (Tryd.inner_FormatUint u hu w hg.2.2.1).mono fun e w' ⟨he, hw⟩ => ⟨_, he, .str _, hw⟩
theorem replace_pure (s old new : List UInt8) (h1 : 1 ≤ old.length) (hs : s.length < 4294967281) (hlen : s.length + Lib.countB ⟨s.toArray⟩ ⟨old.toArray⟩ * new.length ≤ 140737488355328) : Pure Tryd.prog 21 [.str s, .str old, .str new] (.str (Lib.replaceAll s old new)) := Pure.of_calls fun G w c hg _ _ hV => by
  obtain ⟨x, y, z, rfl, hx, hy, hz⟩ := hV.three
  rw [hx.str_eq, hy.str_eq, hz.str_eq]
  obtain ⟨m, hm⟩ := hg.2.2.2
  refine (Tryd.strings_ReplaceAll _ _ _ m w (by rw [bas]; exact hs) hm (by rw [bas]; exact h1) (by rw [bas, bas]; exact hlen)).mono fun e w' ⟨he, hw⟩ => ⟨_, he, ?_, hw⟩
  rw [ba, ba, ba]; exact .str _
end Go.Proofs.YthoncmadikifnaaDoor.X
