/- The law frame: lists of texts, numbers. No condition. -/
import Derived.Test.YthoncmadikifnaaDoorXN
import Derived.Deep.Strs
set_option linter.unusedVariables false
namespace Go.Proofs.YthoncmadikifnaaDoor.X
open Go Go.RowKit Go.ChangeShapes Go.WideShapes Go.ChangeAt
section
variable {H : Type} {enc : TypeId × Value → H} {P : Program} {W W' : World}
theorem cell_spot {a : Addr} {v : Value} (h : W.cell? a = some v) : a.spot = none := by
  unfold World.cell? at h
  split at h
  · split at h
    · cases h
    · rename_i hns; simpa using hns
  · cases h
theorem str_arr (s : ByteArray) : s = ⟨s.data.toList.toArray⟩ := by cases s; simp
theorem open_strl {r : Reach} {b0 : Nat} {t e : TypeId} {v : Value} {d : DataW H} {ps : List MemPlace} (ht : P.underlying t = some (.slice e)) (he : P.underlying e = some .string) (hc : P.cellsOf e = 1) (hval : Value.okWide P W r b0 t v)
    (hd : DataW.Trod enc P W 0 (fun _ => true) true t v d ps) : ∃ l : List (List UInt8), V (gh0 W) v (.sl (l.map .str)) := by
  obtain ⟨a0, len0, cap0, rfl⟩ := okWide_slice ht hval
  obtain ⟨fuel, hd⟩ := hd
  have hcs : (Value.slice a0 len0 cap0).cells.toList = [.slice a0 len0 cap0] := by simp [Value.cells]
  rw [hcs] at hd
  rcases Go.Deep.open_strs ht he hc hd with ⟨h1, h2⟩ | ⟨a, len, cap, m, Sx, h1, _, hlc, hm, hmm, h2, hx⟩
  · cases h1
    exact ⟨[], .slE _ _⟩
  · cases h1
    have hm2 : m = cap0 := by rw [hmm, if_pos rfl]
    subst hm2
    let l : List (List UInt8) := (List.range len0).map fun i => (Sx i).data.toList
    have hll : (l.map AV.str).length = len0 := by simp [l]
    have hg : ∀ i e, (l.map AV.str)[i]? = some e → i < len0 ∧ e = .str (Sx i).data.toList := by
      intro i e h
      have hi : i < len0 := by have := (List.getElem?_eq_some_iff.1 h).1; omega
      simp only [l, List.map_map, List.getElem?_map, List.getElem?_range hi, Option.map_some, Function.comp] at h
      cases h; exact ⟨hi, rfl⟩
    refine ⟨l, ?_⟩
    by_cases h0 : len0 = 0
    · have : l = [] := by simp [l, h0]
      rw [this, h0]; exact .slE _ _
    · have hsp : a.spot = none := by
        have := cell_spot (hx 0 (by omega)).1
        simpa [Addr.add] using this
      obtain ⟨b, o, sp⟩ := a
      simp only at hsp
      subst hsp
      have key : V (gh0 W) (.slice (some ⟨b, o, none⟩) (l.map AV.str).length m) (.sl (l.map .str)) := by
        refine V.slN b o m 1 (l.map AV.str) (fun i _ => .string (Sx i)) (by omega) ?_ ?_ ?_ ?_
        · intro i e he'
          obtain ⟨hi, rfl⟩ := hg i e he'; rfl
        · intro i e j c he' hj
          obtain ⟨hi, rfl⟩ := hg i e he'
          have hj0 : j = 0 := by have := (List.getElem?_eq_some_iff.1 hj).1; simp [AV.cells] at this; omega
          subst hj0
          have := (hx i (by omega)).1
          rw [Addr.add_lit] at this
          simpa [gh0] using this
        · intro i e j c he' hj
          obtain ⟨hi, rfl⟩ := hg i e he'
          have hj0 : j = 0 := by have := (List.getElem?_eq_some_iff.1 hj).1; simp [AV.cells] at this; omega
          subst hj0
          cases hj; rfl
        · intro i e j c he' hj
          obtain ⟨hi, rfl⟩ := hg i e he'
          have hj0 : j = 0 := by have := (List.getElem?_eq_some_iff.1 hj).1; simp [AV.cells] at this; omega
          subst hj0
          cases hj
          have := V.str (G := gh0 W) (Sx i).data.toList
          rwa [← str_arr] at this
      rw [hll] at key
      exact key
theorem wf_u64 {n : Int} (h : (Lit.int .u64 n).wf = true) : ∃ k : Nat, n = k ∧ k < 18446744073709551616 := by
  have : 0 ≤ n ∧ n ≤ 18446744073709551615 := by simpa [Lit.wf, IntKind.min, IntKind.max, IntKind.signed, IntKind.bits] using h
  exact ⟨n.toNat, by omega, by omega⟩
theorem wf_u8' {n : Int} (h : (Lit.int .u8 n).wf = true) : ∃ k : Nat, n = k ∧ k < 256 := by
  have := wf_u8 h
  exact ⟨n.toNat, by omega, by omega⟩
end
end Go.Proofs.YthoncmadikifnaaDoor.X
