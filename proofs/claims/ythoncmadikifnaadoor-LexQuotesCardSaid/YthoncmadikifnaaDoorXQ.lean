/- The law frame: slices of whatever. No condition. -/
import Derived.Test.YthoncmadikifnaaDoorXO
import Derived.Deep.Slices
import Derived.Lib.SmallJoins
set_option linter.unusedVariables false
namespace Go.Proofs.YthoncmadikifnaaDoor.X
open Go Go.RowKit Go.ChangeShapes Go.WideShapes Go.ChangeAt
section
variable {H : Type} {enc : TypeId × Value → H} {P : Program} {W W' : World}
/-- A slice, where each element that is read stands for something. -/
theorem open_sl {r : Reach} {b0 k : Nat} {t e : TypeId} {v : Value} {d : DataW H} {ps : List MemPlace} {Q : AV → Prop} (ht : P.underlying t = some (.slice e)) (hk : P.cellsOf e = k) (hpos : 0 < k) (hval : Value.okWide P W r b0 t v)
    (hd : DataW.Trod enc P W 0 (fun _ => true) true t v d ps)
    (hel : ∀ n cs y, DataW.trod enc P W 0 (fun _ => true) true n e cs = some y → ∃ av : AV, av.cells.length = k ∧ Q av ∧ ∀ (j : Nat) c, av.cells[j]? = some c → c.flat = true ∧ V (gh0 W) (cs.getD j undef) c) :
    ∃ l : List AV, V (gh0 W) v (.sl l) ∧ ∀ a ∈ l, Q a := by
  obtain ⟨a0, len0, cap0, rfl⟩ := okWide_slice ht hval
  obtain ⟨fuel, hd⟩ := hd
  have hcs : (Value.slice a0 len0 cap0).cells.toList = [.slice a0 len0 cap0] := by simp [Value.cells]
  rw [hcs] at hd
  rcases Go.Deep.open_slice ht hd with ⟨h1, h2⟩ | ⟨a, len, cap, m, n, D, Pl, h1, _, hlc, hm, hmm, h2, hx⟩
  · cases h1
    exact ⟨[], .slE _ _, by simp⟩
  · cases h1
    have hm2 : m = cap0 := by rw [hmm, if_pos rfl]
    subst hm2
    rw [hk] at hx
    have each : ∀ i, i < m → ∃ q : AV × (Nat → Value), q.1.cells.length = k ∧ Q q.1 ∧ ∀ (j : Nat) c, q.1.cells[j]? = some c → c.flat = true ∧ V (gh0 W) (q.2 j) c ∧ W.cell? ((a.add (i * k)).add j) = some (q.2 j) := by
      intro i hi
      obtain ⟨cs', h1, h2⟩ := hx i hi
      obtain ⟨_, hlen, hcell⟩ := World.cells?_some h1
      obtain ⟨av, q1, q2, q3⟩ := hel n cs' _ h2
      refine ⟨(av, fun j => cs'.getD j undef), q1, q2, fun j c hc => ⟨(q3 j c hc).1, (q3 j c hc).2, ?_⟩⟩
      have hc' : av.cells[j]? = some c := hc
      have hj : j < k := by have := (List.getElem?_eq_some_iff.1 hc').1; omega
      have := hcell j hj
      rw [this]
      show cs'[j]? = some (cs'.getD j undef)
      rw [List.getD_eq_getElem?_getD, List.getElem?_eq_getElem (by omega)]; rfl
    have hch : ∃ q : Nat → AV × (Nat → Value), ∀ i, i < m → (q i).1.cells.length = k ∧ Q (q i).1 ∧ ∀ (j : Nat) c, (q i).1.cells[j]? = some c → c.flat = true ∧ V (gh0 W) ((q i).2 j) c ∧ W.cell? ((a.add (i * k)).add j) = some ((q i).2 j) :=
      ⟨fun i => if h : i < m then (each i h).choose else (.nilp, fun _ => undef), fun i hi => by simp only [dif_pos hi]; exact (each i hi).choose_spec⟩
    obtain ⟨q, hq⟩ := hch
    let l : List AV := (List.range len0).map fun i => (q i).1
    have hll : l.length = len0 := by simp [l]
    have hg : ∀ (i : Nat) e, l[i]? = some e → i < len0 ∧ e = (q i).1 := by
      intro i e h
      have hi : i < len0 := by have := (List.getElem?_eq_some_iff.1 h).1; omega
      simp only [l, List.getElem?_map, List.getElem?_range hi, Option.map_some] at h
      cases h; exact ⟨hi, rfl⟩
    refine ⟨l, ?_, fun x hx => ?_⟩
    · by_cases h0 : len0 = 0
      · have : l = [] := List.length_eq_zero_iff.1 (by omega)
        rw [this, h0]; exact .slE _ _
      · have hsp : a.spot = none := by
          obtain ⟨h1, _, h3⟩ := hq 0 (by omega)
          have h0' : 0 < (q 0).1.cells.length := by omega
          have := cell_spot (h3 0 _ (List.getElem?_eq_getElem h0')).2.2
          simpa [Addr.add] using this
        obtain ⟨b, o, sp⟩ := a
        simp only at hsp
        subst hsp
        have key : V (gh0 W) (.slice (some ⟨b, o, none⟩) l.length m) (.sl l) := by
          refine V.slN b o m k l (fun i j => (q i).2 j) (by omega) ?_ ?_ ?_ ?_
          · intro i e he'
            obtain ⟨hi, rfl⟩ := hg i e he'; exact (hq i (by omega)).1
          · intro i e j c he' hj
            obtain ⟨hi, rfl⟩ := hg i e he'
            have := ((hq i (by omega)).2.2 j c hj).2.2
            rw [Addr.add_lit, Addr.add_lit] at this
            simpa [gh0] using this
          · intro i e j c he' hj
            obtain ⟨hi, rfl⟩ := hg i e he'
            exact ((hq i (by omega)).2.2 j c hj).1
          · intro i e j c he' hj
            obtain ⟨hi, rfl⟩ := hg i e he'
            exact ((hq i (by omega)).2.2 j c hj).2.1
        rw [hll] at key
        exact key
    · obtain ⟨i, hi⟩ := List.mem_iff_getElem?.1 hx
      obtain ⟨h1, rfl⟩ := hg i x hi
      exact (hq i (by omega)).2.1
theorem map_of_all {α : Type} {f : α → AV} {R : α → Prop} : ∀ {l : List AV}, (∀ a ∈ l, ∃ x, a = f x ∧ R x) → ∃ m : List α, l = m.map f ∧ ∀ x ∈ m, R x
  | [], _ => ⟨[], rfl, by simp⟩
  | a :: l, h => by
    obtain ⟨x, rfl, hx⟩ := h a (by simp)
    obtain ⟨m, rfl, hm⟩ := map_of_all (l := l) (fun b hb => h b (by simp [hb]))
    exact ⟨x :: m, rfl, fun y hy => by rcases List.mem_cons.1 hy with rfl | h2; exact hx; exact hm y h2⟩
end
end Go.Proofs.YthoncmadikifnaaDoor.X
