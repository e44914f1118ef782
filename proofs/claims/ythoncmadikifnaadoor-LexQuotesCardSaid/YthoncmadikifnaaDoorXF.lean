/- The law frame: from a call in the program logic to what a statement asks. No condition. -/
import Derived.Test.YthoncmadikifnaaDoorXC
import Derived.Test.YthoncmadikifnaaDoorRows
import Derived.WalkKit
import Derived.ProofKit
import Derived.OpenShut
import Derived.Carry
import Derived.JoinedCond
set_option linter.unusedVariables false
namespace Go.Proofs.YthoncmadikifnaaDoor.X
open Go Go.RowKit Go.ChangeShapes Go.WideShapes Go.ChangeAt
open Go.ChangeMaps (open_string shut_string)

/-- What is known when a law is called: all that there is. -/
def gh0 (W : World) : Gh := ⟨fun b o => W.cell? ⟨b, o, none⟩, fun _ => none⟩
def hp0 : Hp := ⟨0, fun _ => none⟩
theorem hp0_foot (G : Gh) (W : World) (b : Nat) : ¬ foot G hp0 W b := by
  rintro (⟨id, ⟨cs, h⟩, _⟩ | ⟨id, j, cs, el, esz, xs, b0, arr, t, fr, h, _⟩) <;> cases h
theorem hp0_ok (G : Gh) (W : World) (h : ∀ i, G.ob i = none) : HpOK G W hp0 := by
  refine ⟨fun id b e => ?_, fun id id' b e => ?_, fun id cs e => (by cases e), fun id j blk hr => ?_⟩
  · rw [h] at e; cases e
  · rw [h] at e; cases e
  · exact absurd (.inr ⟨id, j, hr⟩) (hp0_foot G W blk)
/-- A law's call. -/
theorem law_run {P : Program} {f : FuncId} {xs : List AV} {H' : Hp} (h : Run P f xs hp0 (.bool true) H') {W : World} {args : Array Value} (hg : gok W ∧ gN ≤ W.heap.size) (hv : VL (gh0 W) args xs) :
    Calls P f args W fun e w' => e = .returned (.bool true) ∧ Below W.heap.size W w' := by
  refine (h (gh0 W) W args ⟨hg.1, hg.2, fun g _ => hp0_foot _ _ g⟩ (fun b o v e => e) (hp0_ok _ _ fun _ => rfl) hv).mono fun e w' ⟨v, G', he, hV, _, _, _, hf, _⟩ => ?_
  cases hV
  exact ⟨he, hf.os, hf.tape, hf.output, hf.size, fun k hk => hf.block k hk (hp0_foot _ _ k)⟩

section
variable {H : Type} {enc : TypeId × Value → H} {P : Program} {W W' : World}
theorem below_trodAll (hl : laidOutB P = true) (hb : Below W.heap.size W W') : ∀ {ts : List TypeId} {vs : List Value} {ds : List (DataW H)} {ps : List MemPlace},
    ts.all (fun t => P.readableRec t && decide (t < P.types.size)) = true → DataW.TrodAll enc P W 0 (fun _ => true) true ts vs ds ps → DataW.TrodAll enc P W' 0 (fun b => decide (b < W.heap.size)) true ts vs ds ps
  | [], vs, ds, ps, _, h => by
    obtain ⟨rfl, rfl, rfl⟩ := trodAll_nil h
    exact trodAll_mk0
  | t :: ts, vs, ds, ps, hr, h => by
    have hlt := h.lt
    obtain ⟨v, vs1, d, ds1, a, b, rfl, rfl, rfl, h1, h2⟩ := trodAll_cons h
    simp only [List.all_cons, Bool.and_eq_true, decide_eq_true_eq] at hr
    exact trodAll_cons_mk (Below.trod hl hr.1.1 hr.1.2 h1 hb fun x hx => hlt x (by simp [hx])) (below_trodAll hl hb hr.2 h2)
/-- What a statement asks of a law that answers true and leaves all that was. -/
theorem post_true {f : Func} {s : ChangeSpec} {t : TypeId} {args : Array Value} {ds gs : List (DataW H)} {before : List MemPlace} (hl : laidOutB P = true)
    (hr : f.params.toList.all (fun t => P.readableRec t && decide (t < P.types.size)) = true) (hvr : s.vars = []) (hW : DataW.Whole enc P f.params.toList s.vars false W args.toList ds gs before) (hb : Below W.heap.size W W')
    (hs : s.fn H (ds ++ gs) = { results := [.lit (.bool true)], args := ds, vars := gs }) (ht : f.resultTypes = #[t]) (hu : P.underlying t = some .bool) :
    s.post enc P f false true false false W args (.bool true) W' := by
  have hW' := hW
  obtain ⟨p, q, hA, hV, rfl, hfz, hnd⟩ := hW
  refine ⟨ds, gs, p ++ q, [], p, q, hW', ?_, ?_, ?_, ?_, fun h => by cases h⟩
  · rw [hs, ht]
    exact trodAll_cons_mk (shut_bool hu true) trodAll_mk0
  · rw [hs]; exact below_trodAll hl hb hr hA
  · rw [hvr] at hV ⊢
    obtain ⟨rfl, rfl⟩ := trodVars_none hV
    rw [hs]; rfl
  · exact hb.frame _

/-! ### Arguments -/
theorem open_str {r : Reach} {b0 : Nat} {t : TypeId} {v : Value} {d : DataW H} {ps : List MemPlace} (ht : P.underlying t = some .string) (hval : Value.okWide P W r b0 t v) (hd : DataW.Trod enc P W 0 (fun _ => true) true t v d ps) :
    ∃ l : List UInt8, V (gh0 W) v (.str l) ∧ d = .lit (.string l) := by
  obtain ⟨s, rfl, rfl, rfl, _⟩ := open_string ht hval hd
  have e : s = ⟨s.data.toList.toArray⟩ := by cases s; simp
  refine ⟨s.data.toList, ?_, rfl⟩
  have := V.str (G := gh0 W) s.data.toList
  rwa [← e] at this
theorem wf_u8 {n : Int} (h : (Lit.int .u8 n).wf = true) : 0 ≤ n ∧ n < 256 := by
  have : 0 ≤ n ∧ n ≤ 255 := by simpa [Lit.wf, IntKind.min, IntKind.max, IntKind.signed, IntKind.bits] using h
  omega
theorem u8_back {n : Int} (h : 0 ≤ n ∧ n < 256) : ((UInt8.ofNat n.toNat).toNat : Int) = n := by rw [UInt8.toNat_ofNat_of_lt' (by simp [UInt8.size]; omega)]; omega
theorem open_bytes {r : Reach} {b0 : Nat} {t e : TypeId} {v : Value} {d : DataW H} {ps : List MemPlace} (ht : P.underlying t = some (.slice e)) (he : P.underlying e = some (.int .u8)) (hc : P.cellsOf e = 1) (hval : Value.okWide P W r b0 t v)
    (hd : DataW.Trod enc P W 0 (fun _ => true) true t v d ps) : ∃ l : List UInt8, V (gh0 W) v (.sl (bsl l)) ∧ (d = .nil ∧ l = [] ∨ ∃ sp, d = .slice (l.map fun c => .lit (.int .u8 (c.toNat : Int))) sp) := by
  obtain ⟨a0, len0, cap0, rfl⟩ := okWide_slice ht hval
  obtain ⟨fuel, hd⟩ := hd
  have hcs : (Value.slice a0 len0 cap0).cells.toList = [.slice a0 len0 cap0] := by simp [Value.cells]
  rw [hcs] at hd
  rcases open_ints ht he hc hd with ⟨h1, h2⟩ | ⟨a, len, cap, zs, h1, _, hlc, hm, hzl, h2, hcell, hwf⟩
  · cases h1
    cases h2
    exact ⟨[], .slE _ _, .inl ⟨rfl, rfl⟩⟩
  · cases h1
    cases h2
    simp only [if_true] at hzl
    have hb : ∀ n ∈ zs, 0 ≤ n ∧ n < 256 := fun n hn => wf_u8 (hwf n hn)
    let l : List UInt8 := (zs.take len0).map fun n => UInt8.ofNat n.toNat
    have hll : l.length = len0 := by simp only [l, List.length_map, List.length_take]; omega
    have hlg : ∀ i, i < len0 → l[i]? = some (UInt8.ofNat (zs.getD i 0).toNat) := by
      intro i hi
      simp only [l, List.getElem?_map, List.getElem?_take, if_pos hi, List.getD_eq_getElem?_getD]
      rw [List.getElem?_eq_getElem (show i < zs.length by omega)]; rfl
    have hn : ∀ i, i < len0 → 0 ≤ zs.getD i 0 ∧ zs.getD i 0 < 256 := by
      intro i hi
      rw [List.getD_eq_getElem?_getD, List.getElem?_eq_getElem (show i < zs.length by omega)]
      exact hb _ (List.getElem_mem _)
    have hgb : ∀ i, i < len0 → (bsl l)[i]? = some (.int .u8 (zs.getD i 0)) := by
      intro i hi
      simp only [bsl, List.getElem?_map, hlg i hi, Option.map_some]
      rw [u8_back (hn i hi)]
    have hbl : (bsl l).length = len0 := by simp [bsl, hll]
    refine ⟨l, ?_, .inr ⟨lits .u8 (zs.drop len0), ?_⟩⟩
    · by_cases h0 : len0 = 0
      · have : l = [] := List.length_eq_zero_iff.1 (by omega)
        rw [this, h0]
        exact .slE _ _
      · have hsp : a.spot = none := by
          have := hcell 0 (by omega)
          unfold World.cell? at this
          split at this
          · split at this
            · cases this
            · rename_i hns
              simpa [Addr.add] using hns
          · cases this
        obtain ⟨b, o, sp⟩ := a
        simp only at hsp
        subst hsp
        have key : V (gh0 W) (.slice (some ⟨b, o, none⟩) (bsl l).length cap0) (.sl (bsl l)) := by
          refine V.slN b o cap0 1 (bsl l) (fun i _ => .int .u8 (zs.getD i 0)) (by omega) ?_ ?_ ?_ ?_
          · intro i e he'
            have hi : i < len0 := by have := (List.getElem?_eq_some_iff.1 he').1; omega
            rw [hgb i hi] at he'; cases he'; rfl
          · intro i e j c he' hj
            have hi : i < len0 := by have := (List.getElem?_eq_some_iff.1 he').1; omega
            rw [hgb i hi] at he'; cases he'
            have hj0 : j = 0 := by have := (List.getElem?_eq_some_iff.1 hj).1; simp [AV.cells] at this; omega
            subst hj0
            have := hcell i (by omega)
            rw [Addr.add_lit] at this
            simpa [gh0] using this
          · intro i e j c he' hj
            have hi : i < len0 := by have := (List.getElem?_eq_some_iff.1 he').1; omega
            rw [hgb i hi] at he'; cases he'
            have hj0 : j = 0 := by have := (List.getElem?_eq_some_iff.1 hj).1; simp [AV.cells] at this; omega
            subst hj0
            cases hj; rfl
          · intro i e j c he' hj
            have hi : i < len0 := by have := (List.getElem?_eq_some_iff.1 he').1; omega
            rw [hgb i hi] at he'; cases he'
            have hj0 : j = 0 := by have := (List.getElem?_eq_some_iff.1 hj).1; simp [AV.cells] at this; omega
            subst hj0
            cases hj; exact .int _ _
        rw [hbl] at key
        exact key
    · congr 1
      simp only [lits, l, List.map_map]
      apply List.map_congr_left
      intro n hn'
      simp only [Function.comp]
      rw [u8_back (hb n (List.mem_of_mem_take hn'))]
end
end Go.Proofs.YthoncmadikifnaaDoor.X
