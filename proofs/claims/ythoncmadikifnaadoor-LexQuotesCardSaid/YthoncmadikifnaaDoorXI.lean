/- The program logic's rules: a row is lent to a call. No condition. -/
import Derived.Test.YthoncmadikifnaaDoorXH
import Derived.Laws.Cover3
set_option linter.unusedVariables false
set_option linter.unusedSimpArgs false
namespace Go.Proofs.YthoncmadikifnaaDoor.X
open Go Go.RowKit

def isInt : AV → Bool
  | .int _ _ => true
  | _ => false
section
variable {P : Program} {N : Nat} {s : St} {d : Nat} {ty : TypeId} {pos : String} {af : Array Edge} {g : Option (Nat × Bool)}
/-- f(row): the row is only read; numbers come back, in a row of their own. -/
theorem op_callb {f : FuncId} {x : Operand} {tys : Array TypeId} {k n el esz el2 : Nat} {xs ys : List AV} (hN : d < N) (hf : isFn P f = true) (hx : opd x s = some (.om k n)) (hk : get s (.t k) = some (.tk true el esz xs)) (hp : PureO P f [.sl xs] el2 1 ys) (hi : ys.all isInt = true) (htd : get s (.t d) = none) :
    OpOK P N ⟨some d, .call { callee := .value (.func f), args := #[x], argTypes := tys }, ty, pos, af, g⟩ s (rd x ++ [.t k, .t d]) [(.s d, .sv (.ow d ys)), (.t d, .tk false el2 1 ys)] := by
  intro t hR E G L a w hr K Q hK
  have hk' : get t (.t k) = some (.tk true el esz xs) := by rw [hR (.t k) (by simp)]; exact hk
  have htd' : get t (.t d) = none := by rw [hR (.t d) (by simp)]; exact htd
  obtain ⟨htk, A, cap, hv⟩ := opd_sound hr hR.left hx
  obtain ⟨v, hv2, ⟨cells, _, ho, hz, hL, hkn⟩, hm⟩ := hr.tok k _ _ _ _ hk'
  rw [htk] at hv2; cases hv2
  obtain ⟨H, hH, hok, hmay⟩ := hr.heap
  -- what the callee knows
  let G1 : Gh := match (a.eval x).ownBlock with | some b => G.add b cells | none => G
  have hle1 : G.le G1 := by
    simp only [G1]; split
    · rename_i b hb; exact Gh.add_le (fun o u e => by rw [hkn b hb o] at e; cases e)
    · exact Gh.le.refl G
  have hG1 : ∀ b o, (a.eval x).ownBlock = some b → G1.kn b o = cells[o]? := by
    intro b o hb; simp only [G1, hb, Gh.add, if_pos]
  have hG2 : ∀ b o, (a.eval x).ownBlock ≠ some b → G1.kn b o = G.kn b o := by
    intro b o hb
    simp only [G1]; split
    · rename_i c hc; simp only [Gh.add]; rw [if_neg (fun e => hb (by rw [hc, e]))]
    · rfl
  have hob1 : G1.ob = G.ob := by simp only [G1]; split <;> rfl
  have hkn1 : KnOK G1 w := by
    intro b o u e
    by_cases hb : (a.eval x).ownBlock = some b
    · rw [hG1 b o hb] at e
      rcases ho.2 with ⟨e1, _⟩ | ⟨q, c2, cur, e1, _, q1, q2, q3, q4, q5⟩
      · rw [e1] at hb; cases hb
      · rw [e1] at hb; simp [Value.ownBlock] at hb; subst hb
        rw [cell_of_row w q o cur el (0, 0) q1]
        rw [← q5, List.getElem?_take] at e
        split at e
        · simpa using e
        · cases e
    · rw [hG2 b o hb] at e; exact hr.kn b o u e
  let H0 : Hp := ⟨H.next, fun _ => none⟩
  have hf0 : ∀ G2 w2 b, ¬ foot G2 H0 w2 b := by
    rintro G2 w2 b (⟨id, ⟨cs, h⟩, _⟩ | ⟨id, j, cs, el, esz, xs, b0, arr, t, fr, h, _⟩) <;> cases h
  have hok0 : HpOK G1 w H0 := ⟨fun id b e => hok.lt id b (by rw [hob1] at e; exact e), fun id id' b e e' => hok.inj id id' b (by rw [hob1] at e; exact e) (by rw [hob1] at e'; exact e'), fun id cs e => (by cases e), fun id j b hr => absurd (.inr ⟨id, j, hr⟩) (hf0 G1 w b)⟩
  have hV1 : V G1 (a.eval x) (.sl xs) := V_of_row ho (hL.mono hle1) fun b hb o _ => hG1 b o hb
  unfold Oper.wp
  have hrun : (execOp a.eval ⟨some d, .call { callee := .value (.func f), args := #[x], argTypes := tys }, ty, pos, af, g⟩).run P w = .ok (.enter f #[a.eval x]) w := by
    have e : #[] ++ Array.map a.eval #[x] ++ #[] = #[a.eval x] := by simp
    have he : a.eval (.func f) = .func (.func f) #[] #[] := rfl
    simp only [execOp, resolve, he, Deferred.ofValue, Sem.run_bind, Sem.run_pure, Result.andThen_ok, invoke, run_callFunc hf, e]
  rw [hrun]
  refine (hp H0 G1 w #[a.eval x] ⟨(hr.geAt hH).1, (hr.geAt hH).2.1, fun g _ h => hf0 _ _ _ h⟩ hkn1 hok0 ⟨rfl, fun j y e => ?_⟩).mono ?_
  · match j, e with
    | 0, e => cases e; exact hV1
    | j + 1, e => cases e
  rintro e w' ⟨v, G', rfl, ⟨⟨cells2, hv2, ho2, hz2, hL2, hkn2⟩, hbk⟩, hx', hknG', hok', hf', hft'⟩
  have hblk : ∀ b, b < w.heap.size → w'.heap[b]? = w.heap[b]? := fun b hb => hf'.block b hb (hf0 _ _ b)
  let G2 : Gh := ⟨fun b o => if b < w.heap.size then G.kn b o else G'.kn b o, G.ob⟩
  have hG2l : ∀ b o, b < w.heap.size → G2.kn b o = G.kn b o := fun b o hb => by show (if b < w.heap.size then G.kn b o else G'.kn b o) = _; rw [if_pos hb]
  have hG2h : ∀ b o, ¬ b < w.heap.size → G2.kn b o = G'.kn b o := fun b o hb => by show (if b < w.heap.size then G.kn b o else G'.kn b o) = _; rw [if_neg hb]
  have hle2 : G.le G2 := ⟨fun b o u e => by rw [hG2l b o (hr.knlt e)]; exact e, fun id b e => e⟩
  have hst := hok.stay (w' := w') hle2 rfl (fun b hb o => by rw [hG2l b o (hok.foot hb).1]; exact (hok.foot hb).2 o) (fun b hb => hblk b (hok.foot hb).1) hf'.size
  have hkn3 : KnOK G2 w' := by
    intro b o u e
    by_cases hb : b < w.heap.size
    · rw [hG2l b o hb] at e
      rw [World.cell?_of_block (w := w) (hblk b hb)]; exact hr.kn b o u e
    · rw [hG2h b o hb] at e; exact hknG' b o u e
  have h1 := hr.called (G' := G2) hH ⟨fun b o hb _ => hG2l b o hb, fun id b e => e, fun id b e => .inl e⟩ hkn3 hst.1 ⟨hf'.os, hf'.tape, hf'.output, hf'.size, fun b hb _ => hblk b hb⟩ (fun b hb => .inr ((hst.2 b).1 hb))
  have hown : ∀ c b, owns ((.h, .hp H) :: t) L c b → owns t L c b := by
    intro c b hc
    cases c <;> simp only [owns, get, reduceCtorEq, if_false] at hc ⊢ <;> exact hc
  have hnew : ∀ b, v.ownBlock = some b → w.heap.size ≤ b := fun b hb => by
    rcases (hbk b hb).1 with e | e
    · exact e
    · exact absurd e (hf0 _ _ b)
  have hint : ∀ e ∈ ys, ∃ kk nn, e = .int kk nn := fun e he => by
    have := List.all_eq_true.1 hi e he
    cases e <;> first | exact ⟨_, _, rfl⟩ | cases this
  have hL3 : Lay G2 1 ys cells2 := ⟨hL2.1, fun i e j c he hj => by
    obtain ⟨q1, q2⟩ := hL2.2 i e j c he hj
    obtain ⟨kk, nn, rfl⟩ := hint e (List.mem_of_getElem? he)
    have hc : c = .int kk nn := by
      cases j with
      | zero => simpa [AV.cells] using hj.symm
      | succ j => simp [AV.cells] at hj
    subst hc
    refine ⟨rfl, ?_⟩
    rw [V_int q2]; exact .int _ _⟩
  have hk3 : ∀ b, v.ownBlock = some b → ∀ o, G2.kn b o = G'.kn b o := fun b hb o => hG2h b o (by have := hnew b hb; omega)
  have hV3 : V G2 v (.sl ys) := V_of_row ho2 hL3 fun b hb o hlt => by rw [hk3 b hb o]; exact (hkn2 b hb).1 o hlt
  have hrow : RowOK G2 w' false el2 1 v ys := ⟨cells2, fun _ => hV3, ho2, hz2, hL3, fun b hb => ⟨fun o hlt => by rw [hk3 b hb o]; exact (hkn2 b hb).1 o hlt, fun o hlt => by rw [hk3 b hb o]; exact (hkn2 b hb).2 o hlt⟩⟩
  have h2 := h1.addtok (d := d) (by simpa [get] using htd') hrow (fun b hb => by
    have hb2 := hnew b hb
    refine ⟨.inl (Nat.le_trans hr.base_le hb2), fun id e => ?_, fun c hc => ?_, fun H2 g2 e => ?_⟩
    · have := (hok.lt id b e).2; omega
    · have := (owns_lt hr (hown c b hc)).1; omega
    · simp [get] at g2; subst g2
      have := (hok.foot ((hst.2 b).1 e)).1; omega)
  have h3 := h2.put d hN v (.ow d ys) ⟨hV3, by simp [Loc.setTok]⟩
  refine hK v w' G2 (L.setTok d v) (h3.ext fun c => ?_)
  simp only [List.cons_append, List.nil_append, get]
  split
  · rfl
  · split
    · rfl
    · split
      · rename_i h4; subst h4; exact hH
      · rfl
/-- xs == nil: of an empty slice it is not known. -/
theorem TriL.eqnil {ops : Array Oper} {l : List Oper} {Q : St → Prop} {t1 e t2 : TypeId} {x : Operand} {xs : List AV} (hN : d < N) (hu : P.underlying t1 = some (.slice e)) (hx : opv x s = some (.sl xs)) (h : ∀ b : Bool, (b = true → xs = []) → TriL P N ops l ((.s d, .sv (.v (.bool b))) :: s) Q) :
    TriL P N ops (⟨some d, .binOp .eql t1 x (.const (.slice none 0 0)) t2, ty, pos, af, none⟩ :: l) s Q := by
  intro E a w ⟨G, L, hr⟩ QQ hQ
  have hV := opv_sound hr (fun _ _ => rfl) hx
  obtain ⟨A, c, hv⟩ := V_sl hV
  refine wpList_plain rfl fun K hK => ?_
  have hb : A.isNone = true → xs = [] := by
    have key : ∀ v, V G v (.sl xs) → ∀ A n c, v = .slice A n c → A.isNone = true → xs = [] := by
      intro v hV A n c e hA
      cases hV
      · rfl
      · cases e; cases hA
    exact key _ hV _ _ _ hv
  have hgd : (eqGuard .eql t1 x (.const (.slice none 0 0)) (.slice A xs.length c) (.slice none 0 0)).run P w = .ok () w := by simp [eqGuard]
  have he : a.eval (.const (.slice none 0 0)) = .slice none 0 0 := rfl
  unfold Oper.wp
  have hrun : (execOp a.eval ⟨some d, .binOp .eql t1 x (.const (.slice none 0 0)) t2, ty, pos, af, none⟩).run P w = .ok (.value (.bool A.isNone)) w := by
    simp only [execOp, Sem.run_bind, hv, he, hgd, Result.andThen_ok, binOp, run_equal_slice_nil w t1 e A xs.length c hu, Sem.run_pure]
  rw [hrun]
  exact hK _ _ (h A.isNone hb E _ _ ⟨G, L, hr.put d hN _ (.v (.bool A.isNone)) (.bool _)⟩ QQ hQ)
end
end Go.Proofs.YthoncmadikifnaaDoor.X
