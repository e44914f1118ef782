/- The program logic's rules: loops that change a few slots; what a loop over a slice is told by. No condition. -/
import Derived.Test.YtnpgcmeclkncnaaGreatDoorZN3C
import Derived.Maps.Own
import Derived.Maps.OwnSet
import Derived.Maps.Views
import Derived.Carry
import Derived.Test.YtnpgcmeclkncnaaGreatDoorProg
import Derived.KernelRfl
import Derived.Lib.ValidU
set_option linter.unusedVariables false
set_option linter.unusedSimpArgs false
namespace Go.Proofs.YtnpgcmeclkncnaaGreatDoor.X
open Go Go.RowKit
section
variable {P : Program} {N : Nat} {s : St} {Q : Exit → St → Prop}
/-- A LOOP that changes what 'upd' tells, and leaves 'rest'. -/
theorem Tri.loopk {c : Code} {α : Type} (upd : α → St) (rest : St) (I : α → Prop) (m : α → Nat) (a0 : α) (hs : s = upd a0 ++ rest) (h0 : I a0)
    (hb : ∀ a, I a → Tri P N c (upd a ++ rest) fun e s' => match e with | .normal => ∃ b, m b < m a ∧ I b ∧ s' = upd b ++ rest | e => Q e s') : Tri P N (.loop c) s Q := by
  refine Tri.loop (fun n t => ∃ a, m a = n ∧ I a ∧ t = upd a ++ rest) ?_ (n := m a0) ⟨a0, rfl, h0, hs⟩
  rintro n t ⟨a, rfl, ha, rfl⟩
  refine (hb a ha).mono fun e s' h => ?_
  cases e with
  | normal => obtain ⟨b, h1, h2, h3⟩ := h; exact ⟨m b, h1, b, rfl, h2, h3⟩
  | _ => exact h
/-- WAYS MEET: behind them the slots that 'upd' tells, the rest as it was. -/
theorem Tri.joinu {c d : Code} {α : Type} (cs : List Comp) (upd : α → St) (F : α → Prop) {rest : St} (hr : X.keep cs s cs = some rest) (h1 : Tri P N c s fun e s' => match e with | .normal => ∃ a, F a ∧ s' = upd a ++ rest | e => Q e s')
    (h2 : ∀ a, F a → Tri P N d (upd a ++ rest) Q) : Tri P N (.seq c d) s Q :=
  Tri.join (fun s' => ∃ a, F a ∧ s' = upd a ++ rest) h1 fun s' ⟨a, ha, e⟩ => e ▸ h2 a ha
/-- a slot's number, told in another way -/
theorem Kept.seti {Q : St → Prop} (n : Nat) {k : IntKind} {v v' : Int} (h : get s (.s n) = some (.sv (.v (.int k v)))) (e : v = v') (hq : Kept ((.s n, .sv (.v (.int k v'))) :: s) Q) : Kept s Q := fun E N a w ⟨G, L, hr⟩ => by
  subst e
  refine hq E N a w ⟨G, L, hr.ext fun c => ?_⟩
  simp only [get]
  split
  · rename_i hc; subst hc; exact h.symm
  · rfl
/-- the objects, told in another way -/
theorem Kept.seth {Q : St → Prop} {H H' : Hp} (h : get s .h = some (.hp H)) (e : H = H') (hq : Kept ((.h, .hp H') :: s) Q) : Kept s Q := fun E N a w ⟨G, L, hr⟩ => by
  subst e
  refine hq E N a w ⟨G, L, hr.ext fun c => ?_⟩
  simp only [get]
  split
  · rename_i hc; subst hc; exact h.symm
  · rfl
end
theorem TriD.g3 {P : Program} {N : Nat} {ops : Array Oper} {l : List Oper} {s : St} {Q : St → Prop} {o : Oper} {R : List Comp} {A : List (List Nat)} {acc : List (List Comp × St)} {c c' c2 : Comp} {v u y : CV} {d : Nat} {b b' : Bool} (hg : gslot ops o = some (d, b)) (hN : d < N) (hc : get s (.s d) = some (.sv (.v (.bool b')))) (hb : b' = b) (ho : OpOK P N o s R [(c, v), (c', u), (c2, y)]) (h : TriD P N ops A Q (acc ++ [(.s d :: R, [(c, v), (c', u), (c2, y)])]) l ((c, v) :: (c', u) :: (c2, y) :: s)) : TriD P N ops A Q acc (o :: l) s := TriD.cons (StepOK.on hN hg (hb ▸ hc) ho) h
theorem fdiv_nat (a k : Nat) : ((a : Nat) : Int).fdiv (2 ^ k) = ((a / 2 ^ k : Nat) : Int) := by
  rw [Int.fdiv_eq_ediv_of_nonneg _ (by exact Int.le_of_lt (Int.pow_pos (by decide)))]
  norm_cast
section
variable {P : Program} {N : Nat} {s : St} {d : Nat} {ty : TypeId} {pos : String} {af : Array Edge} {g : Option (Nat × Bool)}
/-- a >> b of a number that is none below nought -/
theorem op_shr {t1 t2 : TypeId} {x y : Operand} {k k' : IntKind} {a : Nat} {b : Int} (hN : d < N) (hx : opv x s = some (.int k (a : Int))) (hy : opv y s = some (.int k' b)) (hb : 0 ≤ b) :
    OpOK P N ⟨some d, .binOp .shr t1 x y t2, ty, pos, af, g⟩ s (rd x ++ rd y) [(.s d, .sv (.v (.int k ((a / 2 ^ (min b.toNat k.bits) : Nat) : Int))))] :=
  op_bin hN hx hy (by
    show (if b < 0 then none else some (AV.int k (((a : Nat) : Int).fdiv (2 ^ (min b.toNat k.bits))))) = _
    rw [if_neg (by omega), fdiv_nat])
theorem op_maxi {ts : Array TypeId} {x y : Operand} {k k' : IntKind} {m n : Int} (hN : d < N) (hx : opv x s = some (.int k m)) (hy : opv y s = some (.int k' n)) :
    OpOK P N ⟨some d, .call { callee := .builtin .max, args := #[x, y], argTypes := ts }, ty, pos, af, g⟩ s (rd x ++ rd y) [(.s d, .sv (.v (.int k (if n > m then n else m))))] :=
  OpOK.val rfl hN fun _ G _ a w _ hr hR => by
    refine ⟨.int k (if n > m then n else m), ?_, .int _ _⟩
    have h1 := (opv_sound hr hR.left hx).int_eq
    have h2 := (opv_sound hr hR.right hy).int_eq
    simp [execOp, resolve, invoke, builtin, h1, h2, run_max_int2]
end
theorem Hp.set_set {H : Hp} {id : Nat} {a b : List Hc} : (H.set id a).set id b = H.set id b := by
  simp only [Hp.set]
  congr 1
  funext i
  split <;> rfl
theorem Hp.set_obj {H : Hp} {id : Nat} {hs : List Hc} : (H.set id hs).obj id = some hs := by simp [Hp.set]
theorem Hp.set_same {H : Hp} {id : Nat} {hs : List Hc} (h : H.obj id = some hs) : H.set id hs = H := by
  obtain ⟨n, o⟩ := H
  simp only [Hp.set]
  congr 1
  funext i
  split
  · rename_i e; subst e; exact h.symm
  · rfl
theorem Hp.del_set (H : Hp) (id : Nat) (hs : List Hc) : (H.del id).set id hs = H.set id hs := by
  simp only [Hp.del, Hp.set]
  congr 1
  funext i
  split <;> rfl
theorem inc {n : Nat} (h : n < 9223372036854775807) : IntKind.i64.wrap ((n : Int) + 1) = ((n + 1 : Nat) : Int) := by
  simp only [IntKind.wrap, IntKind.bits, IntKind.signed]; simp; omega
theorem ltm {α β : Type} {f : α → β} {xs : List α} {i : Nat} (h : decide ((i : Int) < ((xs.map f).length : Int)) = true) : i < xs.length := by
  have := of_decide_eq_true h; rw [List.length_map] at this; omega
theorem gem {α β : Type} {f : α → β} {xs : List α} {i : Nat} (h : decide ((i : Int) < ((xs.map f).length : Int)) = false) : xs.length ≤ i := by
  have := of_decide_eq_false h; rw [List.length_map] at this; omega
theorem ixm {α β : Type} {f : α → β} {xs : List α} {i : Nat} (h : i < xs.length) : (xs.map f)[((i : Nat) : Int).toNat]? = some (f xs[i]) := by
  simp [h]
theorem lts {xs : List UInt8} {i : Nat} (h : decide ((i : Int) < (xs.length : Int)) = true) : i < xs.length := by
  have := of_decide_eq_true h; omega
theorem ges {xs : List UInt8} {i : Nat} (h : decide ((i : Int) < (xs.length : Int)) = false) : xs.length ≤ i := by
  have := of_decide_eq_false h; omega
theorem ixs {xs : List UInt8} {i : Nat} (h : i < xs.length) : xs[((i : Nat) : Int).toNat]? = some xs[i] := by
  simp [h]
theorem ltz {i n : Nat} (h : decide ((i : Int) < (n : Int)) = true) : i < n := by
  have := of_decide_eq_true h; omega
theorem gez {i n : Nat} (h : decide ((i : Int) < (n : Int)) = false) : n ≤ i := by
  have := of_decide_eq_false h; omega
theorem ixm1 {α β : Type} {f : α → β} {xs : List α} {i : Nat} {j : Int} (hj : j = (i : Int)) (h : i < xs.length) : (xs.map f)[j.toNat]? = some (f xs[i]) := by
  subst hj; simp [h]
theorem dec1 {i : Nat} (h : 0 < i) (h2 : i ≤ 9223372036854775807) : IntKind.i64.wrap ((i : Int) - 1) = ((i - 1 : Nat) : Int) := by
  simp only [IntKind.wrap, IntKind.bits, IntKind.signed]; simp; omega
end Go.Proofs.YtnpgcmeclkncnaaGreatDoor.X
/- The program logic's rules: a local box is known for ever from now on; maps of one's own. No condition. -/
set_option linter.unusedVariables false
set_option linter.unusedSimpArgs false
namespace Go.Proofs.YtnpgcmeclkncnaaGreatDoor.X
open Go Go.RowKit
section
variable {N : Nat} {s : St}
def fzbSv (k : Nat) (cs : List AV) : Sv → Sv
  | .lp j o => if j = k then .v (.kp (cs.drop o)) else .lp j o
  | x => x
def fzbCV (k : Nat) (cs : List AV) : CV → CV
  | .sv x => .sv (fzbSv k cs x)
  | v => v
/-- the slots that point into a box that is written no more -/
def fzb (k : Nat) (cs : List AV) : St → St
  | [] => []
  | (c, v) :: s => (c, (if c = .b k then .gone else fzbCV k cs v)) :: fzb k cs s
theorem get_fzb {k : Nat} {cs : List AV} : ∀ {s : St} (c : Comp), get (fzb k cs s) c = (get s c).map (fun v => if c = .b k then .gone else fzbCV k cs v)
  | [], c => by simp [fzb, get]
  | (d, v) :: s, c => by
    simp only [fzb, get]
    split
    · rename_i e; subst e; rfl
    · exact get_fzb c
theorem Rel.fzb {E : Ent} {G : Gh} {L : Loc} {a : Act} {w : World} (h : Rel E N G L a w s) {k : Nat} {l : List Sv} {cs : List AV} (hk : get s (.b k) = some (.bx l)) (hcs : svavs l = some cs) : ∃ G', Rel E N G' L a w (fzb k cs s) := by
  obtain ⟨blk, o, hb, hbase, hh, ⟨arr, el, rfl, hsz, hc⟩, hno, _⟩ := h.box k _ hk rfl
  have hmine : owns s L (.b k) blk := ⟨⟨_, hk, rfl⟩, hb⟩
  obtain ⟨hl1, hl2⟩ := svavs_get hcs
  let G' := G.add blk arr.toList
  have hle : G.le G' := Gh.add_le (fun o v e => by rw [hno o] at e; cases e)
  have hcell : ∀ (j : Nat) c, cs[j]? = some c → c.flat = true ∧ V G (arr.getD j undef) c := fun j c e => by
    obtain ⟨y, hy, hav⟩ := hl2 j c e
    exact ⟨av_flat (hc j y hy).1 hav, (hc j y hy).2.av hav⟩
  have hkn2 : ∀ c j, c ≠ blk → G'.kn c j = G.kn c j := fun c j e => by simp [G', Gh.add, e]
  have hg := fun c => get_fzb (k := k) (cs := cs) (s := s) c
  have hsv : ∀ v x, SV G L v x → SV G' L v (fzbSv k cs x) := by
    intro v x hv
    cases x with
    | lp j n =>
      simp only [fzbSv]
      split
      · rename_i e; subst e
        obtain ⟨b2, h1, rfl⟩ := hv
        rw [hb] at h1; cases h1
        refine V.kp blk n (cs.drop n) (fun j => arr.getD (n + j) undef) (fun j c e => ?_) (fun j c e => ?_) (fun j c e => ?_)
        · rw [List.getElem?_drop] at e
          have hlt : n + j < arr.size := by have := (List.getElem?_eq_some_iff.1 e).1; omega
          rw [add_kn, Array.getElem?_toList, Array.getElem?_eq_getElem hlt, Array.getD_eq_getD_getElem?, Array.getElem?_eq_getElem hlt]; rfl
        · rw [List.getElem?_drop] at e; exact (hcell _ c e).1
        · rw [List.getElem?_drop] at e; exact ((hcell _ c e).2).mono hle
      · exact hv
    | v a => exact SV.mono hle hv
    | mv j o => exact hv
    | ow j ys => exact SV.mono hle hv
    | om j n => exact hv
    | ov j z l n => exact hv
    | ta j o => exact hv
    | mp j => exact hv
    | cd g b a => exact SV.mono hle hv
  have hlive : ∀ v, (fzbCV k cs v).live = v.live := by intro v; cases v <;> rfl
  have hown : ∀ c b, owns (X.fzb k cs s) L c b → c ≠ .b k ∧ owns s L c b := by
    intro c b hc
    cases c with
    | b j =>
      obtain ⟨⟨cv, g, hl⟩, hb'⟩ := hc
      rw [hg] at g
      obtain ⟨v, q1, q2⟩ := Option.map_eq_some_iff.1 g
      split at q2
      · subst q2; cases hl
      · rename_i e
        subst q2
        exact ⟨e, ⟨v, q1, by rw [← hlive]; exact hl⟩, hb'⟩
    | t j =>
      obtain ⟨⟨m, el, esz, ys, g⟩, v, hv, hb'⟩ := hc
      rw [hg] at g
      obtain ⟨v2, q1, q2⟩ := Option.map_eq_some_iff.1 g
      simp only [reduceCtorEq, if_false] at q2
      have hv2 : v2 = .tk m el esz ys := by cases v2 <;> simp [fzbCV] at q2 <;> first | exact q2 | (obtain ⟨rfl, rfl, rfl, rfl⟩ := q2; rfl)
      subst hv2
      exact ⟨by simp, ⟨_, _, _, _, q1⟩, v, hv, hb'⟩
    | s n => exact hc.elim
    | h => exact hc.elim
  have hneb : ∀ c b, owns (X.fzb k cs s) L c b → b ≠ blk := by
    rintro c b hc rfl
    obtain ⟨h1, h2⟩ := hown c _ hc
    exact h1 (h.disj c (.b k) _ h2 hmine)
  obtain ⟨H0, gH, hokH, hmayH⟩ := h.heap
  have hfb : ∀ c, foot G H0 w c → c ≠ blk := fun c hc e => h.hdisj _ _ hmine H0 gH (e ▸ hc)
  have hst := hokH.stay (w' := w) hle rfl (fun c hc o => (hkn2 c o (hfb c hc)).trans ((hokH.foot hc).2 o)) (fun c hc => rfl) (Nat.le_refl _)
  have hgh : ∀ H2, get (X.fzb k cs s) .h = some (.hp H2) → get s .h = some (.hp H2) := by
    intro H2 g2
    rw [hg] at g2
    obtain ⟨v, q1, q2⟩ := Option.map_eq_some_iff.1 g2
    simp only [reduceCtorEq, if_false] at q2
    have hv2 : v = .hp H2 := by cases v <;> simp [fzbCV] at q2; exact congrArg _ q2
    rw [hv2] at q1; exact q1
  refine ⟨G', h.size, h.defs, h.ge, ?_, ?_, h.obs, h.obn, h.fr, ?_, ?_, ?_, fun c d b hc hd => h.disj c d b (hown _ _ hc).2 (hown _ _ hd).2, ⟨H0, by rw [hg]; simp [gH, fzbCV], hst.1, fun b hb => hmayH b ((hst.2 b).1 hb)⟩, fun c b hc H2 g2 e2 => ?_, ?_, ?_⟩
  · intro b j v e
    by_cases eb : b = blk
    · subst eb
      rw [add_kn] at e
      rw [cell_of_row w b j arr el (0, 0) hh]
      simpa using e
    · rw [hkn2 b j eb] at e; exact h.kn b j v e
  · intro b j hlt hm
    rw [hkn2 b j (fun e => by
      subst e
      rcases hbase with e | e
      · omega
      · exact hm e)]
    exact h.old b j hlt hm
  · intro n x g
    rw [hg] at g
    obtain ⟨v, q1, q2⟩ := Option.map_eq_some_iff.1 g
    simp only [reduceCtorEq, if_false] at q2
    cases v <;> simp [fzbCV] at q2
    subst q2
    exact hsv _ _ (h.slot n _ q1)
  · intro j cv g hl
    rw [hg] at g
    obtain ⟨v, q1, q2⟩ := Option.map_eq_some_iff.1 g
    split at q2
    · subst q2; cases hl
    · rename_i e
      subst q2
      rw [hlive] at hl
      have hne : ∀ b2, L.box j = some b2 → b2 ≠ blk := by
        rintro b2 p1 rfl
        exact e (h.disj (.b j) (.b k) _ ⟨⟨v, q1, hl⟩, p1⟩ hmine)
      have e1 : fzbCV k cs v = v := by cases v <;> first | rfl | cases hl
      rw [e1]
      exact (h.box j v q1 hl).stay hle (fun _ _ e => .inl e) (fun _ _ => rfl) (fun b2 p1 o => hkn2 b2 o (hne b2 p1))
  · intro j m el' esz' ys g
    rw [hg] at g
    obtain ⟨v2, q1, q2⟩ := Option.map_eq_some_iff.1 g
    simp only [reduceCtorEq, if_false] at q2
    have hv2 : v2 = .tk m el' esz' ys := by cases v2 <;> simp [fzbCV] at q2 <;> first | exact q2 | (obtain ⟨rfl, rfl, rfl, rfl⟩ := q2; rfl)
    subst hv2
    refine (h.tok j m el' esz' ys q1).stay hle (fun _ _ e => .inl e) (fun _ _ _ _ => rfl) (fun v b2 hv hb2 o => hkn2 b2 o ?_)
    rintro rfl
    have := h.disj (.t j) (.b k) _ ⟨⟨_, _, _, _, q1⟩, v, hv, hb2⟩ hmine
    cases this
  · have := hgh H2 g2
    rw [gH] at this; cases this
    have e3 := (hst.2 b).1 e2
    exact h.hdisj c b (hown _ _ hc).2 _ gH e3
  · intro j g
    rw [hg] at g
    exact h.nobox j (by simpa using g)
  · intro j g
    rw [hg] at g
    exact h.notok j (by simpa using g)
theorem Kept.fzb {Q : St → Prop} (k : Nat) {l : List Sv} {cs : List AV} (hk : get s (.b k) = some (.bx l)) (hcs : svavs l = some cs) (h : Kept (X.fzb k cs s) Q) : Kept s Q := fun E N a w ⟨G, L, hr⟩ => by
  obtain ⟨G', hr'⟩ := hr.fzb hk hcs
  exact h E N a w ⟨G', L, hr'⟩
end
/-! ### arrays as values -/
section
variable {P : Program} {N : Nat} {s : St} {d : Nat} {ty : TypeId} {pos : String} {af : Array Edge} {g : Option (Nat × Bool)}
/-- An array type: how many elements, of which type, and how many cells one has. -/
def asz (P : Program) (t : TypeId) : Option (Nat × TypeId × Nat) :=
  match P.underlying t with
  | some (.array n e) => (P.info? e).map fun i => (n, e, i.size)
  | _ => none
theorem op_blda {t1 : TypeId} {ps : List (Nat × Operand)} {n sz : Nat} {e : TypeId} {zs : List AV} {qs : List (Nat × AV)} {r : List AV} (hN : d < N) (ht : asz P t1 = some (n, e, sz)) (hz : zeroA P t1 = some zs) (hq : opps ps s = some qs) (hf : afill (fun i => some (i * sz, sz)) zs qs = some r) :
    OpOK P N ⟨some d, .build t1 ps.toArray, ty, pos, af, g⟩ s (rds (ps.map (·.2))) [(.s d, .sv (.v (.agg r)))] :=
  OpOK.val rfl hN fun E G L a w t hr hR => by
    have hparts := opps_sound hr hR hq
    obtain ⟨i, z, hi, hzz, hrow0⟩ := zeroA_row hz
    have hrow := hrow0 G
    obtain ⟨arr', hfill, hrow'⟩ := fill_row hparts hrow hf
    unfold asz at ht
    split at ht
    · rename_i n' e' hu
      obtain ⟨ie, hie, e2⟩ := Option.map_eq_some_iff.1 ht
      cases e2
      refine ⟨.agg arr', ?_, V.agg _ _ hrow'.1 (fun j c e => (hrow'.2 j c e).1) (fun j c e => (hrow'.2 j c e).2)⟩
      have hfill' : Instr.fill (fun i => some (i * ie.size, ie.size)) z.cells (List.map (fun (x : Nat × Operand) => (x.1, a.eval x.2)) ps) = some arr' := by
        simpa using hfill
      simp only [execOp, Instr.build, Sem.run_bind, zeroValue, sizeOf, typeInfo, run_program, Result.andThen_ok, hi, hie, Sem.run_pure, hzz, run_underlying hu, List.map_toArray]
      rw [hfill']
      rfl
    · cases ht
theorem op_ixa {t1 : TypeId} {x i : Operand} {n : Nat} {e : TypeId} {cs : List AV} {k : IntKind} {j : Int} {c : AV} (hN : d < N) (ht : asz P t1 = some (n, e, 1)) (hl : lk P e = some (false, 1)) (hx : opv x s = some (.agg cs)) (hi : opv i s = some (.int k j)) (h0 : 0 ≤ j) (h1 : j < n) (hc : cs[j.toNat]? = some c) :
    OpOK P N ⟨some d, .index t1 x i, ty, pos, af, g⟩ s (rd x ++ rd i) [(.s d, .sv (.v c))] :=
  OpOK.val rfl hN fun E G L a w t hr hR => by
    have hv := opv_sound hr hR.left hx
    have hn := V_int (opv_sound hr hR.right hi)
    unfold asz at ht
    split at ht
    · rename_i n' e' hu
      obtain ⟨ie, hie, e2⟩ := Option.map_eq_some_iff.1 ht
      simp only [Prod.mk.injEq] at e2
      obtain ⟨rfl, rfl, h1s⟩ := e2
      generalize hav : a.eval x = u at hv
      cases hv with
      | agg vs _ hsz hf hvv =>
        have hlt : j.toNat < vs.size := by rw [hsz]; exact (List.getElem?_eq_some_iff.1 hc).1
        refine ⟨vs.getD j.toNat undef, ?_, hvv _ c hc⟩
        obtain ⟨ha, _⟩ := lk_run hl w
        have hp : (part e' vs (j.toNat * ie.size)).run P w = .ok (vs.getD j.toNat undef) w := by
          unfold part
          simp only [Sem.run_bind, ha, Result.andThen_ok, h1s, Nat.mul_one, Array.getElem?_eq_getElem hlt, Array.getD_eq_getD_getElem?]
          rfl
        simp [execOp, hav, hn, Instr.index, asIntOf, run_underlying hu, h0, h1, sizeOf, typeInfo, hie, hp]
    · cases ht
end
/-! ### maps of one's own, of texts to whole numbers -/
section
open Go.Maps Go.MapKept
open Go.WideElems (Fit rd rg pl rd_val elemAt)
open Go.ChangeMaps (notKey putKey setBlock heap_setBlock_same heap_setBlock_other)
/-- The block is a map that answers so; it has not more than so many entries. -/
def MapSI (P : Program) (kt et : TypeId) (n : Nat) (f : List UInt8 → Int) (o : Obj) : Prop :=
  ∃ es clock, o = .map es clock ∧ Fit P kt (plainElem (H := Unit) P et) es clock ∧ es.size ≤ n ∧ ∀ key : List UInt8, (DataW.map ((es.toList.map (rg P kt (plainElem (H := Unit) P et))).foldr DataW.insert [])).atKey (.string key) (.lit (.int .i64 0)) = .lit (.int .i64 (f key))
theorem MapSI.owns {P : Program} {kt et : TypeId} {n : Nat} {f : List UInt8 → Int} {o : Obj} {w : World} {b : Nat} (h : MapSI P kt et n f o) (hb : w.heap[b]? = some o) :
    ∃ D : DataW Unit, w.ownsMap P kt (plainElem P et) b n D ∧ ∀ key : List UInt8, D.atKey (.string key) (.lit (.int .i64 0)) = .lit (.int .i64 (f key)) := by
  obtain ⟨es, clock, rfl, F, hs, hf⟩ := h
  exact ⟨_, ⟨es, clock, hb, F, hs, rfl⟩, hf⟩
theorem strkey {P : Program} {kt : TypeId} (hk : P.underlying kt = some .string) {key : List UInt8} (hl : key.length ≤ 9223372036854775807) : keyOf P kt (.string ⟨key.toArray⟩) = some (.string key) := by
  have hm : (⟨key.toArray⟩ : ByteArray).size ≤ maxLen := by simp [ByteArray.size, maxLen]; omega
  unfold keyOf
  rw [hk]
  simp only [mapKey, hk, hm, if_true]
section
variable {P : Program} {N : Nat} {s : St} {d : Nat} {ty : TypeId} {pos : String} {af : Array Edge} {g : Option (Nat × Bool)}
/-- make(map[string]int) -/
theorem op_mkm {t1 kt et : TypeId} (hN : d < N) (hk : get s (.b d) = none) :
    OpOK P N ⟨some d, .makeMap t1 none, ty, pos, af, g⟩ s [.b d] [(.s d, .sv (.mp d)), (.b d, .raw (MapSI P kt et 0 fun _ => 0))] := by
  intro t hR E G L a w hr K Q hK
  have hk' : get t (.b d) = none := by rw [hR (.b d) (by simp)]; exact hk
  have hm : MapSI P kt et 0 (fun _ => 0) (.map #[] 0) := by
    refine ⟨#[], 0, rfl, ⟨by simp, stamped_empty 0, by simp⟩, Nat.le_refl _, fun key => rfl⟩
  have hr1 := hr.alloc d hk' (.map #[] 0) (.raw (MapSI P kt et 0 fun _ => 0)) rfl rfl hm
  unfold Oper.wp
  have he : (execOp a.eval ⟨some d, .makeMap t1 none, ty, pos, af, g⟩).run P w = .ok (.value (.map (some w.heap.size))) (w.alloc (.map #[] 0)) := by
    simp [execOp, Go.RowKit.run_makeMap, Option.map]
  rw [he]
  exact hK _ _ G _ (hr1.put d hN _ (.mp d) ⟨w.heap.size, by simp [Loc.setBox], rfl⟩)
/-- m[key] -/
theorem op_lku {t1 kt et : TypeId} {m x : Operand} {k n : Nat} {f : List UInt8 → Int} {key : List UInt8} (hN : d < N) (ht : P.underlying t1 = some (.map kt et)) (hkt : P.underlying kt = some .string) (he : P.underlying et = some (.int .i64)) (hz : ∀ w, (zeroValue et).run P w = .ok (.int .i64 0) w)
    (hx : opd m s = some (.mp k)) (hk : get s (.b k) = some (.raw (MapSI P kt et n f))) (hi : opv x s = some (.str key)) (hl : key.length ≤ 9223372036854775807) :
    OpOK P N ⟨some d, .lookup t1 m x false, ty, pos, af, g⟩ s (rd m ++ (rd x ++ [.b k])) [(.s d, .sv (.v (.int .i64 (f key))))] := by
  intro t hR E G L a w hr K Q hK
  obtain ⟨blk, hb, hv⟩ := opd_sound hr hR.left hx
  have hi' := (opv_sound hr hR.right.left hi).str_eq
  have hk' : get t (.b k) = some (.raw (MapSI P kt et n f)) := by rw [hR (.b k) (by simp)]; exact hk
  obtain ⟨blk', o, hb', hbase, hh, ho, hno⟩ := hr.box k _ hk' rfl
  rw [hb] at hb'; cases hb'
  have ho' : MapSI P kt et n f o := ho
  obtain ⟨D, hown, hD⟩ := ho'.owns hh
  obtain ⟨c, hrun, hat, _⟩ := hown.lookup_int (string_keyed hkt) ht he (hz w) (strkey hkt hl)
  rw [hD] at hat
  obtain rfl : f key = c := by injection hat with h; injection h
  unfold Oper.wp
  have hex : (execOp a.eval ⟨some d, .lookup t1 m x false, ty, pos, af, g⟩).run P w = .ok (.value (.int .i64 (f key))) w := by
    simp [execOp, hv, hi', hrun, Result.andThen]
  rw [hex]
  exact hK _ _ G L (hr.put d hN _ (.v (.int .i64 (f key))) (.int _ _))
/-- m[key] = v -/
theorem op_mpu {t1 kt et : TypeId} {m x y : Operand} {k n : Nat} {f : List UInt8 → Int} {key : List UInt8} {v : Int} (ht : P.underlying t1 = some (.map kt et)) (hkt : P.underlying kt = some .string) (he : P.underlying et = some (.int .i64))
    (hx : opd m s = some (.mp k)) (hk : get s (.b k) = some (.raw (MapSI P kt et n f))) (hi : opv x s = some (.str key)) (hy : opv y s = some (.int .i64 v)) (hl : key.length ≤ 9223372036854775807) (hn : n < 9223372036854775807) (hw : (Lit.int .i64 v).wf = true) :
    OpOK P N ⟨none, .mapUpdate t1 m x y, ty, pos, af, g⟩ s (rd m ++ (rd x ++ (rd y ++ [.b k]))) [(.b k, .raw (MapSI P kt et (n + 1) fun l => if l = key then v else f l))] := by
  intro t hR E G L a w hr K Q hK
  obtain ⟨blk, hb, hv⟩ := opd_sound hr hR.left hx
  have hi' := (opv_sound hr hR.right.left hi).str_eq
  have hy' := (opv_sound hr hR.right.right.left hy).int_eq
  have hk' : get t (.b k) = some (.raw (MapSI P kt et n f)) := by rw [hR (.b k) (by simp)]; exact hk
  obtain ⟨blk', o, hb', hbase, hh, ho, hno⟩ := hr.box k _ hk' rfl
  rw [hb] at hb'; cases hb'
  have ho' : MapSI P kt et n f o := ho
  obtain ⟨es, clock, rfl, F, hs, hD⟩ := ho'
  have hroom : es.size < maxLen := by unfold maxLen; omega
  have hkey := strkey hkt hl
  have hR1 : plainElem (H := Unit) P et (.int .i64 v) = some (.lit (.int .i64 v), []) := plainElem_int he hw
  obtain ⟨es', clock', hrun, F', hput, _⟩ := Maps.fit_store (R' := plainElem (H := Unit) P et) (string_keyed hkt) ht hh F hroom (fun _ _ _ _ hz => hz) hkey hR1
  have hsz : es'.size ≤ n + 1 := by
    have e1 : es'.size = ((es'.toList.map (rg P kt (plainElem (H := Unit) P et))).foldr DataW.insert []).length := by rw [length_sorted]; simp
    rw [e1, hput]
    unfold putKey
    rw [length_insert]
    have e2 := List.length_filter_le (notKey (.string key)) ((es.toList.map (rg P kt (plainElem (H := Unit) P et))).foldr DataW.insert [])
    rw [length_sorted] at e2
    simp at e2
    omega
  have hm : MapSI P kt et (n + 1) (fun l => if l = key then v else f l) (.map es' clock') := by
    refine ⟨es', clock', rfl, F', hsz, fun l => ?_⟩
    rw [hput, ← DataW.put_eq]
    by_cases hlk : l = key
    · subst hlk
      rw [atKey_put_same (k := .string l) ⟨_, rfl⟩ (by simp [WideAt.IsKeyLit])]
      simp
    · rw [atKey_put_other (by intro e; injection e with e; exact hlk e), hD]
      simp [hlk]
  have hlt := (Array.getElem?_eq_some_iff.1 hh).1
  have hr1 := hr.turn (w' := setBlock w blk (.map es' clock')) (cv := .raw (MapSI P kt et (n + 1) fun l => if l = key then v else f l)) hk' rfl rfl rfl hb (o := .map es' clock') hm rfl rfl rfl (by simp [setBlock]) (fun j hj => heap_setBlock_other hh _ hj) (heap_setBlock_same hh _)
  unfold Oper.wp
  have hex : (execOp a.eval ⟨none, .mapUpdate t1 m x y, ty, pos, af, g⟩).run P w = .ok .skip (setBlock w blk (.map es' clock')) := by
    simp [execOp, hv, hi', hy', hrun, Result.andThen]
  rw [hex]
  exact hK _ _ G L hr1
end
end
end Go.Proofs.YtnpgcmeclkncnaaGreatDoor.X
/- The program logic's rules: a call that makes objects and lets go of them leaves all others as they were; a closure that turns objects. No condition. -/
set_option linter.unusedVariables false
namespace Go.Proofs.YtnpgcmeclkncnaaGreatDoor.X
open Go Go.RowKit
/-- The objects that a value names are such. -/
inductive OpsIn (D : Nat → Prop) : AV → Prop where
  | bool (b : Bool) : OpsIn D (.bool b)
  | int (k : IntKind) (n : Int) : OpsIn D (.int k n)
  | str (s : List UInt8) : OpsIn D (.str s)
  | sl (xs : List AV) (h : ∀ x ∈ xs, OpsIn D x) : OpsIn D (.sl xs)
  | agg (xs : List AV) (h : ∀ x ∈ xs, OpsIn D x) : OpsIn D (.agg xs)
  | tup (xs : List AV) (h : ∀ x ∈ xs, OpsIn D x) : OpsIn D (.tup xs)
  | nilp : OpsIn D .nilp
  | nsl : OpsIn D .nsl
  | sll (n : Nat) : OpsIn D (.sll n)
  | kp (xs : List AV) (h : ∀ x ∈ xs, OpsIn D x) : OpsIn D (.kp xs)
  | op (id off : Nat) (h : D id) : OpsIn D (.op id off)
  | fn (f : FuncId) (xs : List AV) (h : ∀ x ∈ xs, OpsIn D x) : OpsIn D (.fn f xs)
  | nilf : OpsIn D .nilf
  | ifc (t : TypeId) (v : AV) (h : OpsIn D v) : OpsIn D (.ifc t v)
  | nili : OpsIn D .nili
  | junk : OpsIn D .junk
theorem mem_get {α : Type} {l : List α} {x : α} (h : x ∈ l) : ∃ i : Nat, l[i]? = some x := List.mem_iff_getElem?.1 h
theorem OpsIn.ofCells {D : Nat → Prop} {e : AV} (h : ∀ c ∈ e.cells, OpsIn D c) : OpsIn D e := by
  by_cases hf : e.flat = true
  · rw [AV.cells_flat hf] at h
    exact h e (by simp)
  · cases e with
    | agg cs => exact .agg cs h
    | tup vs => exact h _ (by simp [AV.cells])
    | _ => exact absurd rfl hf
theorem OpsIn.toCells {D : Nat → Prop} {e : AV} (h : OpsIn D e) : ∀ c ∈ e.cells, OpsIn D c := by
  intro c hc
  cases h with
  | agg cs hh => exact hh c hc
  | _ => simp [AV.cells] at hc; subst hc; constructor <;> assumption
theorem V.ops {G : Gh} {v : Value} {a : AV} (h : V G v a) : OpsIn (fun id => ∃ b, G.ob id = some b) a := by
  induction h with
  | bool b => exact .bool b
  | int k n => exact .int k n
  | str s => exact .str s
  | junk v h => exact .junk
  | nilp => exact .nilp
  | nsl => exact .nsl
  | sll a n cap => exact .sll n
  | kp b off cs vs hk hf _ ih => exact .kp cs fun x hx => by obtain ⟨j, hj⟩ := mem_get hx; exact ih j x hj
  | op id off b e => exact .op id off ⟨b, e⟩
  | slE a cap => exact .sl [] (by simp)
  | slN b off cap esz xs vs hc he hk hf _ ih =>
    refine .sl xs fun x hx => ?_
    obtain ⟨i, hi⟩ := mem_get hx
    refine OpsIn.ofCells fun c hc => ?_
    obtain ⟨j, hj⟩ := mem_get hc
    exact ih i x j c hi hj
  | agg vs cs hl hf _ ih => exact .agg cs fun x hx => by obtain ⟨j, hj⟩ := mem_get hx; exact ih j x hj
  | tup vs cs hl _ ih => exact .tup cs fun x hx => by obtain ⟨j, hj⟩ := mem_get hx; exact ih j x hj
  | fn f vs cs hl _ ih => exact .fn f cs fun x hx => by obtain ⟨j, hj⟩ := mem_get hx; exact ih j x hj
  | nilf => exact .nilf
  | ifc t v a _ ih => exact .ifc t a ih
  | nili => exact .nili
theorem OpsIn.mono {D D' : Nat → Prop} (hd : ∀ i, D i → D' i) {a : AV} (h : OpsIn D a) : OpsIn D' a := by
  induction h with
  | bool b => exact .bool b
  | int k n => exact .int k n
  | str s => exact .str s
  | sl xs _ ih => exact .sl xs ih
  | agg xs _ ih => exact .agg xs ih
  | tup xs _ ih => exact .tup xs ih
  | nilp => exact .nilp
  | nsl => exact .nsl
  | sll n => exact .sll n
  | kp xs _ ih => exact .kp xs ih
  | op id off h => exact .op id off (hd _ h)
  | fn f xs _ ih => exact .fn f xs ih
  | nilf => exact .nilf
  | ifc t v _ ih => exact .ifc t v ih
  | nili => exact .nili
  | junk => exact .junk
/-- Only the objects below n are known any more. -/
def Gh.res (G : Gh) (n : Nat) : Gh := ⟨G.kn, fun id => if id < n then G.ob id else none⟩
theorem V.res {G : Gh} {n : Nat} {v : Value} {a : AV} (h : V G v a) (ho : OpsIn (fun id => id < n) a) : V (G.res n) v a := by
  induction h with
  | bool b => exact .bool b
  | int k m => exact .int k m
  | str s => exact .str s
  | junk v h => exact .junk v h
  | nilp => exact .nilp
  | nsl => exact .nsl
  | sll a m cap => exact .sll a m cap
  | kp b off cs vs hk hf _ ih =>
    cases ho with
    | kp _ hh => exact .kp b off cs vs hk hf fun j c hj => ih j c hj (hh c (List.mem_of_getElem? hj))
  | op id off b e =>
    cases ho with
    | op _ _ hh => exact .op id off b (by simp [Gh.res, hh, e])
  | slE a cap => exact .slE a cap
  | slN b off cap esz xs vs hc he hk hf _ ih =>
    cases ho with
    | sl _ hh => exact .slN b off cap esz xs vs hc he hk hf fun i e j c hi hj => ih i e j c hi hj ((hh e (List.mem_of_getElem? hi)).toCells c (List.mem_of_getElem? hj))
  | agg vs cs hl hf _ ih =>
    cases ho with
    | agg _ hh => exact .agg vs cs hl hf fun j c hj => ih j c hj (hh c (List.mem_of_getElem? hj))
  | tup vs cs hl _ ih =>
    cases ho with
    | tup _ hh => exact .tup vs cs hl fun j c hj => ih j c hj (hh c (List.mem_of_getElem? hj))
  | fn f vs cs hl _ ih =>
    cases ho with
    | fn _ _ hh => exact .fn f vs cs hl fun j c hj => ih j c hj (hh c (List.mem_of_getElem? hj))
  | nilf => exact .nilf
  | ifc t v a _ ih =>
    cases ho with
    | ifc _ _ hh => exact .ifc t v a (ih hh)
  | nili => exact .nili
/-- A call that may make objects, and lets go of them. -/
theorem Run.of_triF {P : Program} {f : FuncId} {fn : Func} {c : Code} {N : Nat} {args : List AV} {H : Hp} {r : AV} (hf : P.funcs[f]? = some fn) (hb : fn.body = some c) (hN : fn.ntmps = N) (hle : args.length ≤ N) (hro : OpsIn (fun id => id < H.next) r)
    (h : Tri P N c ((.h, .hp H) :: initS args 0) fun e s' => (e = .normal ∨ e = .ret) ∧ ResOK P fn s' r ∧ ∃ H', get s' .h = some (.hp H') ∧ H.next ≤ H'.next ∧ ∀ i, i < H.next → H'.obj i = H.obj i) : Run P f args H r H := by
  intro G w cargs hg hk hH hV
  refine calls_of_wp hf hb ?_
  have h0 := fits0 hN hle hg hk hH hV
  refine wp_mono (h ⟨G, w, foot G H w⟩ _ w h0) ?_
  rintro e a' w' ⟨s', ⟨G', L', hr⟩, he, hres, H', hh, hnx, hobj⟩
  obtain ⟨v, hv, hV'⟩ := hres _ _ _ _ _ _ hr
  obtain ⟨H2, g, hok, hmay⟩ := hr.heap
  rw [hh] at g; cases g
  have hlt : ∀ id b, G.ob id = some b → id < H.next := fun id b e => (hH.lt id b e).1
  have hres1 : ∀ id, id < H.next → (G'.res H.next).ob id = G'.ob id := fun id h => by simp [Gh.res, h]
  have hres2 : ∀ id b, (G'.res H.next).ob id = some b → id < H.next ∧ G'.ob id = some b := fun id b h => by
    simp only [Gh.res] at h
    split at h
    · exact ⟨by assumption, h⟩
    · cases h
  have hop : ∀ {u : Value} {a : AV}, V G u a → OpsIn (fun id => id < H.next) a := fun hu => hu.ops.mono fun id ⟨b, e⟩ => hlt id b e
  have hidl : ∀ id cs, H.obj id = some cs → id < H.next := fun id cs e => by
    obtain ⟨blk, _, _, q1, _⟩ := hH.obj id cs e
    exact hlt id blk q1
  have hrow : ∀ id j b, hrow (G'.res H.next) H w' id j b → hrow G' H' w' id j b := by
    rintro id j b ⟨cs, el, esz, xs, b0, arr, t, fr, h1, h2, h3, h4, h5⟩
    exact ⟨cs, el, esz, xs, b0, arr, t, fr, by rw [hobj id (hidl id cs h1)]; exact h1, h2, (hres2 _ _ h3).2, h4, h5⟩
  have hfoot : ∀ b, foot (G'.res H.next) H w' b → foot G' H' w' b := by
    rintro b (⟨id, ⟨cs, h1⟩, h2⟩ | ⟨id, j, h1⟩)
    · exact .inl ⟨id, ⟨cs, by rw [hobj id (hidl id cs h1)]; exact h1⟩, (hres2 _ _ h2).2⟩
    · exact .inr ⟨id, j, hrow _ _ _ h1⟩
  have hHp : HpOK (G'.res H.next) w' H := by
    refine ⟨fun id b e => ⟨(hres2 id b e).1, (hok.lt id b (hres2 id b e).2).2⟩, fun id id' b e e' => hok.inj id id' b (hres2 _ _ e).2 (hres2 _ _ e').2, fun id cs e => ?_, fun id j blk hh' => ?_⟩
    · obtain ⟨blk, arr, el, q1, q2, q3, q4, q5⟩ := hok.obj id cs (by rw [hobj id (hidl id cs e)]; exact e)
      obtain ⟨blk0, arr0, el0, p1, p2, p3, p4, p5⟩ := hH.obj id cs e
      refine ⟨blk, arr, el, by rw [hres1 id (hidl id cs e)]; exact q1, q2, q3, fun j x hx => ?_, q5⟩
      have hq := q4 j x hx
      have hp := p4 j x hx
      cases x with
      | v a => exact ⟨hq.1, hq.2.res (hop hp.2)⟩
      | row el2 esz xs =>
        have hq' : RowOK G' w' true el2 esz (arr.getD j undef) xs := hq
        have hp' : RowOK G w true el2 esz (arr0.getD j undef) xs := hp
        obtain ⟨cells, k1, k2, k3, k4, k5⟩ := hq'
        obtain ⟨cells0, _, _, _, l4, _⟩ := hp'
        exact ⟨cells, (fun e => by cases e), k2, k3, ⟨k4.1, fun i e j c a b => ⟨(k4.2 i e j c a b).1, (k4.2 i e j c a b).2.res (hop (l4.2 i e j c a b).2)⟩⟩, k5⟩
    · obtain ⟨q1, q2⟩ := hok.apart id j blk (hrow _ _ _ hh')
      exact ⟨fun id' e => q1 id' (hres2 _ _ e).2, fun id' j' h2 => q2 id' j' (hrow _ _ _ h2)⟩
  have hpost : ∃ v2 G'', Ending.returned v = .returned v2 ∧ V G'' v2 r ∧ GExt (foot G H w) G G'' w ∧ KnOK G'' w' ∧ HpOK G'' w' H ∧ Fr (foot G H w) w w' ∧ ∀ b, foot G'' H w' b → w.heap.size ≤ b ∨ foot G H w b :=
    ⟨v, G'.res H.next, rfl, hV'.res hro, ⟨hr.old, fun id b e => by rw [hres1 id (hlt id b e)]; exact hr.obs id b e, fun id b e => hr.obn id b (hres2 id b e).2⟩, hr.kn, hHp, hr.fr, fun b hb => hmay b (hfoot b hb)⟩
  rcases he with rfl | rfl
  · exact ⟨hr.defs, v, hv, hpost⟩
  · exact ⟨hr.defs, v, hv, hpost⟩
section
variable {P : Program} {N : Nat} {s : St} {d : Nat} {ty : TypeId} {pos : String} {af : Array Edge} {g : Option (Nat × Bool)}
/-- a closure is called, which may turn the objects -/
theorem op_callch {x : Operand} {f : FuncId} {xs : Array Operand} {tys : Array TypeId} {«as» caps : List AV} {r : AV} {H H' : Hp} (hN : d < N) (hf : isFn P f = true) (hx : opv x s = some (.fn f caps)) (hH : get s .h = some (.hp H)) (ha : opvs xs.toList s = some «as») (hp : Run P f («as» ++ caps) H r H') :
    OpOK P N ⟨some d, .call { callee := .value x, args := xs, argTypes := tys }, ty, pos, af, g⟩ s ((rd x ++ rds xs.toList) ++ [.h]) [(.s d, .sv (.v r)), (.h, .hp H')] :=
  call_run hp rfl hN hH (enter_clo hf hx ha)
end
end Go.Proofs.YtnpgcmeclkncnaaGreatDoor.X
/- The data that the program speaks of: schemas, trees, steps; what stands for them. No condition. -/
set_option linter.unusedVariables false
namespace Go.Proofs.YtnpgcmeclkncnaaGreatDoor.X
open Go Go.RowKit
abbrev Str := List UInt8
def iAV (n : Int) : AV := .int .i64 n
structure Fld where
  name : Str
  num : Int
  ty : Int
  ref : Str
  rep : Bool
  loose : Bool
  one : Str
  deriving DecidableEq, Inhabited
def Fld.cells (f : Fld) : List AV := [.str f.name, .int .i64 f.num, .int .i64 f.ty, .str f.ref, .bool f.rep, .bool f.loose, .str f.one]
def Fld.av (f : Fld) : AV := .agg f.cells
structure Msg where
  name : Str
  fields : List Fld
  barred : List Int
  deriving DecidableEq, Inhabited
def Msg.cells (m : Msg) : List AV := [.str m.name, .sl (m.fields.map Fld.av), .sl (m.barred.map iAV)]
def Msg.av (m : Msg) : AV := .agg m.cells
structure Vlu where
  name : Str
  num : Int
  deriving DecidableEq, Inhabited
def Vlu.cells (v : Vlu) : List AV := [.str v.name, .int .i64 v.num]
def Vlu.av (v : Vlu) : AV := .agg v.cells
structure Enm where
  name : Str
  values : List Vlu
  deriving DecidableEq, Inhabited
def Enm.cells (e : Enm) : List AV := [.str e.name, .sl (e.values.map Vlu.av)]
def Enm.av (e : Enm) : AV := .agg e.cells
structure Sch where
  enums : List Enm
  msgs : List Msg
  deriving DecidableEq, Inhabited
def Sch.cells (s : Sch) : List AV := [.sl (s.enums.map Enm.av), .sl (s.msgs.map Msg.av)]
def Sch.av (s : Sch) : AV := .agg s.cells
structure Rw where
  num : Int
  wire : Int
  n : Nat
  s : Str
  deriving DecidableEq, Inhabited
def Rw.cells (r : Rw) : List AV := [.int .i64 r.num, .int .i64 r.wire, .int .u64 (r.n : Int), .str r.s]
def Rw.av (r : Rw) : AV := .agg r.cells
mutual
inductive Val where
  | mk (n : Nat) (s : Str) (m : List Tree)
inductive Slot where
  | mk (num : Int) (vals : List Val)
inductive Tree where
  | mk (slots : List Slot) (rest : List Rw)
end
instance : Inhabited Tree := ⟨.mk [] []⟩
instance : Inhabited Val := ⟨.mk 0 [] []⟩
instance : Inhabited Slot := ⟨.mk 0 []⟩
def Val.n : Val → Nat | .mk n _ _ => n
def Val.s : Val → Str | .mk _ s _ => s
def Val.m : Val → List Tree | .mk _ _ m => m
def Slot.num : Slot → Int | .mk n _ => n
def Slot.vals : Slot → List Val | .mk _ v => v
def Tree.slots : Tree → List Slot | .mk s _ => s
def Tree.rest : Tree → List Rw | .mk _ r => r
mutual
def Val.av : Val → AV
  | .mk n s m => .agg [.int .u64 (n : Int), .str s, .sl (treesAV m)]
def Slot.av : Slot → AV
  | .mk n vs => .agg [.int .i64 n, .sl (valsAV vs)]
def Tree.av : Tree → AV
  | .mk ss r => .agg [.sl (slotsAV ss), .sl (r.map Rw.av)]
def treesAV : List Tree → List AV
  | [] => []
  | t :: l => t.av :: treesAV l
def valsAV : List Val → List AV
  | [] => []
  | v :: l => v.av :: valsAV l
def slotsAV : List Slot → List AV
  | [] => []
  | s :: l => s.av :: slotsAV l
end
theorem treesAV_map (l : List Tree) : treesAV l = l.map Tree.av := by induction l with | nil => simp [treesAV] | cons t l ih => simp [treesAV, ih]
theorem valsAV_map (l : List Val) : valsAV l = l.map Val.av := by induction l with | nil => simp [valsAV] | cons t l ih => simp [valsAV, ih]
theorem slotsAV_map (l : List Slot) : slotsAV l = l.map Slot.av := by induction l with | nil => simp [slotsAV] | cons t l ih => simp [slotsAV, ih]
def Val.cells (v : Val) : List AV := [.int .u64 (v.n : Int), .str v.s, .sl (v.m.map Tree.av)]
def Slot.cells (x : Slot) : List AV := [.int .i64 x.num, .sl (x.vals.map Val.av)]
def Tree.cells (t : Tree) : List AV := [.sl (t.slots.map Slot.av), .sl (t.rest.map Rw.av)]
theorem Val.av_eq (v : Val) : v.av = .agg v.cells := by cases v; simp [Val.av, Val.cells, Val.n, Val.s, Val.m, treesAV_map]
theorem Slot.av_eq (v : Slot) : v.av = .agg v.cells := by cases v; simp [Slot.av, Slot.cells, Slot.num, Slot.vals, valsAV_map]
theorem Tree.av_eq (v : Tree) : v.av = .agg v.cells := by cases v; simp [Tree.av, Tree.cells, Tree.slots, Tree.rest, slotsAV_map]
structure Stp where
  kind : Int
  msg : Str
  field : Str
  to : Str
  also : Str
  num : Int
  other : Int
  ty : Int
  names : List Str
  «def» : Val
  deriving Inhabited
def Stp.cells (x : Stp) : List AV := [.int .i64 x.kind, .str x.msg, .str x.field, .str x.to, .str x.also, .int .i64 x.num, .int .i64 x.other, .int .i64 x.ty, .sl (x.names.map .str), .int .u64 (x.def.n : Int), .str x.def.s, .sl (x.def.m.map Tree.av)]
def Stp.av (x : Stp) : AV := .agg x.cells
theorem ixmE {α : Type} {f : α → AV} {c : α → List AV} {xs : List α} {i : Nat} (he : ∀ x, f x = .agg (c x)) (h : i < xs.length) : (xs.map f)[((i : Nat) : Int).toNat]? = some (.agg (c xs[i])) := by
  simp [h, he]
theorem ixmE1 {α : Type} {f : α → AV} {c : α → List AV} {xs : List α} {i : Nat} {j : Int} (he : ∀ x, f x = .agg (c x)) (hj : j = (i : Int)) (h : i < xs.length) : (xs.map f)[j.toNat]? = some (.agg (c xs[i])) := by
  subst hj; simp [h, he]
end Go.Proofs.YtnpgcmeclkncnaaGreatDoor.X
/- Plain laws: names, numbers of fields, types, fields, schemas, as the document defines them. No condition. -/
set_option linter.unusedVariables false
namespace Go.Proofs.YtnpgcmeclkncnaaGreatDoor.X
open Go Go.RowKit Go.Proofs
theorem mixed : Tryz.prog.follows .mixedOrders = true := by kernel_rfl
/-- the place of the first one; -1: there is none -/
def ixFrom {α : Type} (p : α → Bool) : List α → Nat → Int
  | [], _ => -1
  | a :: l, i => if p a then i else ixFrom p l (i + 1)
theorem ixFrom_step {α : Type} {p : α → Bool} {l : List α} {i : Nat} (h : i < l.length) : ixFrom p (l.drop i) i = if p l[i] then (i : Int) else ixFrom p (l.drop (i + 1)) (i + 1) := by
  rw [List.drop_eq_getElem_cons h]; rfl
theorem ixFrom_end {α : Type} {p : α → Bool} {l : List α} {i : Nat} (h : l.length ≤ i) : ixFrom p (l.drop i) i = -1 := by
  rw [List.drop_of_length_le h]; rfl
theorem all_step {α : Type} {p : α → Bool} {l : List α} {i : Nat} (h : i < l.length) : (l.drop i).all p = (p l[i] && (l.drop (i + 1)).all p) := by
  rw [List.drop_eq_getElem_cons h]; rfl
theorem all_end {α : Type} {p : α → Bool} {l : List α} {i : Nat} (h : l.length ≤ i) : (l.drop i).all p = true := by
  rw [List.drop_of_length_le h]; rfl
theorem any_step {α : Type} {p : α → Bool} {l : List α} {i : Nat} (h : i < l.length) : (l.drop i).any p = (p l[i] || (l.drop (i + 1)).any p) := by
  rw [List.drop_eq_getElem_cons h]; rfl
theorem any_end {α : Type} {p : α → Bool} {l : List α} {i : Nat} (h : l.length ≤ i) : (l.drop i).any p = false := by
  rw [List.drop_of_length_le h]; rfl
theorem take_app {α : Type} {l : List α} {i : Nat} {f : α → AV} {acc : List AV} (h : i < l.length) (ha : acc = (l.take i).map f) : acc ++ [f l[i]] = (l.take (i + 1)).map f := by
  rw [ha, List.take_succ_eq_append_getElem h, List.map_append]; rfl
theorem take_app2 {α : Type} {l : List α} {i : Nat} {f : α → AV} {acc l0 : List AV} (h : i < l.length) (ha : acc = l0 ++ (l.take i).map f) : acc ++ [f l[i]] = l0 ++ (l.take (i + 1)).map f := by
  rw [ha, List.take_succ_eq_append_getElem h, List.map_append, List.append_assoc]; rfl
theorem take_end {α : Type} {l : List α} {i : Nat} (h : l.length ≤ i) : l.take i = l := List.take_of_length_le h
theorem Pure.at {P : Program} {f : FuncId} {a a' : List AV} {r : AV} (h : Pure P f a r) (e : a' = a) : Pure P f a' r := e ▸ h
theorem okEls_str {α : Type} (f : α → Str) (l : List α) : okEls 1 (l.map fun x => AV.str (f x)) = true := by
  simp [okEls, AV.cells, AV.flat]
theorem ixeq {α : Type} {f : α → AV} {xs : List α} {c : List AV} {i : Nat} (h : c = xs.map f) (hi : i < xs.length) : c[((i : Nat) : Int).toNat]? = some (f xs[i]) := by
  subst h; exact ixm hi
theorem ixeq1 {α : Type} {f : α → AV} {xs : List α} {c : List AV} {i : Nat} {j : Int} (hj : j = (i : Int)) (h : c = xs.map f) (hi : i < xs.length) : c[j.toNat]? = some (f xs[i]) := by
  subst h; subst hj; exact ixm hi
theorem headD_map {α β : Type} {f : α → β} {l : List α} {d : β} (h : 0 < l.length) : (l.map f).headD d = f l[0] := by
  cases l with
  | nil => simp at h
  | cons a l => rfl
theorem lastD_map {α β : Type} {f : α → β} {l : List α} {d : β} (h : 0 < l.length) : (l.map f).getLastD d = f (l[l.length - 1]'(by omega)) := by
  rw [List.getLastD_eq_getLast?, List.getLast?_map, List.getLast?_eq_getElem?, List.getElem?_eq_getElem (by omega)]; rfl
theorem headD_get {α : Type} {l : List α} {d : α} (h : 0 < l.length) : l.headD d = l[0] := by
  cases l with
  | nil => simp at h
  | cons a l => rfl
theorem lastD_get {α : Type} {l : List α} {d : α} (h : 0 < l.length) : l.getLastD d = l[l.length - 1]'(by omega) := by
  rw [List.getLastD_eq_getLast?, List.getLast?_eq_getElem?, List.getElem?_eq_getElem (by omega)]; rfl
theorem take_drop0 {α : Type} (l : List α) : (l.take (0 + 1)).drop 1 = [] := by cases l <;> simp
theorem take_drop1 {α : Type} {l : List α} {i : Nat} (h0 : 0 < i) (h : i < l.length) : (l.take (i + 1)).drop 1 = (l.take i).drop 1 ++ [l[i]] := by
  rw [List.take_succ_eq_append_getElem h, List.drop_append_of_le_length (by rw [List.length_take]; omega)]
/-! ### names -/
def letter (c : UInt8) : Bool := (decide (97 ≤ c.toNat) && decide (c.toNat ≤ 122)) || (decide (65 ≤ c.toNat) && decide (c.toNat ≤ 90))
def idc (c : UInt8) : Bool := letter c || (decide (48 ≤ c.toNat) && decide (c.toNat ≤ 57)) || decide (c.toNat = 95)
def wordsL : List Str := [[101, 110, 117, 109], [109, 101, 115, 115, 97, 103, 101], [111, 110, 101, 111, 102], [114, 101, 112, 101, 97, 116, 101, 100], [114, 101, 115, 101, 114, 118, 101, 100], [108, 111, 111, 115, 101], [105, 110, 116, 51, 50], [105, 110, 116, 54, 52], [117, 105, 110, 116, 51, 50], [117, 105, 110, 116, 54, 52], [115, 105, 110, 116, 51, 50], [115, 105, 110, 116, 54, 52], [98, 111, 111, 108], [102, 105, 120, 101, 100, 51, 50], [102, 105, 120, 101, 100, 54, 52], [115, 102, 105, 120, 101, 100, 51, 50], [115, 102, 105, 120, 101, 100, 54, 52], [115, 116, 114, 105, 110, 103], [98, 121, 116, 101, 115], [114, 101, 110, 97, 109, 101], [114, 101, 110, 117, 109, 98, 101, 114], [114, 101, 116, 121, 112, 101], [115, 112, 108, 105, 116], [106, 111, 105, 110], [119, 114, 97, 112], [117, 110, 119, 114, 97, 112], [97, 100, 100], [100, 114, 111, 112], [116, 111], [105, 110, 116, 111], [97, 115], [111, 102], [100, 101, 102, 97, 117, 108, 116], [116, 114, 117, 101], [102, 97, 108, 115, 101]]
def nameOK (s : Str) : Bool := decide (1 ≤ s.length) && decide (s.length ≤ 12) && letter (s.headD 0) && s.all idc && wordsL.all (fun w => !(w == s))
/-- none stands ahead again, from the i-th on -/
def onceFrom (l : List Str) : List Str → Nat → Bool
  | [], _ => true
  | a :: r, i => !((l.take i).any fun b => a == b) && onceFrom l r (i + 1)
def once (l : List Str) : Bool := onceFrom l l 0
def riseS : List Str → Bool
  | a :: b :: l => !(!lessB a b) && riseS (b :: l)
  | _ => true
def rises : List Int → Bool
  | a :: b :: l => decide (a < b) && rises (b :: l)
  | _ => true
theorem onceFrom_step {l : List Str} {i : Nat} (h : i < l.length) : onceFrom l (l.drop i) i = (!((l.take i).any fun b => l[i] == b) && onceFrom l (l.drop (i + 1)) (i + 1)) := by
  rw [List.drop_eq_getElem_cons h]; rfl
theorem onceFrom_end {l : List Str} {i : Nat} (h : l.length ≤ i) : onceFrom l (l.drop i) i = true := by
  rw [List.drop_of_length_le h]; rfl
theorem rises_step {l : List Int} {i : Nat} (h0 : 0 < i) (h : i < l.length) : rises (l.drop (i - 1)) = (decide (l[i - 1] < l[i]) && rises (l.drop (i + 1 - 1))) := by
  obtain ⟨k, rfl⟩ : ∃ k, i = k + 1 := ⟨i - 1, by omega⟩
  simp only [Nat.add_sub_cancel]
  rw [List.drop_eq_getElem_cons (show k < l.length by omega), List.drop_eq_getElem_cons h]
  rfl
theorem rises_end {l : List Int} {i : Nat} (h0 : 0 < i) (h : l.length ≤ i) : rises (l.drop (i - 1)) = true := by
  obtain ⟨k, rfl⟩ : ∃ k, i = k + 1 := ⟨i - 1, by omega⟩
  simp only [Nat.add_sub_cancel]
  by_cases hk : k < l.length
  · rw [List.drop_eq_getElem_cons hk, List.drop_of_length_le h]; rfl
  · rw [List.drop_of_length_le (by omega)]; rfl
theorem riseS_step {l : List Str} {i : Nat} (h0 : 0 < i) (h : i < l.length) : riseS (l.drop (i - 1)) = (!(!lessB l[i - 1] l[i]) && riseS (l.drop (i + 1 - 1))) := by
  obtain ⟨k, rfl⟩ : ∃ k, i = k + 1 := ⟨i - 1, by omega⟩
  simp only [Nat.add_sub_cancel]
  rw [List.drop_eq_getElem_cons (show k < l.length by omega), List.drop_eq_getElem_cons h]
  rfl
theorem riseS_end {l : List Str} {i : Nat} (h0 : 0 < i) (h : l.length ≤ i) : riseS (l.drop (i - 1)) = true := by
  obtain ⟨k, rfl⟩ : ∃ k, i = k + 1 := ⟨i - 1, by omega⟩
  simp only [Nat.add_sub_cancel]
  by_cases hk : k < l.length
  · rw [List.drop_eq_getElem_cons hk, List.drop_of_length_le h]; rfl
  · rw [List.drop_of_length_le (by omega)]; rfl
/-! ### numbers and types -/
def fnum (n : Int) : Bool := decide (1 ≤ n) && decide (n ≤ 536870911) && (decide (n < 19000) || decide (19999 < n))
def tagOK (n w : Int) : Bool := decide (1 ≤ n) && decide (n ≤ 536870911) && (decide (w = 0) || decide (w = 1) || decide (w = 2) || decide (w = 5))
def wholeT (t : Int) : Bool := (decide (1 ≤ t) && decide (t ≤ 6)) || (decide (8 ≤ t) && decide (t ≤ 11))
def numT (t : Int) : Bool := wholeT t || decide (t = 7) || decide (t = 14)
def signT (t : Int) : Bool := decide (t = 1) || decide (t = 2) || decide (t = 5) || decide (t = 6) || decide (t = 10) || decide (t = 11) || decide (t = 14)
def wideT (t : Int) : Bool := decide (t = 2) || decide (t = 4) || decide (t = 6) || decide (t = 9) || decide (t = 11)
def wireT (t : Int) : Int := if t = 8 ∨ t = 10 then 5 else if t = 9 ∨ t = 11 then 1 else if t = 12 ∨ t = 13 ∨ t = 15 then 2 else 0
/-! ### fields and schemas -/
/-- 0: right; 1: ErrArg; 2: ErrText -/
def Fld.chk (f : Fld) : Int :=
  if !nameOK f.name || (!(f.one == []) && !nameOK f.one) then 2
  else if (f.ty = 14 ∨ f.ty = 15) ∧ nameOK f.ref = false then 2
  else if ¬ (f.ty = 14 ∨ f.ty = 15) ∧ (f.ref == []) = false then 2
  else if !fnum f.num || decide (f.ty < 1) || decide (15 < f.ty) || (f.rep && !(f.one == [])) then 1
  else if f.loose && (!f.rep || !numT f.ty) then 1
  else 0
def Sch.many (s : Sch) : Bool := decide (3 < s.enums.length) || decide (6 < s.msgs.length) || s.enums.any (fun e => decide (8 < e.values.length)) || s.msgs.any (fun m => decide (10 < m.fields.length) || decide (8 < m.barred.length))
def Sch.none (s : Sch) : Bool := decide (s.msgs.length = 0) || s.enums.any (fun e => decide (e.values.length = 0))
def Sch.text (s : Sch) : Bool := s.enums.any (fun e => !nameOK e.name || e.values.any (fun v => !nameOK v.name)) || s.msgs.any (fun m => !nameOK m.name)
def chkFields : List Fld → Int
  | [] => 0
  | f :: l => if f.chk = 0 then chkFields l else f.chk
def chkMsgs : List Msg → Int
  | [] => 0
  | m :: l => if chkFields m.fields = 0 then chkMsgs l else chkFields m.fields
theorem chkFields_step {l : List Fld} {i : Nat} (h : i < l.length) : chkFields (l.drop i) = if l[i].chk = 0 then chkFields (l.drop (i + 1)) else l[i].chk := by
  rw [List.drop_eq_getElem_cons h]; rfl
theorem chkFields_end {l : List Fld} {i : Nat} (h : l.length ≤ i) : chkFields (l.drop i) = 0 := by
  rw [List.drop_of_length_le h]; rfl
theorem chkMsgs_step {l : List Msg} {i : Nat} (h : i < l.length) : chkMsgs (l.drop i) = if chkFields l[i].fields = 0 then chkMsgs (l.drop (i + 1)) else chkFields l[i].fields := by
  rw [List.drop_eq_getElem_cons h]; rfl
theorem chkMsgs_end {l : List Msg} {i : Nat} (h : l.length ≤ i) : chkMsgs (l.drop i) = 0 := by
  rw [List.drop_of_length_le h]; rfl
def Msg.twice (m : Msg) : Bool := !once (m.fields.map (·.name)) || m.fields.any (fun f => !(f.one == []) && !once (m.fields.map (·.name) ++ [f.one]))
def Sch.twice (s : Sch) : Bool := s.enums.any (fun e => !once (e.values.map (·.name))) || s.msgs.any Msg.twice || !once (s.enums.map (·.name) ++ s.msgs.map (·.name))
def Enm.order (e : Enm) : Bool := !rises (e.values.map (·.num)) || !decide ((e.values.map (·.num)).headD 0 = 0) || decide (1048576 < (e.values.map (·.num)).getLastD 0)
def Msg.order (m : Msg) : Bool := !rises (m.fields.map (·.num)) || !rises m.barred || (!(m.barred == []) && (decide (m.barred.headD 0 < 1) || decide (536870911 < m.barred.getLastD 0)))
def Sch.order (s : Sch) : Bool := s.enums.any Enm.order || !riseS (s.enums.map (·.name)) || s.msgs.any Msg.order || !riseS ((s.msgs.drop 1).map (·.name))
def Sch.barred (s : Sch) : Bool := s.msgs.any fun m => m.fields.any fun f => m.barred.any (· == f.num)
def Sch.msgIx (s : Sch) (name : Str) : Int := ixFrom (fun m : Msg => m.name == name) s.msgs 0
def Sch.enumIx (s : Sch) (name : Str) : Int := ixFrom (fun m : Enm => m.name == name) s.enums 0
def Sch.refs (s : Sch) : Bool := s.msgs.any fun m => m.fields.any fun f => (decide (f.ty = 14) && decide (s.enumIx f.ref < 0)) || (decide (f.ty = 15) && decide (s.msgIx f.ref < 0))
def Sch.chk (s : Sch) : Int :=
  if s.many then 4 else if s.none then 5 else if s.text then 2 else if chkMsgs s.msgs ≠ 0 then chkMsgs s.msgs else if s.twice then 6 else if s.order then 1 else if s.barred then 6 else if s.refs then 5 else 0
/-- a schema's lists are no longer than lists are -/
structure Sch.big (s : Sch) : Prop where
  e : s.enums.length ≤ 9223372036854775807
  m : s.msgs.length ≤ 9223372036854775807
/-- .. than may be -/
structure Sch.sm (s : Sch) : Prop where
  e : s.enums.length ≤ 3
  m : s.msgs.length ≤ 6
  v : ∀ x ∈ s.enums, x.values.length ≤ 8
  f : ∀ x ∈ s.msgs, x.fields.length ≤ 10
  b : ∀ x ∈ s.msgs, x.barred.length ≤ 8
theorem Sch.sm.vi {s : Sch} (h : s.sm) {i : Nat} (hi : i < s.enums.length) : s.enums[i].values.length ≤ 8 := h.v _ (List.getElem_mem hi)
theorem Sch.sm.fi {s : Sch} (h : s.sm) {i : Nat} (hi : i < s.msgs.length) : s.msgs[i].fields.length ≤ 10 := h.f _ (List.getElem_mem hi)
theorem Sch.sm.bi {s : Sch} (h : s.sm) {i : Nat} (hi : i < s.msgs.length) : s.msgs[i].barred.length ≤ 8 := h.b _ (List.getElem_mem hi)
theorem Sch.sm_of {s : Sch} (h : s.many = false) : s.sm := by
  simp only [Sch.many, Bool.or_eq_false_iff, List.any_eq_false, decide_eq_false_iff_not, Bool.or_eq_true, decide_eq_true_eq, not_or] at h
  obtain ⟨⟨⟨h1, h2⟩, h3⟩, h4⟩ := h
  exact ⟨by omega, by omega, fun x hx => by have := h3 x hx; omega, fun x hx => by have := h4 x hx; omega, fun x hx => by have := h4 x hx; omega⟩
theorem Sch.none_of {s : Sch} (h : s.none = false) : 0 < s.msgs.length ∧ ∀ x ∈ s.enums, 0 < x.values.length := by
  simp only [Sch.none, Bool.or_eq_false_iff, List.any_eq_false, decide_eq_false_iff_not, decide_eq_true_eq] at h
  exact ⟨by omega, fun x hx => by have := h.2 x hx; omega⟩
theorem Enm.order_pos {e : Enm} (h : 0 < e.values.length) : e.order = (!rises (e.values.map (·.num)) || !decide (e.values[0].num = 0) || decide (1048576 < (e.values[e.values.length - 1]'(by omega)).num)) := by
  unfold Enm.order; rw [headD_map h, lastD_map h]
theorem Msg.order_pos {m : Msg} (h : 0 < m.barred.length) : m.order = (!rises (m.fields.map (·.num)) || !rises m.barred || (decide (m.barred[0] < 1) || decide (536870911 < m.barred[m.barred.length - 1]'(by omega)))) := by
  unfold Msg.order; rw [headD_get h, lastD_get h]
  have : (m.barred == []) = false := by cases hb : m.barred with | nil => rw [hb] at h; simp at h | cons a l => rfl
  rw [this]; simp
theorem Msg.order_nil {m : Msg} (h : m.barred.length ≤ 0) : m.order = (!rises (m.fields.map (·.num)) || !rises m.barred) := by
  unfold Msg.order
  have : m.barred = [] := List.length_eq_zero_iff.1 (by omega)
  rw [this]; simp
end Go.Proofs.YtnpgcmeclkncnaaGreatDoor.X
/- Plain laws: values of messages: parts, sameness, how great and how deep. No condition. -/
set_option linter.unusedVariables false
namespace Go.Proofs.YtnpgcmeclkncnaaGreatDoor.X
open Go Go.RowKit
/-- within, at whatever depth -/
inductive Tree.Sub : Tree → Tree → Prop where
  | refl (t : Tree) : Sub t t
  | step {t t1 t2 : Tree} {v : Val} {x : Slot} (h1 : t1 ∈ v.m) (h2 : v ∈ x.vals) (h3 : x ∈ t2.slots) (h : Sub t t1) : Sub t t2
def Tree.Every (Q : Tree → Prop) (t : Tree) : Prop := ∀ u, Tree.Sub u t → Q u
theorem Tree.Every.here {Q : Tree → Prop} {t : Tree} (h : t.Every Q) : Q t := h t (.refl t)
theorem Tree.Every.sub {Q : Tree → Prop} {t t1 : Tree} {v : Val} {x : Slot} (h : t.Every Q) (h1 : t1 ∈ v.m) (h2 : v ∈ x.vals) (h3 : x ∈ t.slots) : t1.Every Q := fun u hu => h u (.step h1 h2 h3 hu)
theorem Tree.Every.mk {Q : Tree → Prop} {t : Tree} (h : Q t) (hs : ∀ x ∈ t.slots, ∀ v ∈ x.vals, ∀ u ∈ v.m, u.Every Q) : t.Every Q := by
  intro u hu
  cases hu with
  | refl => exact h
  | step h1 h2 h3 hh => exact hs _ h3 _ h2 _ h1 u hh
theorem Tree.sub_lt {t t1 : Tree} {v : Val} {x : Slot} (h1 : t1 ∈ v.m) (h2 : v ∈ x.vals) (h3 : x ∈ t.slots) : SizeOf.sizeOf t1 < SizeOf.sizeOf t := by
  cases t with
  | mk ss r =>
    cases x with
    | mk n vs =>
      cases v with
      | mk k s m =>
        have a1 : SizeOf.sizeOf t1 < SizeOf.sizeOf m := List.sizeOf_lt_of_mem h1
        have a2 : SizeOf.sizeOf (Val.mk k s m) < SizeOf.sizeOf vs := List.sizeOf_lt_of_mem h2
        have a3 : SizeOf.sizeOf (Slot.mk n vs) < SizeOf.sizeOf ss := List.sizeOf_lt_of_mem h3
        simp only [Val.mk.sizeOf_spec, Slot.mk.sizeOf_spec, Tree.mk.sizeOf_spec] at *
        omega
/-- By what is within. -/
theorem Tree.ind {Q : Tree → Prop} (h : ∀ t, (∀ x ∈ t.slots, ∀ v ∈ x.vals, ∀ u ∈ v.m, Q u) → Q t) : ∀ t, Q t := by
  have key : ∀ (n : Nat) t, SizeOf.sizeOf t < n → Q t := by
    intro n
    induction n with
    | zero => intro t ht; omega
    | succ n ih => intro t ht; exact h t fun x hx v hv u hu => ih u (by have := Tree.sub_lt hu hv hx; omega)
  exact fun t => key _ t (Nat.lt_succ_self _)
/-- its lists are no longer than lists are -/
structure Tree.big1 (t : Tree) : Prop where
  s : t.slots.length ≤ 9223372036854775807
  r : t.rest.length ≤ 9223372036854775807
  v : ∀ x ∈ t.slots, x.vals.length ≤ 9223372036854775807
  m : ∀ x ∈ t.slots, ∀ v ∈ x.vals, v.m.length ≤ 9223372036854775807
  vs : ∀ x ∈ t.slots, ∀ v ∈ x.vals, v.s.length ≤ 9223372036854775807
  vn : ∀ x ∈ t.slots, ∀ v ∈ x.vals, v.n < 18446744073709551616
  rs : ∀ r ∈ t.rest, r.s.length ≤ 9223372036854775807
  rn : ∀ r ∈ t.rest, r.n < 18446744073709551616
def Tree.big (t : Tree) : Prop := t.Every Tree.big1
theorem Tree.ext {a b : Tree} (h1 : a.slots = b.slots) (h2 : a.rest = b.rest) : a = b := by cases a; cases b; simp [Tree.slots, Tree.rest] at *; exact ⟨h1, h2⟩
theorem Slot.ext {a b : Slot} (h1 : a.num = b.num) (h2 : a.vals = b.vals) : a = b := by cases a; cases b; simp [Slot.num, Slot.vals] at *; exact ⟨h1, h2⟩
theorem Val.ext {a b : Val} (h1 : a.n = b.n) (h2 : a.s = b.s) (h3 : a.m = b.m) : a = b := by cases a; cases b; simp [Val.n, Val.s, Val.m] at *; exact ⟨h1, h2, h3⟩
/-! ### how much of so much a value leaves (numbers wrap round) -/
abbrev w64 (n : Int) : Int := IntKind.i64.wrap n
def leftR : List Rw → Int → Int
  | [], n => n
  | x :: l, n => if 0 ≤ n then leftR l (w64 (n - w64 ((x.s.length : Int).tdiv 20))) else n
mutual
def Tree.left : Tree → Int → Int → Int
  | .mk ss r, n, d => if d ≤ 0 then -1 else leftS ss (leftR r (w64 (w64 (n - (r.length : Int)) - (ss.length : Int)))) d
def Slot.left : Slot → Int → Int → Int
  | .mk _ vs, n, d => leftV vs (w64 (n - (vs.length : Int))) d
def Val.left : Val → Int → Int → Int
  | .mk _ s m, n, d => leftT m (w64 (n - w64 ((s.length : Int).tdiv 20))) d
def leftS : List Slot → Int → Int → Int
  | [], n, _ => n
  | x :: l, n, d => if 0 ≤ n then leftS l (x.left n d) d else n
def leftV : List Val → Int → Int → Int
  | [], n, _ => n
  | x :: l, n, d => if 0 ≤ n then leftV l (x.left n d) d else n
def leftT : List Tree → Int → Int → Int
  | [], n, _ => n
  | x :: l, n, d => if 0 ≤ n then leftT l (x.left (w64 (n - 1)) (w64 (d - 1))) d else n
end
theorem Tree.left_eq (t : Tree) (n d : Int) : t.left n d = if d ≤ 0 then -1 else leftS t.slots (leftR t.rest (w64 (w64 (n - (t.rest.length : Int)) - (t.slots.length : Int)))) d := by
  cases t; simp [Tree.left, Tree.slots, Tree.rest]
theorem Slot.left_eq (x : Slot) (n d : Int) : x.left n d = leftV x.vals (w64 (n - (x.vals.length : Int))) d := by
  cases x; simp [Slot.left, Slot.vals]
theorem Val.left_eq (x : Val) (n d : Int) : x.left n d = leftT x.m (w64 (n - w64 ((x.s.length : Int).tdiv 20))) d := by
  cases x; simp [Val.left, Val.s, Val.m]
theorem leftR_step {l : List Rw} {i : Nat} {n : Int} (h : i < l.length) : leftR (l.drop i) n = if 0 ≤ n then leftR (l.drop (i + 1)) (w64 (n - w64 ((l[i].s.length : Int).tdiv 20))) else n := by
  rw [List.drop_eq_getElem_cons h]; rfl
theorem leftS_step {l : List Slot} {i : Nat} {n d : Int} (h : i < l.length) : leftS (l.drop i) n d = if 0 ≤ n then leftS (l.drop (i + 1)) (l[i].left n d) d else n := by
  rw [List.drop_eq_getElem_cons h]; simp [leftS]
theorem leftV_step {l : List Val} {i : Nat} {n d : Int} (h : i < l.length) : leftV (l.drop i) n d = if 0 ≤ n then leftV (l.drop (i + 1)) (l[i].left n d) d else n := by
  rw [List.drop_eq_getElem_cons h]; simp [leftV]
theorem leftT_step {l : List Tree} {i : Nat} {n d : Int} (h : i < l.length) : leftT (l.drop i) n d = if 0 ≤ n then leftT (l.drop (i + 1)) (l[i].left (w64 (n - 1)) (w64 (d - 1))) d else n := by
  rw [List.drop_eq_getElem_cons h]; simp [leftT]
theorem leftR_end {l : List Rw} {i : Nat} {n : Int} (h : l.length ≤ i) : leftR (l.drop i) n = n := by rw [List.drop_of_length_le h]; rfl
theorem leftS_end {l : List Slot} {i : Nat} {n d : Int} (h : l.length ≤ i) : leftS (l.drop i) n d = n := by rw [List.drop_of_length_le h]; simp [leftS]
theorem leftV_end {l : List Val} {i : Nat} {n d : Int} (h : l.length ≤ i) : leftV (l.drop i) n d = n := by rw [List.drop_of_length_le h]; simp [leftV]
theorem leftT_end {l : List Tree} {i : Nat} {n d : Int} (h : l.length ≤ i) : leftT (l.drop i) n d = n := by rw [List.drop_of_length_le h]; simp [leftT]
theorem leftR_neg {l : List Rw} {n : Int} (h : ¬ 0 ≤ n) : leftR l n = n := by cases l <;> simp [leftR]; omega
theorem leftS_neg {l : List Slot} {n d : Int} (h : ¬ 0 ≤ n) : leftS l n d = n := by cases l <;> simp [leftS]; omega
theorem leftV_neg {l : List Val} {n d : Int} (h : ¬ 0 ≤ n) : leftV l n d = n := by cases l <;> simp [leftV]; omega
theorem leftT_neg {l : List Tree} {n d : Int} (h : ¬ 0 ≤ n) : leftT l n d = n := by cases l <;> simp [leftT]; omega
/-! ### how deep -/
mutual
def Tree.deep : Tree → Nat
  | .mk ss _ => deepS ss + 1
def Slot.deep : Slot → Nat
  | .mk _ vs => deepV vs
def Val.deep : Val → Nat
  | .mk _ _ m => deepT m
def deepS : List Slot → Nat
  | [] => 0
  | x :: l => max x.deep (deepS l)
def deepV : List Val → Nat
  | [] => 0
  | x :: l => max x.deep (deepV l)
def deepT : List Tree → Nat
  | [] => 0
  | x :: l => max x.deep (deepT l)
end
theorem Tree.deep_eq (t : Tree) : t.deep = deepS t.slots + 1 := by cases t; simp [Tree.deep, Tree.slots]
theorem Slot.deep_eq (x : Slot) : x.deep = deepV x.vals := by cases x; simp [Slot.deep, Slot.vals]
theorem Val.deep_eq (x : Val) : x.deep = deepT x.m := by cases x; simp [Val.deep, Val.m]
theorem deepT_step {l : List Tree} {i : Nat} (h : i < l.length) : deepT (l.drop i) = max l[i].deep (deepT (l.drop (i + 1))) := by rw [List.drop_eq_getElem_cons h]; simp [deepT]
theorem deepT_end {l : List Tree} {i : Nat} (h : l.length ≤ i) : deepT (l.drop i) = 0 := by rw [List.drop_of_length_le h]; simp [deepT]
end Go.Proofs.YtnpgcmeclkncnaaGreatDoor.X
/- Plain laws: numbers of types, on the wire and in values. No condition. -/
set_option linter.unusedVariables false
set_option linter.unusedSimpArgs false
namespace Go.Proofs.YtnpgcmeclkncnaaGreatDoor.X
open Go Go.RowKit
def kindT (t : Int) : Int :=
  if t = 1 ∨ t = 5 ∨ t = 10 then 7 else if t = 2 ∨ t = 6 ∨ t = 11 then 15 else if t = 3 ∨ t = 8 then 3 else if t = 4 ∨ t = 9 then 11 else if t = 7 then 2 else if t = 14 then 6 else 0
theorem ty_cases (t : Int) : (t < 1 ∨ 15 < t) ∨ t = 1 ∨ t = 2 ∨ t = 3 ∨ t = 4 ∨ t = 5 ∨ t = 6 ∨ t = 7 ∨ t = 8 ∨ t = 9 ∨ t = 10 ∨ t = 11 ∨ t = 12 ∨ t = 13 ∨ t = 14 ∨ t = 15 := by omega
theorem kindT_out {t : Int} (h : t < 1 ∨ 15 < t) : kindT t = 0 := by unfold kindT; split <;> first | omega | (split <;> first | omega | (split <;> first | omega | (split <;> first | omega | (split <;> first | omega | (split <;> first | omega | rfl)))))
theorem kind_num (t : Int) : (!(ibits .and .i64 (kindT t) 2 == 0)) = numT t := by
  rcases ty_cases t with h | h
  · rw [kindT_out h, show ibits .and .i64 0 2 = 0 by decide]
    have : numT t = false := by unfold numT wholeT; simp; omega
    rw [this]; rfl
  · rcases h with rfl | rfl | rfl | rfl | rfl | rfl | rfl | rfl | rfl | rfl | rfl | rfl | rfl | rfl | rfl <;> decide
theorem kind_whole (t : Int) : (!(ibits .and .i64 (kindT t) 1 == 0)) = wholeT t := by
  rcases ty_cases t with h | h
  · rw [kindT_out h, show ibits .and .i64 0 1 = 0 by decide]
    have : wholeT t = false := by unfold wholeT; simp; omega
    rw [this]; rfl
  · rcases h with rfl | rfl | rfl | rfl | rfl | rfl | rfl | rfl | rfl | rfl | rfl | rfl | rfl | rfl | rfl <;> decide
theorem kind_sign (t : Int) : (!(ibits .and .i64 (kindT t) 4 == 0)) = signT t := by
  rcases ty_cases t with h | h
  · rw [kindT_out h, show ibits .and .i64 0 4 = 0 by decide]
    have : signT t = false := by unfold signT; simp; omega
    rw [this]; rfl
  · rcases h with rfl | rfl | rfl | rfl | rfl | rfl | rfl | rfl | rfl | rfl | rfl | rfl | rfl | rfl | rfl <;> decide
theorem kind_wide (t : Int) : (!(ibits .and .i64 (kindT t) 8 == 0)) = wideT t := by
  rcases ty_cases t with h | h
  · rw [kindT_out h, show ibits .and .i64 0 8 = 0 by decide]
    have : wideT t = false := by unfold wideT; simp; omega
    rw [this]; rfl
  · rcases h with rfl | rfl | rfl | rfl | rfl | rfl | rfl | rfl | rfl | rfl | rfl | rfl | rfl | rfl | rfl <;> decide
theorem kind_cell {t : Int} (h0 : 0 ≤ t) (h1 : t < 16) : ([.int .i64 0, .int .i64 7, .int .i64 15, .int .i64 3, .int .i64 11, .int .i64 7, .int .i64 15, .int .i64 2, .int .i64 3, .int .i64 11, .int .i64 7, .int .i64 15, .int .i64 0, .int .i64 0, .int .i64 6, .int .i64 0] : List AV)[t.toNat]? = some (.int .i64 (kindT t)) := by
  have : t = 0 ∨ t = 1 ∨ t = 2 ∨ t = 3 ∨ t = 4 ∨ t = 5 ∨ t = 6 ∨ t = 7 ∨ t = 8 ∨ t = 9 ∨ t = 10 ∨ t = 11 ∨ t = 12 ∨ t = 13 ∨ t = 14 ∨ t = 15 := by omega
  rcases this with rfl | rfl | rfl | rfl | rfl | rfl | rfl | rfl | rfl | rfl | rfl | rfl | rfl | rfl | rfl | rfl <;> rfl
/-- a number's sign -/
def s64 (n : Nat) : Int := IntKind.i64.wrap (n : Int)
theorem s64_eq {n : Nat} (h : n < 18446744073709551616) : s64 n = if n < 9223372036854775808 then (n : Int) else (n : Int) - 18446744073709551616 := by
  unfold s64; simp only [IntKind.wrap, IntKind.bits, IntKind.signed]; simp; omega
def fitsT (z : Int) : Bool := decide (-2147483648 ≤ z) && decide (z ≤ 2147483647)
theorem fits_wrap (z : Int) : (IntKind.i64.wrap (IntKind.i32.wrap z) == z) = fitsT z := by
  have h : IntKind.i64.wrap (IntKind.i32.wrap z) = IntKind.i32.wrap z := by simp only [IntKind.wrap, IntKind.bits, IntKind.signed]; simp; omega
  rw [h]
  simp only [IntKind.wrap, IntKind.bits, IntKind.signed, fitsT]
  rw [Bool.eq_iff_iff]
  simp
  omega
def zigT (z : Int) : Nat := if 0 ≤ z then (2 * z).toNat else (-2 * z - 1).toNat
def mayT (t : Int) (n : Nat) : Bool :=
  if t < 1 ∨ 15 < t then false else if wideT t then true else if signT t then fitsT (s64 n) else if t = 3 ∨ t = 8 then decide (n < 4294967296) else if t = 7 then decide (n < 2) else decide (n = 0)
def toT (t : Int) (n : Nat) : Nat :=
  if t = 3 ∨ t = 8 ∨ t = 10 then n % 4294967296 else if t = 5 ∨ t = 6 then zigT (s64 n) else if numT t then n else 0
theorem zigT_lt {z : Int} (h0 : -9223372036854775808 ≤ z) (h1 : z < 9223372036854775808) : zigT z < 18446744073709551616 := by unfold zigT; split <;> omega
theorem s64_range {n : Nat} (h : n < 18446744073709551616) : -9223372036854775808 ≤ s64 n ∧ s64 n < 9223372036854775808 := by rw [s64_eq h]; split <;> omega
theorem toT_lt {t : Int} {n : Nat} (h : n < 18446744073709551616) : toT t n < 18446744073709551616 := by
  have := s64_range h
  have := zigT_lt this.1 this.2
  unfold toT; split
  · omega
  · split
    · exact this
    · split <;> omega
/-- the program's zigzag -/
theorem zig_xor {z : Int} (h0 : -9223372036854775808 ≤ z) (h1 : z < 9223372036854775808) :
    ibits .xor .u64 (IntKind.u64.wrap (IntKind.u64.wrap z * 2)) (IntKind.u64.wrap ((IntKind.i64.wrap (IntKind.u64.wrap z)).fdiv (2 ^ 63))) = (zigT z : Int) := by
  have hw : IntKind.i64.wrap (IntKind.u64.wrap z) = z := by simp only [IntKind.wrap, IntKind.bits, IntKind.signed]; simp; omega
  rw [hw]
  by_cases hz : 0 ≤ z
  · have e1 : IntKind.u64.wrap (IntKind.u64.wrap z * 2) = 2 * z := by simp only [IntKind.wrap, IntKind.bits, IntKind.signed]; simp; omega
    have e2 : IntKind.u64.wrap (z.fdiv (2 ^ 63)) = 0 := by
      have : z.fdiv (2 ^ 63) = 0 := by rw [Int.fdiv_eq_ediv_of_nonneg _ (by omega)]; omega
      rw [this]; decide
    rw [e1, e2]
    simp only [ibits, zigT, if_pos hz]
    obtain ⟨k, hk⟩ : ∃ k : Nat, z = k := ⟨z.toNat, by omega⟩
    subst hk
    show IntKind.u64.wrap (((BitVec.ofInt 64 (2 * (k : Int))) ^^^ 0#64).toNat : Int) = _
    rw [BitVec.xor_zero, BitVec.toNat_ofInt]
    simp only [IntKind.wrap, IntKind.bits, IntKind.signed]
    simp
    omega
  · have e1 : IntKind.u64.wrap (IntKind.u64.wrap z * 2) = 2 * z + 18446744073709551616 := by simp only [IntKind.wrap, IntKind.bits, IntKind.signed]; simp; omega
    have e2 : IntKind.u64.wrap (z.fdiv (2 ^ 63)) = 18446744073709551615 := by
      have : z.fdiv (2 ^ 63) = -1 := by rw [Int.fdiv_eq_ediv_of_nonneg _ (by omega)]; omega
      rw [this]; decide
    rw [e1, e2]
    simp only [ibits, zigT, if_neg hz]
    have h2 : BitVec.ofInt IntKind.u64.bits 18446744073709551615 = BitVec.allOnes 64 := show BitVec.ofInt 64 18446744073709551615 = BitVec.allOnes 64 from by decide
    rw [h2]
    obtain ⟨k, hk⟩ : ∃ k : Nat, 2 * z + 18446744073709551616 = k := ⟨(2 * z + 18446744073709551616).toNat, by omega⟩
    rw [hk]
    show IntKind.u64.wrap (((BitVec.ofInt 64 (k : Int)) ^^^ BitVec.allOnes 64).toNat : Int) = _
    rw [BitVec.xor_allOnes, BitVec.toNat_not, BitVec.toNat_ofInt]
    simp only [IntKind.wrap, IntKind.bits, IntKind.signed]
    simp
    omega
end Go.Proofs.YtnpgcmeclkncnaaGreatDoor.X
/- Plain laws: which values are values of a message of a schema. No condition. -/
set_option linter.unusedVariables false
set_option linter.unusedSimpArgs false
namespace Go.Proofs.YtnpgcmeclkncnaaGreatDoor.X
open Go Go.RowKit
theorem ixFrom_cases {α : Type} (p : α → Bool) : ∀ (l : List α) (k : Nat), (ixFrom p l k = -1 ∧ l.find? p = none) ∨ ∃ (i : Nat) (h : i < l.length), ixFrom p l k = ((k + i : Nat) : Int) ∧ l.find? p = some l[i] ∧ p l[i] = true
  | [], k => .inl ⟨rfl, rfl⟩
  | a :: l, k => by
    by_cases h : p a = true
    · refine .inr ⟨0, by simp, ?_, ?_, h⟩
      · simp [ixFrom, h]
      · simp [h]
    · have h' : p a = false := by simpa using h
      rcases ixFrom_cases p l (k + 1) with ⟨h1, h2⟩ | ⟨i, hi, h1, h2, h3⟩
      · exact .inl ⟨by simp [ixFrom, h', h1], by simp [h', h2]⟩
      · exact .inr ⟨i + 1, by simp; omega, by simp [ixFrom, h', h1]; omega, by simp [h', h2], by simpa using h3⟩
def Msg.fix (m : Msg) (num : Int) : Option Fld := m.fields.find? (fun f => f.num == num)
def Msg.at (m : Msg) (num : Int) : Int := ixFrom (fun f : Fld => f.num == num) m.fields 0
theorem Msg.at_cases (m : Msg) (num : Int) : (m.at num = -1 ∧ m.fix num = none) ∨ ∃ (i : Nat) (h : i < m.fields.length), m.at num = (i : Int) ∧ m.fix num = some m.fields[i] ∧ m.fields[i].num = num := by
  rcases ixFrom_cases (fun f : Fld => f.num == num) m.fields 0 with h | ⟨i, h, h1, h2, h3⟩
  · exact .inl h
  · exact .inr ⟨i, h, by simpa [Msg.at] using h1, h2, by simpa using h3⟩
def Msg.ixN (m : Msg) (num : Int) : Nat := (m.at num).toNat
theorem Msg.at_nn {m : Msg} {num : Int} (h : decide (m.at num < 0) = false) : 0 ≤ m.at num := by have := of_decide_eq_false h; omega
theorem Msg.at_eq {m : Msg} {num : Int} (h : decide (m.at num < 0) = false) : m.at num = (m.ixN num : Int) := by have := of_decide_eq_false h; unfold Msg.ixN; omega
theorem Msg.at_lt {m : Msg} {num : Int} (h : decide (m.at num < 0) = false) : m.ixN num < m.fields.length := by
  have h := of_decide_eq_false h
  rcases m.at_cases num with ⟨h1, _⟩ | ⟨i, hi, h1, _⟩
  · omega
  · unfold Msg.ixN; rw [h1]; simpa using hi
theorem Msg.at_fix {m : Msg} {num : Int} (h : decide (m.at num < 0) = false) : m.fix num = some (m.fields[m.ixN num]'(Msg.at_lt h)) := by
  have h' := of_decide_eq_false h
  rcases m.at_cases num with ⟨h1, _⟩ | ⟨i, hi, h1, h2, _⟩
  · omega
  · rw [h2]; congr 1; have : m.ixN num = i := by unfold Msg.ixN; rw [h1]; simp
    simp [this]
theorem Msg.at_no {m : Msg} {num : Int} (h : decide (m.at num < 0) = true) : m.fix num = none := by
  have h := of_decide_eq_true h
  rcases m.at_cases num with ⟨h1, h2⟩ | ⟨i, hi, h1, _⟩
  · exact h2
  · omega
def Sch.msgAt (s : Sch) (name : Str) : Option Msg := s.msgs.find? (fun m => m.name == name)
theorem Sch.ix_cases (s : Sch) (name : Str) : (s.msgIx name = -1 ∧ s.msgAt name = Option.none) ∨ ∃ (i : Nat) (h : i < s.msgs.length), s.msgIx name = (i : Int) ∧ s.msgAt name = some s.msgs[i] ∧ s.msgs[i].name = name := by
  rcases ixFrom_cases (fun m : Msg => m.name == name) s.msgs 0 with h | ⟨i, h, h1, h2, h3⟩
  · exact .inl h
  · exact .inr ⟨i, h, by simpa [Sch.msgIx] using h1, h2, by simpa using h3⟩
def Sch.ixN (s : Sch) (name : Str) : Nat := (s.msgIx name).toNat
theorem Sch.ix_nn {s : Sch} {name : Str} (h : decide (s.msgIx name < 0) = false) : 0 ≤ s.msgIx name := by have := of_decide_eq_false h; omega
theorem Sch.ix_eq {s : Sch} {name : Str} (h : decide (s.msgIx name < 0) = false) : s.msgIx name = (s.ixN name : Int) := by have := of_decide_eq_false h; unfold Sch.ixN; omega
theorem Sch.ix_lt {s : Sch} {name : Str} (h : decide (s.msgIx name < 0) = false) : s.ixN name < s.msgs.length := by
  have h := of_decide_eq_false h
  rcases s.ix_cases name with ⟨h1, _⟩ | ⟨i, hi, h1, _⟩
  · omega
  · unfold Sch.ixN; rw [h1]; simpa using hi
theorem Sch.ix_at {s : Sch} {name : Str} (h : decide (s.msgIx name < 0) = false) : s.msgAt name = some (s.msgs[s.ixN name]'(Sch.ix_lt h)) := by
  have h' := of_decide_eq_false h
  rcases s.ix_cases name with ⟨h1, _⟩ | ⟨i, hi, h1, h2, _⟩
  · omega
  · rw [h2]; congr 1; have : s.ixN name = i := by unfold Sch.ixN; rw [h1]; simp
    simp [this]
theorem Sch.ix_no {s : Sch} {name : Str} (h : decide (s.msgIx name < 0) = true) : s.msgAt name = Option.none := by
  have h := of_decide_eq_true h
  rcases s.ix_cases name with ⟨h1, h2⟩ | ⟨i, hi, h1, _⟩
  · exact h2
  · omega
theorem ntr {b : Bool} (h : (!b) = true) : b = false := by cases b <;> simp_all
theorem nfl {b : Bool} (h : (!b) = false) : b = true := by cases b <;> simp_all
theorem dge {a : Int} (h : decide (0 ≤ a) = true) : decide (a < 0) = false := by have := of_decide_eq_true h; simp; omega
theorem dlt {a : Int} (h : decide (0 ≤ a) = false) : decide (a < 0) = true := by have := of_decide_eq_false h; simp; omega
/-- what the walks ask of a schema -/
structure Sch.fine (s : Sch) : Prop where
  m : s.msgs.length ≤ 1000
  f : ∀ m ∈ s.msgs, m.fields.length ≤ 1000
  o : ∀ m ∈ s.msgs, ∀ f ∈ m.fields, f.one.length ≤ 1000
theorem wf64 (n : Int) : (Lit.int .i64 (IntKind.i64.wrap n)).wf = true := by
  simp only [Lit.wf, IntKind.min, IntKind.max, IntKind.wrap, IntKind.bits, IntKind.signed]; simp; omega
def Fld.hidden (f : Fld) : Bool := !f.rep && f.one == [] && !decide (f.ty = 15)
def Fld.packed (f : Fld) : Bool := f.rep && numT f.ty && !f.loose
def Rw.right (r : Rw) : Bool := tagOK r.num r.wire && (if r.wire = 2 then decide (r.n = 0) else r.s == [] && (!decide (r.wire = 5) || decide (r.n < 4294967296)))
def restOK (m : Msg) (r : Rw) : Bool := r.right && (m.fix r.num).isNone
/-- the name of a slot's oneof -/
def Msg.oneOf (m : Msg) (x : Slot) : Str := ((m.fix x.num).map (·.one)).getD []
def newOne (ones : List Str) (one : Str) : Bool := one == [] || !ones.any (· == one)
mutual
def Val.ok (s : Sch) (f : Fld) : Val → Bool
  | .mk n str m =>
    if numT f.ty then mayT f.ty n && str == [] && decide (m.length = 0)
    else if f.ty = 12 then decide (n = 0) && decide (m.length = 0) && Lib.validD str
    else if f.ty = 13 then decide (n = 0) && decide (m.length = 0)
    else if f.ty = 15 then decide (n = 0) && str == [] && treeOk1 s f.ref m
    else false
def Slot.ok (s : Sch) (m : Msg) : Slot → Bool
  | .mk num vs => match m.fix num with
    | none => false
    | some f => decide (0 < vs.length) && (f.rep || decide (vs.length = 1)) && valsOk s f vs && (!f.hidden || (!decide ((vs.head?.map Val.n).getD 0 = 0) || !((vs.head?.map Val.s).getD [] == [])))
def Tree.ok (s : Sch) (name : Str) : Tree → Bool
  | .mk ss r => match s.msgAt name with
    | none => false
    | some m => slotsOk s m ss none [] && r.all (restOK m)
def valsOk (s : Sch) (f : Fld) : List Val → Bool
  | [] => true
  | v :: l => v.ok s f && valsOk s f l
def slotsOk (s : Sch) (m : Msg) : List Slot → Option Int → List Str → Bool
  | [], _, _ => true
  | x :: l, last, ones => (match last with | none => true | some n => decide (n < x.num)) && x.ok s m && newOne ones (m.oneOf x) && slotsOk s m l (some x.num) (ones ++ [m.oneOf x])
def treeOk1 (s : Sch) (name : Str) : List Tree → Bool
  | [t] => t.ok s name
  | _ => false
end
theorem Val.ok_eq (s : Sch) (f : Fld) (v : Val) : v.ok s f = if numT f.ty then mayT f.ty v.n && v.s == [] && decide (v.m.length = 0)
    else if f.ty = 12 then decide (v.n = 0) && decide (v.m.length = 0) && Lib.validD v.s
    else if f.ty = 13 then decide (v.n = 0) && decide (v.m.length = 0)
    else if f.ty = 15 then decide (v.n = 0) && v.s == [] && treeOk1 s f.ref v.m
    else false := by cases v; simp only [Val.ok, Val.n, Val.s, Val.m]; rfl
theorem Slot.ok_eq (s : Sch) (m : Msg) (x : Slot) : x.ok s m = match m.fix x.num with
    | none => false
    | some f => decide (0 < x.vals.length) && (f.rep || decide (x.vals.length = 1)) && valsOk s f x.vals && (!f.hidden || (!decide ((x.vals.head?.map Val.n).getD 0 = 0) || !((x.vals.head?.map Val.s).getD [] == []))) := by
  cases x; simp only [Slot.ok, Slot.num, Slot.vals]; rfl
theorem Tree.ok_eq (s : Sch) (name : Str) (t : Tree) : t.ok s name = match s.msgAt name with
    | none => false
    | some m => slotsOk s m t.slots none [] && t.rest.all (restOK m) := by cases t; simp only [Tree.ok, Tree.slots, Tree.rest]
theorem treeOk1_one (s : Sch) (name : Str) {l : List Tree} (h : l.length = 1) : treeOk1 s name l = (l[0]'(by omega)).ok s name := by
  match l, h with
  | [t], _ => simp [treeOk1]
theorem treeOk1_no (s : Sch) (name : Str) {l : List Tree} (h : l.length ≠ 1) : treeOk1 s name l = false := by
  match l, h with
  | [], _ => simp [treeOk1]
  | _ :: _ :: _, _ => simp [treeOk1]
theorem valsOk_all (s : Sch) (f : Fld) (l : List Val) : valsOk s f l = l.all (Val.ok s f) := by
  induction l with
  | nil => simp [valsOk]
  | cons v l ih => simp [valsOk, ih]
def lastN (l : List Slot) (i : Nat) : Option Int := if h : 0 < i ∧ i ≤ l.length then some (l[i - 1]'(by omega)).num else none
theorem lastN_step {l : List Slot} {i : Nat} (h : i < l.length) : lastN l (i + 1) = some l[i].num := by
  unfold lastN; rw [dif_pos ⟨by omega, by omega⟩]; simp
theorem lastN_zero (l : List Slot) : lastN l 0 = none := by unfold lastN; simp
theorem lastN_pos {l : List Slot} {i : Nat} (h0 : 0 < i) (h : i < l.length) : lastN l i = some (l[i - 1]'(by omega)).num := by
  unfold lastN; rw [dif_pos ⟨h0, by omega⟩]
theorem Slot.ok_vals {s : Sch} {m : Msg} {x : Slot} {f : Fld} (hf : m.fix x.num = some f) : x.ok s m = (decide (0 < x.vals.length) && (f.rep || decide (x.vals.length = 1)) && x.vals.all fun v => v.ok s f && (!f.hidden || (!decide (v.n = 0) || !(v.s == [])))) := by
  rw [Slot.ok_eq, hf]
  simp only [valsOk_all]
  cases hv : x.vals with
  | nil => simp
  | cons v r =>
    cases hh : f.hidden with
    | false => simp
    | true =>
      have hr : f.rep = false := by unfold Fld.hidden at hh; simp at hh; exact hh.1.1
      cases r with
      | nil => simp [hr]; first | done | rfl
      | cons w r => simp [hr]
theorem Slot.ok_at {s : Sch} {m : Msg} {x : Slot} (h : x.ok s m = true) : decide (m.at x.num < 0) = false := by
  by_cases hd : decide (m.at x.num < 0) = true
  · rw [Slot.ok_eq, Msg.at_no hd] at h; cases h
  · simpa using hd
theorem any_count {l : List Str} {a : Str} : l.any (· == a) = decide (0 < l.count a) := by
  rw [Bool.eq_iff_iff]; simp [List.count_pos_iff]
theorem oneOf_fix {m : Msg} {x : Slot} {f : Fld} (h : m.fix x.num = some f) : m.oneOf x = f.one := by unfold Msg.oneOf; rw [h]; rfl
theorem cnt_step {m : Msg} {l : List Slot} {i : Nat} {f : List UInt8 → Int} {one : Str} (hi : i < l.length) (hf : ∀ key, f key = ((((l.take i).map m.oneOf).count key : Nat) : Int)) (ho : m.oneOf l[i] = one) (hb : i < 9223372036854775807) :
    ∀ key, (if key = one then IntKind.i64.wrap (f one + 1) else f key) = ((((l.take (i + 1)).map m.oneOf).count key : Nat) : Int) := by
  intro key
  rw [List.take_succ_eq_append_getElem hi, List.map_append, List.count_append]
  have hle : ((l.take i).map m.oneOf).count one ≤ i := by
    have := List.count_le_length (a := one) (l := (l.take i).map m.oneOf)
    rw [List.length_map, List.length_take] at this; omega
  split
  · rename_i e; subst e
    rw [hf, inc (by omega)]
    simp [ho]
  · rename_i e
    rw [hf]
    have : [l[i]].map m.oneOf = [one] := by simp [ho]
    rw [this, List.count_singleton, if_neg (by simpa using Ne.symm e)]
    simp
theorem cnt_new {m : Msg} {l : List Slot} {i : Nat} {f : List UInt8 → Int} {one : Str} (hf : ∀ key, f key = ((((l.take i).map m.oneOf).count key : Nat) : Int)) (hb : i < 9223372036854775807) :
    decide (1 < IntKind.i64.wrap (f one + 1)) = ((l.take i).map m.oneOf).any (· == one) := by
  have hle : ((l.take i).map m.oneOf).count one ≤ i := by
    have := List.count_le_length (a := one) (l := (l.take i).map m.oneOf)
    rw [List.length_map, List.length_take] at this; omega
  have key : ∀ c : Nat, decide ((1 : Int) < ((c + 1 : Nat) : Int)) = decide (0 < c) := fun c => by rw [Bool.eq_iff_iff]; simp; omega
  rw [hf, inc (by omega), any_count]
  exact key _
def slotsAt (s : Sch) (m : Msg) (l : List Slot) (i : Nat) : Bool := slotsOk s m (l.drop i) (lastN l i) ((l.take i).map m.oneOf)
theorem slotsAt_step {s : Sch} {m : Msg} {l : List Slot} {i : Nat} (h : i < l.length) : slotsAt s m l i = ((match lastN l i with | none => true | some n => decide (n < l[i].num)) && l[i].ok s m && newOne ((l.take i).map m.oneOf) (m.oneOf l[i]) && slotsAt s m l (i + 1)) := by
  unfold slotsAt
  rw [List.drop_eq_getElem_cons h, lastN_step h, List.take_succ_eq_append_getElem h, List.map_append]
  simp [slotsOk]
theorem slotsAt_end {s : Sch} {m : Msg} {l : List Slot} {i : Nat} (h : l.length ≤ i) : slotsAt s m l i = true := by
  unfold slotsAt; rw [List.drop_of_length_le h]; simp [slotsOk]
theorem slotsAt_zero (s : Sch) (m : Msg) (l : List Slot) : slotsAt s m l 0 = slotsOk s m l none [] := by
  unfold slotsAt lastN; simp
theorem rising_len : ∀ {l1 l2 : List Int}, l1.Pairwise (· < ·) → (∀ a ∈ l1, a ∈ l2) → l1.length ≤ l2.length
  | [], _, _, _ => by simp
  | a :: l1, l2, h, hs => by
    have ha : a ∈ l2 := hs a (by simp)
    have h2 := List.pairwise_cons.1 h
    have := rising_len (l1 := l1) (l2 := l2.erase a) h2.2 fun b hb => (List.mem_erase_of_ne (by have := h2.1 b hb; omega)).2 (hs b (by simp [hb]))
    rw [List.length_erase_of_mem ha] at this
    have : 0 < l2.length := List.length_pos_of_mem ha
    simp; omega
/-- the slots so far are known, and rise -/
structure goodS (m : Msg) (l : List Slot) (i : Nat) : Prop where
  le : i ≤ l.length
  kn : ∀ x ∈ l.take i, (m.fix x.num).isSome = true
  up : ((l.take i).map Slot.num).Pairwise (· < ·)
theorem goodS.zero (m : Msg) (l : List Slot) : goodS m l 0 := ⟨by omega, by simp, by simp⟩
theorem goodS.step {m : Msg} {l : List Slot} {i : Nat} (g : goodS m l i) (h : i < l.length) (hl : (match lastN l i with | none => true | some n => decide (n < l[i].num)) = true) (hf : (m.fix l[i].num).isSome = true) : goodS m l (i + 1) := by
  refine ⟨h, fun x hx => ?_, ?_⟩
  · rw [List.take_succ_eq_append_getElem h] at hx
    rcases List.mem_append.1 hx with hx | hx
    · exact g.kn x hx
    · rw [List.mem_singleton.1 hx]; exact hf
  · rw [List.take_succ_eq_append_getElem h, List.map_append, List.pairwise_append]
    refine ⟨g.up, by simp, fun a ha b hb => ?_⟩
    simp at hb
    subst hb
    by_cases h0 : 0 < i
    · rw [lastN_pos h0 h] at hl
      have hlt : (l[i - 1]'(by omega)).num < l[i].num := by simpa using hl
      obtain ⟨j, hj, rfl⟩ := List.getElem_of_mem ha
      rw [List.length_map, List.length_take] at hj
      by_cases hji : j = i - 1
      · subst hji; simpa using hlt
      · have hp := List.pairwise_iff_getElem.1 g.up j (i - 1) (by simp; omega) (by simp; omega) (by omega)
        simp at hp
        simp
        omega
    · have : i = 0 := by omega
      subst this
      simp at ha
theorem goodS.len {m : Msg} {l : List Slot} {i : Nat} (g : goodS m l i) : i ≤ m.fields.length := by
  have h1 := rising_len (l2 := m.fields.map (·.num)) g.up fun a ha => by
    obtain ⟨x, hx, rfl⟩ := List.mem_map.1 ha
    have hk := g.kn x hx
    rcases m.at_cases x.num with ⟨_, h2⟩ | ⟨q, hq, _, h2, h3⟩
    · rw [h2] at hk; cases hk
    · exact List.mem_map.2 ⟨_, List.getElem_mem hq, h3⟩
  rw [List.length_map, List.length_map, List.length_take] at h1
  have := g.le
  omega
end Go.Proofs.YtnpgcmeclkncnaaGreatDoor.X
