/- The program logic: runs of plain operations, done at once. No condition. -/
import Derived.Test.YtpifnegikoldmaaGreatDoorZDB
import Derived.Test.YtpifnegikoldmaaGreatDoorProg
import Derived.Lib.AppendStr
import Derived.Test.YtpifnegikoldmaaGreatDoorRows
import Derived.WalkKit
import Derived.ProofKit
import Derived.OpenShut
import Derived.Carry
import Derived.JoinedCond
import Derived.Deep.Strs
import Derived.Deep.Slices
import Derived.Lib.SmallJoins
import Derived.SizedLaws
import Derived.Maps.Own
import Derived.Maps.OwnSet
import Derived.Maps.Views
import Derived.Defers
import Derived.Recover
import Derived.Lib.Bytealg
import Derived.Lib.Strings
import Derived.Lib.ParseIntB
import Derived.Lib.ItoaNum
import Derived.KernelRfl
set_option linter.unusedVariables false
set_option linter.unusedSimpArgs false
namespace Go.Proofs.YtpifnegikoldmaaGreatDoor.X
open Go Go.RowKit
theorem eu {a b : Nat} : Nat.ble a b = true ↔ a ≤ b := by rw [Nat.ble_eq]
structure uP where
 t : TypeId
 lk : Option (Bool × Nat)
 z : Option (List AV)
 sp : Option (List (Nat × Nat))
 se : Option (Nat × Nat × Nat)
 fo : List (Option Nat)
 un : Nat
 ik : Option IntKind
def yz (P : Program) (t : TypeId) : Nat := match P.underlying t with
 | some (.slice _) => 1
 | some .string => 2
 | some .bool => 3
 | some _ => 4
 | none => 0
def Hw (P : Program) (t : TypeId) : Option IntKind := match P.underlying t with
 | some (.int k) => some k
 | _ => none
def Gr (P : Program) (t : TypeId) (n : Nat) : uP := ⟨t, lk P t, bu P t, Bw P t, se P t, (List.range n).map (fo P t), yz P t, Hw P t⟩
inductive TT where
 | nil
 | node (l : TT) (r : uP) (g : TT)
def TT.rows : TT → List uP
 | .nil => []
 | .node l r g => l.rows ++ r :: g.rows
def TT.find : TT → TypeId → Option uP
 | .nil, _ => none
 | .node l r g, t => bif Nat.blt t r.t then l.find t else bif Nat.blt r.t t then g.find t else some r
def TT.ok (P : Program) (I : TT) : Prop := I.rows.map (fun r => Gr P r.t r.fo.length) = I.rows
theorem TT.pO : ∀ {I : TT} {t : TypeId} {r : uP}, I.find t = some r → r ∈ I.rows ∧ r.t = t
 | .nil, t, r, h => by cases h
 | .node l q g, t, r, h => by
  unfold TT.find at h
  cases e : Nat.blt t q.t with
  | true =>
   rw [e] at h
   obtain ⟨h1, h2⟩ := TT.pO (I := l) h
   exact ⟨List.mem_append_left _ h1, h2⟩
  | false =>
   rw [e] at h
   cases e2 : Nat.blt q.t t with
   | true =>
    rw [e2] at h
    obtain ⟨h1, h2⟩ := TT.pO (I := g) h
    exact ⟨List.mem_append_right _ (List.mem_cons_of_mem _ h1), h2⟩
   | false =>
    rw [e2] at h
    cases h
    refine ⟨List.mem_append_right _ (List.mem_cons_self ..), ?_⟩
    have h1 : ¬ t < q.t := fun h => by rw [show Nat.blt t q.t = true from eu.2 h] at e; cases e
    have h2 : ¬ q.t < t := fun h => by rw [show Nat.blt q.t t = true from eu.2 h] at e2; cases e2
    exact Nat.le_antisymm (Nat.not_lt.1 h1) (Nat.not_lt.1 h2)
theorem TT.row {P : Program} {I : TT} (h : I.ok P) {t : TypeId} {r : uP} (e : I.find t = some r) : r = Gr P t r.fo.length := by
 obtain ⟨h1, h2⟩ := TT.pO e
 obtain ⟨i, hi⟩ := List.mem_iff_getElem?.1 h1
 have := congrArg (·[i]?) h
 simp only [List.getElem?_map, hi, Option.map_some, Option.some.injEq] at this
 rw [h2] at this; exact this.symm
section
variable {P : Program} {I : TT} {t : TypeId} {r : uP} (h : I.ok P) (e : I.find t = some r)
include h e
theorem TT.E8 : r.lk = lk P t := by rw [TT.row h e]; rfl
theorem TT.IK : r.z = bu P t := by rw [TT.row h e]; rfl
theorem TT.IL : r.sp = Bw P t := by rw [TT.row h e]; rfl
theorem TT.IM : r.se = se P t := by rw [TT.row h e]; rfl
theorem TT.Gv : r.un = yz P t := by rw [TT.row h e]; rfl
theorem TT.IN : r.ik = Hw P t := by rw [TT.row h e]; rfl
theorem TT.Ed {i o : Nat} (q : r.fo[i]? = some (some o)) : fo P t i = some o := by
 have h1 : r.fo = (List.range r.fo.length).map (fo P t) := congrArg uP.fo (TT.row h e)
 rw [h1, List.getElem?_map] at q
 cases hr : (List.range r.fo.length)[i]? with
 | none => rw [hr] at q; cases q
 | some j =>
  rw [hr] at q
  have hj := List.getElem?_eq_some_iff.1 hr
  obtain ⟨h1, h2⟩ := hj
  simp at h2
  subst h2
  simpa using q
end
theorem yx {P : Program} {t : TypeId} (h : yz P t = 1) : ∃ e, P.underlying t = some (.slice e) := by
 unfold yz at h; split at h <;> first | exact ⟨_, by assumption⟩ | cases h
theorem EN {P : Program} {t : TypeId} (h : yz P t = 2) : P.underlying t = some .string := by
 unfold yz at h; split at h <;> first | assumption | cases h
theorem yy {P : Program} {t : TypeId} (h : yz P t = 3) : P.underlying t = some .bool := by
 unfold yz at h; split at h <;> first | assumption | cases h
theorem F9 {P : Program} {t : TypeId} {k : IntKind} (h : Hw P t = some k) : P.underlying t = some (.int k) := by
 unfold Hw at h; split at h
 ·cases h; assumption
 ·cases h
theorem Bl {P : Program} {t : TypeId} (h : yz P t ≠ 0) : ∃ d, P.underlying t = some d := by
 unfold yz at h; cases e : P.underlying t with
 | none => rw [e] at h; exact absurd rfl h
 | some d => exact ⟨d, rfl⟩
theorem xx {P : Program} {N : Nat} {s : St} {d : Nat} {ty : TypeId} {pos : String} {af : Array Edge} {g : Option (Nat × Bool)} {t1 e : TypeId} {x : Operand} {id n c : Nat} (hN : d < N) (h1 : P.underlying t1 = some (.slice e)) (hx : cU x s = some (.os id n c)) :
  aY P N ⟨some d, .call { callee := .builtin .len, args := #[x], argTypes := #[t1] }, ty, pos, af, g⟩ s (rd x) [(.s d, .sv (.v (.int .i64 n)))] :=
 aY.val rfl hN fun E G L a w t hr hR => by
  have hv := aS hr hR hx
  generalize hav : a.eval x = u at hv
  cases hv
  refine ⟨.int .i64 n, ?_, .int _ _⟩
  simp [execOp, resolve, invoke, builtin, hav, Builtin.len_, run_underlying h1, goInt]
abbrev XR := Option (List aK × St)
def gA (N d : Nat) (R : List aK) (y : Sv) : XR := bif Nat.blt d N then some (R, [(.s d, .sv y)]) else none
theorem bj {N d : Nat} {R R' : List aK} {y : Sv} {ws : St} (h : gA N d R y = some (R', ws)) : d < N ∧ R' = R ∧ ws = [(.s d, .sv y)] := by
 unfold gA at h
 cases e : Nat.blt d N with
 | false => rw [e] at h; cases h
 | true => rw [e] at h; cases h; exact ⟨eu.1 e, rfl, rfl⟩
def Dg (N d : Nat) (R : List aK) (b : Bool) (x y : Option Sv) : XR := match b, x, y with
 | true, some z, _ => gA N d R z
 | false, _, some z => gA N d R z
 | _, _, _ => none
def wE (N d : Nat) (R : List aK) (l : Option (Bool × Nat)) (cs : List Sv) : XR := match l with
 | some (b, n) => match vO b n cs with
  | some z => gA N d R z
  | none => none
 | none => none
def wB : Nat → List (Nat × Operand) → St → Option (List AV)
 | _, [], _ => some []
 | k, (j, x) :: l, s => match Nat.beq j k, cU x s, wB (k + 1) l s with
  | true, some a, some r => some (a :: r)
  | _, _, _ => none
theorem qJ : ∀ {l : List (Nat × Operand)} {k : Nat} {s : St} {r : List AV}, wB k l s = some r → j9 l s = some (dT k r)
 | [], k, s, r, h => by cases h; rfl
 | (j, x) :: l, k, s, r, h => by
  unfold wB at h
  split at h
  ·rename_i a r2 e1 e2 e3
   cases h
   have hj := Nat.eq_of_beq_eq_true e1
   subst hj
   unfold j9
   rw [e2, qJ e3]; rfl
  ·cases h
def Gl (N d : Nat) (R : List aK) (u : Nat) (y : AV) : XR := match u, y with
 | 1, .sl xs => gA N d R (.v (.int .i64 xs.length))
 | 1, .os _ n _ => gA N d R (.v (.int .i64 n))
 | 2, .str l => gA N d R (.v (.int .i64 l.length))
 | _, _ => none
def Gm (N d : Nat) (R : List aK) (op : BinOp) (u : Nat) (a b : AV) : XR := match pk op a b with
 | some z => gA N d R (.v z)
 | none => match op, a, b, u with
  | .eql, .bool p, .bool q, 3 => gA N d R (.v (.bool (p == q)))
  | .neq, .bool p, .bool q, 3 => gA N d R (.v (.bool (!(p == q))))
  | _, _, _, _ => none
def Ht (I : TT) (t : TypeId) : Nat := match I.find t with | some r => r.un | none => 0
def nf (I : TT) (N : Nat) (s : St) (dst : Option Tmp) (op : Op) : XR :=
 match dst with
 | none => match op with
  | .store t1 x y => match I.find t1, fq x s with
   | some r, some (.lp k off) => match r.lk, get s (.b k), fq y s with
    | some (b, n), some (.bx cs), some z => bif !z.j5 && Nat.beq z.cells.length n && Nat.ble (off + n) cs.length then some (rd x ++ (rd y ++ [.b k]), [(.b k, .bx (setAt cs off z.cells))]) else none
    | _, _, _ => none
   | _, _ => none
  | _ => none
 | some d => match op with
  | .move x => match fq x s with
   | some y => gA N d (rd x) y
   | none => none
  | .assign x => match fq x s with
   | some y => gA N d (rd x) y
   | none => none
  | .pick c x y => match cU c s with
   | some (.bool b) => Dg N d (rd c ++ (rd x ++ rd y)) b (fq x s) (fq y s)
   | _ => none
  | .binOp op t1 x y _ => match cU x s, cU y s with
   | some a, some b => Gm N d (rd x ++ rd y) op (Ht I t1) a b
   | _, _ => none
  | .unOp op _ x => match cU x s with
   | some a => match Ig op a with
    | some z => gA N d (rd x) (.v z)
    | none => none
   | none => none
  | .load t1 x => match I.find t1, fq x s with
   | some r, some (.lp k off) => match get s (.b k) with
    | some (.bx cs) => wE N d (rd x ++ [.b k]) r.lk (cs.drop off)
    | _ => none
   | some r, some (.v (.kp cs)) => wE N d (rd x) r.lk (cs.map .v)
   | _, _ => none
  | .fieldAddr t1 x i => match I.find t1 with
   | some r => match r.fo[i]?, fq x s with
    | some (some o), some (.lp k off) => gA N d (rd x) (.lp k (off + o))
    | some (some o), some (.v (.kp cs)) => gA N d (rd x) (.v (.kp (cs.drop o)))
    | some (some o), some (.v (.op id off)) => gA N d (rd x) (.v (.op id (off + o)))
    | _, _ => none
   | none => none
  | .alloc t1 => match I.find t1, get s (.b d) with
   | some r, none => match r.z with
    | some zs => bif Nat.blt d N then some ([.b d], [(.s d, .sv (.lp d 0)), (.b d, .bx (zs.map .v))]) else none
    | none => none
   | _, _ => none
  | .box _ x => match fq x s, get s (.b d) with
   | some y, none => bif Nat.blt d N && !y.j5 then some (rd x ++ [.b d], [(.s d, .sv (.lp d 0)), (.b d, .bx y.cells)]) else none
   | _, _ => none
  | .extract x i => match cU x s with
   | some (.tup vs) => match vs[i]? with
    | some z => gA N d (rd x) (.v z)
    | none => none
   | _ => none
  | .nilCheck x => match fq x s with
   | some (.lp k off) => gA N d (rd x) (.lp k off)
   | some (.v (.kp cs)) => gA N d (rd x) (.v (.kp cs))
   | some (.v (.op id off)) => gA N d (rd x) (.v (.op id off))
   | _ => none
  | .build t1 ps => match I.find t1, j9 ps.toList s with
   | some r, some qs => match r.sp, r.z with
    | some pl, some zs => match gi (fun i => pl[i]?) zs qs with
     | some q => gA N d (lF (ps.toList.map (·.2))) (.v (.agg q))
     | none => none
    | _, _ => none
   | _, _ => none
  | .buildSlice t1 n ps => match I.find t1, wB 0 ps.toList s with
   | some r, some qs => match r.se with
    | some (el, esz, _) => match I.find el with
     | some r2 => match r2.z with
      | some _ => bif Nat.beq qs.length n && cK esz qs && Nat.ble (qs.length * esz) 16777216 then gA N d (lF (ps.toList.map (·.2))) (.v (.sl qs)) else none
      | none => none
     | none => none
    | none => none
   | _, _ => none
  | .convert t1 t2 x => match I.find t1, I.find t2, cU x s with
   | some r, some r2, some (.int _ n) => match r2.ik, Nat.beq r.un 0 with
    | some k, false => gA N d (rd x) (.v (.int k (k.wrap n)))
    | _, _ => none
   | _, _, _ => none
  | .call c => match c with
   | ⟨.builtin .len, xs, ts⟩ => match xs.toList, ts.toList with
    | [x], [t1] => match cU x s with
     | some y => Gl N d (rd x) (Ht I t1) y
     | none => none
    | _, _ => none
   | _ => none
  | _ => none
theorem lY {x : Operand} {s : St} {a : AV} (h : fq x s = some (.v a)) : cU x s = some a := by unfold cU; rw [h]; rfl
theorem nc {P : Program} {I : TT} (h : I.ok P) {t : TypeId} {n : Nat} (e : Ht I t = n) (hn : n ≠ 0) : yz P t = n := by
 unfold Ht at e
 cases hr : I.find t with
 | none => rw [hr] at e; exact absurd e.symm hn
 | some r => rw [hr] at e; rw [← e]; exact (TT.Gv h hr).symm
theorem uT {P : Program} {I : TT} (hI : I.ok P) {N : Nat} {s : St} {dst : Option Tmp} {op : Op} {R : List aK} {ws : St} {ty : TypeId} {pos : String} {af : Array Edge} {g : Option (Nat × Bool)}
  (h : nf I N s dst op = some (R, ws)) : aY P N ⟨dst, op, ty, pos, af, g⟩ s R ws := by
 cases dst with
 | none =>
  cases op <;> simp only [nf] at h <;> try (cases h; done)
  rename_i t1 x y
  split at h
  ·rename_i r k off e1 e2
   split at h
   ·rename_i b n cs z e3 e4 e5
    cases hb : (!z.j5 && Nat.beq z.cells.length n && Nat.ble (off + n) cs.length) with
    | false => rw [hb] at h; cases h
    | true =>
     rw [hb] at h
     cases h
     simp only [Bool.and_eq_true, Bool.not_eq_true'] at hb
     exact zm ((TT.E8 hI e1).symm.trans e3) e2 e4 e5 hb.1.1 (Nat.eq_of_beq_eq_true hb.1.2) (eu.1 hb.2)
   ·cases h
  ·cases h
 | some d =>
  cases op with
  | move x =>
   simp only [nf] at h
   split at h
   ·rename_i y e; obtain ⟨h1, rfl, rfl⟩ := bj h; exact fx h1 e
   ·cases h
  | assign x =>
   simp only [nf] at h
   split at h
   ·rename_i y e; obtain ⟨h1, rfl, rfl⟩ := bj h; exact HE h1 e
   ·cases h
  | pick c x y =>
   simp only [nf] at h
   split at h
   ·rename_i b e
    unfold Dg at h
    split at h
    ·rename_i z e2; obtain ⟨h1, rfl, rfl⟩ := bj h; exact cJ h1 e rfl e2
    ·rename_i z e2; obtain ⟨h1, rfl, rfl⟩ := bj h; exact cC h1 e rfl e2
    ·cases h
   ·cases h
  | binOp op t1 x y t2 =>
   simp only [nf] at h
   split at h
   ·rename_i a b e1 e2
    unfold Gm at h
    split at h
    ·rename_i z e3; obtain ⟨h1, rfl, rfl⟩ := bj h; exact bI h1 e1 e2 e3
    ·split at h
     ·rename_i p q e3 e4; obtain ⟨h1, rfl, rfl⟩ := bj h; exact FP h1 (yy (nc hI e3 (by decide))) e1 e2
     ·rename_i p q e3 e4; obtain ⟨h1, rfl, rfl⟩ := bj h; exact FH h1 (yy (nc hI e3 (by decide))) e1 e2
     ·cases h
   ·cases h
  | unOp op t1 x =>
   simp only [nf] at h
   split at h
   ·rename_i a e1
    split at h
    ·rename_i z e2; obtain ⟨h1, rfl, rfl⟩ := bj h; exact oX h1 e1 e2
    ·cases h
   ·cases h
  | load t1 x =>
   simp only [nf] at h
   split at h
   ·rename_i r k off e1 e2
    split at h
    ·rename_i cs e3
     unfold wE at h
     split at h
     ·rename_i b n e4
      split at h
      ·rename_i z e5; obtain ⟨h1, rfl, rfl⟩ := bj h; exact eJ h1 ((TT.E8 hI e1).symm.trans e4) e2 e3 e5
      ·cases h
     ·cases h
    ·cases h
   ·rename_i r cs e1 e2
    unfold wE at h
    split at h
    ·rename_i b n e4
     split at h
     ·rename_i z e5; obtain ⟨h1, rfl, rfl⟩ := bj h; exact mP h1 ((TT.E8 hI e1).symm.trans e4) (lY e2) e5
     ·cases h
    ·cases h
   ·cases h
  | fieldAddr t1 x i =>
   simp only [nf] at h
   split at h
   ·rename_i r e1
    split at h
    ·rename_i o k off e2 e3; obtain ⟨h1, rfl, rfl⟩ := bj h; exact zw h1 (TT.Ed hI e1 e2) e3
    ·rename_i o cs e2 e3; obtain ⟨h1, rfl, rfl⟩ := bj h; exact FM h1 (TT.Ed hI e1 e2) (lY e3)
    ·rename_i o id off e2 e3; obtain ⟨h1, rfl, rfl⟩ := bj h; exact FN h1 (TT.Ed hI e1 e2) (lY e3)
    ·cases h
   ·cases h
  | alloc t1 =>
   simp only [nf] at h
   split at h
   ·rename_i r e1 e2
    split at h
    ·rename_i zs e3
     cases hb : Nat.blt d N with
     | false => rw [hb] at h; cases h
     | true => rw [hb] at h; cases h; exact FV (eu.1 hb) ((TT.IK hI e1).symm.trans e3) e2
    ·cases h
   ·cases h
  | box t1 x =>
   simp only [nf] at h
   split at h
   ·rename_i y e1 e2
    cases hb : (Nat.blt d N && !y.j5) with
    | false => rw [hb] at h; cases h
    | true =>
     rw [hb] at h; cases h
     simp only [Bool.and_eq_true, Bool.not_eq_true'] at hb
     exact FR (eu.1 hb.1) e1 e2 hb.2
   ·cases h
  | extract x i =>
   simp only [nf] at h
   split at h
   ·rename_i vs e1
    split at h
    ·rename_i z e2; obtain ⟨h1, rfl, rfl⟩ := bj h; exact FO h1 e1 e2
    ·cases h
   ·cases h
  | nilCheck x =>
   simp only [nf] at h
   split at h
   ·rename_i k off e; obtain ⟨h1, rfl, rfl⟩ := bj h; exact Cf h1 e
   ·rename_i cs e; obtain ⟨h1, rfl, rfl⟩ := bj h; exact Cg h1 (lY e)
   ·rename_i id off e; obtain ⟨h1, rfl, rfl⟩ := bj h; exact Ch h1 (lY e)
   ·cases h
  | build t1 ps =>
   simp only [nf] at h
   split at h
   ·rename_i r qs e1 e2
    split at h
    ·rename_i pl zs e3 e4
     split at h
     ·rename_i q e5; obtain ⟨h1, rfl, rfl⟩ := bj h
      obtain ⟨ps⟩ := ps
      exact FT h1 ((TT.IL hI e1).symm.trans e3) ((TT.IK hI e1).symm.trans e4) e2 e5
     ·cases h
    ·cases h
   ·cases h
  | buildSlice t1 n ps =>
   simp only [nf] at h
   split at h
   ·rename_i r qs e1 e2
    split at h
    ·rename_i el esz by_ e3
     split at h
     ·rename_i r2 e4
      split at h
      ·rename_i zs e5
       cases hb : (Nat.beq qs.length n && cK esz qs && Nat.ble (qs.length * esz) 16777216) with
       | false => rw [hb] at h; cases h
       | true =>
        rw [hb] at h
        obtain ⟨h1, rfl, rfl⟩ := bj h
        simp only [Bool.and_eq_true] at hb
        obtain ⟨⟨b2, b3⟩, b4⟩ := hb
        obtain ⟨ps⟩ := ps
        exact FI h1 ((TT.IM hI e1).symm.trans e3) ((TT.IK hI e4).symm.trans e5) (qJ e2) (Nat.eq_of_beq_eq_true b2) b3 (eu.1 b4)
      ·cases h
     ·cases h
    ·cases h
   ·cases h
  | convert t1 t2 x =>
   simp only [nf] at h
   split at h
   ·rename_i r r2 k' n e1 e2 e3
    split at h
    ·rename_i k e4 e5
     obtain ⟨h1, rfl, rfl⟩ := bj h
     obtain ⟨td, hd⟩ := Bl (P := P) (t := t1) (by rw [← TT.Gv hI e1]; intro q; rw [q] at e5; cases e5)
     exact FQ h1 hd (F9 ((TT.IN hI e2).symm.trans e4)) e3
    ·cases h
   ·cases h
  | call c =>
   obtain ⟨cal, xs, ts⟩ := c
   cases cal with
   | builtin b =>
    cases b <;> simp only [nf] at h <;> try (cases h; done)
    split at h
    ·rename_i x t1 e1 e2
     split at h
     ·rename_i y e3
      obtain ⟨xs⟩ := xs
      obtain ⟨ts⟩ := ts
      simp only at e1 e2
      subst e1; subst e2
      unfold Gl at h
      split at h
      ·rename_i xs2 e4; obtain ⟨h1, rfl, rfl⟩ := bj h
       obtain ⟨e, he⟩ := yx (nc hI e4 (by decide))
       exact l5 h1 he e3
      ·rename_i id n c e4; obtain ⟨h1, rfl, rfl⟩ := bj h
       obtain ⟨e, he⟩ := yx (nc hI e4 (by decide))
       exact xx h1 he e3
      ·rename_i l e4; obtain ⟨h1, rfl, rfl⟩ := bj h
       exact Ci h1 (EN (nc hI e4 (by decide))) e3
      ·cases h
     ·cases h
    ·cases h
   | value f => simp only [nf] at h; cases h
   | invoke f m => simp only [nf] at h; cases h
  | _ => simp only [nf] at h; cases h
def wC (I : TT) (N : Nat) (ops : Array Oper) (o : Oper) (s : St) : XR :=
 match o.guard with
 | none => nf I N s o.dst o.op
 | some _ => match fh ops o with
  | none => none
  | some (d, b) => match get s (.s d) with
   | some (.sv (.v (.bool c))) => bif Nat.blt d N then (match c, b with
     | true, true => (match nf I N s o.dst o.op with | some (R, ws) => some (.s d :: R, ws) | none => none)
     | false, false => (match nf I N s o.dst o.op with | some (R, ws) => some (.s d :: R, ws) | none => none)
     | _, _ => match o.dst with
      | some e => bif Nat.blt e N then some ([.s d], [(.s e, .sv (.v (.tup [])))]) else none
      | none => none) else none
   | some (.sv (.v (.tup []))) => bif Nat.blt d N then (match o.dst with
     | some e => bif Nat.blt e N then some ([.s d], [(.s e, .sv (.v (.tup [])))]) else none
     | none => none) else none
   | _ => none
theorem lI {P : Program} {I : TT} (hI : I.ok P) {N : Nat} {ops : Array Oper} {o : Oper} {s : St} {R : List aK} {ws : St} (h : wC I N ops o s = some (R, ws)) : bc P N ops o s R ws := by
 obtain ⟨dst, op, ty, pos, af, g⟩ := o
 unfold wC at h
 split at h
 ·rename_i hg
  exact bc.free hg (uT hI h)
 ·split at h
  ·cases h
  ·rename_i d b hg
   split at h
   ·rename_i c hc
    cases hN : Nat.blt d N with
    | false => rw [hN] at h; cases h
    | true =>
     rw [hN] at h
     have hN := eu.1 hN
     simp only [cond_true] at h
     split at h
     ·split at h
      ·rename_i R' ws' e
       cases h
       exact bc.on hN hg hc (uT hI e)
      ·cases h
     ·split at h
      ·rename_i R' ws' e
       cases h
       exact bc.on hN hg hc (uT hI e)
      ·cases h
     ·rename_i x1 x2
      split at h
      ·rename_i e he
       cases hE : Nat.blt e N with
       | false => rw [hE] at h; cases h
       | true =>
        rw [hE] at h
        cases h
        have hcb : c = !b := by cases c <;> cases b <;> simp_all
        exact bc.FY hN (eu.1 hE) rfl hg (by rw [← hcb]; exact hc)
      ·cases h
   ·rename_i hc
    cases hN : Nat.blt d N with
    | false => rw [hN] at h; cases h
    | true =>
     rw [hN] at h
     have hN := eu.1 hN
     simp only [cond_true] at h
     split at h
     ·rename_i e he
      cases hE : Nat.blt e N with
      | false => rw [hE] at h; cases h
      | true => rw [hE] at h; cases h; exact bc.F0 hN (eu.1 hE) rfl hg hc
     ·cases h
   ·cases h
def Bh (I : TT) (N : Nat) (ops : Array Oper) : Nat → List Oper → St → Option (List Oper × St)
 | 0, l, s => some (l, s)
 | n + 1, l, s => match l with
  | [] => none
  | o :: l => match wC I N ops o s with
   | some (_, [a]) => Bh I N ops n l (a :: s)
   | some (_, [a, b]) => Bh I N ops n l (a :: b :: s)
   | _ => none
theorem aB.run {P : Program} {I : TT} (hI : I.ok P) {N : Nat} {ops : Array Oper} {Q : St → Prop} : ∀ (n : Nat) {l l' : List Oper} {s s' : St}, Bh I N ops n l s = some (l', s') → aB P N ops l' s' Q → aB P N ops l s Q
 | 0, l, l', s, s', h, k => by cases h; exact k
 | n + 1, l, l', s, s', h, k => by
  unfold Bh at h
  split at h
  ·cases h
  ·split at h
   ·rename_i o l R a e; exact aB.step (lI hI e) (aB.run hI n h k)
   ·rename_i o l R a b e; exact aB.step (lI hI e) (aB.run hI n h k)
   ·cases h
def wD (I : TT) (N : Nat) (ops : Array Oper) : Nat → List Oper → St → List (List aK × St) → Option (List Oper × St × List (List aK × St))
 | 0, l, s, acc => some (l, s, acc)
 | n + 1, l, s, acc => match l with
  | [] => none
  | o :: l => match wC I N ops o s with
   | some (R, [a]) => wD I N ops n l (a :: s) (acc ++ [(R, [a])])
   | some (R, [a, b]) => wD I N ops n l (a :: b :: s) (acc ++ [(R, [a, b])])
   | _ => none
theorem aD.run {P : Program} {I : TT} (hI : I.ok P) {N : Nat} {ops : Array Oper} {Q : St → Prop} {A : List (List Nat)} : ∀ (n : Nat) {l l' : List Oper} {s s' : St} {acc acc' : List (List aK × St)}, wD I N ops n l s acc = some (l', s', acc') → aD P N ops A Q acc' l' s' → aD P N ops A Q acc l s
 | 0, l, l', s, s', acc, acc', h, k => by cases h; exact k
 | n + 1, l, l', s, s', acc, acc', h, k => by
  unfold wD at h
  split at h
  ·cases h
  ·split at h
   ·rename_i o l R a e; exact aD.cons (lI hI e) (aD.run hI n h k)
   ·rename_i o l R a b e; exact aD.cons (lI hI e) (aD.run hI n h k)
   ·cases h
theorem aB.tell {P : Program} {N : Nat} {ops : Array Oper} {l : List Oper} {s : St} {Q : St → Prop} {d : Nat} {b : Bool} (hc : get s (.s d) = some (.sv (.v (.bool b)))) (h1 : b = true → aB P N ops l ((.s d, .sv (.v (.bool true))) :: s) Q) (h2 : b = false → aB P N ops l ((.s d, .sv (.v (.bool false))) :: s) Q) : aB P N ops l s Q := by
 have key : ∀ c : Bool, b = c → aB P N ops l ((.s d, .sv (.v (.bool c))) :: s) Q → aB P N ops l s Q := fun c e h E a w ⟨G, L, hr⟩ QQ hQ => h E a w ⟨G, L, hr.ext fun x => by
  simp only [get]
  split
  ·rename_i hx; subst hx; rw [hc, e]
  ·rfl⟩ QQ hQ
 cases hb : b with
 | true => exact key true hb (h1 hb)
 | false => exact key false hb (h2 hb)
theorem bc.same {P : Program} {N : Nat} {ops : Array Oper} {o : Oper} {s t : St} {R : List aK} {ws : St} (h : bc P N ops o s R ws) (e : ∀ c, get t c = get s c) : bc P N ops o t R ws := fun u hu => h u fun c hc => (hu c hc).trans (e c)
theorem DK {ws s t : St} (e : ∀ c, get t c = get s c) (c : aK) : get (ws ++ t) c = get (ws ++ s) c := by rw [get_append, get_append, e]
theorem ki.same {P : Program} {N : Nat} {ops : Array Oper} {l : List Oper} {s : St} {rs : List (List aK × St)} {s' : St} (h : ki P N ops l s rs s') : ∀ {t : St}, (∀ c, get t c = get s c) → ∃ t', ki P N ops l t rs t' ∧ ∀ c, get t' c = get s' c := by
 induction h with
 | nil s => intro t e; exact ⟨t, .nil t, e⟩
 | cons hs _ ih =>
  intro t e
  obtain ⟨t', h1, h2⟩ := ih (DK e)
  exact ⟨t', .cons (hs.same e) h1, h2⟩
theorem Kept.same {s t : St} {Q : St → Prop} (h : Kept s Q) (e : ∀ c, get s c = get t c) : Kept t Q := fun E N a w ⟨G, L, hr⟩ => h E N a w ⟨G, L, hr.ext e⟩
theorem aD.tell {P : Program} {N : Nat} {ops : Array Oper} {l : List Oper} {s : St} {Q : St → Prop} {A : List (List Nat)} {acc : List (List aK × St)} {d : Nat} {b : Bool} (hc : get s (.s d) = some (.sv (.v (.bool b)))) (h1 : b = true → aD P N ops A Q acc l ((.s d, .sv (.v (.bool true))) :: s)) (h2 : b = false → aD P N ops A Q acc l ((.s d, .sv (.v (.bool false))) :: s)) : aD P N ops A Q acc l s := by
 have key : ∀ c : Bool, b = c → aD P N ops A Q acc l ((.s d, .sv (.v (.bool c))) :: s) → aD P N ops A Q acc l s := fun c e ⟨rs, s', q1, q2, q3⟩ => by
  have hg : ∀ x, get s x = get ((.s d, .sv (.v (.bool c))) :: s) x := fun x => by
   simp only [get]
   split
   ·rename_i hx; subst hx; rw [hc, e]
   ·rfl
  obtain ⟨t', r1, r2⟩ := q1.same hg
  exact ⟨rs, t', r1, q2, q3.same fun c => (r2 c).symm⟩
 cases hb : b with
 | true => exact key true hb (h1 hb)
 | false => exact key false hb (h2 hb)
set_option maxRecDepth 100000
open Go
/- What is known of the program's types. No condition. -/
def Io : TT := (.node (.node (.node (.node (.node (.node .nil ⟨2, some (false, 1), some [.int .i64 0], none, none, [], 4, some .i64⟩ .nil) ⟨3, some (false, 1), some [.int .i64 0], none, none, [], 4, some .i64⟩ .nil) ⟨4, some (false, 1), some [.bool false], none, none, [], 3, none⟩ (.node .nil ⟨9, some (false, 1), some [.str []], none, none, [], 2, none⟩ .nil)) ⟨22, some (false, 1), some [.sl []], none, some (70, 2, 40), [], 1, none⟩ (.node (.node (.node .nil ⟨23, some (false, 1), some [.sl []], none, some (73, 3, 64), [], 1, none⟩ .nil) ⟨25, some (true, 2), some [.sl [], .sl []], some [(0, 1), (1, 1)], none, [some 0, some 1], 4, none⟩ .nil) ⟨26, some (false, 1), some [.sl []], none, some (80, 12, 168), [], 1, none⟩ (.node .nil ⟨28, some (true, 3), some [.sl [], .sl [], .sl []], some [(0, 2), (2, 1)], none, [some 0, some 2], 4, none⟩ .nil))) ⟨31, some (false, 1), some [.sl []], none, some (52, 7, 128), [], 1, none⟩ (.node (.node (.node (.node .nil ⟨33, some (true, 1), some [.sl []], some [(0, 1)], none, [some 0], 4, none⟩ .nil) ⟨40, some (false, 1), some [.sl []], none, some (45, 2, 48), [], 1, none⟩ .nil) ⟨42, some (false, 1), some [.sl []], none, some (83, 2, 32), [], 1, none⟩ (.node .nil ⟨43, some (false, 1), some [.sl []], none, some (99, 4, 40), [], 1, none⟩ .nil)) ⟨45, some (true, 2), some [.sl [], .sl []], some [(0, 1), (1, 1)], none, [some 0, some 1], 4, none⟩ (.node (.node .nil ⟨48, some (false, 1), some [.sl []], none, some (89, 9, 88), [], 1, none⟩ .nil) ⟨49, some (false, 1), some [.sl []], none, some (66, 13, 144), [], 1, none⟩ (.node .nil ⟨50, some (false, 1), some [.sl []], none, some (3, 1, 8), [], 1, none⟩ .nil)))) ⟨52, some (true, 7), some [.str [], .sl [], .sl [], .sl [], .int .i64 0, .sl [], .bool false], some [(0, 1), (1, 1), (2, 1), (3, 1), (4, 1), (5, 1), (6, 1)], none, [some 0, some 1, some 2, some 3, some 4, some 5, some 6], 4, none⟩ (.node (.node (.node (.node (.node .nil ⟨53, some (false, 1), some [.sl []], none, some (25, 2, 48), [], 1, none⟩ .nil) ⟨62, some (false, 1), some [.int .u64 0], none, none, [], 4, some .u64⟩ .nil) ⟨64, some (true, 3), some [.int .u64 0, .str [], .sl []], some [(0, 1), (1, 1), (2, 1)], none, [some 0, some 1, some 2], 4, none⟩ (.node .nil ⟨66, some (true, 13), some [.int .i64 0, .int .i64 0, .int .i64 0, .int .i64 0, .int .i64 0, .int .i64 0, .int .i64 0, .int .u64 0, .int .i64 0, .sl [], .int .u64 0, .str [], .sl []], some [(0, 1), (1, 1), (2, 1), (3, 1), (4, 1), (5, 1), (6, 1), (7, 1), (8, 1), (9, 1), (10, 3)], none, [some 0, some 1, some 2, some 3, some 4, some 5, some 6, some 7, some 8, some 9, some 10], 4, none⟩ .nil)) ⟨68, some (false, 1), some [.sl []], none, some (75, 2, 24), [], 1, none⟩ (.node (.node (.node .nil ⟨70, some (true, 2), some [.str [], .sl []], some [(0, 1), (1, 1)], none, [some 0, some 1], 4, none⟩ .nil) ⟨71, some (false, 1), some [.sl []], none, some (77, 7, 72), [], 1, none⟩ .nil) ⟨73, some (true, 3), some [.str [], .sl [], .sl []], some [(0, 1), (1, 1), (2, 1)], none, [some 0, some 1, some 2], 4, none⟩ (.node .nil ⟨75, some (true, 2), some [.str [], .int .i64 0], some [(0, 1), (1, 1)], none, [some 0, some 1], 4, none⟩ .nil))) ⟨77, some (true, 7), some [.str [], .int .i64 0, .int .i64 0, .str [], .bool false, .bool false, .str []], some [(0, 1), (1, 1), (2, 1), (3, 1), (4, 1), (5, 1), (6, 1)], none, [some 0, some 1, some 2, some 3, some 4, some 5, some 6], 4, none⟩ (.node (.node (.node (.node .nil ⟨78, some (false, 1), some [.sl []], none, some (9, 1, 16), [], 1, none⟩ .nil) ⟨80, some (true, 12), some [.int .i64 0, .str [], .str [], .str [], .str [], .int .i64 0, .int .i64 0, .int .i64 0, .sl [], .int .u64 0, .str [], .sl []], some [(0, 1), (1, 1), (2, 1), (3, 1), (4, 1), (5, 1), (6, 1), (7, 1), (8, 1), (9, 3)], none, [some 0, some 1, some 2, some 3, some 4, some 5, some 6, some 7, some 8, some 9], 4, none⟩ .nil) ⟨81, some (false, 1), some [.sl []], none, some (64, 3, 48), [], 1, none⟩ (.node .nil ⟨83, some (true, 2), some [.int .i64 0, .sl []], some [(0, 1), (1, 1)], none, [some 0, some 1], 4, none⟩ .nil)) ⟨89, some (true, 9), some [.str [], .int .i64 0, .int .i64 0, .str [], .bool false, .bool false, .str [], .int .i64 0, .int .i64 0], some [(0, 7), (7, 1), (8, 1)], none, [some 0, some 7, some 8], 4, none⟩ (.node (.node .nil ⟨99, some (true, 4), some [.int .i64 0, .int .i64 0, .int .u64 0, .str []], some [(0, 1), (1, 1), (2, 1), (3, 1)], none, [some 0, some 1, some 2, some 3], 4, none⟩ .nil) ⟨142, some (true, 2), some [.int .i64 0, .int .u64 0], some [(0, 1), (1, 1)], none, [some 0, some 1], 4, none⟩ (.node .nil ⟨180, some (true, 16), some [.int .i64 0, .int .i64 0, .int .i64 0, .int .i64 0, .int .i64 0, .int .i64 0, .int .i64 0, .int .i64 0, .int .i64 0, .int .i64 0, .int .i64 0, .int .i64 0, .int .i64 0, .int .i64 0, .int .i64 0, .int .i64 0], none, none, [], 4, none⟩ .nil)))))
theorem II : Io.ok Tryz.prog := by unfold TT.ok; kernel_rfl
/- The program logic's rules: a text appended to a row; to a fresh conversion. No condition. -/
section
variable {P : Program} {N : Nat} {s : St} {d : Nat} {ty : TypeId} {pos : String} {af : Array Edge} {g : Option (Nat × Bool)}
end
open Go Go.RowKit Go.ChangeShapes Go.WideShapes Go.ChangeAt
/- The law frame: from a call in the program logic to what a statement asks. No condition. -/
open Go.ChangeMaps (open_string shut_string)

def Ad (W : World) : Gh := ⟨fun b o => W.cell? ⟨b, o, none⟩, fun _ => none, fun _ => 0⟩
def HU : Hp := ⟨0, fun _ => none⟩
theorem pD (G : Gh) (W : World) (b : Nat) : ¬ aZ G HU W b := by
 rintro (⟨id, ⟨cs, h⟩, _⟩ | ⟨id, j, cs, el, esz, xs, b0, arr, t, fr, h, _⟩) <;> cases h
theorem Fa (G : Gh) (W : World) (h : ∀ i, G.ob i = none) : dK G W HU := by
 refine ⟨fun id b e => ?_, fun id id' b e => ?_, fun id cs e => (by cases e), fun id j blk hr => ?_⟩
 ·rw [h] at e; cases e
 ·rw [h] at e; cases e
 ·exact absurd (.inr ⟨id, j, hr⟩) (pD G W blk)
section
variable {H : Type} {enc : TypeId × Value → H} {P : Program} {W W' : World}
theorem kg (hl : laidOutB P = true) (hb : Below W.heap.size W W') : ∀ {ts : List TypeId} {vs : List Value} {ds : List (DataW H)} {ps : List MemPlace},
  ts.all (fun t => P.readableRec t && decide (t < P.types.size)) = true → DataW.TrodAll enc P W 0 (fun _ => true) true ts vs ds ps → DataW.TrodAll enc P W' 0 (fun b => decide (b < W.heap.size)) true ts vs ds ps
 | [], vs, ds, ps, _, h => by
  obtain ⟨rfl, rfl, rfl⟩ := trodAll_nil h
  exact trodAll_mk0
 | t :: ts, vs, ds, ps, hr, h => by
  have hlt := h.lt
  obtain ⟨v, vs1, d, ds1, a, b, rfl, rfl, rfl, h1, h2⟩ := trodAll_cons h
  simp only [List.all_cons, Bool.and_eq_true, decide_eq_true_eq] at hr
  exact trodAll_cons_mk (Below.trod hl hr.1.1 hr.1.2 h1 hb fun x hx => hlt x (by simp [hx])) (kg hl hb hr.2 h2)
theorem xo {f : Func} {s : ChangeSpec} {t : TypeId} {args : Array Value} {ds gs : List (DataW H)} {before : List MemPlace} (hl : laidOutB P = true)
  (hr : f.params.toList.all (fun t => P.readableRec t && decide (t < P.types.size)) = true) (hvr : s.vars = []) (hW : DataW.Whole enc P f.params.toList s.vars false W args.toList ds gs before) (hb : Below W.heap.size W W')
  (hs : s.fn H (ds ++ gs) = { results := [.lit (.bool true)], args := ds, vars := gs }) (ht : f.resultTypes = #[t]) (hu : P.underlying t = some .bool) :
  s.post enc P f false true false false W args (.bool true) W' := by
 have hW' := hW
 obtain ⟨p, q, hA, hV, rfl, hfz, hnd⟩ := hW
 refine ⟨ds, gs, p ++ q, [], p, q, hW', ?_, ?_, ?_, ?_, fun h => by cases h⟩
 ·rw [hs, ht]
  exact trodAll_cons_mk (shut_bool hu true) trodAll_mk0
 ·rw [hs]; exact kg hl hb hr hA
 ·rw [hvr] at hV ⊢
  obtain ⟨rfl, rfl⟩ := trodVars_none hV
  rw [hs]; rfl
 ·exact hb.frame _

end
/- The program logic's rules: a call of which only the answer is told. No condition. -/
def B6 (P : Program) (f : FuncId) (args : List AV) (H : Hp) (r : AV) : Prop :=
 ∀ G w cargs, GE ⟨G, w, aZ G H w, []⟩ → eT G w → dK G w H → VL G cargs args → Calls P f cargs w fun e w' => ∃ v G', e = .returned v ∧ V G' v r ∧ Fr (aZ G H w) w w'
theorem B6.aN {P : Program} {f : FuncId} {fn : Func} {c : Code} {N : Nat} {args : List AV} {H : Hp} {r : AV} (hf : P.funcs[f]? = some fn) (hb : fn.body = some c) (hN : fn.ntmps = N) (hle : args.length ≤ N)
  (h : aC P N c ((.h, .hp H) :: ek args 0) fun e s' => (e = .normal ∨ e = .ret) ∧ aE P fn s' r) : B6 P f args H r := by
 intro G w cargs hg hk hH hV
 refine calls_of_wp hf hb ?_
 have h0 := qt hN hle hg hk hH hV
 refine wp_mono (h ⟨G, w, aZ G H w, []⟩ _ w h0) ?_
 rintro e a' w' ⟨s', ⟨G', L', hr⟩, he, hres⟩
 obtain ⟨v, hv, hV'⟩ := hres _ _ _ _ _ _ hr
 have hpost : ∃ v2 G', Ending.returned v = .returned v2 ∧ V G' v2 r ∧ Fr (aZ G H w) w w' := ⟨v, G', rfl, hV', hr.fr⟩
 rcases he with rfl | rfl
 ·exact ⟨hr.defs, v, hv, hpost⟩
 ·exact ⟨hr.defs, v, hv, hpost⟩
theorem A5 {P : Program} {f : FuncId} {xs : List AV} (h : B6 P f xs HU (.bool true)) {W : World} {args : Array Value} (hg : EC W ∧ gN ≤ W.heap.size) (hv : VL (Ad W) args xs) :
  Calls P f args W fun e w' => e = .returned (.bool true) ∧ Below W.heap.size W w' := by
 refine (h (Ad W) W args ⟨hg.1, hg.2, fun g _ => pD _ _ g⟩ (fun b o v e => e) (Fa _ _ fun _ => rfl) hv).mono fun e w' ⟨v, G', he, hV, hf⟩ => ?_
 cases hV
 exact ⟨he, hf.os, hf.tape, hf.output, hf.size, fun k hk => hf.block k hk (pD _ _ k)⟩
/- The law frame: lists of texts, numbers. No condition. -/
section
variable {H : Type} {enc : TypeId × Value → H} {P : Program} {W W' : World}
theorem cell_spot {a : Addr} {v : Value} (h : W.cell? a = some v) : a.spot = none := by
 unfold World.cell? at h
 split at h
 ·split at h
  ·cases h
  ·rename_i hns; simpa using hns
 ·cases h
theorem Bt (s : ByteArray) : s = ⟨s.data.toList.toArray⟩ := by cases s; simp
end
/- The law frame: slices of whatever. No condition. -/
section
variable {H : Type} {enc : TypeId × Value → H} {P : Program} {W W' : World}
end
/- The program logic's rules: contracts of the library, said of worlds, as calls of the logic. No condition. -/
theorem Pure.AF {P : Program} {f : FuncId} {args : List AV} {r : AV}
  (h : ∀ G w cargs, EC w → gN ≤ w.heap.size → eT G w → VL G cargs args → Calls P f cargs w fun e w' => ∃ v, e = .returned v ∧ V G v r ∧ Below w.heap.size w w') : Pure P f args r := by
 intro H G w cargs hg hk hH hV
 refine (h G w cargs hg.1 hg.2.1 hk hV).mono ?_
 rintro e w' ⟨v, he, hv, hb⟩
 obtain ⟨h1, h2⟩ := hH.stay (G' := G) (Gh.le.refl G) rfl (fun b hb' o => (hH.aZ hb').2 o) (fun b hb' => hb.block b (hH.aZ hb').1) hb.size
 refine ⟨v, G, he, hv, ⟨fun _ _ _ _ => rfl, fun _ _ h => ⟨h, rfl⟩, fun _ _ h => .inl ⟨_, h⟩⟩, fun b o u e2 => ?_, h1, ⟨hb.os, hb.tape, hb.output, hb.size, fun k hk' _ => hb.block k hk'⟩, fun b hb' => .inr ((h2 b).1 hb')⟩
 rw [World.cell?_of_block (w := w) (hb.block b (hk.lt e2))]
 exact hk b o u e2
theorem VL.one {G : Gh} {c : Array Value} {a : AV} (h : VL G c [a]) : ∃ x, c = #[x] ∧ V G x a := by
 obtain ⟨h1, h2⟩ := h
 obtain ⟨l⟩ := c
 match l, h1 with
 | [x], _ => exact ⟨x, rfl, h2 0 a rfl⟩
theorem V.EY {G : Gh} {v : Value} {s : List UInt8} (h : V G v (.str s)) : v = .string ⟨s.toArray⟩ := by cases h; rfl
theorem V.int_eq {G : Gh} {v : Value} {k : IntKind} {n : Int} (h : V G v (.int k n)) : v = .int k n := by cases h; rfl
section
variable {P : Program} {N : Nat} {s : St} {d : Nat} {ty : TypeId} {pos : String} {af : Array Edge} {g : Option (Nat × Bool)}
end
/- The law frame: whatever comes in of plain types, opened at once. No condition. -/
def pack (P : Program) (t : TypeId) (cs : List AV) : AV :=
 match P.underlying t with
 | some (.struct _) | some (.array _ _) => .agg cs
 | _ => cs.headD .junk
def Dc (P : Program) (R : TypeId → List AV → Prop) : List TypeId → List AV → Prop
 | [], cs => cs = []
 | t :: ts, cs => ∃ a b, cs = a ++ b ∧ a.length = P.cellsOf t ∧ R t a ∧ Dc P R ts b
def Ty (P : Program) : Nat → TypeId → List AV → Prop
 | 0, _, _ => False
 | n + 1, t, cs =>
  match P.underlying t with
  | some .bool => ∃ b, cs = [.bool b]
  | some (.int k) => ∃ m, cs = [.int k m] ∧ (Lit.int k m).wf = true
  | some .string => ∃ s : List UInt8, cs = [.str s] ∧ s.length ≤ reachBytes
  | some (.slice e) => ∃ css : List (List AV), cs = [.sl (css.map (pack P e))] ∧ css.length * P.bytesOf e ≤ reachBytes ∧ ∀ c ∈ css, Ty P n e c
  | some (.struct fs) => Dc P (Ty P n) (fs.toList.map (·.type)) cs
  | some (.array m e) => Dc P (Ty P n) (List.replicate m e) cs
  | _ => False
def nj (P : Program) : List Field → Nat → Nat → Bool
 | [], o, n => o == n
 | f :: fs, o, n => f.offset == o && nj P fs (o + P.cellsOf f.type) n
def ko (P : Program) (S : List TypeId) (t : TypeId) : Bool :=
 match P.underlying t with
 | some .bool | some (.int _) | some .string => P.cellsOf t == 1
 | some (.slice e) => P.cellsOf t == 1 && S.contains e && decide (0 < P.cellsOf e)
 | some (.struct fs) => (fs.toList.all fun f => S.contains f.type) && nj P fs.toList 0 (P.cellsOf t)
 | some (.array n e) => S.contains e && P.cellsOf t == n * P.cellsOf e
 | _ => false
section
variable {H : Type} {enc : TypeId × Value → H} {P : Program} {W : World}
def dj (W : World) (cs : List Value) (acs : List AV) : Prop := acs.length = cs.length ∧ ∀ (j : Nat) c, acs[j]? = some c → c.flat = true ∧ V (Ad W) (cs.getD j undef) c
theorem dj.one {v : Value} {a : AV} (hf : a.flat = true) (h : V (Ad W) v a) : dj W [v] [a] :=
 ⟨rfl, fun j c hc => by
  match j, hc with
  | 0, hc => cases hc; exact ⟨hf, h⟩⟩
theorem dj.app {a b : List Value} {x y : List AV} (h1 : dj W a x) (h2 : dj W b y) : dj W (a ++ b) (x ++ y) := by
 refine ⟨by simp [h1.1, h2.1], fun j c hc => ?_⟩
 by_cases hj : j < x.length
 ·rw [List.getElem?_append_left hj] at hc
  have := h1.2 j c hc
  rwa [List.getD_eq_getElem?_getD, List.getElem?_append_left (by rw [← h1.1]; exact hj), ← List.getD_eq_getElem?_getD]
 ·rw [List.getElem?_append_right (by omega)] at hc
  have := h2.2 _ c hc
  rwa [List.getD_eq_getElem?_getD, List.getElem?_append_right (by rw [← h1.1]; omega), ← List.getD_eq_getElem?_getD, ← h1.1]
theorem pack_cells {S : List TypeId} {t : TypeId} {cs : List Value} {acs : List AV} (h : dj W cs acs) (hc : cs.length = P.cellsOf t) (hp : ko P S t = true) : (pack P t acs).cells = acs ∧ ∀ vs, pack P t acs ≠ .tup vs := by
 unfold pack
 unfold ko at hp
 split
 ·exact ⟨rfl, fun _ h => by cases h⟩
 ·exact ⟨rfl, fun _ h => by cases h⟩
 ·have h1 : P.cellsOf t = 1 := by
   split at hp <;> simp_all
  obtain ⟨h2, h3⟩ := h
  match acs, h2 with
  | [a], _ =>
   have hf := (h3 0 a rfl).1
   exact ⟨AV.fR hf, fun vs e => by simp at e; subst e; simp [AV.flat] at hf⟩
  | [], h2 => simp at h2; omega
  | _ :: _ :: _, h2 => simp at h2; omega
theorem gO {P : Program} {e : TypeId} : ∀ {l : List (DataW H)} {d : DataW H} {n : Nat}, d ∈ l → n ∈ d.weights P e → n ∈ DataW.weightsAll P e l
 | x :: l, d, n, hd, hn => by
  simp only [DataW.weightsAll, List.mem_append]
  rcases List.mem_cons.1 hd with rfl | hd
  ·exact .inl hn
  ·exact .inr (gO hd hn)
theorem kQ (S : List TypeId) (hS : S.all (ko P S) = true) : ∀ (n : Nat) (t : TypeId) (cs : List Value) (y : DataW H × List MemPlace), t ∈ S → DataW.trod enc P W 0 (fun _ => true) true n t cs = some y → (∀ k ∈ y.1.weights P t, k ≤ reachBytes) →
  cs.length = P.cellsOf t ∧ ∃ acs, dj W cs acs ∧ Ty P n t acs
 | 0, _, _, _, _, h, _ => by simp [DataW.trod] at h
 | n + 1, t, cs, y, ht, h, hw => by
  have hp := List.all_eq_true.1 hS t ht
  have HU := hp
  unfold ko at hp
  split at hp
  ·rename_i hu
   obtain ⟨b, rfl, _⟩ := DataW.trod_bool hu h
   exact ⟨by simpa using (eq_of_beq hp).symm, [.bool b], dj.one rfl (.bool b), by unfold Ty; rw [hu]; exact ⟨b, rfl⟩⟩
  ·rename_i k hu
   obtain ⟨m, rfl, _, hwf⟩ := DataW.trod_int hu h
   exact ⟨by simpa using (eq_of_beq hp).symm, [.int k m], dj.one rfl (.int k m), by unfold Ty; rw [hu]; exact ⟨m, rfl, hwf⟩⟩
  ·rename_i hu
   obtain ⟨s, rfl, rfl, _⟩ := DataW.trod_string hu h
   have hw' : s.data.toList.length ≤ reachBytes := hw _ (by simp [DataW.weights])
   refine ⟨by simpa using (eq_of_beq hp).symm, [.str s.data.toList], dj.one rfl ?_, by unfold Ty; rw [hu]; exact ⟨_, rfl, hw'⟩⟩
   have := V.str (G := Ad W) s.data.toList
   rwa [← Bt] at this
  ·rename_i e hu
   simp only [Bool.and_eq_true, decide_eq_true_eq, List.contains_iff_mem] at hp
   obtain ⟨⟨hp1, hp2⟩, hp3⟩ := hp
   rcases DataW.trod_slice hu h with ⟨rfl, _⟩ | ⟨a, len, cap, elems, rest, n', hn, rfl, hy, _, hl, hm, hlen, hel, _, _⟩
   ·exact ⟨by simpa using (eq_of_beq hp1).symm, [.sl []], dj.one rfl (.slE _ _), by unfold Ty; rw [hu]; exact ⟨[], rfl, by simp, by simp⟩⟩
   ·cases hn
    rw [hy] at hw
    simp only [DataW.weights, hu] at hw
    have hwl := hw _ (List.mem_cons_self ..)
    have each : ∀ i, i < len → ∃ q : List AV × List Value, q.2.length = P.cellsOf e ∧ dj W q.2 q.1 ∧ Ty P n e q.1 ∧ ∀ j, j < P.cellsOf e → W.cell? ((a.add (i * P.cellsOf e)).add j) = q.2[j]? := by
     intro i hi
     have h1 := hel i hi
     rw [List.getElem?_eq_getElem (by omega)] at h1
     obtain ⟨cs', h2, h3⟩ := Option.bind_eq_some_iff.1 h1
     obtain ⟨_, h4, h5⟩ := World.cells?_some h2
     obtain ⟨_, acs, h6, h7⟩ := kQ S hS n e cs' _ hp2 h3 (fun k hk => hw k (List.mem_cons_of_mem _ (List.mem_append.2 (.inl (gO (List.mem_map.2 ⟨_, List.getElem_mem (show i < elems.length by omega), rfl⟩) hk)))))
     exact ⟨(acs, cs'), h4, h6, h7, h5⟩
    obtain ⟨q, hq⟩ : ∃ q : Nat → List AV × List Value, ∀ i, i < len → (q i).2.length = P.cellsOf e ∧ dj W (q i).2 (q i).1 ∧ Ty P n e (q i).1 ∧ ∀ j, j < P.cellsOf e → W.cell? ((a.add (i * P.cellsOf e)).add j) = (q i).2[j]? :=
     ⟨fun i => if h : i < len then (each i h).choose else ([], []), fun i hi => by simp only [dif_pos hi]; exact (each i hi).choose_spec⟩
    let css : List (List AV) := (List.range len).map fun i => (q i).1
    let l : List AV := css.map (pack P e)
    have hll : l.length = len := by simp [l, css]
    have hg : ∀ (i : Nat) x, l[i]? = some x → i < len ∧ x = pack P e (q i).1 := by
     intro i x hx
     have hi : i < len := by have := (List.getElem?_eq_some_iff.1 hx).1; omega
     simp only [l, css, List.map_map, List.getElem?_map, List.getElem?_range hi, Option.map_some, Function.comp] at hx
     cases hx; exact ⟨hi, rfl⟩
    have hpk : ∀ i, i < len → (pack P e (q i).1).cells = (q i).1 := fun i hi => (pack_cells (hq i hi).2.1 (hq i hi).1 (List.all_eq_true.1 hS e hp2)).1
    refine ⟨by simpa using (eq_of_beq hp1).symm, [.sl l], dj.one rfl ?_, ?_⟩
    ·by_cases h0 : len = 0
     ·have : l = [] := List.length_eq_zero_iff.1 (by omega)
      rw [this, h0]; exact .slE _ _
     ·have hsp : a.spot = none := by
       obtain ⟨h1, h2, _, h4⟩ := hq 0 (by omega)
       have := h4 0 hp3
       rw [List.getElem?_eq_getElem (by omega)] at this
       have := cell_spot this
       simpa [Addr.add] using this
      obtain ⟨b, o, sp⟩ := a
      simp only at hsp
      subst hsp
      have key : V (Ad W) (.slice (some ⟨b, o, none⟩) l.length cap) (.sl l) := by
       refine V.slN b o cap (P.cellsOf e) l (fun i j => (q i).2.getD j undef) (by omega) ?_ ?_ ?_ ?_
       ·intro i x hx
        obtain ⟨hi, rfl⟩ := hg i x hx
        rw [hpk i hi, (hq i hi).2.1.1, (hq i hi).1]
       ·intro i x j c hx hj
        obtain ⟨hi, rfl⟩ := hg i x hx
        rw [hpk i hi] at hj
        have hj' : j < P.cellsOf e := by have := (List.getElem?_eq_some_iff.1 hj).1; rw [(hq i hi).2.1.1, (hq i hi).1] at this; exact this
        have := (hq i hi).2.2.2 j hj'
        rw [Addr.add_lit, Addr.add_lit] at this
        rw [List.getElem?_eq_getElem (by rw [(hq i hi).1]; exact hj')] at this
        rw [List.getD_eq_getElem?_getD, List.getElem?_eq_getElem (by rw [(hq i hi).1]; exact hj')]
        simpa [Ad] using this
       ·intro i x j c hx hj
        obtain ⟨hi, rfl⟩ := hg i x hx
        rw [hpk i hi] at hj
        exact ((hq i hi).2.1.2 j c hj).1
       ·intro i x j c hx hj
        obtain ⟨hi, rfl⟩ := hg i x hx
        rw [hpk i hi] at hj
        exact ((hq i hi).2.1.2 j c hj).2
      rw [hll] at key
      exact key
    ·unfold Ty
     rw [hu]
     refine ⟨css, rfl, ?_, fun c hc => ?_⟩
     ·have hcl : css.length = len := by simp [css]
      rw [hcl]
      refine Nat.le_trans (Nat.mul_le_mul_right _ ?_) hwl
      rw [List.length_map, List.length_map, hlen]; omega
     obtain ⟨i, hi, rfl⟩ := List.mem_map.1 hc
     exact (hq i (by simpa using hi)).2.2.1
  ·rename_i fs hu
   simp only [Bool.and_eq_true, List.all_eq_true, List.contains_iff_mem] at hp
   obtain ⟨hp1, hp2⟩ := hp
   obtain ⟨xs, n', hn, hy, hl, hlen, hf⟩ := DataW.trod_struct hu h
   cases hn
   rw [hy] at hw
   simp only [DataW.weights, hu] at hw
   have key : ∀ (l : List Field) (o : Nat) (cs : List Value), (∀ f ∈ l, f.type ∈ S) → nj P l o (o + cs.length) = true → (∀ f ∈ l, o ≤ f.offset → ∃ y, DataW.trod enc P W 0 (fun _ => true) true n f.type ((cs.drop (f.offset - o)).take (P.cellsOf f.type)) = some y ∧ ∀ k ∈ y.1.weights P f.type, k ≤ reachBytes) →
     ∃ acs, dj W cs acs ∧ Dc P (Ty P n) (l.map (·.type)) acs := by
    intro l
    induction l with
    | nil =>
     intro o cs _ ht _
     have : cs = [] := List.length_eq_zero_iff.1 (by simp only [nj, beq_iff_eq] at ht; omega)
     subst this
     exact ⟨[], ⟨rfl, by simp⟩, rfl⟩
    | cons f l ih =>
     intro o cs hin ht hx
     simp only [nj, Bool.and_eq_true, beq_iff_eq] at ht
     obtain ⟨ho, ht⟩ := ht
     obtain ⟨y, hy, hyw⟩ := hx f (by simp) (by omega)
     rw [ho, Nat.sub_self, List.drop_zero] at hy
     obtain ⟨h1, a, h2, h3⟩ := kQ S hS n f.type _ y (hin f (by simp)) hy hyw
     rw [List.length_take] at h1
     have hle : ∀ (l : List Field) (o m : Nat), nj P l o m = true → (∀ g ∈ l, o ≤ g.offset) := by
      intro l
      induction l with
      | nil => intro o m _ g hg; cases hg
      | cons g' l ih2 =>
       intro o m hm g hg
       simp only [nj, Bool.and_eq_true, beq_iff_eq] at hm
       rcases List.mem_cons.1 hg with rfl | hg
       ·omega
       ·have := ih2 _ _ hm.2 g hg; omega
     obtain ⟨b, h4, h5⟩ := ih (o + P.cellsOf f.type) (cs.drop (P.cellsOf f.type)) (fun g hg => hin g (by simp [hg])) (by rw [List.length_drop, show o + P.cellsOf f.type + (cs.length - P.cellsOf f.type) = o + cs.length by omega]; exact ht) (fun g hg hog => by
      obtain ⟨y2, hy2, hyw2⟩ := hx g (by simp [hg]) (by omega)
      refine ⟨y2, ?_, hyw2⟩
      rw [List.drop_drop, show P.cellsOf f.type + (g.offset - (o + P.cellsOf f.type)) = g.offset - o by omega]
      exact hy2)
     refine ⟨a ++ b, ?_, a, b, rfl, by rw [h2.1, List.length_take]; exact h1, h3, h5⟩
     have := h2.app h4
     rwa [List.take_append_drop] at this
   refine ⟨hl, ?_⟩
   obtain ⟨acs, h1, h2⟩ := key fs.toList 0 cs (fun f hf => hp1 f hf) (by rw [Nat.zero_add, hl]; exact hp2) (fun f hf' _ => by
    obtain ⟨i, hi⟩ := List.mem_iff_getElem?.1 hf'
    have hi' : fs[i]? = some f := by simpa using hi
    have h3 := hf i f hi'
    have hlt : i < xs.length := by rw [hlen]; exact (Array.getElem?_eq_some_iff.1 hi').1
    refine ⟨xs[i], by rw [Nat.sub_zero, h3, List.getElem?_eq_getElem hlt], fun k hk => hw k (DataW.weights_mem_each (j := i) (t := f.type) (d := xs[i].1) ?_ ?_ k hk)⟩
    ·rw [List.getElem?_map, hi]; rfl
    ·rw [List.getElem?_map, List.getElem?_eq_getElem hlt]; rfl)
   exact ⟨acs, h1, by unfold Ty; rw [hu]; exact h2⟩
  ·rename_i m e hu
   simp only [Bool.and_eq_true, List.contains_iff_mem, beq_iff_eq] at hp
   obtain ⟨hp1, hp2⟩ := hp
   obtain ⟨xs, n', hn, hy, hl, hlen, hf⟩ := DataW.trod_array hu h
   cases hn
   rw [hy] at hw
   simp only [DataW.weights, hu] at hw
   have key : ∀ (k : Nat) (cs : List Value), cs.length = k * P.cellsOf e → (∀ i, i < k → ∃ y, DataW.trod enc P W 0 (fun _ => true) true n e ((cs.drop (i * P.cellsOf e)).take (P.cellsOf e)) = some y ∧ ∀ k ∈ y.1.weights P e, k ≤ reachBytes) →
     ∃ acs, dj W cs acs ∧ Dc P (Ty P n) (List.replicate k e) acs := by
    intro k
    induction k with
    | zero =>
     intro cs hc _
     have : cs = [] := List.length_eq_zero_iff.1 (by omega)
     subst this
     exact ⟨[], ⟨rfl, by simp⟩, rfl⟩
    | succ k ih =>
     intro cs hc hx
     obtain ⟨y, hy, hyw⟩ := hx 0 (by omega)
     rw [Nat.zero_mul, List.drop_zero] at hy
     obtain ⟨h1, a, h2, h3⟩ := kQ S hS n e _ y hp1 hy hyw
     obtain ⟨b, h4, h5⟩ := ih (cs.drop (P.cellsOf e)) (by rw [List.length_drop, hc, Nat.succ_mul]; omega) (fun i hi => by
      obtain ⟨y2, hy2, hyw2⟩ := hx (i + 1) (by omega)
      refine ⟨y2, ?_, hyw2⟩
      rw [List.drop_drop, show P.cellsOf e + i * P.cellsOf e = (i + 1) * P.cellsOf e by rw [Nat.succ_mul]; omega]
      exact hy2)
     refine ⟨a ++ b, ?_, a, b, rfl, by rw [h2.1]; exact h1, h3, h5⟩
     have := h2.app h4
     rwa [List.take_append_drop] at this
   obtain ⟨acs, h1, h2⟩ := key m cs (by rw [hl]; exact hp2) (fun i hi => by
    have h3 := hf i hi
    exact ⟨xs[i], by rw [h3, List.getElem?_eq_getElem (by omega)], fun k hk => hw k (gO (List.mem_map.2 ⟨_, List.getElem_mem (show i < xs.length by omega), rfl⟩) hk)⟩)
   exact ⟨hl, acs, h1, by unfold Ty; rw [hu]; exact h2⟩
  ·cases hp
theorem zj (S : List TypeId) (hS : S.all (ko P S) = true) {r : Reach} {b0 : Nat} {t : TypeId} {v : Value} {d : DataW H} {ps : List MemPlace} (ht : t ∈ S) (hval : Value.okWide P W r b0 t v)
  (hd : DataW.Trod enc P W 0 (fun _ => true) true t v d ps) (hw : ∀ k ∈ d.weights P t, k ≤ reachBytes) : ∃ acs n, V (Ad W) v (pack P t acs) ∧ Ty P n t acs := by
 obtain ⟨n, hd⟩ := hd
 obtain ⟨hl, acs, h1, h2⟩ := kQ S hS n t _ _ ht hd hw
 refine ⟨acs, n, ?_, h2⟩
 have hp := List.all_eq_true.1 hS t ht
 have agg : ∀ cs, v = .agg cs → V (Ad W) v (.agg acs) := by
  rintro cs rfl
  exact .agg cs acs (by have := h1.1; simpa [Value.cells] using this.symm) (fun j c hc => (h1.2 j c hc).1) fun j c hc => by
   have := (h1.2 j c hc).2
   simpa [Value.cells, List.getD_eq_getElem?_getD] using this
 unfold pack
 split
 ·rename_i fs hu
  obtain ⟨cs, rfl, _⟩ := okWide_struct hu hval
  exact agg cs rfl
 ·rename_i m e hu
  have : ∃ cs, v = .agg cs := by unfold Value.okWide at hval; rw [hu] at hval; obtain ⟨cs, h, _⟩ := hval; exact ⟨cs, h⟩
  obtain ⟨cs, rfl⟩ := this
  exact agg cs rfl
 ·rename_i hn1 hn2
  have hone : ∀ u, v.cells.toList = [u] → u = v → V (Ad W) v (acs.headD .junk) := by
   intro u hu e
   subst e
   obtain ⟨h3, h4⟩ := h1
   rw [hu] at h3 h4
   match acs, h3 with
   | [a], _ => exact (h4 0 a rfl).2
  unfold ko at hp
  split at hp
  ·rename_i hu
   obtain ⟨b, h3, _⟩ := DataW.trod_bool hu hd
   refine hone _ h3 ?_
   cases v <;> simp_all [Value.cells]
   all_goals first | (rename_i x; obtain ⟨l⟩ := x; simp_all [Value.okWide]; done) | skip
   all_goals (unfold Value.okWide at hval; rw [hu] at hval; simp [Cell.okWide, hu, Cell.ok] at hval)
  ·rename_i k hu
   obtain ⟨m, h3, _⟩ := DataW.trod_int hu hd
   refine hone _ h3 ?_
   cases v <;> simp_all [Value.cells]
   all_goals (unfold Value.okWide at hval; rw [hu] at hval; simp [Cell.okWide, hu, Cell.ok] at hval)
  ·rename_i hu
   obtain ⟨s, rfl⟩ := okWide_string hu hval
   exact hone _ rfl rfl
  ·rename_i e hu
   obtain ⟨a, len, cap, rfl⟩ := okWide_slice hu hval
   exact hone _ rfl rfl
  ·rename_i fs hu; exact absurd hu (hn1 fs)
  ·rename_i m e hu; exact absurd hu (hn2 m e)
  ·cases hp
end
/- The program logic's rules: loops that change a few slots; what a loop over a slice is told by. No condition. -/
section
variable {P : Program} {N : Nat} {s : St} {Q : Exit → St → Prop}
theorem aC.aW {c : Code} {α : Type} (upd : α → St) (rest : St) (I : α → Prop) (m : α → Nat) (a0 : α) (hs : s = upd a0 ++ rest) (h0 : I a0)
  (hb : ∀ a, I a → aC P N c (upd a ++ rest) fun e s' => match e with | .normal => ∃ b, m b < m a ∧ I b ∧ s' = upd b ++ rest | e => Q e s') : aC P N (.loop c) s Q := by
 refine aC.loop (fun n t => ∃ a, m a = n ∧ I a ∧ t = upd a ++ rest) ?_ (n := m a0) ⟨a0, rfl, h0, hs⟩
 rintro n t ⟨a, rfl, ha, rfl⟩
 refine (hb a ha).mono fun e s' h => ?_
 cases e with
 | normal => obtain ⟨b, h1, h2, h3⟩ := h; exact ⟨m b, h1, b, rfl, h2, h3⟩
 | _ => exact h
theorem aC.c8 {c d : Code} {α : Type} (cs : List aK) (upd : α → St) (F : α → Prop) {rest : St} (hr : X.aH cs s cs = some rest) (h1 : aC P N c s fun e s' => match e with | .normal => ∃ a, F a ∧ s' = upd a ++ rest | e => Q e s')
  (h2 : ∀ a, F a → aC P N d (upd a ++ rest) Q) : aC P N (.seq c d) s Q :=
 aC.join (fun s' => ∃ a, F a ∧ s' = upd a ++ rest) h1 fun s' ⟨a, ha, e⟩ => e ▸ h2 a ha
theorem Kept.aX {Q : St → Prop} (n : Nat) {k : IntKind} {v v' : Int} (h : get s (.s n) = some (.sv (.v (.int k v)))) (e : v = v') (hq : Kept ((.s n, .sv (.v (.int k v'))) :: s) Q) : Kept s Q := fun E N a w ⟨G, L, hr⟩ => by
 subst e
 refine hq E N a w ⟨G, L, hr.ext fun c => ?_⟩
 simp only [get]
 split
 ·rename_i hc; subst hc; exact h.symm
 ·rfl
theorem Kept.k6 {Q : St → Prop} {H H' : Hp} (h : get s .h = some (.hp H)) (e : H = H') (hq : Kept ((.h, .hp H') :: s) Q) : Kept s Q := fun E N a w ⟨G, L, hr⟩ => by
 subst e
 refine hq E N a w ⟨G, L, hr.ext fun c => ?_⟩
 simp only [get]
 split
 ·rename_i hc; subst hc; exact h.symm
 ·rfl
theorem Kept.IJ {Q : St → Prop} (n : Nat) {v v' : AV} (h : get s (.s n) = some (.sv (.v v))) (e : v = v') (hq : Kept ((.s n, .sv (.v v')) :: s) Q) : Kept s Q := fun E N a w ⟨G, L, hr⟩ => by
 subst e
 refine hq E N a w ⟨G, L, hr.ext fun c => ?_⟩
 simp only [get]
 split
 ·rename_i hc; subst hc; exact h.symm
 ·rfl
end
theorem aD.g3 {P : Program} {N : Nat} {ops : Array Oper} {l : List Oper} {s : St} {Q : St → Prop} {o : Oper} {R : List aK} {A : List (List Nat)} {acc : List (List aK × St)} {c c' c2 : aK} {v u y : CV} {d : Nat} {b b' : Bool} (hg : fh ops o = some (d, b)) (hN : d < N) (hc : get s (.s d) = some (.sv (.v (.bool b')))) (hb : b' = b) (ho : aY P N o s R [(c, v), (c', u), (c2, y)]) (h : aD P N ops A Q (acc ++ [(.s d :: R, [(c, v), (c', u), (c2, y)])]) l ((c, v) :: (c', u) :: (c2, y) :: s)) : aD P N ops A Q acc (o :: l) s := aD.cons (bc.on hN hg (hb ▸ hc) ho) h
section
variable {P : Program} {N : Nat} {s : St} {d : Nat} {ty : TypeId} {pos : String} {af : Array Edge} {g : Option (Nat × Bool)}
theorem nS {ts : Array TypeId} {x y : Operand} {k k' : IntKind} {m n : Int} (hN : d < N) (hx : cU x s = some (.int k m)) (hy : cU y s = some (.int k' n)) :
  aY P N ⟨some d, .call { callee := .builtin .max, args := #[x, y], argTypes := ts }, ty, pos, af, g⟩ s (rd x ++ rd y) [(.s d, .sv (.v (.int k (if n > m then n else m))))] :=
 aY.val rfl hN fun _ G _ a w _ hr hR => by
  refine ⟨.int k (if n > m then n else m), ?_, .int _ _⟩
  have h1 := (aS hr hR.left hx).int_eq
  have h2 := (aS hr hR.right hy).int_eq
  simp [execOp, resolve, invoke, builtin, h1, h2, run_max_int2]
theorem wZ {ts : Array TypeId} {x y : Operand} {k k' : IntKind} {m n : Int} (hN : d < N) (hx : cU x s = some (.int k m)) (hy : cU y s = some (.int k' n)) :
  aY P N ⟨some d, .call { callee := .builtin .min, args := #[x, y], argTypes := ts }, ty, pos, af, g⟩ s (rd x ++ rd y) [(.s d, .sv (.v (.int k (if n < m then n else m))))] :=
 aY.val rfl hN fun _ G _ a w _ hr hR => by
  refine ⟨.int k (if n < m then n else m), ?_, .int _ _⟩
  have h1 := (aS hr hR.left hx).int_eq
  have h2 := (aS hr hR.right hy).int_eq
  simp [execOp, resolve, invoke, builtin, h1, h2, run_min_int2]
end
theorem Hp.set_set {H : Hp} {id : Nat} {a b : List Hc} : (H.set id a).set id b = H.set id b := by
 simp only [Hp.set]
 congr 1
 funext i
 split <;> rfl
theorem Hp.dG {H : Hp} {id : Nat} {hs : List Hc} : (H.set id hs).obj id = some hs := by simp [Hp.set]
theorem inc {n : Nat} (h : n < 9223372036854775807) : IntKind.i64.wrap ((n : Int) + 1) = ((n + 1 : Nat) : Int) := by
 simp only [IntKind.wrap, IntKind.bits, IntKind.signed]; simp; omega
theorem ch {α β : Type} {f : α → β} {xs : List α} {i : Nat} (h : decide ((i : Int) < ((xs.map f).length : Int)) = true) : i < xs.length := by
 have := of_decide_eq_true h; rw [List.length_map] at this; omega
theorem ck {α β : Type} {f : α → β} {xs : List α} {i : Nat} (h : decide ((i : Int) < ((xs.map f).length : Int)) = false) : xs.length ≤ i := by
 have := of_decide_eq_false h; rw [List.length_map] at this; omega
theorem bz {α β : Type} {f : α → β} {xs : List α} {i : Nat} (h : i < xs.length) : (xs.map f)[((i : Nat) : Int).toNat]? = some (f xs[i]) := by
 simp [h]
theorem JH {xs : List UInt8} {i : Nat} (h : decide ((i : Int) < (xs.length : Int)) = true) : i < xs.length := by
 have := of_decide_eq_true h; omega
theorem JJ {xs : List UInt8} {i : Nat} (h : decide ((i : Int) < (xs.length : Int)) = false) : xs.length ≤ i := by
 have := of_decide_eq_false h; omega
theorem HM {xs : List UInt8} {i : Nat} (h : i < xs.length) : xs[((i : Nat) : Int).toNat]? = some xs[i] := by
 simp [h]
theorem JG {i n : Nat} (h : decide ((i : Int) < (n : Int)) = true) : i < n := by
 have := of_decide_eq_true h; omega
theorem JI {i n : Nat} (h : decide ((i : Int) < (n : Int)) = false) : n ≤ i := by
 have := of_decide_eq_false h; omega
theorem yX {α β : Type} {f : α → β} {xs : List α} {i : Nat} {j : Int} (hj : j = (i : Int)) (h : i < xs.length) : (xs.map f)[j.toNat]? = some (f xs[i]) := by
 subst hj; simp [h]
theorem qB {i : Nat} (h : 0 < i) (h2 : i ≤ 9223372036854775807) : IntKind.i64.wrap ((i : Int) - 1) = ((i - 1 : Nat) : Int) := by
 simp only [IntKind.wrap, IntKind.bits, IntKind.signed]; simp; omega
/- The program logic's rules: a local box is known for ever from now on; maps of one's own. No condition. -/
section
variable {N : Nat} {s : St}
end
/-! ### arrays as values -/
section
variable {P : Program} {N : Nat} {s : St} {d : Nat} {ty : TypeId} {pos : String} {af : Array Edge} {g : Option (Nat × Bool)}
def Hi (P : Program) (t : TypeId) : Option (Nat × TypeId × Nat) :=
 match P.underlying t with
 | some (.array n e) => (P.info? e).map fun i => (n, e, i.size)
 | _ => none
theorem Cl {t1 : TypeId} {ps : List (Nat × Operand)} {n sz : Nat} {e : TypeId} {zs : List AV} {qs : List (Nat × AV)} {r : List AV} (hN : d < N) (ht : Hi P t1 = some (n, e, sz)) (hz : bu P t1 = some zs) (hq : j9 ps s = some qs) (hf : gi (fun i => some (i * sz, sz)) zs qs = some r) :
  aY P N ⟨some d, .build t1 ps.toArray, ty, pos, af, g⟩ s (lF (ps.map (·.2))) [(.s d, .sv (.v (.agg r)))] :=
 aY.val rfl hN fun E G L a w t hr hR => by
  have hparts := jM hr hR hq
  obtain ⟨i, z, hi, hzz, hrow0⟩ := qI hz
  have cE := hrow0 G
  obtain ⟨arr', hfill, hrow'⟩ := pP hparts cE hf
  unfold Hi at ht
  split at ht
  ·rename_i n' e' hu
   obtain ⟨ie, hie, e2⟩ := Option.map_eq_some_iff.1 ht
   cases e2
   refine ⟨.agg arr', ?_, V.agg _ _ hrow'.1 (fun j c e => (hrow'.2 j c e).1) (fun j c e => (hrow'.2 j c e).2)⟩
   have hfill' : Instr.fill (fun i => some (i * ie.size, ie.size)) z.cells (List.map (fun (x : Nat × Operand) => (x.1, a.eval x.2)) ps) = some arr' := by
    simpa using hfill
   simp only [execOp, Instr.build, Sem.run_bind, zeroValue, sizeOf, typeInfo, run_program, Result.andThen_ok, hi, hie, Sem.run_pure, hzz, run_underlying hu, List.map_toArray]
   rw [hfill']
   rfl
  ·cases ht
theorem FL {t1 : TypeId} {x i : Operand} {n : Nat} {e : TypeId} {cs : List AV} {k : IntKind} {j : Int} {c : AV} (hN : d < N) (ht : Hi P t1 = some (n, e, 1)) (hl : lk P e = some (false, 1)) (hx : cU x s = some (.agg cs)) (hi : cU i s = some (.int k j)) (h0 : 0 ≤ j) (h1 : j < n) (hc : cs[j.toNat]? = some c) :
  aY P N ⟨some d, .index t1 x i, ty, pos, af, g⟩ s (rd x ++ rd i) [(.s d, .sv (.v c))] :=
 aY.val rfl hN fun E G L a w t hr hR => by
  have hv := aS hr hR.left hx
  have hn := kI (aS hr hR.right hi)
  unfold Hi at ht
  split at ht
  ·rename_i n' e' hu
   obtain ⟨ie, hie, e2⟩ := Option.map_eq_some_iff.1 ht
   simp only [Prod.mk.injEq] at e2
   obtain ⟨rfl, rfl, h1s⟩ := e2
   generalize hav : a.eval x = u at hv
   cases hv with
   | agg vs _ hsz hf hvv =>
    have hlt : j.toNat < vs.size := by rw [hsz]; exact (List.getElem?_eq_some_iff.1 hc).1
    refine ⟨vs.getD j.toNat undef, ?_, hvv _ c hc⟩
    obtain ⟨ha, _⟩ := mT hl w
    have hp : (part e' vs (j.toNat * ie.size)).run P w = .ok (vs.getD j.toNat undef) w := by
     unfold part
     simp only [Sem.run_bind, ha, Result.andThen_ok, h1s, Nat.mul_one, Array.getElem?_eq_getElem hlt, Array.getD_eq_getD_getElem?]
     rfl
    simp [execOp, hav, hn, Instr.index, asIntOf, run_underlying hu, h0, h1, sizeOf, typeInfo, hie, hp]
  ·cases ht
end
/-! ### maps of one's own, of texts to whole numbers -/
section
open Go.Maps Go.MapKept
open Go.WideElems (Fit rd rg pl rd_val elemAt)
open Go.ChangeMaps (notKey putKey setBlock heap_setBlock_same heap_setBlock_other)
section
variable {P : Program} {N : Nat} {s : St} {d : Nat} {ty : TypeId} {pos : String} {af : Array Edge} {g : Option (Nat × Bool)}
end
end
/- The program logic's rules: a call that makes objects and lets go of them leaves all others as they were; a closure that turns objects. No condition. -/
inductive bE (D : Nat → Prop) : AV → Prop where
 | bool (b : Bool) : bE D (.bool b)
 | int (k : IntKind) (n : Int) : bE D (.int k n)
 | str (s : List UInt8) : bE D (.str s)
 | sl (xs : List AV) (h : ∀ x ∈ xs, bE D x) : bE D (.sl xs)
 | agg (xs : List AV) (h : ∀ x ∈ xs, bE D x) : bE D (.agg xs)
 | tup (xs : List AV) (h : ∀ x ∈ xs, bE D x) : bE D (.tup xs)
 | nilp : bE D .nilp
 | nsl : bE D .nsl
 | sll (n : Nat) : bE D (.sll n)
 | kp (xs : List AV) (h : ∀ x ∈ xs, bE D x) : bE D (.kp xs)
 | op (id off : Nat) (h : D id) : bE D (.op id off)
 | os (id n c : Nat) (h : D id) : bE D (.os id n c)
 | fn (f : FuncId) (xs : List AV) (h : ∀ x ∈ xs, bE D x) : bE D (.fn f xs)
 | nilf : bE D .nilf
 | yf (l : Nat) : bE D (.yf l)
 | ifc (t : TypeId) (v : AV) (h : bE D v) : bE D (.ifc t v)
 | nili : bE D .nili
 | junk : bE D .junk
theorem kS {α : Type} {l : List α} {x : α} (h : x ∈ l) : ∃ i : Nat, l[i]? = some x := List.mem_iff_getElem?.1 h
theorem bE.Ct {D : Nat → Prop} {e : AV} (h : ∀ c ∈ e.cells, bE D c) : bE D e := by
 by_cases hf : e.flat = true
 ·rw [AV.fR hf] at h
  exact h e (by simp)
 ·cases e with
  | agg cs => exact .agg cs h
  | tup vs => exact h _ (by simp [AV.cells])
  | _ => exact absurd rfl hf
theorem bE.Br {D : Nat → Prop} {e : AV} (h : bE D e) : ∀ c ∈ e.cells, bE D c := by
 intro c hc
 cases h with
 | agg cs hh => exact hh c hc
 | _ => simp [AV.cells] at hc; subst hc; constructor <;> assumption
theorem V.ops {G : Gh} {v : Value} {a : AV} (h : V G v a) : bE (fun id => ∃ b, G.ob id = some b) a := by
 induction h with
 | bool b => exact .bool b
 | int k n => exact .int k n
 | str s => exact .str s
 | junk v h => exact .junk
 | nilp => exact .nilp
 | nsl => exact .nsl
 | sll a n cap => exact .sll n
 | kp b off cs vs hk hf _ ih => exact .kp cs fun x hx => by obtain ⟨j, hj⟩ := kS hx; exact ih j x hj
 | op id off b e => exact .op id off ⟨b, e⟩
 | os id n s b c e hn hz => exact .os id n s ⟨b, e⟩
 | slE a cap => exact .sl [] (by simp)
 | slN b off cap esz xs vs hc he hk hf _ ih =>
  refine .sl xs fun x hx => ?_
  obtain ⟨i, hi⟩ := kS hx
  refine bE.Ct fun c hc => ?_
  obtain ⟨j, hj⟩ := kS hc
  exact ih i x j c hi hj
 | agg vs cs hl hf _ ih => exact .agg cs fun x hx => by obtain ⟨j, hj⟩ := kS hx; exact ih j x hj
 | tup vs cs hl _ ih => exact .tup cs fun x hx => by obtain ⟨j, hj⟩ := kS hx; exact ih j x hj
 | fn f vs cs hl _ ih => exact .fn f cs fun x hx => by obtain ⟨j, hj⟩ := kS hx; exact ih j x hj
 | nilf => exact .nilf
 | yf l => exact .yf l
 | ifc t v a _ ih => exact .ifc t a ih
 | nili => exact .nili
theorem bE.mono {D D' : Nat → Prop} (hd : ∀ i, D i → D' i) {a : AV} (h : bE D a) : bE D' a := by
 induction h with
 | bool b => exact .bool b
 | int k n => exact .int k n
 | str s => exact .str s
 | sl xs _ ih => exact .sl xs ih
 | agg xs _ ih => exact .agg xs ih
 | tup xs _ ih => exact .tup xs ih
 | nilp => exact .nilp
 | nsl => exact .nsl
 | sll n => exact .sll n
 | kp xs _ ih => exact .kp xs ih
 | op id off h => exact .op id off (hd _ h)
 | os id n c h => exact .os id n c (hd _ h)
 | fn f xs _ ih => exact .fn f xs ih
 | nilf => exact .nilf
 | yf l => exact .yf l
 | ifc t v _ ih => exact .ifc t v ih
 | nili => exact .nili
 | junk => exact .junk
def Gh.res (G : Gh) (n : Nat) : Gh := ⟨G.kn, fun id => if id < n then G.ob id else none, G.sz⟩
theorem V.res {G : Gh} {n : Nat} {v : Value} {a : AV} (h : V G v a) (ho : bE (fun id => id < n) a) : V (G.res n) v a := by
 induction h with
 | bool b => exact .bool b
 | int k m => exact .int k m
 | str s => exact .str s
 | junk v h => exact .junk v h
 | nilp => exact .nilp
 | nsl => exact .nsl
 | sll a m cap => exact .sll a m cap
 | kp b off cs vs hk hf _ ih =>
  cases ho with
  | kp _ hh => exact .kp b off cs vs hk hf fun j c hj => ih j c hj (hh c (List.mem_of_getElem? hj))
 | op id off b e =>
  cases ho with
  | op _ _ hh => exact .op id off b (by simp [Gh.res, hh, e])
 | os id n s b c e hn hz =>
  cases ho with
  | os _ _ _ hh => exact .os id n s b c (by simp [Gh.res, hh, e]) hn hz
 | slE a cap => exact .slE a cap
 | slN b off cap esz xs vs hc he hk hf _ ih =>
  cases ho with
  | sl _ hh => exact .slN b off cap esz xs vs hc he hk hf fun i e j c hi hj => ih i e j c hi hj ((hh e (List.mem_of_getElem? hi)).Br c (List.mem_of_getElem? hj))
 | agg vs cs hl hf _ ih =>
  cases ho with
  | agg _ hh => exact .agg vs cs hl hf fun j c hj => ih j c hj (hh c (List.mem_of_getElem? hj))
 | tup vs cs hl _ ih =>
  cases ho with
  | tup _ hh => exact .tup vs cs hl fun j c hj => ih j c hj (hh c (List.mem_of_getElem? hj))
 | fn f vs cs hl _ ih =>
  cases ho with
  | fn _ _ hh => exact .fn f vs cs hl fun j c hj => ih j c hj (hh c (List.mem_of_getElem? hj))
 | nilf => exact .nilf
 | yf l => exact .yf l
 | ifc t v a _ ih =>
  cases ho with
  | ifc _ _ hh => exact .ifc t v a (ih hh)
 | nili => exact .nili
theorem dW.nY {P : Program} {f : FuncId} {fn : Func} {c : Code} {N : Nat} {args : List AV} {H : Hp} {r : AV} (hf : P.funcs[f]? = some fn) (hb : fn.body = some c) (hN : fn.ntmps = N) (hle : args.length ≤ N) (hro : bE (fun id => id < H.next) r)
  (h : aC P N c ((.h, .hp H) :: ek args 0) fun e s' => (e = .normal ∨ e = .ret) ∧ aE P fn s' r ∧ ∃ H', get s' .h = some (.hp H') ∧ H.next ≤ H'.next ∧ ∀ i, i < H.next → H'.obj i = H.obj i) : dW P f args H r H := by
 intro G w cargs hg hk hH hV
 refine calls_of_wp hf hb ?_
 have h0 := qt hN hle hg hk hH hV
 refine wp_mono (h ⟨G, w, aZ G H w, []⟩ _ w h0) ?_
 rintro e a' w' ⟨s', ⟨G', L', hr⟩, he, hres, H', hh, hnx, hobj⟩
 obtain ⟨v, hv, hV'⟩ := hres _ _ _ _ _ _ hr
 obtain ⟨H2, g, hok, hmay⟩ := hr.heap
 rw [hh] at g; cases g
 have hlt : ∀ id b, G.ob id = some b → id < H.next := fun id b e => (hH.lt id b e).1
 have hres1 : ∀ id, id < H.next → (G'.res H.next).ob id = G'.ob id := fun id h => by simp [Gh.res, h]
 have hres2 : ∀ id b, (G'.res H.next).ob id = some b → id < H.next ∧ G'.ob id = some b := fun id b h => by
  simp only [Gh.res] at h
  split at h
  ·exact ⟨by assumption, h⟩
  ·cases h
 have hop : ∀ {u : Value} {a : AV}, V G u a → bE (fun id => id < H.next) a := fun hu => hu.ops.mono fun id ⟨b, e⟩ => hlt id b e
 have hidl : ∀ id cs, H.obj id = some cs → id < H.next := fun id cs e => by
  obtain ⟨blk, _, _, q1, _⟩ := hH.obj id cs e
  exact hlt id blk q1
 have cE : ∀ id j b, cE (G'.res H.next) H w' id j b → cE G' H' w' id j b := by
  rintro id j b ⟨cs, el, esz, xs, b0, arr, t, fr, h1, h2, h3, h4, h5⟩
  exact ⟨cs, el, esz, xs, b0, arr, t, fr, by rw [hobj id (hidl id cs h1)]; exact h1, h2, (hres2 _ _ h3).2, h4, h5⟩
 have hfoot : ∀ b, aZ (G'.res H.next) H w' b → aZ G' H' w' b := by
  rintro b (⟨id, ⟨cs, h1⟩, h2⟩ | ⟨id, j, h1⟩)
  ·exact .inl ⟨id, ⟨cs, by rw [hobj id (hidl id cs h1)]; exact h1⟩, (hres2 _ _ h2).2⟩
  ·exact .inr ⟨id, j, cE _ _ _ h1⟩
 have hHp : dK (G'.res H.next) w' H := by
  refine ⟨fun id b e => ⟨(hres2 id b e).1, (hok.lt id b (hres2 id b e).2).2⟩, fun id id' b e e' ⟨c, k⟩ ⟨c', k'⟩ => hok.inj id id' b (hres2 _ _ e).2 (hres2 _ _ e').2 ⟨c, by rw [hobj id (hidl id c k)]; exact k⟩ ⟨c', by rw [hobj id' (hidl id' c' k')]; exact k'⟩, fun id cs e => ?_, fun id j blk hh' => ?_⟩
  ·obtain ⟨blk, arr, el, q1, q2, q3, q4, q5⟩ := hok.obj id cs (by rw [hobj id (hidl id cs e)]; exact e)
   obtain ⟨blk0, arr0, el0, p1, p2, p3, p4, p5⟩ := hH.obj id cs e
   refine ⟨blk, arr, el, by rw [hres1 id (hidl id cs e)]; exact q1, q2, q3, fun j x hx => ?_, q5⟩
   have hq := q4 j x hx
   have hp := p4 j x hx
   cases x with
   | v a => exact ⟨hq.1, hq.2.res (hop hp.2)⟩
   | row el2 esz xs =>
    have hq' : du G' w' true el2 esz (arr.getD j undef) xs := hq
    have hp' : du G w true el2 esz (arr0.getD j undef) xs := hp
    obtain ⟨cells, k1, k2, k3, k4, k5⟩ := hq'
    obtain ⟨cells0, _, _, _, l4, _⟩ := hp'
    exact ⟨cells, (fun e => by cases e), k2, k3, ⟨k4.1, fun i e j c a b => ⟨(k4.2 i e j c a b).1, (k4.2 i e j c a b).2.res (hop (l4.2 i e j c a b).2)⟩⟩, k5⟩
  ·obtain ⟨q1, q2⟩ := hok.apart id j blk (cE _ _ _ hh')
   exact ⟨fun id' e => q1 id' (hres2 _ _ e).2, fun id' j' h2 => q2 id' j' (cE _ _ _ h2)⟩
 have hpost : ∃ v2 G'', Ending.returned v = .returned v2 ∧ V G'' v2 r ∧ mh (aZ G H w) G G'' w ∧ eT G'' w' ∧ dK G'' w' H ∧ Fr (aZ G H w) w w' ∧ ∀ b, aZ G'' H w' b → w.heap.size ≤ b ∨ aZ G H w b :=
  ⟨v, G'.res H.next, rfl, hV'.res hro, ⟨hr.old, fun id b e => ⟨by rw [hres1 id (hlt id b e)]; exact (hr.obs id b e).1, (hr.obs id b e).2⟩, fun id b e => hr.obn id b (hres2 id b e).2⟩, hr.kn, hHp, hr.fr, fun b hb => hmay b (hfoot b hb)⟩
 rcases he with rfl | rfl
 ·exact ⟨hr.defs, v, hv, hpost⟩
 ·exact ⟨hr.defs, v, hv, hpost⟩
section
variable {P : Program} {N : Nat} {s : St} {d : Nat} {ty : TypeId} {pos : String} {af : Array Edge} {g : Option (Nat × Bool)}
theorem xz {x : Operand} {f : FuncId} {xs : Array Operand} {tys : Array TypeId} {«as» caps : List AV} {r : AV} {H H' : Hp} (hN : d < N) (hf : aa P f = true) (hx : cU x s = some (.fn f caps)) (hH : get s .h = some (.hp H)) (ha : k7 xs.toList s = some «as») (hp : dW P f («as» ++ caps) H r H') :
  aY P N ⟨some d, .call { callee := .value x, args := xs, argTypes := tys }, ty, pos, af, g⟩ s ((rd x ++ lF xs.toList) ++ [.h]) [(.s d, .sv (.v r)), (.h, .hp H')] :=
 uG hp rfl hN hH (qw hf hx ha)
end
/- The program logic's rules: calls that panic, and what is around them. No condition. -/
section
variable {P : Program} {N : Nat} {ops : Array Oper} {l : List Oper} {s : St} {Q : Exit → St → Prop} {o : Oper} {R : List aK}
variable {d : Nat} {ty : TypeId} {pos : String} {af : Array Edge} {dst : Option Tmp}
end
/- The program logic's rules: a function that defers one call of a closure, and what that closure does when the function ends. No condition. -/
section
variable {P : Program} {N : Nat} {ops : Array Oper} {l : List Oper} {s : St} {Q : FuncId → List AV → St → Prop} {o : Oper} {R : List aK}
variable {ty : TypeId} {pos : String} {af : Array Edge}
end
def na (E : dX) (r : AV) (H' : Hp) : Ending → World → Prop := fun e w' =>
 ∃ v G', e = .returned v ∧ V G' v r ∧ mh E.M E.G0 G' E.w0 ∧ eT G' w' ∧ dK G' w' H' ∧ Fr E.M E.w0 w' ∧ ∀ b, aZ G' H' w' b → E.w0.heap.size ≤ b ∨ E.M b
section
variable {P : Program} {N : Nat} {fn : Func} {s : St} {r : AV} {H' : Hp}
end
/- The program logic's rules: what a deferred closure does: recover. No condition. -/
section
variable {P : Program} {N : Nat} {ops : Array Oper} {l : List Oper} {s : St} {u : FrameMode} {Q : FrameMode → St → Prop} {o : Oper} {R : List aK} {d : Nat} {ty : TypeId} {pos : String} {af : Array Edge}
end
/- The program logic's rules: functions that answer, or give up, as a grammar says. No condition. -/
inductive PR (α : Type) where
 | ok (a : α) (i : Nat)
 | bad (i : Nat)
section
variable {α : Type} {P : Program} {f : FuncId} {args : List AV} {Hat : Nat → Hp} {av : α → AV} {pv : Nat → Value} {i j : Nat} {r : PR α} {a : α}
end
section
variable {P : Program} {N : Nat} {ops : Array Oper} {l : List Oper} {s : St} {Q : Exit → St → Prop}
variable {o : Oper} {R : List aK}
end
/- The data that the program speaks of: schemas, trees, steps; what stands for them. No condition. -/
abbrev aw := List UInt8
def dL (n : Int) : AV := .int .i64 n
structure ag where
 name : aw
 num : Int
 ty : Int
 ref : aw
 rep : Bool
 loose : Bool
 one : aw
 deriving DecidableEq, Inhabited
def ag.cells (f : ag) : List AV := [.str f.name, .int .i64 f.num, .int .i64 f.ty, .str f.ref, .bool f.rep, .bool f.loose, .str f.one]
def ag.av (f : ag) : AV := .agg f.cells
structure aU where
 name : aw
 fields : List ag
 ab : List Int
 deriving DecidableEq, Inhabited
def aU.cells (m : aU) : List AV := [.str m.name, .sl (m.fields.map ag.av), .sl (m.ab.map dL)]
def aU.av (m : aU) : AV := .agg m.cells
structure iy where
 name : aw
 num : Int
 deriving DecidableEq, Inhabited
def iy.cells (v : iy) : List AV := [.str v.name, .int .i64 v.num]
def iy.av (v : iy) : AV := .agg v.cells
structure dP where
 name : aw
 values : List iy
 deriving DecidableEq, Inhabited
def dP.cells (e : dP) : List AV := [.str e.name, .sl (e.values.map iy.av)]
def dP.av (e : dP) : AV := .agg e.cells
structure aM where
 enums : List dP
 msgs : List aU
 deriving DecidableEq, Inhabited
def aM.cells (s : aM) : List AV := [.sl (s.enums.map dP.av), .sl (s.msgs.map aU.av)]
def aM.av (s : aM) : AV := .agg s.cells
structure Rw where
 num : Int
 wire : Int
 n : Nat
 s : aw
 deriving DecidableEq, Inhabited
def Rw.cells (r : Rw) : List AV := [.int .i64 r.num, .int .i64 r.wire, .int .u64 (r.n : Int), .str r.s]
def Rw.av (r : Rw) : AV := .agg r.cells
mutual
inductive cf where
 | mk (n : Nat) (s : aw) (m : List Tree)
inductive Slot where
 | mk (num : Int) (cI : List cf)
inductive Tree where
 | mk (ak : List Slot) (rest : List Rw)
end
instance : Inhabited Tree := ⟨.mk [] []⟩
instance : Inhabited cf := ⟨.mk 0 [] []⟩
instance : Inhabited Slot := ⟨.mk 0 []⟩
def cf.n : cf → Nat | .mk n _ _ => n
def cf.s : cf → aw | .mk _ s _ => s
def cf.m : cf → List Tree | .mk _ _ m => m
def Slot.num : Slot → Int | .mk n _ => n
def Slot.cI : Slot → List cf | .mk _ v => v
def Tree.ak : Tree → List Slot | .mk s _ => s
def Tree.rest : Tree → List Rw | .mk _ r => r
mutual
def cf.av : cf → AV
 | .mk n s m => .agg [.int .u64 (n : Int), .str s, .sl (gm m)]
def Slot.av : Slot → AV
 | .mk n vs => .agg [.int .i64 n, .sl (jc vs)]
def Tree.av : Tree → AV
 | .mk ss r => .agg [.sl (gq ss), .sl (r.map Rw.av)]
def gm : List Tree → List AV
 | [] => []
 | t :: l => t.av :: gm l
def jc : List cf → List AV
 | [] => []
 | v :: l => v.av :: jc l
def gq : List Slot → List AV
 | [] => []
 | s :: l => s.av :: gq l
end
theorem sf (l : List Tree) : gm l = l.map Tree.av := by induction l with | nil => simp [gm] | cons t l ih => simp [gm, ih]
theorem uY (l : List cf) : jc l = l.map cf.av := by induction l with | nil => simp [jc] | cons t l ih => simp [jc, ih]
theorem so (l : List Slot) : gq l = l.map Slot.av := by induction l with | nil => simp [gq] | cons t l ih => simp [gq, ih]
def cf.cells (v : cf) : List AV := [.int .u64 (v.n : Int), .str v.s, .sl (v.m.map Tree.av)]
def Slot.cells (x : Slot) : List AV := [.int .i64 x.num, .sl (x.cI.map cf.av)]
def Tree.cells (t : Tree) : List AV := [.sl (t.ak.map Slot.av), .sl (t.rest.map Rw.av)]
theorem cf.dE (v : cf) : v.av = .agg v.cells := by cases v; simp [cf.av, cf.cells, cf.n, cf.s, cf.m, sf]
theorem Slot.dE (v : Slot) : v.av = .agg v.cells := by cases v; simp [Slot.av, Slot.cells, Slot.num, Slot.cI, uY]
theorem Tree.dE (v : Tree) : v.av = .agg v.cells := by cases v; simp [Tree.av, Tree.cells, Tree.ak, Tree.rest, so]
structure aP where
 kind : Int
 msg : aw
 field : aw
 dest : aw
 also : aw
 num : Int
 other : Int
 ty : Int
 names : List aw
 dv : cf
 deriving Inhabited
def aP.cells (x : aP) : List AV := [.int .i64 x.kind, .str x.msg, .str x.field, .str x.dest, .str x.also, .int .i64 x.num, .int .i64 x.other, .int .i64 x.ty, .sl (x.names.map .str), .int .u64 (x.dv.n : Int), .str x.dv.s, .sl (x.dv.m.map Tree.av)]
def aP.av (x : aP) : AV := .agg x.cells
theorem ic {α : Type} {f : α → AV} {c : α → List AV} {xs : List α} {i : Nat} (he : ∀ x, f x = .agg (c x)) (h : i < xs.length) : (xs.map f)[((i : Nat) : Int).toNat]? = some (.agg (c xs[i])) := by
 simp [h, he]
theorem HN {α : Type} {f : α → AV} {c : α → List AV} {xs : List α} {i : Nat} {j : Int} (he : ∀ x, f x = .agg (c x)) (hj : j = (i : Int)) (h : i < xs.length) : (xs.map f)[j.toNat]? = some (.agg (c xs[i])) := by
 subst hj; simp [h, he]
/- What the lexer's functions compute, in plain Lean. No condition. -/
structure Tk where
 k : Nat
 s : List UInt8
 n : Nat
 neg : Bool
 pos : Nat
 deriving DecidableEq
open Go Go.RowKit Go.Proofs
/- Plain laws: names, numbers of fields, types, fields, schemas, as the document defines them. No condition. -/
theorem mixed : Tryz.prog.follows .mixedOrders = true := by kernel_rfl
def bU {α : Type} (p : α → Bool) : List α → Nat → Int
 | [], _ => -1
 | a :: l, i => if p a then i else bU p l (i + 1)
theorem cj {α : Type} {p : α → Bool} {l : List α} {i : Nat} (h : i < l.length) : bU p (l.drop i) i = if p l[i] then (i : Int) else bU p (l.drop (i + 1)) (i + 1) := by
 rw [List.drop_eq_getElem_cons h]; rfl
theorem eN {α : Type} {p : α → Bool} {l : List α} {i : Nat} (h : l.length ≤ i) : bU p (l.drop i) i = -1 := by
 rw [List.drop_of_length_le h]; rfl
theorem iw {α : Type} {p : α → Bool} {l : List α} {i : Nat} (h : i < l.length) : (l.drop i).all p = (p l[i] && (l.drop (i + 1)).all p) := by
 rw [List.drop_eq_getElem_cons h]; rfl
theorem lz {α : Type} {p : α → Bool} {l : List α} {i : Nat} (h : l.length ≤ i) : (l.drop i).all p = true := by
 rw [List.drop_of_length_le h]; rfl
theorem bS {α : Type} {p : α → Bool} {l : List α} {i : Nat} (h : i < l.length) : (l.drop i).any p = (p l[i] || (l.drop (i + 1)).any p) := by
 rw [List.drop_eq_getElem_cons h]; rfl
theorem bq {α : Type} {p : α → Bool} {l : List α} {i : Nat} (h : l.length ≤ i) : (l.drop i).any p = false := by
 rw [List.drop_of_length_le h]; rfl
theorem dZ {α : Type} {l : List α} {i : Nat} {f : α → AV} {acc : List AV} (h : i < l.length) (ha : acc = (l.take i).map f) : acc ++ [f l[i]] = (l.take (i + 1)).map f := by
 rw [ha, List.take_succ_eq_append_getElem h, List.map_append]; rfl
theorem x5 {α : Type} {l : List α} {i : Nat} {f : α → AV} {acc l0 : List AV} (h : i < l.length) (ha : acc = l0 ++ (l.take i).map f) : acc ++ [f l[i]] = l0 ++ (l.take (i + 1)).map f := by
 rw [ha, List.take_succ_eq_append_getElem h, List.map_append, List.append_assoc]; rfl
theorem fX {α : Type} {l : List α} {i : Nat} (h : l.length ≤ i) : l.take i = l := List.take_of_length_le h
theorem Pure.at {P : Program} {f : FuncId} {a a' : List AV} {r : AV} (h : Pure P f a r) (e : a' = a) : Pure P f a' r := e ▸ h
theorem qi {α : Type} (f : α → aw) (l : List α) : cK 1 (l.map fun x => AV.str (f x)) = true := by
 simp [cK, AV.cells, AV.flat]
theorem bf {α : Type} (k : IntKind) (f : α → Int) (l : List α) : cK 1 (l.map fun x => AV.int k (f x)) = true := by
 simp [cK, AV.cells, AV.flat]
theorem bW {α : Type} {n : Nat} (f : α → List AV) (hn : ∀ x, (f x).length = n) (l : List α) : cK n (l.map fun x => AV.agg (f x)) = true := by
 simp [cK, AV.cells, hn]
theorem I4 {α : Type} {f : α → AV} {xs : List α} {c : List AV} {i : Nat} (h : c = xs.map f) (hi : i < xs.length) : c[((i : Nat) : Int).toNat]? = some (f xs[i]) := by
 subst h; exact bz hi
theorem HO {α : Type} {f : α → AV} {xs : List α} {c : List AV} {i : Nat} {j : Int} (hj : j = (i : Int)) (h : c = xs.map f) (hi : i < xs.length) : c[j.toNat]? = some (f xs[i]) := by
 subst h; subst hj; exact bz hi
theorem headD_map {α β : Type} {f : α → β} {l : List α} {d : β} (h : 0 < l.length) : (l.map f).headD d = f l[0] := by
 cases l with
 | nil => simp at h
 | cons a l => rfl
theorem yS {α β : Type} {f : α → β} {l : List α} {d : β} (h : 0 < l.length) : (l.map f).getLastD d = f (l[l.length - 1]'(by omega)) := by
 rw [List.getLastD_eq_getLast?, List.getLast?_map, List.getLast?_eq_getElem?, List.getElem?_eq_getElem (by omega)]; rfl
theorem y7 {α : Type} {l : List α} {d : α} (h : 0 < l.length) : l.headD d = l[0] := by
 cases l with
 | nil => simp at h
 | cons a l => rfl
theorem yT {α : Type} {l : List α} {d : α} (h : 0 < l.length) : l.getLastD d = l[l.length - 1]'(by omega) := by
 rw [List.getLastD_eq_getLast?, List.getLast?_eq_getElem?, List.getElem?_eq_getElem (by omega)]; rfl
theorem u2 {α : Type} (l : List α) : (l.take (0 + 1)).drop 1 = [] := by cases l <;> simp
theorem u1 {α : Type} {l : List α} {i : Nat} (h0 : 0 < i) (h : i < l.length) : (l.take (i + 1)).drop 1 = (l.take i).drop 1 ++ [l[i]] := by
 rw [List.take_succ_eq_append_getElem h, List.drop_append_of_le_length (by rw [List.length_take]; omega)]
/-! ### names -/
def letter (c : UInt8) : Bool := (decide (97 ≤ c.toNat) && decide (c.toNat ≤ 122)) || (decide (65 ≤ c.toNat) && decide (c.toNat ≤ 90))
def uS (c : UInt8) : Bool := letter c || (decide (48 ≤ c.toNat) && decide (c.toNat ≤ 57)) || decide (c.toNat = 95)
def mC : List aw := [[101, 110, 117, 109], [109, 101, 115, 115, 97, 103, 101], [111, 110, 101, 111, 102], [114, 101, 112, 101, 97, 116, 101, 100], [114, 101, 115, 101, 114, 118, 101, 100], [108, 111, 111, 115, 101], [105, 110, 116, 51, 50], [105, 110, 116, 54, 52], [117, 105, 110, 116, 51, 50], [117, 105, 110, 116, 54, 52], [115, 105, 110, 116, 51, 50], [115, 105, 110, 116, 54, 52], [98, 111, 111, 108], [102, 105, 120, 101, 100, 51, 50], [102, 105, 120, 101, 100, 54, 52], [115, 102, 105, 120, 101, 100, 51, 50], [115, 102, 105, 120, 101, 100, 54, 52], [115, 116, 114, 105, 110, 103], [98, 121, 116, 101, 115], [114, 101, 110, 97, 109, 101], [114, 101, 110, 117, 109, 98, 101, 114], [114, 101, 116, 121, 112, 101], [115, 112, 108, 105, 116], [106, 111, 105, 110], [119, 114, 97, 112], [117, 110, 119, 114, 97, 112], [97, 100, 100], [100, 114, 111, 112], [116, 111], [105, 110, 116, 111], [97, 115], [111, 102], [100, 101, 102, 97, 117, 108, 116], [116, 114, 117, 101], [102, 97, 108, 115, 101]]
def an (s : aw) : Bool := decide (1 ≤ s.length) && decide (s.length ≤ 12) && letter (s.headD 0) && s.all uS && mC.all (fun w => !(w == s))
def eg (l : List aw) : List aw → Nat → Bool
 | [], _ => true
 | a :: r, i => !((l.take i).any fun b => a == b) && eg l r (i + 1)
def once (l : List aw) : Bool := eg l l 0
def ji : List aw → Bool
 | a :: b :: l => !(!k8 a b) && ji (b :: l)
 | _ => true
def eQ : List Int → Bool
 | a :: b :: l => decide (a < b) && eQ (b :: l)
 | _ => true
theorem px {l : List aw} {i : Nat} (h : i < l.length) : eg l (l.drop i) i = (!((l.take i).any fun b => l[i] == b) && eg l (l.drop (i + 1)) (i + 1)) := by
 rw [List.drop_eq_getElem_cons h]; rfl
theorem rk {l : List aw} {i : Nat} (h : l.length ≤ i) : eg l (l.drop i) i = true := by
 rw [List.drop_of_length_le h]; rfl
theorem uc {l : List Int} {i : Nat} (h0 : 0 < i) (h : i < l.length) : eQ (l.drop (i - 1)) = (decide (l[i - 1] < l[i]) && eQ (l.drop (i + 1 - 1))) := by
 obtain ⟨k, rfl⟩ : ∃ k, i = k + 1 := ⟨i - 1, by omega⟩
 simp only [Nat.add_sub_cancel]
 rw [List.drop_eq_getElem_cons (show k < l.length by omega), List.drop_eq_getElem_cons h]
 rfl
theorem xh {l : List Int} {i : Nat} (h0 : 0 < i) (h : l.length ≤ i) : eQ (l.drop (i - 1)) = true := by
 obtain ⟨k, rfl⟩ : ∃ k, i = k + 1 := ⟨i - 1, by omega⟩
 simp only [Nat.add_sub_cancel]
 by_cases hk : k < l.length
 ·rw [List.drop_eq_getElem_cons hk, List.drop_of_length_le h]; rfl
 ·rw [List.drop_of_length_le (by omega)]; rfl
theorem ud {l : List aw} {i : Nat} (h0 : 0 < i) (h : i < l.length) : ji (l.drop (i - 1)) = (!(!k8 l[i - 1] l[i]) && ji (l.drop (i + 1 - 1))) := by
 obtain ⟨k, rfl⟩ : ∃ k, i = k + 1 := ⟨i - 1, by omega⟩
 simp only [Nat.add_sub_cancel]
 rw [List.drop_eq_getElem_cons (show k < l.length by omega), List.drop_eq_getElem_cons h]
 rfl
theorem xi {l : List aw} {i : Nat} (h0 : 0 < i) (h : l.length ≤ i) : ji (l.drop (i - 1)) = true := by
 obtain ⟨k, rfl⟩ : ∃ k, i = k + 1 := ⟨i - 1, by omega⟩
 simp only [Nat.add_sub_cancel]
 by_cases hk : k < l.length
 ·rw [List.drop_eq_getElem_cons hk, List.drop_of_length_le h]; rfl
 ·rw [List.drop_of_length_le (by omega)]; rfl
/-! ### numbers and types -/
def nJ (n : Int) : Bool := decide (1 ≤ n) && decide (n ≤ 536870911) && (decide (n < 19000) || decide (19999 < n))
def mj (n w : Int) : Bool := decide (1 ≤ n) && decide (n ≤ 536870911) && (decide (w = 0) || decide (w = 1) || decide (w = 2) || decide (w = 5))
def cW (t : Int) : Bool := (decide (1 ≤ t) && decide (t ≤ 6)) || (decide (8 ≤ t) && decide (t ≤ 11))
def vB (t : Int) : Bool := cW t || decide (t = 7) || decide (t = 14)
def eO (t : Int) : Bool := decide (t = 1) || decide (t = 2) || decide (t = 5) || decide (t = 6) || decide (t = 10) || decide (t = 11) || decide (t = 14)
def iN (t : Int) : Bool := decide (t = 2) || decide (t = 4) || decide (t = 6) || decide (t = 9) || decide (t = 11)
/-! ### fields and schemas -/
def ag.fu (f : ag) : Int :=
 if !an f.name || (!(f.one == []) && !an f.one) then 2
 else if (f.ty = 14 ∨ f.ty = 15) ∧ an f.ref = false then 2
 else if ¬ (f.ty = 14 ∨ f.ty = 15) ∧ (f.ref == []) = false then 2
 else if !nJ f.num || decide (f.ty < 1) || decide (15 < f.ty) || (f.rep && !(f.one == [])) then 1
 else if f.loose && (!f.rep || !vB f.ty) then 1
 else 0
def aM.many (s : aM) : Bool := decide (3 < s.enums.length) || decide (6 < s.msgs.length) || s.enums.any (fun e => decide (8 < e.values.length)) || s.msgs.any (fun m => decide (10 < m.fields.length) || decide (8 < m.ab.length))
def aM.none (s : aM) : Bool := decide (s.msgs.length = 0) || s.enums.any (fun e => decide (e.values.length = 0))
def aM.text (s : aM) : Bool := s.enums.any (fun e => !an e.name || e.values.any (fun v => !an v.name)) || s.msgs.any (fun m => !an m.name)
def cV : List ag → Int
 | [] => 0
 | f :: l => if f.fu = 0 then cV l else f.fu
def eI : List aU → Int
 | [] => 0
 | m :: l => if cV m.fields = 0 then eI l else cV m.fields
theorem pY {l : List ag} {i : Nat} (h : i < l.length) : cV (l.drop i) = if l[i].fu = 0 then cV (l.drop (i + 1)) else l[i].fu := by
 rw [List.drop_eq_getElem_cons h]; rfl
theorem qE {l : List ag} {i : Nat} (h : l.length ≤ i) : cV (l.drop i) = 0 := by
 rw [List.drop_of_length_le h]; rfl
theorem sO {l : List aU} {i : Nat} (h : i < l.length) : eI (l.drop i) = if cV l[i].fields = 0 then eI (l.drop (i + 1)) else cV l[i].fields := by
 rw [List.drop_eq_getElem_cons h]; rfl
theorem uC {l : List aU} {i : Nat} (h : l.length ≤ i) : eI (l.drop i) = 0 := by
 rw [List.drop_of_length_le h]; rfl
def aU.gl (m : aU) : Bool := !once (m.fields.map (·.name)) || m.fields.any (fun f => !(f.one == []) && !once (m.fields.map (·.name) ++ [f.one]))
def aM.gl (s : aM) : Bool := s.enums.any (fun e => !once (e.values.map (·.name))) || s.msgs.any aU.gl || !once (s.enums.map (·.name) ++ s.msgs.map (·.name))
def dP.order (e : dP) : Bool := !eQ (e.values.map (·.num)) || !decide ((e.values.map (·.num)).headD 0 = 0) || decide (1048576 < (e.values.map (·.num)).getLastD 0)
def aU.order (m : aU) : Bool := !eQ (m.fields.map (·.num)) || !eQ m.ab || (!(m.ab == []) && (decide (m.ab.headD 0 < 1) || decide (536870911 < m.ab.getLastD 0)))
def aM.order (s : aM) : Bool := s.enums.any dP.order || !ji (s.enums.map (·.name)) || s.msgs.any aU.order || !ji ((s.msgs.drop 1).map (·.name))
def aM.ab (s : aM) : Bool := s.msgs.any fun m => m.fields.any fun f => m.ab.any (· == f.num)
def aM.bD (s : aM) (name : aw) : Int := bU (fun m : aU => m.name == name) s.msgs 0
def aM.dy (s : aM) (name : aw) : Int := bU (fun m : dP => m.name == name) s.enums 0
def aM.refs (s : aM) : Bool := s.msgs.any fun m => m.fields.any fun f => (decide (f.ty = 14) && decide (s.dy f.ref < 0)) || (decide (f.ty = 15) && decide (s.bD f.ref < 0))
def aM.fu (s : aM) : Int :=
 if s.many then 4 else if s.none then 5 else if s.text then 2 else if eI s.msgs ≠ 0 then eI s.msgs else if s.gl then 6 else if s.order then 1 else if s.ab then 6 else if s.refs then 5 else 0
structure aM.fT (s : aM) : Prop where
 e : s.enums.length ≤ 9223372036854775807
 m : s.msgs.length ≤ 9223372036854775807
structure aM.sm (s : aM) : Prop where
 e : s.enums.length ≤ 3
 m : s.msgs.length ≤ 6
 v : ∀ x ∈ s.enums, x.values.length ≤ 8
 f : ∀ x ∈ s.msgs, x.fields.length ≤ 10
 b : ∀ x ∈ s.msgs, x.ab.length ≤ 8
theorem aM.sm.vi {s : aM} (h : s.sm) {i : Nat} (hi : i < s.enums.length) : s.enums[i].values.length ≤ 8 := h.v _ (List.getElem_mem hi)
theorem aM.sm.fi {s : aM} (h : s.sm) {i : Nat} (hi : i < s.msgs.length) : s.msgs[i].fields.length ≤ 10 := h.f _ (List.getElem_mem hi)
theorem aM.sm.bi {s : aM} (h : s.sm) {i : Nat} (hi : i < s.msgs.length) : s.msgs[i].ab.length ≤ 8 := h.b _ (List.getElem_mem hi)
theorem aM.Dk {s : aM} (h : s.many = false) : s.sm := by
 simp only [aM.many, Bool.or_eq_false_iff, List.any_eq_false, decide_eq_false_iff_not, Bool.or_eq_true, decide_eq_true_eq, not_or] at h
 obtain ⟨⟨⟨h1, h2⟩, h3⟩, h4⟩ := h
 exact ⟨by omega, by omega, fun x hx => by have := h3 x hx; omega, fun x hx => by have := h4 x hx; omega, fun x hx => by have := h4 x hx; omega⟩
theorem aM.wb {s : aM} (h : s.none = false) : 0 < s.msgs.length ∧ ∀ x ∈ s.enums, 0 < x.values.length := by
 simp only [aM.none, Bool.or_eq_false_iff, List.any_eq_false, decide_eq_false_iff_not, decide_eq_true_eq] at h
 exact ⟨by omega, fun x hx => by have := h.2 x hx; omega⟩
theorem dP.mO {e : dP} (h : 0 < e.values.length) : e.order = (!eQ (e.values.map (·.num)) || !decide (e.values[0].num = 0) || decide (1048576 < (e.values[e.values.length - 1]'(by omega)).num)) := by
 unfold dP.order; rw [headD_map h, yS h]
theorem aU.mO {m : aU} (h : 0 < m.ab.length) : m.order = (!eQ (m.fields.map (·.num)) || !eQ m.ab || (decide (m.ab[0] < 1) || decide (536870911 < m.ab[m.ab.length - 1]'(by omega)))) := by
 unfold aU.order; rw [y7 h, yT h]
 have : (m.ab == []) = false := by cases hb : m.ab with | nil => rw [hb] at h; simp at h | cons a l => rfl
 rw [this]; simp
theorem aU.xv {m : aU} (h : m.ab.length ≤ 0) : m.order = (!eQ (m.fields.map (·.num)) || !eQ m.ab) := by
 unfold aU.order
 have : m.ab = [] := List.length_eq_zero_iff.1 (by omega)
 rw [this]; simp
/- Plain laws: values of messages: parts, sameness, how great and how deep. No condition. -/
inductive Tree.Sub : Tree → Tree → Prop where
 | refl (t : Tree) : Sub t t
 | step {t t1 t2 : Tree} {v : cf} {x : Slot} (h1 : t1 ∈ v.m) (h2 : v ∈ x.cI) (h3 : x ∈ t2.ak) (h : Sub t t1) : Sub t t2
def Tree.j8 (Q : Tree → Prop) (t : Tree) : Prop := ∀ u, Tree.Sub u t → Q u
theorem Tree.j8.here {Q : Tree → Prop} {t : Tree} (h : t.j8 Q) : Q t := h t (.refl t)
theorem Tree.j8.sub {Q : Tree → Prop} {t t1 : Tree} {v : cf} {x : Slot} (h : t.j8 Q) (h1 : t1 ∈ v.m) (h2 : v ∈ x.cI) (h3 : x ∈ t.ak) : t1.j8 Q := fun u hu => h u (.step h1 h2 h3 hu)
theorem Tree.j8.mk {Q : Tree → Prop} {t : Tree} (h : Q t) (hs : ∀ x ∈ t.ak, ∀ v ∈ x.cI, ∀ u ∈ v.m, u.j8 Q) : t.j8 Q := by
 intro u hu
 cases hu with
 | refl => exact h
 | step h1 h2 h3 hh => exact hs _ h3 _ h2 _ h1 u hh
theorem Tree.sub_lt {t t1 : Tree} {v : cf} {x : Slot} (h1 : t1 ∈ v.m) (h2 : v ∈ x.cI) (h3 : x ∈ t.ak) : SizeOf.sizeOf t1 < SizeOf.sizeOf t := by
 cases t with
 | mk ss r =>
  cases x with
  | mk n vs =>
   cases v with
   | mk k s m =>
    have a1 : SizeOf.sizeOf t1 < SizeOf.sizeOf m := List.sizeOf_lt_of_mem h1
    have a2 : SizeOf.sizeOf (cf.mk k s m) < SizeOf.sizeOf vs := List.sizeOf_lt_of_mem h2
    have a3 : SizeOf.sizeOf (Slot.mk n vs) < SizeOf.sizeOf ss := List.sizeOf_lt_of_mem h3
    simp only [cf.mk.sizeOf_spec, Slot.mk.sizeOf_spec, Tree.mk.sizeOf_spec] at *
    omega
theorem Tree.ind {Q : Tree → Prop} (h : ∀ t, (∀ x ∈ t.ak, ∀ v ∈ x.cI, ∀ u ∈ v.m, Q u) → Q t) : ∀ t, Q t := by
 have key : ∀ (n : Nat) t, SizeOf.sizeOf t < n → Q t := by
  intro n
  induction n with
  | zero => intro t ht; omega
  | succ n ih => intro t ht; exact h t fun x hx v hv u hu => ih u (by have := Tree.sub_lt hu hv hx; omega)
 exact fun t => key _ t (Nat.lt_succ_self _)
structure Tree.Ie (t : Tree) : Prop where
 s : t.ak.length ≤ 9223372036854775807
 r : t.rest.length ≤ 9223372036854775807
 v : ∀ x ∈ t.ak, x.cI.length ≤ 9223372036854775807
 m : ∀ x ∈ t.ak, ∀ v ∈ x.cI, v.m.length ≤ 9223372036854775807
 vs : ∀ x ∈ t.ak, ∀ v ∈ x.cI, v.s.length ≤ 9223372036854775807
 vn : ∀ x ∈ t.ak, ∀ v ∈ x.cI, v.n < 18446744073709551616
 rs : ∀ r ∈ t.rest, r.s.length ≤ 9223372036854775807
 rn : ∀ r ∈ t.rest, r.n < 18446744073709551616
def Tree.fT (t : Tree) : Prop := t.j8 Tree.Ie
/-! ### how much of so much a value leaves (numbers wrap round) -/
abbrev gj (n : Int) : Int := IntKind.i64.wrap n
def ju : List Rw → Int → Int
 | [], n => n
 | x :: l, n => if 0 ≤ n then ju l (gj (n - gj ((x.s.length : Int).tdiv 20))) else n
mutual
def Tree.left : Tree → Int → Int → Int
 | .mk ss r, n, d => if d ≤ 0 then -1 else jt ss (ju r (gj (gj (n - (r.length : Int)) - (ss.length : Int)))) d
def Slot.left : Slot → Int → Int → Int
 | .mk _ vs, n, d => jr vs (gj (n - (vs.length : Int))) d
def cf.left : cf → Int → Int → Int
 | .mk _ s m, n, d => js m (gj (n - gj ((s.length : Int).tdiv 20))) d
def jt : List Slot → Int → Int → Int
 | [], n, _ => n
 | x :: l, n, d => if 0 ≤ n then jt l (x.left n d) d else n
def jr : List cf → Int → Int → Int
 | [], n, _ => n
 | x :: l, n, d => if 0 ≤ n then jr l (x.left n d) d else n
def js : List Tree → Int → Int → Int
 | [], n, _ => n
 | x :: l, n, d => if 0 ≤ n then js l (x.left (gj (n - 1)) (gj (d - 1))) d else n
end
theorem Tree.left_eq (t : Tree) (n d : Int) : t.left n d = if d ≤ 0 then -1 else jt t.ak (ju t.rest (gj (gj (n - (t.rest.length : Int)) - (t.ak.length : Int)))) d := by
 cases t; simp [Tree.left, Tree.ak, Tree.rest]
theorem Slot.left_eq (x : Slot) (n d : Int) : x.left n d = jr x.cI (gj (n - (x.cI.length : Int))) d := by
 cases x; simp [Slot.left, Slot.cI]
theorem cf.left_eq (x : cf) (n d : Int) : x.left n d = js x.m (gj (n - gj ((x.s.length : Int).tdiv 20))) d := by
 cases x; simp [cf.left, cf.s, cf.m]
theorem vN {l : List Rw} {i : Nat} {n : Int} (h : i < l.length) : ju (l.drop i) n = if 0 ≤ n then ju (l.drop (i + 1)) (gj (n - gj ((l[i].s.length : Int).tdiv 20))) else n := by
 rw [List.drop_eq_getElem_cons h]; rfl
theorem vM {l : List Slot} {i : Nat} {n d : Int} (h : i < l.length) : jt (l.drop i) n d = if 0 ≤ n then jt (l.drop (i + 1)) (l[i].left n d) d else n := by
 rw [List.drop_eq_getElem_cons h]; simp [jt]
theorem vK {l : List cf} {i : Nat} {n d : Int} (h : i < l.length) : jr (l.drop i) n d = if 0 ≤ n then jr (l.drop (i + 1)) (l[i].left n d) d else n := by
 rw [List.drop_eq_getElem_cons h]; simp [jr]
theorem vL {l : List Tree} {i : Nat} {n d : Int} (h : i < l.length) : js (l.drop i) n d = if 0 ≤ n then js (l.drop (i + 1)) (l[i].left (gj (n - 1)) (gj (d - 1))) d else n := by
 rw [List.drop_eq_getElem_cons h]; simp [js]
theorem yR {l : List Rw} {i : Nat} {n : Int} (h : l.length ≤ i) : ju (l.drop i) n = n := by rw [List.drop_of_length_le h]; rfl
theorem yQ {l : List Slot} {i : Nat} {n d : Int} (h : l.length ≤ i) : jt (l.drop i) n d = n := by rw [List.drop_of_length_le h]; simp [jt]
theorem yO {l : List cf} {i : Nat} {n d : Int} (h : l.length ≤ i) : jr (l.drop i) n d = n := by rw [List.drop_of_length_le h]; simp [jr]
theorem yP {l : List Tree} {i : Nat} {n d : Int} (h : l.length ≤ i) : js (l.drop i) n d = n := by rw [List.drop_of_length_le h]; simp [js]
theorem iZ {l : List Rw} {n : Int} (h : ¬ 0 ≤ n) : ju l n = n := by cases l <;> simp [ju]; omega
theorem mX {l : List Slot} {n d : Int} (h : ¬ 0 ≤ n) : jt l n d = n := by cases l <;> simp [jt]; omega
theorem mV {l : List cf} {n d : Int} (h : ¬ 0 ≤ n) : jr l n d = n := by cases l <;> simp [jr]; omega
theorem mW {l : List Tree} {n d : Int} (h : ¬ 0 ≤ n) : js l n d = n := by cases l <;> simp [js]; omega
/- Plain laws: numbers of types, on the wire and in values. No condition. -/
def oz (t : Int) : Int :=
 if t = 1 ∨ t = 5 ∨ t = 10 then 7 else if t = 2 ∨ t = 6 ∨ t = 11 then 15 else if t = 3 ∨ t = 8 then 3 else if t = 4 ∨ t = 9 then 11 else if t = 7 then 2 else if t = 14 then 6 else 0
theorem ni (t : Int) : (t < 1 ∨ 15 < t) ∨ t = 1 ∨ t = 2 ∨ t = 3 ∨ t = 4 ∨ t = 5 ∨ t = 6 ∨ t = 7 ∨ t = 8 ∨ t = 9 ∨ t = 10 ∨ t = 11 ∨ t = 12 ∨ t = 13 ∨ t = 14 ∨ t = 15 := by omega
theorem gK {t : Int} (h : t < 1 ∨ 15 < t) : oz t = 0 := by unfold oz; split <;> first | omega | (split <;> first | omega | (split <;> first | omega | (split <;> first | omega | (split <;> first | omega | (split <;> first | omega | rfl)))))
theorem vS (t : Int) : (!(j6 .and .i64 (oz t) 1 == 0)) = cW t := by
 rcases ni t with h | h
 ·rw [gK h, show j6 .and .i64 0 1 = 0 by decide]
  have : cW t = false := by unfold cW; simp; omega
  rw [this]; rfl
 ·rcases h with rfl | rfl | rfl | rfl | rfl | rfl | rfl | rfl | rfl | rfl | rfl | rfl | rfl | rfl | rfl <;> decide
theorem yV (t : Int) : (!(j6 .and .i64 (oz t) 4 == 0)) = eO t := by
 rcases ni t with h | h
 ·rw [gK h, show j6 .and .i64 0 4 = 0 by decide]
  have : eO t = false := by unfold eO; simp; omega
  rw [this]; rfl
 ·rcases h with rfl | rfl | rfl | rfl | rfl | rfl | rfl | rfl | rfl | rfl | rfl | rfl | rfl | rfl | rfl <;> decide
theorem yU (t : Int) : (!(j6 .and .i64 (oz t) 8 == 0)) = iN t := by
 rcases ni t with h | h
 ·rw [gK h, show j6 .and .i64 0 8 = 0 by decide]
  have : iN t = false := by unfold iN; simp; omega
  rw [this]; rfl
 ·rcases h with rfl | rfl | rfl | rfl | rfl | rfl | rfl | rfl | rfl | rfl | rfl | rfl | rfl | rfl | rfl <;> decide
theorem yW {t : Int} (h0 : 0 ≤ t) (h1 : t < 16) : ([.int .i64 0, .int .i64 7, .int .i64 15, .int .i64 3, .int .i64 11, .int .i64 7, .int .i64 15, .int .i64 2, .int .i64 3, .int .i64 11, .int .i64 7, .int .i64 15, .int .i64 0, .int .i64 0, .int .i64 6, .int .i64 0] : List AV)[t.toNat]? = some (.int .i64 (oz t)) := by
 have : t = 0 ∨ t = 1 ∨ t = 2 ∨ t = 3 ∨ t = 4 ∨ t = 5 ∨ t = 6 ∨ t = 7 ∨ t = 8 ∨ t = 9 ∨ t = 10 ∨ t = 11 ∨ t = 12 ∨ t = 13 ∨ t = 14 ∨ t = 15 := by omega
 rcases this with rfl | rfl | rfl | rfl | rfl | rfl | rfl | rfl | rfl | rfl | rfl | rfl | rfl | rfl | rfl | rfl <;> rfl
def CA (n : Nat) : Int := IntKind.i64.wrap (n : Int)
def j7 (z : Int) : Bool := decide (-2147483648 ≤ z) && decide (z ≤ 2147483647)
def ld (t : Int) (n : Nat) : Bool :=
 if t < 1 ∨ 15 < t then false else if iN t then true else if eO t then j7 (CA n) else if t = 3 ∨ t = 8 then decide (n < 4294967296) else if t = 7 then decide (n < 2) else decide (n = 0)
/- Plain laws: the grammar of migrations: what tokens are as steps. No condition. -/
/-! ### types -/
def Bp : List aw := [[], [105, 110, 116, 51, 50], [105, 110, 116, 54, 52], [117, 105, 110, 116, 51, 50], [117, 105, 110, 116, 54, 52], [115, 105, 110, 116, 51, 50], [115, 105, 110, 116, 54, 52], [98, 111, 111, 108], [102, 105, 120, 101, 100, 51, 50], [102, 105, 120, 101, 100, 54, 52], [115, 102, 105, 120, 101, 100, 51, 50], [115, 102, 105, 120, 101, 100, 54, 52], [115, 116, 114, 105, 110, 103], [98, 121, 116, 101, 115], [], []]
def rI (t : Int) : aw := if t < 0 ∨ 16 ≤ t then [] else Bp.getD t.toNat []
def Iq (t : Int) (n : Nat) (neg : Bool) : Option Nat :=
 if cW t = false then none
 else if neg = true ∧ 0 < n then (if eO t = false ∨ 9223372036854775808 < n then none else if ld t (18446744073709551616 - n) then some (18446744073709551616 - n) else none)
 else if eO t = true ∧ 9223372036854775808 ≤ n then none else if ld t n then some n else none
section
variable (L : List Tk)
end
set_option linter.unusedSectionVars false
/- the document: names, numbers, types, fields. -/
theorem va : aa Tryz.prog 74 = true := by kernel_rfl
theorem eZ (n : Int) : Pure Tryz.prog 96 [.int .i64 n] (.bool (nJ n)) := by
 refine Pure.aN Tryz.func96 rfl rfl (aF rfl) fun H => (aC.seq (aC.region (aB.run II 1 rfl (aB.nil (aC.seq (aC.region (aB.run II 3 rfl (aB.tell (d := 5) rfl (fun hg1 => ?_) (fun hg1 => ?_)))))))))
 ·refine aB.run II 4 rfl (aB.tell (d := 9) rfl (fun hg2 => ?_) (fun hg2 => ?_))
  ·refine aB.run II 3 rfl (aB.tell (d := 12) rfl (fun hg3 => ?_) (fun hg3 => ?_))
   ·exact aB.run II 5 rfl (aB.nil (aC.ret ⟨.inr rfl, (aE.r1 rfl (.tmp rfl .nil)).cast (congrArg AV.bool (by grind [nJ])), rfl⟩))
   ·exact aB.run II 5 rfl (aB.nil (aC.ret ⟨.inr rfl, (aE.r1 rfl (.tmp rfl .nil)).cast (congrArg AV.bool (by grind [nJ])), rfl⟩))
  ·exact aB.run II 8 rfl (aB.nil (aC.ret ⟨.inr rfl, (aE.r1 rfl (.tmp rfl .nil)).cast (congrArg AV.bool (by grind [nJ])), rfl⟩))
 ·exact aB.run II 12 rfl (aB.nil (aC.ret ⟨.inr rfl, (aE.r1 rfl (.tmp rfl .nil)).cast (congrArg AV.bool (by grind [nJ])), rfl⟩))
theorem oG (n : Int) : Pure Tryz.prog 74 [.int .i64 n] (.bool (cW n)) := by
 refine Pure.aN Tryz.func74 rfl rfl (aF rfl) fun H => (aC.seq (aC.region (aB.run II 1 rfl (aB.nil (aC.seq (aC.region (aB.run II 3 rfl (aB.tell (d := 5) rfl (fun hg1 => ?_) (fun hg1 => ?_)))))))))
 ·refine aB.run II 4 rfl (aB.tell (d := 9) rfl (fun hg2 => ?_) (fun hg2 => ?_))
  ·exact aB.run II 8 rfl (aB.nil (aC.ret ⟨.inr rfl, (aE.r1 rfl (.tmp rfl .nil)).cast (congrArg AV.bool (by grind [cW])), rfl⟩))
  ·refine aB.run II 3 rfl (aB.tell (d := 12) rfl (fun hg3 => ?_) (fun hg3 => ?_))
   ·exact aB.run II 5 rfl (aB.nil (aC.ret ⟨.inr rfl, (aE.r1 rfl (.tmp rfl .nil)).cast (congrArg AV.bool (by grind [cW])), rfl⟩))
   ·exact aB.run II 5 rfl (aB.nil (aC.ret ⟨.inr rfl, (aE.r1 rfl (.tmp rfl .nil)).cast (congrArg AV.bool (by grind [cW])), rfl⟩))
 ·refine aB.run II 7 rfl (aB.tell (d := 12) rfl (fun hg4 => ?_) (fun hg4 => ?_))
  ·exact aB.run II 5 rfl (aB.nil (aC.ret ⟨.inr rfl, (aE.r1 rfl (.tmp rfl .nil)).cast (congrArg AV.bool (by grind [cW])), rfl⟩))
  ·exact aB.run II 5 rfl (aB.nil (aC.ret ⟨.inr rfl, (aE.r1 rfl (.tmp rfl .nil)).cast (congrArg AV.bool (by grind [cW])), rfl⟩))
theorem nP (n : Int) : Pure Tryz.prog 112 [.int .i64 n] (.bool (eO n)) := by
 refine Pure.aN Tryz.func112 rfl rfl (aF rfl) fun H => (aC.seq (aC.region (aB.run II 1 rfl (aB.nil (aC.seq (aC.region (aB.run II 3 rfl (aB.tell (d := 5) rfl (fun hg1 => ?_) (fun hg1 => ?_)))))))))
 ·exact aB.run II 24 rfl (aB.nil (aC.ret ⟨.inr rfl, (aE.r1 rfl (.tmp rfl .nil)).cast (congrArg AV.bool (by grind [eO])), rfl⟩))
 ·refine aB.run II 4 rfl (aB.tell (d := 9) rfl (fun hg2 => ?_) (fun hg2 => ?_))
  ·exact aB.run II 20 rfl (aB.nil (aC.ret ⟨.inr rfl, (aE.r1 rfl (.tmp rfl .nil)).cast (congrArg AV.bool (by grind [eO])), rfl⟩))
  ·refine aB.run II 4 rfl (aB.tell (d := 13) rfl (fun hg3 => ?_) (fun hg3 => ?_))
   ·exact aB.run II 16 rfl (aB.nil (aC.ret ⟨.inr rfl, (aE.r1 rfl (.tmp rfl .nil)).cast (congrArg AV.bool (by grind [eO])), rfl⟩))
   ·refine aB.run II 4 rfl (aB.tell (d := 17) rfl (fun hg4 => ?_) (fun hg4 => ?_))
    ·exact aB.run II 12 rfl (aB.nil (aC.ret ⟨.inr rfl, (aE.r1 rfl (.tmp rfl .nil)).cast (congrArg AV.bool (by grind [eO])), rfl⟩))
    ·refine aB.run II 4 rfl (aB.tell (d := 21) rfl (fun hg5 => ?_) (fun hg5 => ?_))
     ·exact aB.run II 8 rfl (aB.nil (aC.ret ⟨.inr rfl, (aE.r1 rfl (.tmp rfl .nil)).cast (congrArg AV.bool (by grind [eO])), rfl⟩))
     ·refine aB.run II 4 rfl (aB.tell (d := 25) rfl (fun hg6 => ?_) (fun hg6 => ?_))
      ·exact aB.run II 4 rfl (aB.nil (aC.ret ⟨.inr rfl, (aE.r1 rfl (.tmp rfl .nil)).cast (congrArg AV.bool (by grind [eO])), rfl⟩))
      ·exact aB.run II 4 rfl (aB.nil (aC.ret ⟨.inr rfl, (aE.r1 rfl (.tmp rfl .nil)).cast (congrArg AV.bool (by grind [eO])), rfl⟩))
theorem nO (n : Int) : Pure Tryz.prog 111 [.int .i64 n] (.bool (iN n)) := by
 refine Pure.aN Tryz.func111 rfl rfl (aF rfl) fun H => (aC.seq (aC.region (aB.run II 1 rfl (aB.nil (aC.seq (aC.region (aB.run II 3 rfl (aB.tell (d := 5) rfl (fun hg1 => ?_) (fun hg1 => ?_)))))))))
 ·exact aB.run II 16 rfl (aB.nil (aC.ret ⟨.inr rfl, (aE.r1 rfl (.tmp rfl .nil)).cast (congrArg AV.bool (by grind [iN])), rfl⟩))
 ·refine aB.run II 4 rfl (aB.tell (d := 9) rfl (fun hg2 => ?_) (fun hg2 => ?_))
  ·exact aB.run II 12 rfl (aB.nil (aC.ret ⟨.inr rfl, (aE.r1 rfl (.tmp rfl .nil)).cast (congrArg AV.bool (by grind [iN])), rfl⟩))
  ·refine aB.run II 4 rfl (aB.tell (d := 13) rfl (fun hg3 => ?_) (fun hg3 => ?_))
   ·exact aB.run II 8 rfl (aB.nil (aC.ret ⟨.inr rfl, (aE.r1 rfl (.tmp rfl .nil)).cast (congrArg AV.bool (by grind [iN])), rfl⟩))
   ·refine aB.run II 4 rfl (aB.tell (d := 17) rfl (fun hg4 => ?_) (fun hg4 => ?_))
    ·exact aB.run II 4 rfl (aB.nil (aC.ret ⟨.inr rfl, (aE.r1 rfl (.tmp rfl .nil)).cast (congrArg AV.bool (by grind [iN])), rfl⟩))
    ·exact aB.run II 4 rfl (aB.nil (aC.ret ⟨.inr rfl, (aE.r1 rfl (.tmp rfl .nil)).cast (congrArg AV.bool (by grind [iN])), rfl⟩))
theorem zV (n : Int) : Pure Tryz.prog 97 [.int .i64 n] (.bool (vB n)) := by
 refine Pure.aN Tryz.func97 rfl rfl (aF rfl) fun H => (aC.seq (aC.region (aB.run II 1 rfl (aB.nil (aC.seq (aC.region (aB.run II 1 rfl (aB.c1 rfl (aG (aF rfl) va rfl (oG _)) (aB.run II 1 rfl (aB.tell (d := 5) rfl (fun hg1 => ?_) (fun hg1 => ?_)))))))))))
 ·exact aB.run II 8 rfl (aB.nil (aC.ret ⟨.inr rfl, (aE.r1 rfl (.tmp rfl .nil)).cast (congrArg AV.bool (by grind [vB])), rfl⟩))
 ·refine aB.run II 4 rfl (aB.tell (d := 9) rfl (fun hg2 => ?_) (fun hg2 => ?_))
  ·exact aB.run II 4 rfl (aB.nil (aC.ret ⟨.inr rfl, (aE.r1 rfl (.tmp rfl .nil)).cast (congrArg AV.bool (by grind [vB])), rfl⟩))
  ·exact aB.run II 4 rfl (aB.nil (aC.ret ⟨.inr rfl, (aE.r1 rfl (.tmp rfl .nil)).cast (congrArg AV.bool (by grind [vB])), rfl⟩))
theorem CN (n w : Int) : Pure Tryz.prog 125 [.int .i64 n, .int .i64 w] (.bool (mj n w)) := by
 refine Pure.aN Tryz.func125 rfl rfl (aF rfl) fun H => (aC.seq (aC.region (aB.run II 1 rfl (aB.nil (aC.seq (aC.region (aB.run II 3 rfl (aB.tell (d := 7) rfl (fun hg1 => ?_) (fun hg1 => ?_)))))))))
 ·refine aB.run II 4 rfl (aB.tell (d := 11) rfl (fun hg2 => ?_) (fun hg2 => ?_))
  ·refine aB.run II 3 rfl (aB.tell (d := 14) rfl (fun hg3 => ?_) (fun hg3 => ?_))
   ·exact aB.run II 13 rfl (aB.nil (aC.ret ⟨.inr rfl, (aE.r1 rfl (.tmp rfl .nil)).cast (congrArg AV.bool (by grind [mj])), rfl⟩))
   ·refine aB.run II 4 rfl (aB.tell (d := 18) rfl (fun hg4 => ?_) (fun hg4 => ?_))
    ·exact aB.run II 9 rfl (aB.nil (aC.ret ⟨.inr rfl, (aE.r1 rfl (.tmp rfl .nil)).cast (congrArg AV.bool (by grind [mj])), rfl⟩))
    ·refine aB.run II 4 rfl (aB.tell (d := 22) rfl (fun hg5 => ?_) (fun hg5 => ?_))
     ·exact aB.run II 5 rfl (aB.nil (aC.ret ⟨.inr rfl, (aE.r1 rfl (.tmp rfl .nil)).cast (congrArg AV.bool (by grind [mj])), rfl⟩))
     ·exact aB.run II 5 rfl (aB.nil (aC.ret ⟨.inr rfl, (aE.r1 rfl (.tmp rfl .nil)).cast (congrArg AV.bool (by grind [mj])), rfl⟩))
  ·exact aB.run II 16 rfl (aB.nil (aC.ret ⟨.inr rfl, (aE.r1 rfl (.tmp rfl .nil)).cast (congrArg AV.bool (by grind [mj])), rfl⟩))
 ·exact aB.run II 20 rfl (aB.nil (aC.ret ⟨.inr rfl, (aE.r1 rfl (.tmp rfl .nil)).cast (congrArg AV.bool (by grind [mj])), rfl⟩))
theorem tA (c : UInt8) : Pure Tryz.prog 94 [.int .u8 (c.toNat : Int)] (.bool (letter c)) := by
 refine Pure.aN Tryz.func94 rfl rfl (aF rfl) fun H => (aC.seq (aC.region (aB.run II 1 rfl (aB.nil (aC.seq (aC.region (aB.run II 3 rfl (aB.tell (d := 5) rfl (fun hg1 => ?_) (fun hg1 => ?_)))))))))
 ·refine aB.run II 4 rfl (aB.tell (d := 9) rfl (fun hg2 => ?_) (fun hg2 => ?_))
  ·exact aB.run II 8 rfl (aB.nil (aC.ret ⟨.inr rfl, (aE.r1 rfl (.tmp rfl .nil)).cast (congrArg AV.bool (by grind [letter])), rfl⟩))
  ·refine aB.run II 3 rfl (aB.tell (d := 12) rfl (fun hg3 => ?_) (fun hg3 => ?_))
   ·exact aB.run II 5 rfl (aB.nil (aC.ret ⟨.inr rfl, (aE.r1 rfl (.tmp rfl .nil)).cast (congrArg AV.bool (by grind [letter])), rfl⟩))
   ·exact aB.run II 5 rfl (aB.nil (aC.ret ⟨.inr rfl, (aE.r1 rfl (.tmp rfl .nil)).cast (congrArg AV.bool (by grind [letter])), rfl⟩))
 ·refine aB.run II 7 rfl (aB.tell (d := 12) rfl (fun hg4 => ?_) (fun hg4 => ?_))
  ·exact aB.run II 5 rfl (aB.nil (aC.ret ⟨.inr rfl, (aE.r1 rfl (.tmp rfl .nil)).cast (congrArg AV.bool (by grind [letter])), rfl⟩))
  ·exact aB.run II 5 rfl (aB.nil (aC.ret ⟨.inr rfl, (aE.r1 rfl (.tmp rfl .nil)).cast (congrArg AV.bool (by grind [letter])), rfl⟩))
theorem CJ : Pure Tryz.prog 95 [] (.sl (mC.map .str)) := by
 exact Pure.aN Tryz.func95 rfl rfl (Nat.zero_le _) fun H => (aC.seq (aC.region (aB.run II 1 rfl (aB.nil (aC.seq (aC.region (aB.run II 2 rfl (aB.nil (aC.ret ⟨.inr rfl, (aE.r1 rfl (.tmp rfl .nil)).cast rfl, rfl⟩)))))))))
/- the document: names, lists, fields. -/
theorem fQ : aa Tryz.prog 64 = true := by kernel_rfl
theorem Am : aa Tryz.prog 94 = true := by kernel_rfl
theorem Fh : aa Tryz.prog 95 = true := by kernel_rfl
theorem ep : aa Tryz.prog 96 = true := by kernel_rfl
theorem Al : aa Tryz.prog 97 = true := by kernel_rfl
theorem cn : ie Tryz.prog 22 = some 2 := by kernel_rfl
theorem bL : ie Tryz.prog 23 = some 3 := by kernel_rfl
theorem cA : ie Tryz.prog 50 = some 1 := by kernel_rfl
theorem ca : ie Tryz.prog 78 = some 1 := by kernel_rfl
theorem qM : Tryz.prog.underlying 9 = some TypeDesc.string := Tryz.underlying9
theorem cu (s : aw) : Pure Tryz.prog 64 [.str s] (.bool (an s)) := by
 refine Pure.aN Tryz.func64 rfl rfl (aF rfl) fun H => (aC.seq (aC.region (aB.run II 1 rfl (aB.nil (aC.seq (aC.seq (aC.region (aB.run II 4 rfl (aB.tell (d := 9) rfl (fun hg1 => ?_) (fun hg1 => ?_))))))))))
 ·exact aB.run II 10 rfl (aB.nil (aC.bG rfl rfl (aC.seq (aC.region (aB.run II 1 rfl (aB.nil (aC.ret ⟨.inr rfl, (aE.r1 rfl (.tmp rfl .nil)).cast (congrArg AV.bool (by grind [an, uS])), rfl⟩)))))))
 ·refine aB.run II 5 rfl (aB.tell (d := 14) rfl (fun hg2 => ?_) (fun hg2 => ?_))
  ·exact aB.run II 5 rfl (aB.nil (aC.bG rfl rfl (aC.seq (aC.region (aB.run II 1 rfl (aB.nil (aC.ret ⟨.inr rfl, (aE.r1 rfl (.tmp rfl .nil)).cast (congrArg AV.bool (by grind [an, uS])), rfl⟩)))))))
  ·refine aB.run II 1 rfl (aB.g1 rfl (aF rfl) rfl rfl (mQ (aF rfl) qM rfl rfl (by decide) (show s[0]? = some (s.headD 0) by cases s with | nil => simp at hg2 hg1 | cons a l => rfl)) (aB.g1 rfl (aF rfl) rfl rfl (aG (aF rfl) Am rfl (tA _)) (aB.run II 2 rfl (aB.nil (aC.cond rfl (fun hc3 => ?_) (fun hc3 => ?_))))))
   ·exact aC.seq (aC.region (aB.run II 1 rfl (aB.nil (aC.ret ⟨.inr rfl, (aE.r1 rfl (.tmp rfl .nil)).cast (congrArg AV.bool (by grind [an, uS])), rfl⟩))))
   ·refine aC.skip (aC.seq (aC.seq (aC.region (aB.run II 1 rfl (aB.nil (aC.blk (aC.aJ (Kept.aH [.s 3, .h, .s 0] rfl (by decide) (Kept.now (aC.aW (fun (i : Nat) => [(.s 3, .sv (.v (.int .i64 (i : Int))))]) _ (fun (i : Nat) => (s.drop i).all uS = s.all uS) (fun (i : Nat) => s.length - i) 0 rfl (by simp) ?_))))))))))
    rintro i hI
    refine aC.seq (aC.seq (aC.region (aB.run II 4 rfl (aB.nil (aC.cond rfl (fun hc4 => ?_) (fun hc4 => ?_))))))
    ·have hi := JH hc4
     have hS := iw (p := uS) hi
     have hL : s.length ≤ 12 := by have := of_decide_eq_false hg2; omega
     refine aC.skip (aC.seq (aC.blk (aC.seq (aC.region (aB.run II 2 rfl (aB.c1 rfl (mQ (aF rfl) qM rfl rfl (Int.natCast_nonneg _) (HM hi)) (aB.c1 rfl (aG (aF rfl) Am rfl (tA _)) (aB.run II 2 rfl (aB.tell (d := 31) rfl (fun hg5 => ?_) (fun hg5 => ?_))))))))))
     ·refine aB.run II 2 rfl (aB.g1 rfl (aF rfl) rfl rfl (mQ (aF rfl) qM rfl rfl (Int.natCast_nonneg _) (HM hi)) (aB.run II 2 rfl (aB.tell (d := 36) rfl (fun hg6 => ?_) (fun hg6 => ?_))))
      ·refine aB.run II 9 rfl (aB.g1 rfl (aF rfl) rfl rfl (mQ (aF rfl) qM rfl rfl (Int.natCast_nonneg _) (HM hi)) (aB.run II 2 rfl (aB.nil (aC.cond rfl (fun hc7 => ?_) (fun hc7 => ?_)))))
       ·exact aC.seq (aC.region (aB.run II 1 rfl (aB.nil (aC.ret ⟨.inr rfl, (aE.r1 rfl (.tmp rfl .nil)).cast (congrArg AV.bool (by grind [an, uS])), rfl⟩))))
       ·exact aC.skip (aC.region (aB.run II 3 rfl (aB.kept (Kept.aX 3 rfl (inc (by omega)) (Kept.aH [.s 3, .h, .s 0] rfl (by decide) (Kept.now ⟨i + 1, by omega, by grind [uS], rfl⟩))))))
      ·refine aB.run II 2 rfl (aB.g1 rfl (aF rfl) rfl rfl (mQ (aF rfl) qM rfl rfl (Int.natCast_nonneg _) (HM hi)) (aB.run II 4 rfl (aB.tell (d := 43) rfl (fun hg8 => ?_) (fun hg8 => ?_))))
       ·refine aB.run II 2 rfl (aB.g1 rfl (aF rfl) rfl rfl (mQ (aF rfl) qM rfl rfl (Int.natCast_nonneg _) (HM hi)) (aB.run II 2 rfl (aB.nil (aC.cond rfl (fun hc9 => ?_) (fun hc9 => ?_)))))
        ·exact aC.seq (aC.region (aB.run II 1 rfl (aB.nil (aC.ret ⟨.inr rfl, (aE.r1 rfl (.tmp rfl .nil)).cast (congrArg AV.bool (by grind [an, uS])), rfl⟩))))
        ·exact aC.skip (aC.region (aB.run II 3 rfl (aB.kept (Kept.aX 3 rfl (inc (by omega)) (Kept.aH [.s 3, .h, .s 0] rfl (by decide) (Kept.now ⟨i + 1, by omega, by grind [uS], rfl⟩))))))
       ·exact aB.run II 5 rfl (aB.nil (aC.bR rfl rfl (aC.skip (aC.region (aB.run II 3 rfl (aB.kept (Kept.aX 3 rfl (inc (by omega)) (Kept.aH [.s 3, .h, .s 0] rfl (by decide) (Kept.now ⟨i + 1, by omega, by grind [uS], rfl⟩)))))))))
     ·exact aB.run II 17 rfl (aB.nil (aC.bR rfl rfl (aC.skip (aC.region (aB.run II 3 rfl (aB.kept (Kept.aX 3 rfl (inc (by omega)) (Kept.aH [.s 3, .h, .s 0] rfl (by decide) (Kept.now ⟨i + 1, by omega, by grind [uS], rfl⟩)))))))))
    ·have hi := JJ hc4
     have hS := lz (p := uS) hi
     refine aC.exit (aC.seq (aC.region (aB.c1 rfl (aG (aF rfl) Fh rfl CJ) (aB.run II 1 rfl (aB.nil (aC.seq (aC.seq (aC.region (aB.run II 1 rfl (aB.nil (aC.blk (aC.aJ (Kept.aH [.s 5, .h, .s 0, .s 4] rfl (by decide) (Kept.now (aC.aW (fun (j : Nat) => [(.s 5, .sv (.v (.int .i64 (j : Int))))]) _ (fun (j : Nat) => (mC.drop j).all (fun w => !(w == s)) = mC.all (fun w => !(w == s))) (fun (j : Nat) => mC.length - j) 0 rfl (by simp) ?_)))))))))))))))
     rintro j hJ
     refine aC.seq (aC.seq (aC.region (aB.run II 4 rfl (aB.nil (aC.cond rfl (fun hc10 => ?_) (fun hc10 => ?_))))))
     ·have hj := ch hc10
      have hT := iw (p := fun w => !(w == s)) hj
      have hW : mC.length = 35 := rfl
      refine aC.skip (aC.seq (aC.blk (aC.seq (aC.region (aB.run II 2 rfl (aB.c1 rfl (aI (aF rfl) ca rfl rfl (Int.natCast_nonneg _) (bz hj) rfl) (aB.run II 3 rfl (aB.nil (aC.cond rfl (fun hc11 => ?_) (fun hc11 => ?_))))))))))
      ·exact aC.seq (aC.region (aB.run II 1 rfl (aB.nil (aC.ret ⟨.inr rfl, (aE.r1 rfl (.tmp rfl .nil)).cast (congrArg AV.bool (by grind [an, uS])), rfl⟩))))
      ·exact aC.skip (aC.region (aB.run II 3 rfl (aB.kept (Kept.aX 5 rfl (inc (by omega)) (Kept.aH [.s 5, .h, .s 0, .s 4] rfl (by decide) (Kept.now ⟨j + 1, by omega, by grind, rfl⟩))))))
     ·have hj := ck hc10
      have hT := lz (p := fun w => !(w == s)) hj
      exact aC.exit (aC.seq (aC.region (aB.run II 1 rfl (aB.nil (aC.ret ⟨.inr rfl, (aE.r1 rfl (.tmp rfl .nil)).cast (congrArg AV.bool (by grind [an, uS])), rfl⟩)))))
theorem oI (l : List aw) (hl : l.length ≤ 9223372036854775807) : Pure Tryz.prog 66 [.sl (l.map .str)] (.bool (once l)) := by
 refine Pure.aN Tryz.func66 rfl rfl (aF rfl) fun H => (aC.seq (aC.region (aB.run II 1 rfl (aB.nil (aC.seq (aC.seq (aC.region (aB.run II 1 rfl (aB.nil (aC.blk (aC.aJ (Kept.aH [.s 3, .h, .s 0] rfl (by decide) (Kept.now (aC.aW (fun (i : Nat) => [(.s 3, .sv (.v (.int .i64 (i : Int))))]) _ (fun (i : Nat) => eg l (l.drop i) i = once l) (fun (i : Nat) => l.length - i) 0 rfl (by simp [once]) ?_))))))))))))))
 rintro i hI
 refine aC.seq (aC.seq (aC.region (aB.run II 4 rfl (aB.nil (aC.cond rfl (fun hc1 => ?_) (fun hc1 => ?_))))))
 ·have hi := ch hc1
  have hS := px hi
  refine aC.skip (aC.seq (aC.blk (aC.seq (aC.region (aB.run II 1 rfl (aB.nil (aC.blk (aC.aJ (Kept.aH [.s 4, .h, .s 0, .s 3] rfl (by decide) (Kept.now (aC.aW (fun (k : Nat) => [(.s 4, .sv (.v (.int .i64 (k : Int))))]) _ (fun (k : Nat) => ((l.take i).drop k).any (fun b => l[i] == b) = (l.take i).any (fun b => l[i] == b)) (fun (k : Nat) => i - k) 0 rfl (by simp) ?_)))))))))))
  rintro k hK
  refine aC.seq (aC.seq (aC.region (aB.run II 3 rfl (aB.nil (aC.cond rfl (fun hc2 => ?_) (fun hc2 => ?_))))))
  ·have hk := JG hc2
   have hT := bS (p := fun b => l[i] == b) (l := l.take i) (i := k) (by simp; omega)
   have hG : (l.take i)[k]'(by simp; omega) = l[k]'(by omega) := by simp
   refine aC.skip (aC.seq (aC.blk (aC.seq (aC.drawn mixed rfl (aD.run II 2 rfl (aD.c1 rfl (aI (aF rfl) ca rfl rfl (Int.natCast_nonneg _) (bz hi) rfl) (aD.run II 3 rfl (aD.c1 rfl (aI (aF rfl) ca rfl rfl (Int.natCast_nonneg _) (bz (Nat.lt_trans hk hi)) rfl) (aD.run II 2 rfl (aD.nil (by kernel_rfl) (Kept.now (aC.cond rfl (fun hc3 => ?_) (fun hc3 => ?_)))))))))))))
   ·exact aC.seq (aC.region (aB.run II 1 rfl (aB.nil (aC.ret ⟨.inr rfl, (aE.r1 rfl (.tmp rfl .nil)).cast (congrArg AV.bool (by grind [once])), rfl⟩))))
   ·exact aC.skip (aC.region (aB.run II 3 rfl (aB.kept (Kept.aX 4 rfl (inc (by omega)) (Kept.aH [.s 4, .h, .s 0, .s 3] rfl (by decide) (Kept.now ⟨k + 1, by omega, by grind, rfl⟩))))))
  ·have hk := JI hc2
   have hT := bq (p := fun b => l[i] == b) (l := l.take i) (i := k) (by simp; omega)
   exact aC.exit (aC.region (aB.run II 3 rfl (aB.kept (Kept.aX 3 rfl (inc (by omega)) (Kept.aH [.s 3, .h, .s 0] rfl (by decide) (Kept.now ⟨i + 1, by omega, by grind, rfl⟩))))))
 ·have hi := ck hc1
  have hS := rk hi
  exact aC.exit (aC.seq (aC.region (aB.run II 1 rfl (aB.nil (aC.ret ⟨.inr rfl, (aE.r1 rfl (.tmp rfl .nil)).cast (congrArg AV.bool (by grind [once])), rfl⟩)))))
theorem wO (l : List aw) (hl : l.length ≤ 9223372036854775807) : Pure Tryz.prog 68 [.sl (l.map .str)] (.bool (ji l)) := by
 refine Pure.aN Tryz.func68 rfl rfl (aF rfl) fun H => (aC.seq (aC.region (aB.run II 1 rfl (aB.nil (aC.seq (aC.seq (aC.region (aB.run II 1 rfl (aB.nil (aC.blk (aC.aJ (Kept.aH [.s 3, .h, .s 0] rfl (by decide) (Kept.now (aC.aW (fun (i : Nat) => [(.s 3, .sv (.v (.int .i64 (i : Int))))]) _ (fun (i : Nat) => 0 < i ∧ ji (l.drop (i - 1)) = ji l) (fun (i : Nat) => l.length - i) 1 rfl (by simp) ?_))))))))))))))
 rintro i hI
 refine aC.seq (aC.seq (aC.region (aB.run II 4 rfl (aB.nil (aC.cond rfl (fun hc1 => ?_) (fun hc1 => ?_))))))
 ·have hi := ch hc1
  have hS := ud hI.1 hi
  refine aC.skip (aC.seq (aC.blk (aC.seq (aC.drawn mixed rfl (aD.run II 3 rfl (aD.c1 rfl (aI (aF rfl) ca rfl rfl (by rw [qB hI.1 (by omega)]; exact Int.natCast_nonneg _) (yX (qB hI.1 (by omega)) (show i - 1 < l.length by omega)) rfl) ?_))))))
  refine aD.run II 3 rfl (aD.c1 rfl (aI (aF rfl) ca rfl rfl (Int.natCast_nonneg _) (bz hi) rfl) (aD.run II 2 rfl (aD.nil (by kernel_rfl) (Kept.now (aC.cond rfl (fun hc2 => ?_) (fun hc2 => ?_))))))
  ·exact aC.seq (aC.region (aB.run II 1 rfl (aB.nil (aC.ret ⟨.inr rfl, (aE.r1 rfl (.tmp rfl .nil)).cast (congrArg AV.bool (by grind [])), rfl⟩))))
  ·exact aC.skip (aC.region (aB.run II 3 rfl (aB.kept (Kept.aX 3 rfl (inc (by omega)) (Kept.aH [.s 3, .h, .s 0] rfl (by decide) (Kept.now (⟨i + 1, by omega, ⟨by omega, by grind⟩, rfl⟩)))))))
 ·have hi := ck hc1
  have hS := xi hI.1 hi
  exact aC.exit (aC.seq (aC.region (aB.run II 1 rfl (aB.nil (aC.ret ⟨.inr rfl, (aE.r1 rfl (.tmp rfl .nil)).cast (congrArg AV.bool (by grind [])), rfl⟩)))))
theorem rZ (l : List Int) (hl : l.length ≤ 9223372036854775807) : Pure Tryz.prog 67 [.sl (l.map dL)] (.bool (eQ l)) := by
 refine Pure.aN Tryz.func67 rfl rfl (aF rfl) fun H => (aC.seq (aC.region (aB.run II 1 rfl (aB.nil (aC.seq (aC.seq (aC.region (aB.run II 1 rfl (aB.nil (aC.blk (aC.aJ (Kept.aH [.s 3, .h, .s 0] rfl (by decide) (Kept.now (aC.aW (fun (i : Nat) => [(.s 3, .sv (.v (.int .i64 (i : Int))))]) _ (fun (i : Nat) => 0 < i ∧ eQ (l.drop (i - 1)) = eQ l) (fun (i : Nat) => l.length - i) 1 rfl (by simp) ?_))))))))))))))
 rintro i hI
 refine aC.seq (aC.seq (aC.region (aB.run II 4 rfl (aB.nil (aC.cond rfl (fun hc1 => ?_) (fun hc1 => ?_))))))
 ·have hi := ch hc1
  have hS := uc hI.1 hi
  refine aC.skip (aC.seq (aC.blk (aC.seq (aC.drawn mixed rfl (aD.run II 3 rfl (aD.c1 rfl (aI (aF rfl) cA rfl rfl (by rw [qB hI.1 (by omega)]; exact Int.natCast_nonneg _) (yX (qB hI.1 (by omega)) (show i - 1 < l.length by omega)) rfl) ?_))))))
  refine aD.run II 3 rfl (aD.c1 rfl (aI (aF rfl) cA rfl rfl (Int.natCast_nonneg _) (bz hi) rfl) (aD.run II 2 rfl (aD.nil (by kernel_rfl) (Kept.now (aC.cond rfl (fun hc2 => ?_) (fun hc2 => ?_))))))
  ·exact aC.seq (aC.region (aB.run II 1 rfl (aB.nil (aC.ret ⟨.inr rfl, (aE.r1 rfl (.tmp rfl .nil)).cast (congrArg AV.bool (by grind [])), rfl⟩))))
  ·exact aC.skip (aC.region (aB.run II 3 rfl (aB.kept (Kept.aX 3 rfl (inc (by omega)) (Kept.aH [.s 3, .h, .s 0] rfl (by decide) (Kept.now (⟨i + 1, by omega, ⟨by omega, by grind⟩, rfl⟩)))))))
 ·have hi := ck hc1
  have hS := xh hI.1 hi
  exact aC.exit (aC.seq (aC.region (aB.run II 1 rfl (aB.nil (aC.ret ⟨.inr rfl, (aE.r1 rfl (.tmp rfl .nil)).cast (congrArg AV.bool (by grind [])), rfl⟩)))))
theorem Dm (l : List Int) (n : Int) (hl : l.length ≤ 9223372036854775807) : Pure Tryz.prog 70 [.sl (l.map dL), .int .i64 n] (.bool (l.any (· == n))) := by
 refine Pure.aN Tryz.func70 rfl rfl (aF rfl) fun H => (aC.seq (aC.region (aB.run II 1 rfl (aB.nil (aC.seq (aC.seq (aC.region (aB.run II 1 rfl (aB.nil (aC.blk (aC.aJ (Kept.aH [.s 5, .h, .s 0, .s 1] rfl (by decide) (Kept.now (aC.aW (fun (i : Nat) => [(.s 5, .sv (.v (.int .i64 (i : Int))))]) _ (fun (i : Nat) => (l.drop i).any (· == n) = l.any (· == n)) (fun (i : Nat) => l.length - i) 0 rfl (by simp) ?_))))))))))))))
 rintro i hI
 refine aC.seq (aC.seq (aC.region (aB.run II 4 rfl (aB.nil (aC.cond rfl (fun hc1 => ?_) (fun hc1 => ?_))))))
 ·have hi := ch hc1
  have hS := bS (p := (· == n)) hi
  refine aC.skip (aC.seq (aC.blk (aC.seq (aC.region (aB.run II 2 rfl (aB.c1 rfl (aI (aF rfl) cA rfl rfl (Int.natCast_nonneg _) (bz hi) rfl) (aB.run II 3 rfl (aB.nil (aC.cond rfl (fun hc2 => ?_) (fun hc2 => ?_))))))))))
  ·exact aC.seq (aC.region (aB.run II 1 rfl (aB.nil (aC.ret ⟨.inr rfl, (aE.r1 rfl (.tmp rfl .nil)).cast (congrArg AV.bool (by grind [])), rfl⟩))))
  ·exact aC.skip (aC.region (aB.run II 3 rfl (aB.kept (Kept.aX 5 rfl (inc (by omega)) (Kept.aH [.s 5, .h, .s 0, .s 1] rfl (by decide) (Kept.now ⟨i + 1, by omega, by grind, rfl⟩))))))
 ·have hi := ck hc1
  have hS := bq (p := (· == n)) hi
  exact aC.exit (aC.seq (aC.region (aB.run II 1 rfl (aB.nil (aC.ret ⟨.inr rfl, (aE.r1 rfl (.tmp rfl .nil)).cast (congrArg AV.bool (by grind [])), rfl⟩)))))
theorem gv (s : aM) (name : aw) (hl : s.msgs.length ≤ 9223372036854775807) : Pure Tryz.prog 40 [s.av, .str name] (.int .i64 (s.bD name)) := by
 refine Pure.aN Tryz.func40 rfl rfl (aF rfl) fun H => (aC.seq (aC.region (aB.run II 2 rfl (aB.nil (aC.seq (aC.seq (aC.region (aB.run II 1 rfl (aB.nil (aC.blk (aC.aJ (Kept.aH [.s 5, .h, .s 1, .s 2, .b 2] rfl (by decide) (Kept.now (aC.aW (fun (i : Nat) => [(.s 5, .sv (.v (.int .i64 (i : Int))))]) _ (fun (i : Nat) => bU (fun m : aU => m.name == name) (s.msgs.drop i) i = s.bD name) (fun (i : Nat) => s.msgs.length - i) 0 rfl (by simp [aM.bD]) ?_))))))))))))))
 rintro i hI
 refine aC.seq (aC.seq (aC.region (aB.run II 5 rfl (aB.nil (aC.cond rfl (fun hc1 => ?_) (fun hc1 => ?_))))))
 ·have hi := ch hc1
  have hS := cj (p := (fun m : aU => m.name == name)) hi
  refine aC.skip (aC.seq (aC.blk (aC.seq (aC.region (aB.run II 3 rfl (aB.c1 rfl (aI (aF rfl) bL rfl rfl (Int.natCast_nonneg _) (bz hi) rfl) (aB.run II 4 rfl (aB.nil (aC.cond rfl (fun hc2 => ?_) (fun hc2 => ?_))))))))))
  ·exact aC.seq (aC.region (aB.run II 2 rfl (aB.nil (aC.ret ⟨.inr rfl, (aE.r1 rfl (.tmp rfl .nil)).cast (congrArg (AV.int .i64) (by grind [aM.bD])), rfl⟩))))
  ·exact aC.skip (aC.region (aB.run II 3 rfl (aB.kept (Kept.aX 5 rfl (inc (by omega)) (Kept.aH [.s 5, .h, .s 1, .s 2, .b 2] rfl (by decide) (Kept.now ⟨i + 1, by omega, by grind, rfl⟩))))))
 ·have hi := ck hc1
  have hS := eN (p := (fun m : aU => m.name == name)) hi
  exact aC.exit (aC.seq (aC.region (aB.run II 1 rfl (aB.nil (aC.ret ⟨.inr rfl, (aE.r1 rfl (.tmp rfl .nil)).cast (congrArg (AV.int .i64) (by grind [aM.bD])), rfl⟩)))))
theorem tB (s : aM) (name : aw) (hl : s.enums.length ≤ 9223372036854775807) : Pure Tryz.prog 71 [s.av, .str name] (.int .i64 (s.dy name)) := by
 refine Pure.aN Tryz.func71 rfl rfl (aF rfl) fun H => (aC.seq (aC.region (aB.run II 2 rfl (aB.nil (aC.seq (aC.seq (aC.region (aB.run II 1 rfl (aB.nil (aC.blk (aC.aJ (Kept.aH [.s 5, .h, .s 1, .s 2, .b 2] rfl (by decide) (Kept.now (aC.aW (fun (i : Nat) => [(.s 5, .sv (.v (.int .i64 (i : Int))))]) _ (fun (i : Nat) => bU (fun m : dP => m.name == name) (s.enums.drop i) i = s.dy name) (fun (i : Nat) => s.enums.length - i) 0 rfl (by simp [aM.dy]) ?_))))))))))))))
 rintro i hI
 refine aC.seq (aC.seq (aC.region (aB.run II 5 rfl (aB.nil (aC.cond rfl (fun hc1 => ?_) (fun hc1 => ?_))))))
 ·have hi := ch hc1
  have hS := cj (p := (fun m : dP => m.name == name)) hi
  refine aC.skip (aC.seq (aC.blk (aC.seq (aC.region (aB.run II 3 rfl (aB.c1 rfl (aI (aF rfl) cn rfl rfl (Int.natCast_nonneg _) (bz hi) rfl) (aB.run II 4 rfl (aB.nil (aC.cond rfl (fun hc2 => ?_) (fun hc2 => ?_))))))))))
  ·exact aC.seq (aC.region (aB.run II 2 rfl (aB.nil (aC.ret ⟨.inr rfl, (aE.r1 rfl (.tmp rfl .nil)).cast (congrArg (AV.int .i64) (by grind [aM.dy])), rfl⟩))))
  ·exact aC.skip (aC.region (aB.run II 3 rfl (aB.kept (Kept.aX 5 rfl (inc (by omega)) (Kept.aH [.s 5, .h, .s 1, .s 2, .b 2] rfl (by decide) (Kept.now ⟨i + 1, by omega, by grind, rfl⟩))))))
 ·have hi := ck hc1
  have hS := eN (p := (fun m : dP => m.name == name)) hi
  exact aC.exit (aC.seq (aC.region (aB.run II 1 rfl (aB.nil (aC.ret ⟨.inr rfl, (aE.r1 rfl (.tmp rfl .nil)).cast (congrArg (AV.int .i64) (by grind [aM.dy])), rfl⟩)))))
theorem Ef (f : ag) : Pure Tryz.prog 65 [f.av] (.int .i64 f.fu) := by
 refine Pure.aN Tryz.func65 rfl rfl (aF rfl) fun H => (aC.seq (aC.region (aB.run II 2 rfl (aB.nil (aC.c8 [.h, .s 1, .b 1] (fun (_ : Unit) => []) (fun (_ : Unit) => an f.name = true ∧ (f.one = [] ∨ an f.one = true)) rfl ?_ ?_)))))
 ·refine aC.seq (aC.region (aB.run II 2 rfl (aB.c1 rfl (aG (aF rfl) fQ rfl (cu _)) (aB.run II 2 rfl (aB.tell (d := 7) rfl (fun hg1 => ?_) (fun hg1 => ?_))))))
  ·exact aB.run II 10 rfl (aB.nil (aC.bG rfl rfl (aC.seq (aC.region (aB.run II 1 rfl (aB.nil (aC.ret ⟨.inr rfl, (aE.r1 rfl (.tmp rfl .nil)).cast (congrArg (AV.int .i64) (by grind [ag.fu])), rfl⟩)))))))
  ·refine aB.run II 4 rfl (aB.tell (d := 11) rfl (fun hg2 => ?_) (fun hg2 => ?_))
   ·refine aB.run II 2 rfl (aB.g1 rfl (aF rfl) rfl rfl (aG (aF rfl) fQ rfl (cu _)) (aB.run II 3 rfl (aB.nil (aC.cond rfl (fun hc3 => ?_) (fun hc3 => ?_)))))
    ·exact aC.seq (aC.region (aB.run II 1 rfl (aB.nil (aC.ret ⟨.inr rfl, (aE.r1 rfl (.tmp rfl .nil)).cast (congrArg (AV.int .i64) (by grind [ag.fu])), rfl⟩))))
    ·exact aC.aJ (Kept.aH [.h, .s 1, .b 1] rfl (by decide) (Kept.now (aC.skip ⟨(), by grind, rfl⟩)))
   ·exact aB.run II 6 rfl (aB.nil (aC.bR rfl rfl (aC.aJ (Kept.aH [.h, .s 1, .b 1] rfl (by decide) (Kept.now (aC.skip ⟨(), by grind, rfl⟩))))))
 ·rintro _ hF3
  refine aC.c8 [.h, .s 1, .b 1] (fun (_ : Unit) => []) (fun (_ : Unit) => ((f.ty = 14 ∨ f.ty = 15) ∧ an f.ref = true) ∨ (¬ (f.ty = 14 ∨ f.ty = 15) ∧ f.ref = [])) rfl ?_ ?_
  ·refine aC.seq (aC.region (aB.run II 4 rfl (aB.tell (d := 21) rfl (fun hg4 => ?_) (fun hg4 => ?_))))
   ·refine aB.run II 4 rfl (aB.nil (aC.bG rfl rfl (aC.seq (aC.region (aB.run II 2 rfl (aB.c1 rfl (aG (aF rfl) fQ rfl (cu _)) (aB.run II 1 rfl (aB.nil (aC.cond rfl (fun hc5 => ?_) (fun hc5 => ?_))))))))))
    ·exact aC.seq (aC.region (aB.run II 1 rfl (aB.nil (aC.ret ⟨.inr rfl, (aE.r1 rfl (.tmp rfl .nil)).cast (congrArg (AV.int .i64) (by grind [ag.fu])), rfl⟩))))
    ·exact aC.aJ (Kept.aH [.h, .s 1, .b 1] rfl (by decide) (Kept.now (aC.skip ⟨(), by grind, rfl⟩)))
   ·refine aB.run II 4 rfl (aB.nil (aC.cond rfl (fun hc6 => ?_) (fun hc6 => ?_)))
    ·refine aC.seq (aC.region (aB.run II 2 rfl (aB.c1 rfl (aG (aF rfl) fQ rfl (cu _)) (aB.run II 1 rfl (aB.nil (aC.cond rfl (fun hc7 => ?_) (fun hc7 => ?_)))))))
     ·exact aC.seq (aC.region (aB.run II 1 rfl (aB.nil (aC.ret ⟨.inr rfl, (aE.r1 rfl (.tmp rfl .nil)).cast (congrArg (AV.int .i64) (by grind [ag.fu])), rfl⟩))))
     ·exact aC.aJ (Kept.aH [.h, .s 1, .b 1] rfl (by decide) (Kept.now (aC.skip ⟨(), by grind, rfl⟩)))
    ·refine aC.seq (aC.region (aB.run II 3 rfl (aB.nil (aC.cond rfl (fun hc8 => ?_) (fun hc8 => ?_)))))
     ·exact aC.seq (aC.region (aB.run II 1 rfl (aB.nil (aC.ret ⟨.inr rfl, (aE.r1 rfl (.tmp rfl .nil)).cast (congrArg (AV.int .i64) (by grind [ag.fu])), rfl⟩))))
     ·exact aC.aJ (Kept.aH [.h, .s 1, .b 1] rfl (by decide) (Kept.now (aC.skip ⟨(), by grind, rfl⟩)))
  ·rintro _ hF8
   refine aC.c8 [.h, .s 1, .b 1] (fun (_ : Unit) => []) (fun (_ : Unit) => nJ f.num = true ∧ 1 ≤ f.ty ∧ f.ty ≤ 15 ∧ (f.rep = false ∨ f.one = [])) rfl ?_ ?_
   ·refine aC.seq (aC.region (aB.run II 2 rfl (aB.c1 rfl (aG (aF rfl) ep rfl (eZ _)) (aB.run II 2 rfl (aB.tell (d := 37) rfl (fun hg9 => ?_) (fun hg9 => ?_))))))
    ·exact aB.run II 18 rfl (aB.nil (aC.bG rfl rfl (aC.seq (aC.region (aB.run II 1 rfl (aB.nil (aC.ret ⟨.inr rfl, (aE.r1 rfl (.tmp rfl .nil)).cast (congrArg (AV.int .i64) (by grind [ag.fu])), rfl⟩)))))))
    ·refine aB.run II 5 rfl (aB.tell (d := 42) rfl (fun hg10 => ?_) (fun hg10 => ?_))
     ·exact aB.run II 13 rfl (aB.nil (aC.bG rfl rfl (aC.seq (aC.region (aB.run II 1 rfl (aB.nil (aC.ret ⟨.inr rfl, (aE.r1 rfl (.tmp rfl .nil)).cast (congrArg (AV.int .i64) (by grind [ag.fu])), rfl⟩)))))))
     ·refine aB.run II 5 rfl (aB.tell (d := 47) rfl (fun hg11 => ?_) (fun hg11 => ?_))
      ·exact aB.run II 8 rfl (aB.nil (aC.bG rfl rfl (aC.seq (aC.region (aB.run II 1 rfl (aB.nil (aC.ret ⟨.inr rfl, (aE.r1 rfl (.tmp rfl .nil)).cast (congrArg (AV.int .i64) (by grind [ag.fu])), rfl⟩)))))))
      ·refine aB.run II 3 rfl (aB.tell (d := 50) rfl (fun hg12 => ?_) (fun hg12 => ?_))
       ·refine aB.run II 5 rfl (aB.nil (aC.cond rfl (fun hc13 => ?_) (fun hc13 => ?_)))
        ·exact aC.seq (aC.region (aB.run II 1 rfl (aB.nil (aC.ret ⟨.inr rfl, (aE.r1 rfl (.tmp rfl .nil)).cast (congrArg (AV.int .i64) (by grind [ag.fu])), rfl⟩))))
        ·exact aC.aJ (Kept.aH [.h, .s 1, .b 1] rfl (by decide) (Kept.now (aC.skip ⟨(), by grind, rfl⟩)))
       ·exact aB.run II 5 rfl (aB.nil (aC.bR rfl rfl (aC.aJ (Kept.aH [.h, .s 1, .b 1] rfl (by decide) (Kept.now (aC.skip ⟨(), by grind, rfl⟩))))))
   ·rintro _ hF10
    refine aC.seq (aC.seq (aC.region (aB.run II 3 rfl (aB.tell (d := 58) rfl (fun hg14 => ?_) (fun hg14 => ?_)))))
    ·refine aB.run II 4 rfl (aB.tell (d := 62) rfl (fun hg15 => ?_) (fun hg15 => ?_))
     ·exact aB.run II 6 rfl (aB.nil (aC.bG rfl rfl (aC.seq (aC.region (aB.run II 1 rfl (aB.nil (aC.ret ⟨.inr rfl, (aE.r1 rfl (.tmp rfl .nil)).cast (congrArg (AV.int .i64) (by grind [ag.fu])), rfl⟩)))))))
     ·refine aB.run II 2 rfl (aB.g1 rfl (aF rfl) rfl rfl (aG (aF rfl) Al rfl (zV _)) (aB.run II 3 rfl (aB.nil (aC.cond rfl (fun hc16 => ?_) (fun hc16 => ?_)))))
      ·exact aC.seq (aC.region (aB.run II 1 rfl (aB.nil (aC.ret ⟨.inr rfl, (aE.r1 rfl (.tmp rfl .nil)).cast (congrArg (AV.int .i64) (by grind [ag.fu])), rfl⟩))))
      ·exact aC.skip (aC.seq (aC.region (aB.run II 1 rfl (aB.nil (aC.ret ⟨.inr rfl, (aE.r1 rfl (.tmp rfl .nil)).cast (congrArg (AV.int .i64) (by grind [ag.fu])), rfl⟩)))))
    ·exact aB.run II 10 rfl (aB.nil (aC.bR rfl rfl (aC.skip (aC.seq (aC.region (aB.run II 1 rfl (aB.nil (aC.ret ⟨.inr rfl, (aE.r1 rfl (.tmp rfl .nil)).cast (congrArg (AV.int .i64) (by grind [ag.fu])), rfl⟩))))))))
end Go.Proofs.YtpifnegikoldmaaGreatDoor.X
