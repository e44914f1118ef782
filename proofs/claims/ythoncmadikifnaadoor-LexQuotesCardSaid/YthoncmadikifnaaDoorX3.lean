/- The program logic's rules: operations that look at slots alone. No condition. -/
import Derived.Test.YthoncmadikifnaaDoorX2
set_option linter.unusedVariables false
namespace Go.Proofs.YthoncmadikifnaaDoor.X
open Go Go.RowKit

/-! ### Operands -/
def cav : Value → Option AV
  | .bool b => some (.bool b)
  | .int k n => some (.int k n)
  | .string s => some (.str s.data.toList)
  | .pointer none => some .nilp
  | .slice _ 0 _ => some (.sl [])
  | .nilFunc => some .nilf
  | .nilIface => some .nili
  | _ => none
theorem cav_sound (G : Gh) {v : Value} {a : AV} (h : cav v = some a) : V G v a := by
  unfold cav at h
  split at h <;> first | (cases h; done) | skip
  all_goals cases h
  · exact .bool _
  · exact .int _ _
  · rename_i s
    have := V.str (G := G) s.data.toList
    simpa using this
  · exact .nilp
  · exact .slE _ _
  · exact .nilf
  · exact .nili
def opd (x : Operand) (s : St) : Option Sv :=
  match x with
  | .tmp t => match get s (.s t) with
    | some (.sv x) => some x
    | _ => none
  | .const v => match cav v with
    | some a => some (.v a)
    | none => none
  | .func f => some (.v (.fn f []))
  | .global _ => none
def rd (x : Operand) : List Comp :=
  match x with
  | .tmp t => [.s t]
  | _ => []
theorem opd_sound {E : Ent} {N : Nat} {G : Gh} {L : Loc} {a : Act} {w : World} {s t : St} (hr : Rel E N G L a w t) {x : Operand} (hR : Reads (rd x) s t) {y : Sv} (h : opd x s = some y) : SV G L (a.eval x) y := by
  cases x with
  | tmp n =>
    simp only [opd] at h
    split at h
    · rename_i z hz
      cases h
      exact hr.slot n _ (by rw [hR (.s n) (by simp [rd])]; exact hz)
    · cases h
  | const v =>
    simp only [opd] at h
    split at h
    · rename_i b hb
      cases h
      exact cav_sound G hb
    · cases h
  | func f =>
    simp only [opd, Option.some.injEq] at h
    subst h
    exact V.fn f #[] [] rfl (fun j c h => by simp at h)
  | global g => simp [opd] at h
/-- Its value, as one that can leave the frame. -/
def opv (x : Operand) (s : St) : Option AV := (opd x s).bind Sv.av
theorem opv_sound {E : Ent} {N : Nat} {G : Gh} {L : Loc} {a : Act} {w : World} {s t : St} (hr : Rel E N G L a w t) {x : Operand} (hR : Reads (rd x) s t) {y : AV} (h : opv x s = some y) : V G (a.eval x) y := by
  unfold opv at h
  cases hx : opd x s with
  | none => rw [hx] at h; cases h
  | some z => rw [hx] at h; exact SV.av (opd_sound hr hR hx) h
theorem Reads.mono {R R' : List Comp} {s t : St} (h : Reads R s t) (hs : ∀ c ∈ R', c ∈ R) : Reads R' s t := fun c hc => h c (hs c hc)
theorem Reads.left {R R' : List Comp} {s t : St} (h : Reads (R ++ R') s t) : Reads R s t := h.mono fun c hc => List.mem_append.2 (.inl hc)
theorem Reads.right {R R' : List Comp} {s t : St} (h : Reads (R ++ R') s t) : Reads R' s t := h.mono fun c hc => List.mem_append.2 (.inr hc)

/-- AN OPERATION THAT LOOKS AT SLOTS ALONE and leaves the world. -/
theorem OpOK.val {P : Program} {N : Nat} {o : Oper} {s : St} {R : List Comp} {x : Sv} {d : Nat} (hd : o.dst = some d) (hN : d < N)
    (h : ∀ E G L a w t, Rel E N G L a w t → Reads R s t → ∃ v, (execOp a.eval o).run P w = .ok (.value v) w ∧ SV G L v x) : OpOK P N o s R [(.s d, .sv x)] := by
  intro t hR E G L a w hr K Q hK
  obtain ⟨v, he, hv⟩ := h E G L a w t hr hR
  unfold Oper.wp
  rw [he]
  show K (a.put o.dst v) w
  refine hK v w G L ?_
  rw [hd]
  exact hr.put d hN v x hv

section
variable {P : Program} {N : Nat} {s : St} {d : Nat} {ty : TypeId} {pos : String} {af : Array Edge} {g : Option (Nat × Bool)}
/-- move, assign -/
theorem op_mv {x : Operand} {y : Sv} (hN : d < N) (hx : opd x s = some y) : OpOK P N ⟨some d, .move x, ty, pos, af, g⟩ s (rd x) [(.s d, .sv y)] :=
  OpOK.val rfl hN fun _ _ _ a _ _ hr hR => ⟨a.eval x, rfl, opd_sound hr hR hx⟩
theorem op_as {x : Operand} {y : Sv} (hN : d < N) (hx : opd x s = some y) : OpOK P N ⟨some d, .assign x, ty, pos, af, g⟩ s (rd x) [(.s d, .sv y)] :=
  OpOK.val rfl hN fun _ _ _ a _ _ hr hR => ⟨a.eval x, rfl, opd_sound hr hR hx⟩
theorem V_bool {G : Gh} {v : Value} {b : Bool} (h : V G v (.bool b)) : v = .bool b := by cases h; rfl
theorem V_int {G : Gh} {v : Value} {k : IntKind} {n : Int} (h : V G v (.int k n)) : v = .int k n := by cases h; rfl
theorem V_str {G : Gh} {v : Value} {l : List UInt8} (h : V G v (.str l)) : v = .string ⟨l.toArray⟩ := by cases h; rfl
theorem V_nilp {G : Gh} {v : Value} (h : V G v .nilp) : v = .pointer none := by cases h; rfl
/-- pick -/
theorem op_pick {c x y : Operand} {b : Bool} {z : Sv} (hN : d < N) (hc : opv c s = some (.bool b)) (hx : opd (if b then x else y) s = some z) :
    OpOK P N ⟨some d, .pick c x y, ty, pos, af, g⟩ s (rd c ++ (rd x ++ rd y)) [(.s d, .sv z)] :=
  OpOK.val rfl hN fun _ _ _ a _ _ hr hR => by
    have hb := V_bool (opv_sound hr hR.left hc)
    refine ⟨a.eval (if b then x else y), ?_, ?_⟩
    · simp only [execOp, Sem.run_bind, hb, asBool, Sem.run_pure, Result.andThen_ok]
      cases b <;> rfl
    · refine opd_sound hr ?_ hx
      cases b
      · exact hR.right.right
      · exact hR.right.left

/-! ### Arithmetic -/
def ibits (op : BinOp) (k : IntKind) (x y : Int) : Int :=
  match op with
  | .and => k.wrap (BitVec.ofInt k.bits x &&& BitVec.ofInt k.bits y).toNat
  | .or => k.wrap (BitVec.ofInt k.bits x ||| BitVec.ofInt k.bits y).toNat
  | .xor => k.wrap (BitVec.ofInt k.bits x ^^^ BitVec.ofInt k.bits y).toNat
  | _ => k.wrap (BitVec.ofInt k.bits x &&& ~~~ (BitVec.ofInt k.bits y)).toNat
def lessB : List UInt8 → List UInt8 → Bool
  | _, [] => false
  | [], _ :: _ => true
  | a :: x, b :: y => a < b || (a == b && lessB x y)
/-- A binary operator on numbers, texts and bools ('+' of texts and '==' of other things have rules of their own). -/
def abin (op : BinOp) (x y : AV) : Option AV :=
  match x, y with
  | .int k a, .int k' b =>
    match op with
    | .shl => if b < 0 then none else some (.int k (k.wrap (a * 2 ^ (min b.toNat k.bits))))
    | .shr => if b < 0 then none else some (.int k (a.fdiv (2 ^ (min b.toNat k.bits))))
    | .add => if k = k' then some (.int k (k.wrap (a + b))) else none
    | .sub => if k = k' then some (.int k (k.wrap (a - b))) else none
    | .mul => if k = k' then some (.int k (k.wrap (a * b))) else none
    | .quo => if k = k' then (if b = 0 then none else some (.int k (k.wrap (a.tdiv b)))) else none
    | .rem => if k = k' then (if b = 0 then none else some (.int k (a.tmod b))) else none
    | .and => if k = k' then some (.int k (ibits .and k a b)) else none
    | .or => if k = k' then some (.int k (ibits .or k a b)) else none
    | .xor => if k = k' then some (.int k (ibits .xor k a b)) else none
    | .andNot => if k = k' then some (.int k (ibits .andNot k a b)) else none
    | .eql => if k = k' then some (.bool (a == b)) else none
    | .neq => if k = k' then some (.bool (!(a == b))) else none
    | .lss => if k = k' then some (.bool (decide (a < b))) else none
    | .leq => if k = k' then some (.bool (decide (a ≤ b))) else none
    | .gtr => if k = k' then some (.bool (decide (b < a))) else none
    | .geq => if k = k' then some (.bool (decide (b ≤ a))) else none
  | .str a, .str b =>
    match op with
    | .eql => some (.bool (a == b))
    | .neq => some (.bool (!(a == b)))
    | .lss => some (.bool (lessB a b))
    | .leq => some (.bool (lessB a b || a == b))
    | .gtr => some (.bool (!(lessB a b || a == b)))
    | .geq => some (.bool (!lessB a b))
    | _ => none
  | _, _ => none
theorem bytes_toList (l : List UInt8) : (⟨l.toArray⟩ : ByteArray).toList = l := by rw [ByteArray.toList_eq]
theorem lessB_eq (a b : List UInt8) : Op.bytesLess a b = lessB a b := by
  induction a generalizing b with
  | nil => cases b <;> rfl
  | cons x a ih => cases b with
    | nil => rfl
    | cons y b => simp only [Op.bytesLess, lessB, ih]
theorem guard_int (op : BinOp) (t : TypeId) (x y : Operand) (k k' : IntKind) (m n : Int) (w : World) : (eqGuard op t x y (.int k m) (.int k' n)).run P w = .ok () w := by
  cases op <;> simp [eqGuard]
theorem guard_str (op : BinOp) (t : TypeId) (x y : Operand) (m n : ByteArray) (w : World) : (eqGuard op t x y (.string m) (.string n)).run P w = .ok () w := by
  cases op <;> simp [eqGuard]
def bv : AV → Value
  | .int k n => .int k n
  | .bool b => .bool b
  | _ => undef
theorem abin_int {op : BinOp} {k k' : IntKind} {m n : Int} {z : AV} (h : abin op (.int k m) (.int k' n) = some z) (t : TypeId) (w : World) (G : Gh) :
    ∃ v, (binOp op t (.int k m) (.int k' n)).run P w = .ok v w ∧ V G v z := by
  refine ⟨bv z, ?_, ?_⟩
  · cases op <;> simp only [abin] at h <;> split at h <;> (try split at h) <;> first | (cases h; done) | skip
    all_goals cases h
    all_goals (try subst k')
    all_goals simp [binOp, Op.intArith, Op.intDiv, Op.intBits, Op.intCmp, Op.shift, ibits, bv, *]
    rfl
  · cases op <;> simp only [abin] at h <;> split at h <;> (try split at h) <;> first | (cases h; done) | skip
    all_goals cases h
    all_goals constructor
theorem abin_str {op : BinOp} {m n : List UInt8} {z : AV} (h : abin op (.str m) (.str n) = some z) (t : TypeId) (w : World) (G : Gh) :
    ∃ v, (binOp op t (.string ⟨m.toArray⟩) (.string ⟨n.toArray⟩)).run P w = .ok v w ∧ V G v z := by
  refine ⟨bv z, ?_, ?_⟩
  · cases op <;> simp only [abin] at h <;> first | (cases h; done) | skip
    all_goals cases h
    all_goals simp only [binOp, Op.stringOp, bytes_toList, lessB_eq, Sem.run_pure, bv]
  · cases op <;> simp only [abin] at h <;> first | (cases h; done) | skip
    all_goals cases h
    all_goals constructor
theorem op_bin {op : BinOp} {t1 t2 : TypeId} {x y : Operand} {ax ay z : AV} (hN : d < N) (hx : opv x s = some ax) (hy : opv y s = some ay) (h : abin op ax ay = some z) :
    OpOK P N ⟨some d, .binOp op t1 x y t2, ty, pos, af, g⟩ s (rd x ++ rd y) [(.s d, .sv (.v z))] :=
  OpOK.val rfl hN fun _ G _ a w _ hr hR => by
    have h1 := opv_sound hr hR.left hx
    have h2 := opv_sound hr hR.right hy
    cases ax <;> cases ay <;> first | (simp [abin] at h; done) | skip
    · obtain ⟨v, hv, hV⟩ := abin_int (P := P) h t1 w G
      refine ⟨v, ?_, hV⟩
      simp only [execOp, Sem.run_bind, V_int h1, V_int h2, guard_int, Result.andThen_ok, hv, Sem.run_pure]
    · obtain ⟨v, hv, hV⟩ := abin_str (P := P) h t1 w G
      refine ⟨v, ?_, hV⟩
      simp only [execOp, Sem.run_bind, V_str h1, V_str h2, guard_str, Result.andThen_ok, hv, Sem.run_pure]
/-- '+' of texts -/
theorem op_cat {t1 t2 : TypeId} {x y : Operand} {l m : List UInt8} (hN : d < N) (hx : opv x s = some (.str l)) (hy : opv y s = some (.str m)) (h : l.length + m.length ≤ 9223372036854775807) :
    OpOK P N ⟨some d, .binOp .add t1 x y t2, ty, pos, af, g⟩ s (rd x ++ rd y) [(.s d, .sv (.v (.str (l ++ m))))] :=
  OpOK.val rfl hN fun _ G _ a w _ hr hR => by
    have h1 := V_str (opv_sound hr hR.left hx)
    have h2 := V_str (opv_sound hr hR.right hy)
    refine ⟨.string ⟨(l ++ m).toArray⟩, ?_, .str _⟩
    have e : (⟨l.toArray⟩ ++ ⟨m.toArray⟩ : ByteArray) = ⟨(l ++ m).toArray⟩ := by
      apply ByteArray.ext
      simp [ByteArray.data_append]
    have hsz : ¬ ((((⟨l.toArray⟩ : ByteArray).size + (⟨m.toArray⟩ : ByteArray).size : Nat) : Int) > IntKind.i64.max) := by
      have e1 : (⟨l.toArray⟩ : ByteArray).size = l.length := by simp [ByteArray.size]
      have e2 : (⟨m.toArray⟩ : ByteArray).size = m.length := by simp [ByteArray.size]
      have e3 : IntKind.i64.max = 9223372036854775807 := by decide
      rw [e1, e2, e3]; omega
    simp only [execOp, Sem.run_bind, h1, h2, guard_str, Result.andThen_ok, binOp, Op.stringOp, if_neg hsz, e, Sem.run_pure]
/-- '==' and '!=' of bools -/
theorem op_eqb {t1 t2 : TypeId} {x y : Operand} {b c : Bool} (hN : d < N) (ht : P.underlying t1 = some .bool) (hx : opv x s = some (.bool b)) (hy : opv y s = some (.bool c)) :
    OpOK P N ⟨some d, .binOp .eql t1 x y t2, ty, pos, af, g⟩ s (rd x ++ rd y) [(.s d, .sv (.v (.bool (b == c))))] :=
  OpOK.val rfl hN fun _ G _ a w _ hr hR => by
    have h1 := V_bool (opv_sound hr hR.left hx)
    have h2 := V_bool (opv_sound hr hR.right hy)
    refine ⟨.bool (b == c), ?_, .bool _⟩
    have he : (Op.equal t1 (.bool b) (.bool c)).run P w = .ok (b == c) w := run_equalIn_bool' w 9999 t1 b c ht
    have hb : binOp .eql t1 (.bool b) (.bool c) = (do pure (.bool (← Op.equal t1 (.bool b) (.bool c)))) := rfl
    have hgd : (eqGuard .eql t1 x y (.bool b) (.bool c)).run P w = .ok () w := by simp [eqGuard]
    simp only [execOp, Sem.run_bind, h1, h2, hgd, Result.andThen_ok, hb, he, Sem.run_pure]
theorem op_neb {t1 t2 : TypeId} {x y : Operand} {b c : Bool} (hN : d < N) (ht : P.underlying t1 = some .bool) (hx : opv x s = some (.bool b)) (hy : opv y s = some (.bool c)) :
    OpOK P N ⟨some d, .binOp .neq t1 x y t2, ty, pos, af, g⟩ s (rd x ++ rd y) [(.s d, .sv (.v (.bool (!(b == c)))))] :=
  OpOK.val rfl hN fun _ G _ a w _ hr hR => by
    have h1 := V_bool (opv_sound hr hR.left hx)
    have h2 := V_bool (opv_sound hr hR.right hy)
    refine ⟨.bool (!(b == c)), ?_, .bool _⟩
    have he : (Op.equal t1 (.bool b) (.bool c)).run P w = .ok (b == c) w := run_equalIn_bool' w 9999 t1 b c ht
    have hb : binOp .neq t1 (.bool b) (.bool c) = (do pure (.bool (!(← Op.equal t1 (.bool b) (.bool c))))) := rfl
    have hgd : (eqGuard .neq t1 x y (.bool b) (.bool c)).run P w = .ok () w := by simp [eqGuard]
    simp only [execOp, Sem.run_bind, h1, h2, hgd, Result.andThen_ok, hb, he, Sem.run_pure]
/-- '!', '-', '^' -/
def aun (op : UnOp) (x : AV) : Option AV :=
  match op, x with
  | .not, .bool b => some (.bool (!b))
  | .neg, .int k n => some (.int k (k.wrap (0 - n)))
  | .xor, .int k n => some (.int k (ibits .xor k (if k.signed then -1 else k.max) n))
  | _, _ => none
theorem op_un {op : UnOp} {t1 : TypeId} {x : Operand} {ax z : AV} (hN : d < N) (hx : opv x s = some ax) (h : aun op ax = some z) :
    OpOK P N ⟨some d, .unOp op t1 x, ty, pos, af, g⟩ s (rd x) [(.s d, .sv (.v z))] :=
  OpOK.val rfl hN fun _ G _ a w _ hr hR => by
    have h1 := opv_sound hr hR hx
    unfold aun at h
    split at h <;> first | (cases h; done) | skip
    all_goals cases h
    · exact ⟨_, by simp only [execOp, Sem.run_bind, V_bool h1, Op.unary, Sem.run_pure, Result.andThen_ok], .bool _⟩
    · exact ⟨_, by simp only [execOp, Sem.run_bind, V_int h1, Op.unary, Op.intArith, Sem.run_pure, Result.andThen_ok], .int _ _⟩
    · exact ⟨_, by simp only [execOp, Sem.run_bind, V_int h1, Op.unary, Op.intBits, Sem.run_pure, Result.andThen_ok]; rfl, .int _ _⟩
/-- a number as one of another kind -/
theorem op_cvi {t1 t2 : TypeId} {td : TypeDesc} {x : Operand} {k k' : IntKind} {n : Int} (hN : d < N) (h1 : P.underlying t1 = some td) (h2 : P.underlying t2 = some (.int k)) (hx : opv x s = some (.int k' n)) :
    OpOK P N ⟨some d, .convert t1 t2 x, ty, pos, af, g⟩ s (rd x) [(.s d, .sv (.v (.int k (k.wrap n))))] :=
  OpOK.val rfl hN fun _ G _ a w _ hr hR => by
    have hv := V_int (opv_sound hr hR hx)
    refine ⟨.int k (k.wrap n), ?_, .int _ _⟩
    simp [execOp, hv, convert, run_underlying h1, run_underlying h2, Conv.intToInt]
/-- a text as a text of another type -/
theorem op_cvs {t1 t2 : TypeId} {td : TypeDesc} {x : Operand} {l : List UInt8} (hN : d < N) (h1 : P.underlying t1 = some .string) (h2 : P.underlying t2 = some .string) (hx : opv x s = some (.str l)) :
    OpOK P N ⟨some d, .convert t1 t2 x, ty, pos, af, g⟩ s (rd x) [(.s d, .sv (.v (.str l)))] :=
  OpOK.val rfl hN fun _ G _ a w _ hr hR => by
    have hv := V_str (opv_sound hr hR hx)
    refine ⟨.string ⟨l.toArray⟩, ?_, .str _⟩
    simp [execOp, hv, convert, run_underlying h1, run_underlying h2]
/-- extract -/
theorem op_ext {x : Operand} {i : Nat} {vs : List AV} {z : AV} (hN : d < N) (hx : opv x s = some (.tup vs)) (hi : vs[i]? = some z) :
    OpOK P N ⟨some d, .extract x i, ty, pos, af, g⟩ s (rd x) [(.s d, .sv (.v z))] :=
  OpOK.val rfl hN fun _ G _ a w _ hr hR => by
    have hv := opv_sound hr hR hx
    generalize hav : a.eval x = u at hv
    cases hv
    rename_i us hl huv
    have hlt : i < us.size := by rw [hl]; exact (List.getElem?_eq_some_iff.1 hi).1
    refine ⟨us[i], ?_, ?_⟩
    · simp [execOp, hav, Instr.extract, Array.getElem?_eq_getElem hlt]
    · have := huv i z hi
      show V G us[i] z
      simpa [Array.getD_eq_getD_getElem?, Array.getElem?_eq_getElem hlt] using this
/-- s[i] of a text -/
theorem op_ixs {t1 : TypeId} {x i : Operand} {l : List UInt8} {k : IntKind} {n : Int} {c : UInt8} (hN : d < N) (h1 : P.underlying t1 = some .string) (hx : opv x s = some (.str l)) (hi : opv i s = some (.int k n)) (h0 : 0 ≤ n) (hc : l[n.toNat]? = some c) :
    OpOK P N ⟨some d, .index t1 x i, ty, pos, af, g⟩ s (rd x ++ rd i) [(.s d, .sv (.v (.int .u8 c.toNat)))] :=
  OpOK.val rfl hN fun _ G _ a w _ hr hR => by
    have hv := V_str (opv_sound hr hR.left hx)
    have hn := V_int (opv_sound hr hR.right hi)
    refine ⟨.int .u8 c.toNat, ?_, .int _ _⟩
    have hlt := (List.getElem?_eq_some_iff.1 hc).1
    have hg : (⟨l.toArray⟩ : ByteArray)[n.toNat]? = some c := by
      have hlt' : n.toNat < (⟨l.toArray⟩ : ByteArray).size := by simpa [ByteArray.size] using hlt
      rw [getElem?_pos (⟨l.toArray⟩ : ByteArray) n.toNat hlt']
      have := (List.getElem?_eq_some_iff.1 hc).2
      simp [← this, ByteArray.getElem_eq_getElem_data]
    simp [execOp, hv, hn, Instr.index, asIntOf, run_underlying h1, h0, hg]
/-- len -/
def alen (x : AV) : Option Int :=
  match x with
  | .str l => some l.length
  | .sl xs => some xs.length
  | _ => none
theorem op_lens {t1 : TypeId} {x : Operand} {l : List UInt8} (hN : d < N) (h1 : P.underlying t1 = some .string) (hx : opv x s = some (.str l)) :
    OpOK P N ⟨some d, .call { callee := .builtin .len, args := #[x], argTypes := #[t1] }, ty, pos, af, g⟩ s (rd x) [(.s d, .sv (.v (.int .i64 l.length)))] :=
  OpOK.val rfl hN fun _ G _ a w _ hr hR => by
    have hv := V_str (opv_sound hr hR hx)
    refine ⟨.int .i64 l.length, ?_, .int _ _⟩
    have e1 : (⟨l.toArray⟩ : ByteArray).size = l.length := by simp [ByteArray.size]
    simp [execOp, resolve, invoke, builtin, hv, Builtin.len_, run_underlying h1, goInt, e1]
theorem V_sl {G : Gh} {v : Value} {xs : List AV} (h : V G v (.sl xs)) : ∃ A c, v = .slice A xs.length c := by
  cases h
  · exact ⟨_, _, rfl⟩
  · exact ⟨_, _, rfl⟩
theorem op_lenl {t1 e : TypeId} {x : Operand} {xs : List AV} (hN : d < N) (h1 : P.underlying t1 = some (.slice e)) (hx : opv x s = some (.sl xs)) :
    OpOK P N ⟨some d, .call { callee := .builtin .len, args := #[x], argTypes := #[t1] }, ty, pos, af, g⟩ s (rd x) [(.s d, .sv (.v (.int .i64 xs.length)))] :=
  OpOK.val rfl hN fun _ G _ a w _ hr hR => by
    obtain ⟨A, c, hv⟩ := V_sl (opv_sound hr hR hx)
    refine ⟨.int .i64 xs.length, ?_, .int _ _⟩
    simp [execOp, resolve, invoke, builtin, hv, Builtin.len_, run_underlying h1, goInt]
theorem op_lenm {t1 e : TypeId} {x : Operand} {k n : Nat} (hN : d < N) (h1 : P.underlying t1 = some (.slice e)) (hx : opd x s = some (.mv k n)) :
    OpOK P N ⟨some d, .call { callee := .builtin .len, args := #[x], argTypes := #[t1] }, ty, pos, af, g⟩ s (rd x) [(.s d, .sv (.v (.int .i64 n)))] :=
  OpOK.val rfl hN fun _ G _ a w _ hr hR => by
    obtain ⟨blk, cap, hb, hv, hc⟩ := opd_sound hr hR hx
    refine ⟨.int .i64 n, ?_, .int _ _⟩
    simp [execOp, resolve, invoke, builtin, hv, Builtin.len_, run_underlying h1, goInt]
/-- bytes as a text -/
def bytesOf : List AV → Option (List UInt8)
  | [] => some []
  | .int .u8 n :: r => (bytesOf r).map fun l => UInt8.ofNat n.toNat :: l
  | _ :: _ => none
end
end Go.Proofs.YthoncmadikifnaaDoor.X
