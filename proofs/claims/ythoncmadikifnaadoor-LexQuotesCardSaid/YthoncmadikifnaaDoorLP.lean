/- What the lexer's functions compute, in plain Lean. No condition. -/
import Derived.Lib.Bytealg
import Derived.Lib.Strings
import Derived.Lib.ParseIntB
import Derived.Lib.ItoaNum
namespace Go.Proofs.YthoncmadikifnaaDoor.X
open Go
def isLet (c : UInt8) : Bool := decide (97 ≤ c.toNat ∧ c.toNat ≤ 122 ∨ 65 ≤ c.toNat ∧ c.toNat ≤ 90)
def isDig (c : UInt8) : Bool := decide (48 ≤ c.toNat ∧ c.toNat ≤ 57)
def isWd (c : UInt8) : Bool := isLet c || isDig c || decide (c.toNat = 95)
def isMark (c : UInt8) : Bool := decide (c.toNat = 123 ∨ c.toNat = 125 ∨ c.toNat = 40 ∨ c.toNat = 41 ∨ c.toNat = 61 ∨ c.toNat = 44 ∨ c.toNat = 46 ∨ c.toNat = 59)
def isBl (c : UInt8) : Bool := decide (c.toNat = 32 ∨ c.toNat = 10 ∨ c.toNat = 9)
def noNl (c : UInt8) : Bool := decide (c.toNat ≠ 10)
/-- how many bytes a text begins with that are such -/
def spn (p : UInt8 → Bool) : List UInt8 → Nat
  | [] => 0
  | c :: r => if p c then spn p r + 1 else 0
theorem spn_le (p : UInt8 → Bool) : ∀ l, spn p l ≤ l.length
  | [] => Nat.le_refl _
  | c :: r => by
    simp only [spn]
    split
    · have := spn_le p r; simp; omega
    · simp
theorem spn_drop (p : UInt8 → Bool) : ∀ (l : List UInt8) (i : Nat) (c : UInt8), i ≤ spn p l → l[i]? = some c → (p c = true → i + 1 ≤ spn p l) ∧ (p c = false → spn p l = i)
  | [], i, c, _, h => by simp at h
  | d :: r, i, c, hi, h => by
    simp only [spn] at hi ⊢
    cases i with
    | zero =>
      simp at h; subst h
      refine ⟨fun e => ?_, fun e => ?_⟩
      · rw [if_pos e]; omega
      · rw [if_neg (by simp [e])]
    | succ i =>
      split at hi
      · rename_i hd
        have h2 : r[i]? = some c := by simpa using h
        have := spn_drop p r i c (by omega) h2
        rw [if_pos hd]
        exact ⟨fun e => by have := this.1 e; omega, fun e => by have := this.2 e; omega⟩
      · omega
structure Tk where
  k : Nat
  s : List UInt8
  n : Nat
  neg : Bool
  pos : Nat
  deriving DecidableEq
def wordT (s : List UInt8) : Tk × Nat :=
  match s with
  | [] => (⟨0, [], 0, false, 0⟩, 0)
  | c :: _ => if isLet c then (⟨1, s.take (spn isWd s), 0, false, 0⟩, spn isWd s) else (⟨0, [], 0, false, 0⟩, 0)
def digs (u : Nat) (neg : Bool) : List UInt8 := if neg && decide (u ≠ 0) then 45 :: Lib.decDigits u else Lib.decDigits u
def isNeg (s : List UInt8) : Bool := Lib.hasPrefix s [45]
def unsg (s : List UInt8) : List UInt8 := Lib.trimPrefix s [45]
def numB (s : List UInt8) : Nat := s.length - (unsg s).length + spn isDig (unsg s)
def numT (s : List UInt8) : Option (Nat × Bool × Nat) :=
  match Lib.parseUintB 64 ((unsg s).take (spn isDig (unsg s))) with
  | .ok u => if (isNeg s = true ∧ 9223372036854775808 < u) ∨ digs u (isNeg s) ≠ s.take (numB s) then none else some (u, isNeg s, numB s)
  | _ => none
/-- behind the first quote: what is told, and where it ends -/
def txtGo : List UInt8 → List UInt8 → Nat → Option (List UInt8 × Nat)
  | [], _, _ => none
  | c :: r, out, at_ =>
    if c = 39 then
      match r with
      | [] => some (out, at_ + 1)
      | d :: r' => if d = 39 then txtGo r' (out ++ [39]) (at_ + 2) else some (out, at_ + 1)
    else txtGo r (out ++ [c]) (at_ + 1)
def txtT (s : List UInt8) : Option (List UInt8 × Nat) :=
  match s with
  | [] => none
  | c :: r => if c = 39 then txtGo r [] 1 else none
def zeroT : Tk × Nat := (⟨0, [], 0, false, 0⟩, 0)
def markT (s : List UInt8) : Tk × Nat :=
  match s with
  | [] => zeroT
  | c :: _ => if isMark c then (⟨4, [c], 0, false, 0⟩, 1) else zeroT
def numTk (s : List UInt8) : Tk × Nat := match numT s with
  | some (u, neg, k) => (⟨2, [], u, neg, 0⟩, k)
  | none => zeroT
def txtTk (s : List UInt8) : Tk × Nat := match txtT s with
  | some (o, k) => (⟨3, o, 0, false, 0⟩, k)
  | none => zeroT
def nxtT (s : List UInt8) : Tk × Nat :=
  if 0 < (wordT s).2 then wordT s else if 0 < (numTk s).2 then numTk s else if 0 < (txtTk s).2 then txtTk s else markT s
/-- what stands between tokens: how many bytes of it a text begins with -/
def isRem (r : List UInt8) : Bool := Lib.hasPrefix r [47, 47]
/-- the tokens of a text that begins at p, and where none begins -/
def lexGo (r : List UInt8) (p : Nat) : List Tk × Option Nat :=
  match r with
  | [] => ([], none)
  | c :: r' =>
    if isBl c then lexGo r' (p + 1)
    else if isRem (c :: r') then lexGo ((c :: r').drop (spn noNl (c :: r') - 1 + 1)) (p + spn noNl (c :: r'))
    else
      if (nxtT (c :: r')).2 = 0 then ([], some p)
      else (⟨(nxtT (c :: r')).1.k, (nxtT (c :: r')).1.s, (nxtT (c :: r')).1.n, (nxtT (c :: r')).1.neg, p⟩ :: (lexGo ((c :: r').drop ((nxtT (c :: r')).2 - 1 + 1)) (p + (nxtT (c :: r')).2)).1, (lexGo ((c :: r').drop ((nxtT (c :: r')).2 - 1 + 1)) (p + (nxtT (c :: r')).2)).2)
termination_by r.length
decreasing_by all_goals simp <;> omega
end Go.Proofs.YthoncmadikifnaaDoor.X
