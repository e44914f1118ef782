/- math/bits.Len64. -/
import Derived.Test.YtecjdohpfijmpaaE8
set_option linter.unusedVariables false
set_option linter.unusedSimpArgs false
namespace Go.Proofs.Ytecjdohpfijmpaa.X
open Go Go.RowKit Go.Proofs
/-- how many bits a number has -/
def blen (n : Nat) : Nat := if n = 0 then 0 else Nat.log2 n + 1
theorem blen_half {n : Nat} (h : 1 ≤ n) : blen n = blen (n / 2) + 1 := by
  unfold blen
  rw [if_neg (by omega), Nat.log2_def]
  by_cases h2 : 2 ≤ n
  · rw [if_pos h2, if_neg (by omega)]
  · rw [if_neg h2, if_pos (by omega)]
theorem blen_shift : ∀ (k n : Nat), 2 ^ k ≤ n → blen n = blen (n / 2 ^ k) + k
  | 0, n, _ => by simp
  | k + 1, n, h => by
    have h1 : 1 ≤ n := Nat.le_trans (Nat.one_le_two_pow) h
    have h2 : 2 ^ k ≤ n / 2 := by rw [Nat.le_div_iff_mul_le (by decide), ← Nat.pow_succ]; exact h
    rw [blen_half h1, blen_shift k (n / 2) h2, Nat.div_div_eq_div_mul, show 2 * 2 ^ k = 2 ^ (k + 1) by rw [Nat.pow_succ, Nat.mul_comm]]
    omega
def tab8 : List UInt8 := [0] ++ [1] ++ List.replicate 2 2 ++ List.replicate 4 3 ++ List.replicate 8 4 ++ List.replicate 16 5 ++ List.replicate 32 6 ++ List.replicate 64 7 ++ List.replicate 128 8
theorem tab8_get (i : Nat) (h : i < 256) : tab8[i]? = some (UInt8.ofNat (blen i)) := by
  have : ∀ k : Fin 256, tab8[k.val]? = some (UInt8.ofNat (blen k.val)) := by decide +kernel
  exact this ⟨i, h⟩
theorem blen_lt {i : Nat} (h : i < 256) : blen i ≤ 8 := by
  have : ∀ k : Fin 256, blen k.val ≤ 8 := by decide +kernel
  exact this ⟨i, h⟩
theorem fdiv_nat (a k : Nat) : ((a : Nat) : Int).fdiv (2 ^ k) = ((a / 2 ^ k : Nat) : Int) := by
  rw [Int.fdiv_eq_ediv_of_nonneg _ (by exact Int.le_of_lt (Int.pow_pos (by decide)))]
  norm_cast
section
variable {P : Program} {N : Nat} {s : St} {d : Nat} {ty : TypeId} {pos : String} {af : Array Edge} {g : Option (Nat × Bool)}
/-- a >> b of a number that is none below nought -/
theorem op_shr {t1 t2 : TypeId} {x y : Operand} {k k' : IntKind} {a : Nat} {b : Int} (hN : d < N) (hx : opv x s = some (.int k (a : Int))) (hy : opv y s = some (.int k' b)) (hb : 0 ≤ b) :
    OpOK P N ⟨some d, .binOp .shr t1 x y t2, ty, pos, af, g⟩ s (rd x ++ rd y) [(.s d, .sv (.v (.int k ((a / 2 ^ (min b.toNat k.bits) : Nat) : Int))))] :=
  op_bin hN hx hy (by
    show (if b < 0 then none else some (AV.int k (((a : Nat) : Int).fdiv (2 ^ (min b.toNat k.bits))))) = _
    rw [if_neg (by omega), fdiv_nat])
end
end Go.Proofs.Ytecjdohpfijmpaa.X
