/- The package variables of the program: what is known of those that the lexer's library reads. No condition. -/
import Derived.Test.YthoncmadikifnaaDoorProg
import Derived.Orders
import Derived.KernelRfl
import Derived.Lib.LaidTab
import Derived.Lib.ItoaNum
namespace Go.Proofs.YthoncmadikifnaaDoor.X
open Go
/-- the blocks of the package variables -/
def gN : Nat := 8
/-- what is known of them: strconv.ErrSyntax, strconv.ErrRange, the powers of ten, bytealg.MaxLen -/
def gok (w : World) : Prop := (∃ te pe, w.cell? ⟨4, 0, none⟩ = some (.iface te pe)) ∧ (∃ te pe, w.cell? ⟨5, 0, none⟩ = some (.iface te pe)) ∧
  Lib.TabIs Tryd.prog w "internal/strconv.uint64pow10" .u64 Lib.pow10Tab ∧ ∃ m, w.cell? ⟨1, 0, none⟩ = some (.int .i64 m)
theorem gPow : Tryd.prog.globalNamed "internal/strconv.uint64pow10" = some 0 := by kernel_rfl
theorem cell_of_block {w w' : World} {b : Nat} (h : w'.heap[b]? = w.heap[b]?) (o : Nat) : w'.cell? ⟨b, o, none⟩ = w.cell? ⟨b, o, none⟩ := by
  simp only [World.cell?, h]
theorem gloc {w w' : World} (h : ∀ k, k < gN → w'.heap[k]? = w.heap[k]?) (k : gok w) : gok w' := by
  obtain ⟨h1, h2, h3, h4⟩ := k
  refine ⟨?_, ?_, ?_, ?_⟩
  · rw [cell_of_block (h 4 (by decide))]; exact h1
  · rw [cell_of_block (h 5 (by decide))]; exact h2
  · unfold Lib.TabIs World.var? at h3 ⊢
    rw [gPow] at h3 ⊢
    simp only [Option.bind_some, h 0 (by decide)] at h3 ⊢
    exact h3
  · rw [cell_of_block (h 1 (by decide))]; exact h4
end Go.Proofs.YthoncmadikifnaaDoor.X
