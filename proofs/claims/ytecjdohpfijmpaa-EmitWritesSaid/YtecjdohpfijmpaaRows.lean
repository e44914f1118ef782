/-
  No cell of these rows narrows 'for every input' (looked for: loops, veiled, ifaces, maps, wideKeys, modest, calm, conditions, laid).
  DERIVED. THE GIVEN ROWS OF THIS SEAT. 6 by the template 'for every input the law returns true; each argument reads behind the call as it read before'; 0 by the template 'total and deterministic' (their statements: YtecjdohpfijmpaaTotals.lean).
  GIVEN WITH THE SEED: the statements are not yours to turn. If you find one false, say at which input.
  Laid BY PROGRAM, IN A SANDBOX (cutbox-rows.mjs): the forced cells as the released guide's own fill.sh prints them over the translation 28a8244c279663fb… (all of the seat's roots in one cut). By AI agents, Wed Nov 11 2026. No macro, syntax, notation, axiom, sorry.
-/
import Derived.Test.YtecjdohpfijmpaaChecked
import GoSem.Claim
import GoSem.ClaimJoined
import GoSem.ClaimMapViews
import Derived.JoinedTies
import Derived.KernelRfl
namespace Go.Proofs.Ytecjdohpfijmpaa
/- THE CELL 'sum', in the pinned program and in every row, IS THE sha256 OF THE DUMP (.gsa) THAT YtecjdohpfijmpaaProg.lean LOADS. Nothing in Lean hashes anything: it is a label: what it is worth is what the hold of that sum in a sandbox is worth. -/
noncomputable def Try.pinned : Pinned := { name := "ytecjdohpfijmpaa", sum := "28a8244c279663fb75d7fe20484deade19cda470b6a840b421371d85495d995f", checked := Try.checked }
namespace Rows
def none {H : Type} : Left H := { results := [], args := [] }

/-- 'ecdysislaw08.HexJoins': WHATEVER THE INPUT: true; the input reads as it did. -/
def hexJoinsSpec : ChangeSpec := { name := "hexJoins", fn := fun _ => fun
  | [d1, d2] => { results := [.lit (.bool true)], args := [d1, d2] }
  | _ => none }
def hexJoinsRow : OpenClaim := { program := "ytecjdohpfijmpaa", sum := "28a8244c279663fb75d7fe20484deade19cda470b6a840b421371d85495d995f", func := "ecdysis/ecdysislaw08.HexJoins", spec := "hexJoins", apart := false }
def HexJoinsSaid : Prop := hexJoinsRow.holds Try.pinned (OpenSpec.ofChange hexJoinsSpec)

/-- ITS FALSE NEIGHBOUR: 'it returns false'. Refute it at one input. -/
def hexJoinsWrong : ChangeSpec := { name := "hexJoins", fn := fun _ => fun
  | [d1, d2] => { results := [.lit (.bool false)], args := [d1, d2] }
  | _ => none }
def HexJoinsWrongFalsely : Prop := hexJoinsRow.holds Try.pinned (OpenSpec.ofChange hexJoinsWrong)

/-- 'ecdysislaw08.HexPuts': WHATEVER THE INPUT: true; the input reads as it did. -/
def hexPutsSpec : ChangeSpec := { name := "hexPuts", fn := fun _ => fun
  | [d] => { results := [.lit (.bool true)], args := [d] }
  | _ => none }
def hexPutsRow : OpenClaim := { program := "ytecjdohpfijmpaa", sum := "28a8244c279663fb75d7fe20484deade19cda470b6a840b421371d85495d995f", func := "ecdysis/ecdysislaw08.HexPuts", spec := "hexPuts", apart := false }
def HexPutsSaid : Prop := hexPutsRow.holds Try.pinned (OpenSpec.ofChange hexPutsSpec)

/-- ITS FALSE NEIGHBOUR: 'it returns false'. Refute it at one input. -/
def hexPutsWrong : ChangeSpec := { name := "hexPuts", fn := fun _ => fun
  | [d] => { results := [.lit (.bool false)], args := [d] }
  | _ => none }
def HexPutsWrongFalsely : Prop := hexPutsRow.holds Try.pinned (OpenSpec.ofChange hexPutsWrong)

/-- 'ecdysislaw08.HexGets': WHATEVER THE INPUT: true; the input reads as it did. -/
def hexGetsSpec : ChangeSpec := { name := "hexGets", fn := fun _ => fun
  | [d] => { results := [.lit (.bool true)], args := [d] }
  | _ => none }
def hexGetsRow : OpenClaim := { program := "ytecjdohpfijmpaa", sum := "28a8244c279663fb75d7fe20484deade19cda470b6a840b421371d85495d995f", func := "ecdysis/ecdysislaw08.HexGets", spec := "hexGets", apart := false }
def HexGetsSaid : Prop := hexGetsRow.holds Try.pinned (OpenSpec.ofChange hexGetsSpec)

/-- ITS FALSE NEIGHBOUR: 'it returns false'. Refute it at one input. -/
def hexGetsWrong : ChangeSpec := { name := "hexGets", fn := fun _ => fun
  | [d] => { results := [.lit (.bool false)], args := [d] }
  | _ => none }
def HexGetsWrongFalsely : Prop := hexGetsRow.holds Try.pinned (OpenSpec.ofChange hexGetsWrong)

/-- 'ecdysislaw06.EmitReads': WHATEVER THE INPUT: true; the input reads as it did. -/
def emitReadsSpec : ChangeSpec := { name := "emitReads", fn := fun _ => fun
  | [d1, d2] => { results := [.lit (.bool true)], args := [d1, d2] }
  | _ => none }
def emitReadsRow : OpenClaim := { program := "ytecjdohpfijmpaa", sum := "28a8244c279663fb75d7fe20484deade19cda470b6a840b421371d85495d995f", func := "ecdysis/ecdysislaw06.EmitReads", spec := "emitReads", apart := false }
def EmitReadsSaid : Prop := emitReadsRow.holds Try.pinned (OpenSpec.ofChange emitReadsSpec)

/-- ITS FALSE NEIGHBOUR: 'it returns false'. Refute it at one input. -/
def emitReadsWrong : ChangeSpec := { name := "emitReads", fn := fun _ => fun
  | [d1, d2] => { results := [.lit (.bool false)], args := [d1, d2] }
  | _ => none }
def EmitReadsWrongFalsely : Prop := emitReadsRow.holds Try.pinned (OpenSpec.ofChange emitReadsWrong)

/-- 'ecdysislaw06.EmitWrites': WHATEVER THE INPUT: true; the input reads as it did. -/
def emitWritesSpec : ChangeSpec := { name := "emitWrites", fn := fun _ => fun
  | [d] => { results := [.lit (.bool true)], args := [d] }
  | _ => none }
def emitWritesRow : OpenClaim := { program := "ytecjdohpfijmpaa", sum := "28a8244c279663fb75d7fe20484deade19cda470b6a840b421371d85495d995f", func := "ecdysis/ecdysislaw06.EmitWrites", spec := "emitWrites", apart := false }
def EmitWritesSaid : Prop := emitWritesRow.holds Try.pinned (OpenSpec.ofChange emitWritesSpec)

/-- ITS FALSE NEIGHBOUR: 'it returns false'. Refute it at one input. -/
def emitWritesWrong : ChangeSpec := { name := "emitWrites", fn := fun _ => fun
  | [d] => { results := [.lit (.bool false)], args := [d] }
  | _ => none }
def EmitWritesWrongFalsely : Prop := emitWritesRow.holds Try.pinned (OpenSpec.ofChange emitWritesWrong)

/-- 'ecdysislaw06.EmitNil': WHATEVER THE INPUT: true; the input reads as it did. -/
def emitNilSpec : ChangeSpec := { name := "emitNil", fn := fun _ => fun
  | [d1, d2, d3] => { results := [.lit (.bool true)], args := [d1, d2, d3] }
  | _ => none }
def emitNilRow : OpenClaim := { program := "ytecjdohpfijmpaa", sum := "28a8244c279663fb75d7fe20484deade19cda470b6a840b421371d85495d995f", func := "ecdysis/ecdysislaw06.EmitNil", spec := "emitNil", apart := false }
def EmitNilSaid : Prop := emitNilRow.holds Try.pinned (OpenSpec.ofChange emitNilSpec)

/-- ITS FALSE NEIGHBOUR: 'it returns false'. Refute it at one input. -/
def emitNilWrong : ChangeSpec := { name := "emitNil", fn := fun _ => fun
  | [d1, d2, d3] => { results := [.lit (.bool false)], args := [d1, d2, d3] }
  | _ => none }
def EmitNilWrongFalsely : Prop := emitNilRow.holds Try.pinned (OpenSpec.ofChange emitNilWrong)

/- THE SECOND FORM. 'bulk': how many values and letters a reading holds, each counted each time it is reached (what is shared counts as often as it is met; a slice's spare places count too). A statement '..UptoSaid' is the law's where the arguments, and the package variables that the reading takes, are together of bulk at most 1048576: NARROWER than '..Said'. Prove '..Said' where nothing that the law and all that it calls make is longer than what came in: it says more and counts as full. Else prove '..UptoSaid'. A law counts once. -/
mutual
def uptoBulk {H : Type} : DataW H → Nat
  | .lit (.string bytes) => bytes.length + 1
  | .lit _ => 1
  | .nil => 1
  | .ptr d => uptoBulk d + 1
  | .slice elems spare => uptoBulkAll elems + uptoBulkAll spare + 1
  | .agg parts => uptoBulkAll parts + 1
  | .iface _ d => uptoBulk d + 1
  | .map entries => uptoBulkEntries entries + 1
  | .held _ => 1
def uptoBulkAll {H : Type} : List (DataW H) → Nat
  | [] => 0
  | d :: r => uptoBulk d + uptoBulkAll r
def uptoBulkEntries {H : Type} : List (Lit × DataW H) → Nat
  | [] => 0
  | x :: r => uptoBulkEntry x + uptoBulkEntries r
def uptoBulkEntry {H : Type} : Lit × DataW H → Nat
  | (.string bytes, d) => bytes.length + uptoBulk d + 1
  | (_, d) => uptoBulk d + 1
 end
def uptoSmall : (H : Type) → List (DataW H) → Bool := fun _ ds => decide (uptoBulkAll ds ≤ 1048576)
def OpenSpec.upto (s : _root_.Go.ChangeSpec) : _root_.Go.OpenSpec := { _root_.Go.OpenSpec.ofChange s with cond := some uptoSmall }

/-- 'ecdysislaw08.HexJoins', WHERE WHAT IT READS IS OF BULK AT MOST 1048576: true; the input reads as it did. -/
def hexJoinsUptoRow : OpenClaim := { program := "ytecjdohpfijmpaa", sum := "28a8244c279663fb75d7fe20484deade19cda470b6a840b421371d85495d995f", func := "ecdysis/ecdysislaw08.HexJoins", spec := "hexJoins", apart := false, narrowed := true }
def HexJoinsUptoSaid : Prop := hexJoinsUptoRow.holds Try.pinned (OpenSpec.upto hexJoinsSpec)

/-- 'ecdysislaw08.HexPuts', WHERE WHAT IT READS IS OF BULK AT MOST 1048576: true; the input reads as it did. -/
def hexPutsUptoRow : OpenClaim := { program := "ytecjdohpfijmpaa", sum := "28a8244c279663fb75d7fe20484deade19cda470b6a840b421371d85495d995f", func := "ecdysis/ecdysislaw08.HexPuts", spec := "hexPuts", apart := false, narrowed := true }
def HexPutsUptoSaid : Prop := hexPutsUptoRow.holds Try.pinned (OpenSpec.upto hexPutsSpec)

/-- 'ecdysislaw08.HexGets', WHERE WHAT IT READS IS OF BULK AT MOST 1048576: true; the input reads as it did. -/
def hexGetsUptoRow : OpenClaim := { program := "ytecjdohpfijmpaa", sum := "28a8244c279663fb75d7fe20484deade19cda470b6a840b421371d85495d995f", func := "ecdysis/ecdysislaw08.HexGets", spec := "hexGets", apart := false, narrowed := true }
def HexGetsUptoSaid : Prop := hexGetsUptoRow.holds Try.pinned (OpenSpec.upto hexGetsSpec)

/-- 'ecdysislaw06.EmitReads', WHERE WHAT IT READS IS OF BULK AT MOST 1048576: true; the input reads as it did. -/
def emitReadsUptoRow : OpenClaim := { program := "ytecjdohpfijmpaa", sum := "28a8244c279663fb75d7fe20484deade19cda470b6a840b421371d85495d995f", func := "ecdysis/ecdysislaw06.EmitReads", spec := "emitReads", apart := false, narrowed := true }
def EmitReadsUptoSaid : Prop := emitReadsUptoRow.holds Try.pinned (OpenSpec.upto emitReadsSpec)

/-- 'ecdysislaw06.EmitWrites', WHERE WHAT IT READS IS OF BULK AT MOST 1048576: true; the input reads as it did. -/
def emitWritesUptoRow : OpenClaim := { program := "ytecjdohpfijmpaa", sum := "28a8244c279663fb75d7fe20484deade19cda470b6a840b421371d85495d995f", func := "ecdysis/ecdysislaw06.EmitWrites", spec := "emitWrites", apart := false, narrowed := true }
def EmitWritesUptoSaid : Prop := emitWritesUptoRow.holds Try.pinned (OpenSpec.upto emitWritesSpec)

/-- 'ecdysislaw06.EmitNil', WHERE WHAT IT READS IS OF BULK AT MOST 1048576: true; the input reads as it did. -/
def emitNilUptoRow : OpenClaim := { program := "ytecjdohpfijmpaa", sum := "28a8244c279663fb75d7fe20484deade19cda470b6a840b421371d85495d995f", func := "ecdysis/ecdysislaw06.EmitNil", spec := "emitNil", apart := false, narrowed := true }
def EmitNilUptoSaid : Prop := emitNilUptoRow.holds Try.pinned (OpenSpec.upto emitNilSpec)

end Rows
end Go.Proofs.Ytecjdohpfijmpaa
