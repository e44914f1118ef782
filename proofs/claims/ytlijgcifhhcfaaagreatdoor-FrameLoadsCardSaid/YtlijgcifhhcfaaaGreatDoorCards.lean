/-
  DERIVED. GIVEN WITH THE SEED: THE CARDS: each row of YtlijgcifhhcfaaaGreatDoorRows.lean that lists a variable, with what it lists TIED to the program's text (the seventh form; the later family's looks); each row that meets fmt, with fmt's text TOLD by the authors' own Lean function (tested against real Go, not proved from fmt's source: count such statements apart). THE CARD IS WHAT COUNTS. Prove the row's statement (the work); the ties are given (YtlijgcifhhcfaaaGreatDoorTie.lean); close each card by the builder's one call (the guide's Derived/Test/ToyasCard.lean, 'card_holds'). Laid BY PROGRAM, IN A SANDBOX (cutbox-door.mjs). By AI agents, Wed Nov 11 2026. No macro, syntax, notation, axiom, sorry.
-/
import Derived.Test.YtlijgcifhhcfaaaGreatDoorRows
import GoSem.ClaimSeven
namespace Go.Proofs.YtlijgcifhhcfaaaGreatDoor
namespace Rows

/-- THE TIED CARD OF 'ecdysislaw36.FrameLoads'. -/
def frameLoadsCard : Claim7 := { stood := { row := frameLoadsRow, standIns := [], harness := (true, "5e9deaddc5d5d432932bbc77561a600b25aa1872ff98168df618e1c7005eb093"), looks := false }, kinds := [], alts := [], laidByText := true, laidKinds := [.data, .pinned], laidTests := true, laidLooks := .later }
def FrameLoadsCardSaid : Prop := Claim7.holds Tryz.pinned (.plain (OpenSpec.ofChange frameLoadsSpec)) frameLoadsCard

/-- THE TIED CARD OF 'ecdysislaw36.FrameEmpty'. -/
def frameEmptyCard : Claim7 := { stood := { row := frameEmptyRow, standIns := [], harness := (true, "5e9deaddc5d5d432932bbc77561a600b25aa1872ff98168df618e1c7005eb093"), looks := false }, kinds := [], alts := [], laidByText := true, laidKinds := [.data, .pinned], laidTests := true, laidLooks := .later }
def FrameEmptyCardSaid : Prop := Claim7.holds Tryz.pinned (.plain (OpenSpec.ofChange frameEmptySpec)) frameEmptyCard

/-- THE TIED CARD OF 'ecdysislaw38.RunGets'. -/
def runGetsCard : Claim7 := { stood := { row := runGetsRow, standIns := [], harness := (true, "5e9deaddc5d5d432932bbc77561a600b25aa1872ff98168df618e1c7005eb093"), looks := false }, kinds := [], alts := [], laidByText := true, laidKinds := [.data, .pinned], laidTests := true, laidLooks := .later }
def RunGetsCardSaid : Prop := Claim7.holds Tryz.pinned (.plain (OpenSpec.ofChange runGetsSpec)) runGetsCard

/-- THE SECOND FORM's CARD OF 'ecdysislaw36.FrameLoads'. -/
def frameLoadsUptoCard : Claim7 := { stood := { row := frameLoadsUptoRow, standIns := [], harness := (true, "5e9deaddc5d5d432932bbc77561a600b25aa1872ff98168df618e1c7005eb093"), looks := false }, kinds := [], alts := [], laidByText := true, laidKinds := [.data, .pinned], laidTests := true, laidLooks := .later }
def FrameLoadsUptoCardSaid : Prop := Claim7.holds Tryz.pinned (.plain (OpenSpec.upto frameLoadsSpec)) frameLoadsUptoCard

/-- THE SECOND FORM's CARD OF 'ecdysislaw36.FrameEmpty'. -/
def frameEmptyUptoCard : Claim7 := { stood := { row := frameEmptyUptoRow, standIns := [], harness := (true, "5e9deaddc5d5d432932bbc77561a600b25aa1872ff98168df618e1c7005eb093"), looks := false }, kinds := [], alts := [], laidByText := true, laidKinds := [.data, .pinned], laidTests := true, laidLooks := .later }
def FrameEmptyUptoCardSaid : Prop := Claim7.holds Tryz.pinned (.plain (OpenSpec.upto frameEmptySpec)) frameEmptyUptoCard

/-- THE SECOND FORM's CARD OF 'ecdysislaw38.RunGets'. -/
def runGetsUptoCard : Claim7 := { stood := { row := runGetsUptoRow, standIns := [], harness := (true, "5e9deaddc5d5d432932bbc77561a600b25aa1872ff98168df618e1c7005eb093"), looks := false }, kinds := [], alts := [], laidByText := true, laidKinds := [.data, .pinned], laidTests := true, laidLooks := .later }
def RunGetsUptoCardSaid : Prop := Claim7.holds Tryz.pinned (.plain (OpenSpec.upto runGetsSpec)) runGetsUptoCard
end Rows
end Go.Proofs.YtlijgcifhhcfaaaGreatDoor
