/-
  DERIVED. GIVEN WITH THE SEED: THE CARDS: each row of YtpifnegikoldmaaGreatDoorRows.lean that lists a variable, with what it lists TIED to the program's text (the seventh form; the later family's looks); each row that meets fmt, with fmt's text TOLD by the authors' own Lean function (tested against real Go, not proved from fmt's source: count such statements apart). THE CARD IS WHAT COUNTS. Prove the row's statement (the work); the ties are given (YtpifnegikoldmaaGreatDoorTie.lean); close each card by the builder's one call (the guide's Derived/Test/ToyasCard.lean, 'card_holds'). Laid BY PROGRAM, IN A SANDBOX (cutbox-door.mjs). By AI agents, Wed Nov 11 2026. No macro, syntax, notation, axiom, sorry.
-/
import Derived.Test.YtpifnegikoldmaaGreatDoorRows
import GoSem.ClaimSeven
namespace Go.Proofs.YtpifnegikoldmaaGreatDoor
namespace Rows

/-- THE TIED CARD OF 'ecdysislaw43.BoundCosts'. -/
def boundCostsCard : Claim7 := { stood := { row := boundCostsRow, standIns := [], harness := (true, "fd54ededc40db5f106690bb4c5f46039bb75dc963afa12a5a73dbae0bfe9b9aa"), looks := false }, kinds := [], alts := [], laidByText := true, laidKinds := [.data, .pinned], laidTests := true, laidLooks := .later }
def BoundCostsCardSaid : Prop := Claim7.holds Tryz.pinned (.plain (OpenSpec.ofChange boundCostsSpec)) boundCostsCard

/-- THE SECOND FORM's CARD OF 'ecdysislaw43.BoundCosts'. -/
def boundCostsUptoCard : Claim7 := { stood := { row := boundCostsUptoRow, standIns := [], harness := (true, "fd54ededc40db5f106690bb4c5f46039bb75dc963afa12a5a73dbae0bfe9b9aa"), looks := false }, kinds := [], alts := [], laidByText := true, laidKinds := [.data, .pinned], laidTests := true, laidLooks := .later }
def BoundCostsUptoCardSaid : Prop := Claim7.holds Tryz.pinned (.plain (OpenSpec.upto boundCostsSpec)) boundCostsUptoCard
end Rows
end Go.Proofs.YtpifnegikoldmaaGreatDoor
