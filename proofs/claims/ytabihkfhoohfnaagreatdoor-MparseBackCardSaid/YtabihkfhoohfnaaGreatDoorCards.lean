/-
  DERIVED. GIVEN WITH THE SEED: THE CARDS: each row of YtabihkfhoohfnaaGreatDoorRows.lean that lists a variable, with what it lists TIED to the program's text (the seventh form; the later family's looks); each row that meets fmt, with fmt's text TOLD by the authors' own Lean function (tested against real Go, not proved from fmt's source: count such statements apart). THE CARD IS WHAT COUNTS. Prove the row's statement (the work); the ties are given (YtabihkfhoohfnaaGreatDoorTie.lean); close each card by the builder's one call (the guide's Derived/Test/ToyasCard.lean, 'card_holds'). Laid BY PROGRAM, IN A SANDBOX (cutbox-door.mjs). By AI agents, Wed Nov 11 2026. No macro, syntax, notation, axiom, sorry.
-/
import Derived.Test.YtabihkfhoohfnaaGreatDoorRows
import GoSem.ClaimSeven
namespace Go.Proofs.YtabihkfhoohfnaaGreatDoor
namespace Rows

/-- THE TIED CARD OF 'ecdysislaw25.MparseParses'. -/
def mparseParsesCard : Claim7 := { stood := { row := mparseParsesRow, standIns := [], harness := (true, "02f6c8e742c31a5650758f464923e12d301680c27151587fd8816ed4ba0b8fd8"), looks := true }, kinds := [], alts := [], laidByText := true, laidKinds := [.data, .data, .data, .data, .sentinel, .sentinel, .pinned], laidTests := true, laidLooks := .later }
def MparseParsesCardSaid : Prop := Claim7.holds Tryz.pinned (.plain (OpenSpec.ofChange mparseParsesSpec)) mparseParsesCard

/-- THE TIED CARD OF 'ecdysislaw25.MparseBack'. -/
def mparseBackCard : Claim7 := { stood := { row := mparseBackRow, standIns := [], harness := (true, "02f6c8e742c31a5650758f464923e12d301680c27151587fd8816ed4ba0b8fd8"), looks := true }, kinds := [], alts := [], laidByText := true, laidKinds := [.data, .data, .data, .data, .sentinel, .sentinel, .pinned], laidTests := true, laidLooks := .later }
def MparseBackCardSaid : Prop := Claim7.holds Tryz.pinned (.plain (OpenSpec.ofChange mparseBackSpec)) mparseBackCard

/-- THE TIED CARD OF 'ecdysislaw25.MparseStarts'. -/
def mparseStartsCard : Claim7 := { stood := { row := mparseStartsRow, standIns := [], harness := (true, "02f6c8e742c31a5650758f464923e12d301680c27151587fd8816ed4ba0b8fd8"), looks := true }, kinds := [], alts := [], laidByText := true, laidKinds := [.data, .data, .data, .data, .sentinel, .sentinel, .pinned], laidTests := true, laidLooks := .later }
def MparseStartsCardSaid : Prop := Claim7.holds Tryz.pinned (.plain (OpenSpec.ofChange mparseStartsSpec)) mparseStartsCard

/-- THE SECOND FORM's CARD OF 'ecdysislaw25.MparseParses'. -/
def mparseParsesUptoCard : Claim7 := { stood := { row := mparseParsesUptoRow, standIns := [], harness := (true, "02f6c8e742c31a5650758f464923e12d301680c27151587fd8816ed4ba0b8fd8"), looks := true }, kinds := [], alts := [], laidByText := true, laidKinds := [.data, .data, .data, .data, .sentinel, .sentinel, .pinned], laidTests := true, laidLooks := .later }
def MparseParsesUptoCardSaid : Prop := Claim7.holds Tryz.pinned (.plain (OpenSpec.upto mparseParsesSpec)) mparseParsesUptoCard

/-- THE SECOND FORM's CARD OF 'ecdysislaw25.MparseBack'. -/
def mparseBackUptoCard : Claim7 := { stood := { row := mparseBackUptoRow, standIns := [], harness := (true, "02f6c8e742c31a5650758f464923e12d301680c27151587fd8816ed4ba0b8fd8"), looks := true }, kinds := [], alts := [], laidByText := true, laidKinds := [.data, .data, .data, .data, .sentinel, .sentinel, .pinned], laidTests := true, laidLooks := .later }
def MparseBackUptoCardSaid : Prop := Claim7.holds Tryz.pinned (.plain (OpenSpec.upto mparseBackSpec)) mparseBackUptoCard

/-- THE SECOND FORM's CARD OF 'ecdysislaw25.MparseStarts'. -/
def mparseStartsUptoCard : Claim7 := { stood := { row := mparseStartsUptoRow, standIns := [], harness := (true, "02f6c8e742c31a5650758f464923e12d301680c27151587fd8816ed4ba0b8fd8"), looks := true }, kinds := [], alts := [], laidByText := true, laidKinds := [.data, .data, .data, .data, .sentinel, .sentinel, .pinned], laidTests := true, laidLooks := .later }
def MparseStartsUptoCardSaid : Prop := Claim7.holds Tryz.pinned (.plain (OpenSpec.upto mparseStartsSpec)) mparseStartsUptoCard
end Rows
end Go.Proofs.YtabihkfhoohfnaaGreatDoor
