/-
  DERIVED. GIVEN WITH THE SEED: THE CARDS: each row of YtnpgcmeclkncnaaGreatDoorRows.lean that lists a variable, with what it lists TIED to the program's text (the seventh form; the later family's looks); each row that meets fmt, with fmt's text TOLD by the authors' own Lean function (tested against real Go, not proved from fmt's source: count such statements apart). THE CARD IS WHAT COUNTS. Prove the row's statement (the work); the ties are given (YtnpgcmeclkncnaaGreatDoorTie.lean); close each card by the builder's one call (the guide's Derived/Test/ToyasCard.lean, 'card_holds'). Laid BY PROGRAM, IN A SANDBOX (cutbox-door.mjs). By AI agents, Wed Nov 11 2026. No macro, syntax, notation, axiom, sorry.
-/
import Derived.Test.YtnpgcmeclkncnaaGreatDoorRows
import GoSem.ClaimSeven
namespace Go.Proofs.YtnpgcmeclkncnaaGreatDoor
namespace Rows

/-- THE TIED CARD OF 'ecdysislaw43.BoundMessages'. -/
def boundMessagesCard : Claim7 := { stood := { row := boundMessagesRow, standIns := [], harness := (true, "f027d20c4bf6cb5328fb027373d3407d99534ae40c2b61ccbbb1948637b33019"), looks := false }, kinds := [], alts := [], laidByText := true, laidKinds := [.data, .pinned], laidTests := true, laidLooks := .later }
def BoundMessagesCardSaid : Prop := Claim7.holds Tryz.pinned (.plain (OpenSpec.ofChange boundMessagesSpec)) boundMessagesCard

/-- THE TIED CARD OF 'ecdysislaw43.BoundCosts'. -/
def boundCostsCard : Claim7 := { stood := { row := boundCostsRow, standIns := [], harness := (true, "f027d20c4bf6cb5328fb027373d3407d99534ae40c2b61ccbbb1948637b33019"), looks := false }, kinds := [], alts := [], laidByText := true, laidKinds := [.data, .pinned], laidTests := true, laidLooks := .later }
def BoundCostsCardSaid : Prop := Claim7.holds Tryz.pinned (.plain (OpenSpec.ofChange boundCostsSpec)) boundCostsCard

/-- THE TIED CARD OF 'ecdysislaw21.EncodePuts'. -/
def encodePutsCard : Claim7 := { stood := { row := encodePutsRow, standIns := [], harness := (true, "f027d20c4bf6cb5328fb027373d3407d99534ae40c2b61ccbbb1948637b33019"), looks := false }, kinds := [], alts := [], laidByText := true, laidKinds := [.data, .pinned], laidTests := true, laidLooks := .later }
def EncodePutsCardSaid : Prop := Claim7.holds Tryz.pinned (.plain (OpenSpec.ofChange encodePutsSpec)) encodePutsCard

/-- THE TIED CARD OF 'ecdysislaw21.EncodeApart'. -/
def encodeApartCard : Claim7 := { stood := { row := encodeApartRow, standIns := [], harness := (true, "f027d20c4bf6cb5328fb027373d3407d99534ae40c2b61ccbbb1948637b33019"), looks := false }, kinds := [], alts := [], laidByText := true, laidKinds := [.data, .pinned], laidTests := true, laidLooks := .later }
def EncodeApartCardSaid : Prop := Claim7.holds Tryz.pinned (.plain (OpenSpec.ofChange encodeApartSpec)) encodeApartCard

/-- THE TIED CARD OF 'ecdysislaw21.EncodeRest'. -/
def encodeRestCard : Claim7 := { stood := { row := encodeRestRow, standIns := [], harness := (true, "f027d20c4bf6cb5328fb027373d3407d99534ae40c2b61ccbbb1948637b33019"), looks := false }, kinds := [], alts := [], laidByText := true, laidKinds := [.data, .pinned], laidTests := true, laidLooks := .later }
def EncodeRestCardSaid : Prop := Claim7.holds Tryz.pinned (.plain (OpenSpec.ofChange encodeRestSpec)) encodeRestCard

/-- THE SECOND FORM's CARD OF 'ecdysislaw43.BoundMessages'. -/
def boundMessagesUptoCard : Claim7 := { stood := { row := boundMessagesUptoRow, standIns := [], harness := (true, "f027d20c4bf6cb5328fb027373d3407d99534ae40c2b61ccbbb1948637b33019"), looks := false }, kinds := [], alts := [], laidByText := true, laidKinds := [.data, .pinned], laidTests := true, laidLooks := .later }
def BoundMessagesUptoCardSaid : Prop := Claim7.holds Tryz.pinned (.plain (OpenSpec.upto boundMessagesSpec)) boundMessagesUptoCard

/-- THE SECOND FORM's CARD OF 'ecdysislaw43.BoundCosts'. -/
def boundCostsUptoCard : Claim7 := { stood := { row := boundCostsUptoRow, standIns := [], harness := (true, "f027d20c4bf6cb5328fb027373d3407d99534ae40c2b61ccbbb1948637b33019"), looks := false }, kinds := [], alts := [], laidByText := true, laidKinds := [.data, .pinned], laidTests := true, laidLooks := .later }
def BoundCostsUptoCardSaid : Prop := Claim7.holds Tryz.pinned (.plain (OpenSpec.upto boundCostsSpec)) boundCostsUptoCard

/-- THE SECOND FORM's CARD OF 'ecdysislaw21.EncodePuts'. -/
def encodePutsUptoCard : Claim7 := { stood := { row := encodePutsUptoRow, standIns := [], harness := (true, "f027d20c4bf6cb5328fb027373d3407d99534ae40c2b61ccbbb1948637b33019"), looks := false }, kinds := [], alts := [], laidByText := true, laidKinds := [.data, .pinned], laidTests := true, laidLooks := .later }
def EncodePutsUptoCardSaid : Prop := Claim7.holds Tryz.pinned (.plain (OpenSpec.upto encodePutsSpec)) encodePutsUptoCard

/-- THE SECOND FORM's CARD OF 'ecdysislaw21.EncodeApart'. -/
def encodeApartUptoCard : Claim7 := { stood := { row := encodeApartUptoRow, standIns := [], harness := (true, "f027d20c4bf6cb5328fb027373d3407d99534ae40c2b61ccbbb1948637b33019"), looks := false }, kinds := [], alts := [], laidByText := true, laidKinds := [.data, .pinned], laidTests := true, laidLooks := .later }
def EncodeApartUptoCardSaid : Prop := Claim7.holds Tryz.pinned (.plain (OpenSpec.upto encodeApartSpec)) encodeApartUptoCard

/-- THE SECOND FORM's CARD OF 'ecdysislaw21.EncodeRest'. -/
def encodeRestUptoCard : Claim7 := { stood := { row := encodeRestUptoRow, standIns := [], harness := (true, "f027d20c4bf6cb5328fb027373d3407d99534ae40c2b61ccbbb1948637b33019"), looks := false }, kinds := [], alts := [], laidByText := true, laidKinds := [.data, .pinned], laidTests := true, laidLooks := .later }
def EncodeRestUptoCardSaid : Prop := Claim7.holds Tryz.pinned (.plain (OpenSpec.upto encodeRestSpec)) encodeRestUptoCard
end Rows
end Go.Proofs.YtnpgcmeclkncnaaGreatDoor
