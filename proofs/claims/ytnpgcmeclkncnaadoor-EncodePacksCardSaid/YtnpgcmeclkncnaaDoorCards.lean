/-
  DERIVED. GIVEN WITH THE SEED: THE CARDS: each row of YtnpgcmeclkncnaaDoorRows.lean that lists a variable, with what it lists TIED to the program's text (the seventh form; the later family's looks); each row that meets fmt, with fmt's text TOLD by the authors' own Lean function (tested against real Go, not proved from fmt's source: count such statements apart). THE CARD IS WHAT COUNTS. Prove the row's statement (the work); the ties are given (YtnpgcmeclkncnaaDoorTie.lean); close each card by the builder's one call (the guide's Derived/Test/ToyasCard.lean, 'card_holds'). Laid BY PROGRAM, IN A SANDBOX (cutbox-door.mjs). By AI agents, Wed Nov 11 2026. No macro, syntax, notation, axiom, sorry.
-/
import Derived.Test.YtnpgcmeclkncnaaDoorRows
import GoSem.ClaimSeven
namespace Go.Proofs.YtnpgcmeclkncnaaDoor
namespace Rows

/-- THE TIED CARD OF 'ecdysislaw21.EncodePacks'. -/
def encodePacksCard : Claim7 := { stood := { row := encodePacksRow, standIns := [], harness := (true, "3750d680648bc2e89d6bd0707eb16893299177fcf75306681271023d43bc09e4"), looks := false }, kinds := [], alts := [], laidByText := true, laidKinds := [.data, .pinned], laidTests := true, laidLooks := .later }
def EncodePacksCardSaid : Prop := Claim7.holds Tryd.pinned (.plain (OpenSpec.ofChange encodePacksSpec)) encodePacksCard

/-- THE SECOND FORM's CARD OF 'ecdysislaw21.EncodePacks'. -/
def encodePacksUptoCard : Claim7 := { stood := { row := encodePacksUptoRow, standIns := [], harness := (true, "3750d680648bc2e89d6bd0707eb16893299177fcf75306681271023d43bc09e4"), looks := false }, kinds := [], alts := [], laidByText := true, laidKinds := [.data, .pinned], laidTests := true, laidLooks := .later }
def EncodePacksUptoCardSaid : Prop := Claim7.holds Tryd.pinned (.plain (OpenSpec.upto encodePacksSpec)) encodePacksUptoCard
end Rows
end Go.Proofs.YtnpgcmeclkncnaaDoor
