/-
  DERIVED. GIVEN WITH THE SEED: THE CARDS: each row of YtgmdapgedlachaaGreatDoorRows.lean that lists a variable, with what it lists TIED to the program's text (the seventh form; the later family's looks); each row that meets fmt, with fmt's text TOLD by the authors' own Lean function (tested against real Go, not proved from fmt's source: count such statements apart). THE CARD IS WHAT COUNTS. Prove the row's statement (the work); the ties are given (YtgmdapgedlachaaGreatDoorTie.lean); close each card by the builder's one call (the guide's Derived/Test/ToyasCard.lean, 'card_holds'). Laid BY PROGRAM, IN A SANDBOX (cutbox-door.mjs). By AI agents, Wed Nov 11 2026. No macro, syntax, notation, axiom, sorry.
-/
import Derived.Test.YtgmdapgedlachaaGreatDoorRows
import GoSem.ClaimSeven
namespace Go.Proofs.YtgmdapgedlachaaGreatDoor
namespace Rows

/-- THE TIED CARD OF 'ecdysislaw43.BoundMessages'. -/
def boundMessagesCard : Claim7 := { stood := { row := boundMessagesRow, standIns := [], harness := (true, "f5247e00c61a97b7406608970c7535f0385fdf22fa6d5808528278e5d93f857f"), looks := false }, kinds := [], alts := [], laidByText := true, laidKinds := [.data, .pinned], laidTests := true, laidLooks := .later }
def BoundMessagesCardSaid : Prop := Claim7.holds Tryz.pinned (.plain (OpenSpec.ofChange boundMessagesSpec)) boundMessagesCard

/-- THE TIED CARD OF 'ecdysislaw36.FrameFused'. -/
def frameFusedCard : Claim7 := { stood := { row := frameFusedRow, standIns := [], harness := (true, "f5247e00c61a97b7406608970c7535f0385fdf22fa6d5808528278e5d93f857f"), looks := false }, kinds := [], alts := [], laidByText := true, laidKinds := [.data, .pinned], laidTests := true, laidLooks := .later }
def FrameFusedCardSaid : Prop := Claim7.holds Tryz.pinned (.plain (OpenSpec.ofChange frameFusedSpec)) frameFusedCard

/-- THE TIED CARD OF 'ecdysislaw38.RunGets'. -/
def runGetsCard : Claim7 := { stood := { row := runGetsRow, standIns := [], harness := (true, "f5247e00c61a97b7406608970c7535f0385fdf22fa6d5808528278e5d93f857f"), looks := false }, kinds := [], alts := [], laidByText := true, laidKinds := [.data, .pinned], laidTests := true, laidLooks := .later }
def RunGetsCardSaid : Prop := Claim7.holds Tryz.pinned (.plain (OpenSpec.ofChange runGetsSpec)) runGetsCard

/-- THE TIED CARD OF 'ecdysislaw38.RunFused'. -/
def runFusedCard : Claim7 := { stood := { row := runFusedRow, standIns := [], harness := (true, "f5247e00c61a97b7406608970c7535f0385fdf22fa6d5808528278e5d93f857f"), looks := false }, kinds := [], alts := [], laidByText := true, laidKinds := [.data, .pinned], laidTests := true, laidLooks := .later }
def RunFusedCardSaid : Prop := Claim7.holds Tryz.pinned (.plain (OpenSpec.ofChange runFusedSpec)) runFusedCard

/-- THE SECOND FORM's CARD OF 'ecdysislaw43.BoundMessages'. -/
def boundMessagesUptoCard : Claim7 := { stood := { row := boundMessagesUptoRow, standIns := [], harness := (true, "f5247e00c61a97b7406608970c7535f0385fdf22fa6d5808528278e5d93f857f"), looks := false }, kinds := [], alts := [], laidByText := true, laidKinds := [.data, .pinned], laidTests := true, laidLooks := .later }
def BoundMessagesUptoCardSaid : Prop := Claim7.holds Tryz.pinned (.plain (OpenSpec.upto boundMessagesSpec)) boundMessagesUptoCard

/-- THE SECOND FORM's CARD OF 'ecdysislaw36.FrameFused'. -/
def frameFusedUptoCard : Claim7 := { stood := { row := frameFusedUptoRow, standIns := [], harness := (true, "f5247e00c61a97b7406608970c7535f0385fdf22fa6d5808528278e5d93f857f"), looks := false }, kinds := [], alts := [], laidByText := true, laidKinds := [.data, .pinned], laidTests := true, laidLooks := .later }
def FrameFusedUptoCardSaid : Prop := Claim7.holds Tryz.pinned (.plain (OpenSpec.upto frameFusedSpec)) frameFusedUptoCard

/-- THE SECOND FORM's CARD OF 'ecdysislaw38.RunGets'. -/
def runGetsUptoCard : Claim7 := { stood := { row := runGetsUptoRow, standIns := [], harness := (true, "f5247e00c61a97b7406608970c7535f0385fdf22fa6d5808528278e5d93f857f"), looks := false }, kinds := [], alts := [], laidByText := true, laidKinds := [.data, .pinned], laidTests := true, laidLooks := .later }
def RunGetsUptoCardSaid : Prop := Claim7.holds Tryz.pinned (.plain (OpenSpec.upto runGetsSpec)) runGetsUptoCard

/-- THE SECOND FORM's CARD OF 'ecdysislaw38.RunFused'. -/
def runFusedUptoCard : Claim7 := { stood := { row := runFusedUptoRow, standIns := [], harness := (true, "f5247e00c61a97b7406608970c7535f0385fdf22fa6d5808528278e5d93f857f"), looks := false }, kinds := [], alts := [], laidByText := true, laidKinds := [.data, .pinned], laidTests := true, laidLooks := .later }
def RunFusedUptoCardSaid : Prop := Claim7.holds Tryz.pinned (.plain (OpenSpec.upto runFusedSpec)) runFusedUptoCard
end Rows
end Go.Proofs.YtgmdapgedlachaaGreatDoor
