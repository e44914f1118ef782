/-
  NARROWER THAN 'FOR EVERY INPUT', by the rows' own cells (each row's printed sentence says how): BoundMessages: loops, laid · BoundCosts: loops, laid · EncodePuts: loops, laid · EncodeApart: loops, laid · EncodeRest: loops, laid.
  DERIVED. THE GIVEN ROWS OF THIS SEAT. 5 by the template 'for every input the law returns true; each argument reads behind the call as it read before'; 0 by the template 'total and deterministic' (their statements: YtnpgcmeclkncnaaGreatDoorTotals.lean).
  GIVEN WITH THE SEED: the statements are not yours to turn. If you find one false, say at which input.
  Laid BY PROGRAM, IN A SANDBOX (cutbox-rows.mjs): the forced cells as the released guide's own fill.sh prints them over the translation ac7205464095c091… (all of the seat's roots in one cut). By AI agents, Wed Nov 11 2026. No macro, syntax, notation, axiom, sorry.
-/
import Derived.Test.YtnpgcmeclkncnaaGreatDoorChecked
import GoSem.PinnedTables
import GoSem.Claim
import GoSem.ClaimJoined
import GoSem.ClaimMapViews
import Derived.JoinedTies
import Derived.KernelRfl
namespace Go.Proofs.YtnpgcmeclkncnaaGreatDoor
/- THE CELL 'sum', in the pinned program and in every row, IS THE sha256 OF THE DUMP (.gsa) THAT YtnpgcmeclkncnaaGreatDoorProg.lean LOADS. Nothing in Lean hashes anything: it is a label: what it is worth is what the hold of that sum in a sandbox is worth. -/
noncomputable def Tryz.pinned : Pinned := { name := "ytnpgcmeclkncnaagreatdoor", sum := "ac7205464095c091d1064544821333106ba3b0ed5dfde16f4f7390113283be77", checked := Tryz.checked }
namespace Rows
def none {H : Type} : Left H := { results := [], args := [] }

/- WHAT THE LISTED PACKAGE-LEVEL VARIABLES READ AS WHEN THE CALL BEGINS. Each datum BY PROGRAM (the guide's laid-datum.mjs) off the statement by which the dump's own 'gosem.cut.vars' lays the variable. In a bare row this is a premise. The card (YtnpgcmeclkncnaaGreatDoorCards.lean) ties it to the program's text. -/
def laid_unicode_utf8_acceptRanges {H : Type} : DataW H := .agg [.agg [.lit (.int .u8 128), .lit (.int .u8 191)], .agg [.lit (.int .u8 160), .lit (.int .u8 191)], .agg [.lit (.int .u8 128), .lit (.int .u8 159)], .agg [.lit (.int .u8 144), .lit (.int .u8 191)], .agg [.lit (.int .u8 128), .lit (.int .u8 143)], .agg [.lit (.int .u8 0), .lit (.int .u8 0)], .agg [.lit (.int .u8 0), .lit (.int .u8 0)], .agg [.lit (.int .u8 0), .lit (.int .u8 0)], .agg [.lit (.int .u8 0), .lit (.int .u8 0)], .agg [.lit (.int .u8 0), .lit (.int .u8 0)], .agg [.lit (.int .u8 0), .lit (.int .u8 0)], .agg [.lit (.int .u8 0), .lit (.int .u8 0)], .agg [.lit (.int .u8 0), .lit (.int .u8 0)], .agg [.lit (.int .u8 0), .lit (.int .u8 0)], .agg [.lit (.int .u8 0), .lit (.int .u8 0)], .agg [.lit (.int .u8 0), .lit (.int .u8 0)]]
/-- One of Go's own tables, pinned by name: the form's constant. -/
def laid_unicode_utf8_first : DataW Unit := Go.Pinned.utf8First

/-- 'ecdysislaw43.BoundMessages': WHATEVER THE INPUT: true; the input reads as it did. -/
def boundMessagesSpec : ChangeSpec := { name := "boundMessages", fn := fun _ => fun
  | [d1, d2] => { results := [.lit (.bool true)], args := [d1, d2] }
  | _ => none }
def boundMessagesRow : OpenClaim := { program := "ytnpgcmeclkncnaagreatdoor", sum := "ac7205464095c091d1064544821333106ba3b0ed5dfde16f4f7390113283be77", func := "ecdysis/ecdysislaw43.BoundMessages", spec := "boundMessages", unfollowed := true, recurses := true, named := ["unicode/utf8.first", "unicode/utf8.acceptRanges"], loops := true, apart := false, laid := [("unicode/utf8.acceptRanges", laid_unicode_utf8_acceptRanges), ("unicode/utf8.first", laid_unicode_utf8_first)] }
def BoundMessagesSaid : Prop := boundMessagesRow.holds Tryz.pinned (OpenSpec.ofChange boundMessagesSpec)

/-- ITS FALSE NEIGHBOUR: 'it returns false'. Refute it at one input. -/
def boundMessagesWrong : ChangeSpec := { name := "boundMessages", fn := fun _ => fun
  | [d1, d2] => { results := [.lit (.bool false)], args := [d1, d2] }
  | _ => none }
def BoundMessagesWrongFalsely : Prop := boundMessagesRow.holds Tryz.pinned (OpenSpec.ofChange boundMessagesWrong)

/-- 'ecdysislaw43.BoundCosts': WHATEVER THE INPUT: true; the input reads as it did. -/
def boundCostsSpec : ChangeSpec := { name := "boundCosts", fn := fun _ => fun
  | [d] => { results := [.lit (.bool true)], args := [d] }
  | _ => none }
def boundCostsRow : OpenClaim := { program := "ytnpgcmeclkncnaagreatdoor", sum := "ac7205464095c091d1064544821333106ba3b0ed5dfde16f4f7390113283be77", func := "ecdysis/ecdysislaw43.BoundCosts", spec := "boundCosts", unfollowed := true, recurses := true, named := ["unicode/utf8.first", "unicode/utf8.acceptRanges"], loops := true, apart := false, laid := [("unicode/utf8.acceptRanges", laid_unicode_utf8_acceptRanges), ("unicode/utf8.first", laid_unicode_utf8_first)] }
def BoundCostsSaid : Prop := boundCostsRow.holds Tryz.pinned (OpenSpec.ofChange boundCostsSpec)

/-- ITS FALSE NEIGHBOUR: 'it returns false'. Refute it at one input. -/
def boundCostsWrong : ChangeSpec := { name := "boundCosts", fn := fun _ => fun
  | [d] => { results := [.lit (.bool false)], args := [d] }
  | _ => none }
def BoundCostsWrongFalsely : Prop := boundCostsRow.holds Tryz.pinned (OpenSpec.ofChange boundCostsWrong)

/-- 'ecdysislaw21.EncodePuts': WHATEVER THE INPUT: true; the input reads as it did. -/
def encodePutsSpec : ChangeSpec := { name := "encodePuts", fn := fun _ => fun
  | [d1, d2, d3] => { results := [.lit (.bool true)], args := [d1, d2, d3] }
  | _ => none }
def encodePutsRow : OpenClaim := { program := "ytnpgcmeclkncnaagreatdoor", sum := "ac7205464095c091d1064544821333106ba3b0ed5dfde16f4f7390113283be77", func := "ecdysis/ecdysislaw21.EncodePuts", spec := "encodePuts", unfollowed := true, recurses := true, named := ["unicode/utf8.first", "unicode/utf8.acceptRanges"], loops := true, apart := false, laid := [("unicode/utf8.acceptRanges", laid_unicode_utf8_acceptRanges), ("unicode/utf8.first", laid_unicode_utf8_first)] }
def EncodePutsSaid : Prop := encodePutsRow.holds Tryz.pinned (OpenSpec.ofChange encodePutsSpec)

/-- ITS FALSE NEIGHBOUR: 'it returns false'. Refute it at one input. -/
def encodePutsWrong : ChangeSpec := { name := "encodePuts", fn := fun _ => fun
  | [d1, d2, d3] => { results := [.lit (.bool false)], args := [d1, d2, d3] }
  | _ => none }
def EncodePutsWrongFalsely : Prop := encodePutsRow.holds Tryz.pinned (OpenSpec.ofChange encodePutsWrong)

/-- 'ecdysislaw21.EncodeApart': WHATEVER THE INPUT: true; the input reads as it did. -/
def encodeApartSpec : ChangeSpec := { name := "encodeApart", fn := fun _ => fun
  | [d1, d2, d3] => { results := [.lit (.bool true)], args := [d1, d2, d3] }
  | _ => none }
def encodeApartRow : OpenClaim := { program := "ytnpgcmeclkncnaagreatdoor", sum := "ac7205464095c091d1064544821333106ba3b0ed5dfde16f4f7390113283be77", func := "ecdysis/ecdysislaw21.EncodeApart", spec := "encodeApart", unfollowed := true, recurses := true, named := ["unicode/utf8.first", "unicode/utf8.acceptRanges"], loops := true, apart := false, laid := [("unicode/utf8.acceptRanges", laid_unicode_utf8_acceptRanges), ("unicode/utf8.first", laid_unicode_utf8_first)] }
def EncodeApartSaid : Prop := encodeApartRow.holds Tryz.pinned (OpenSpec.ofChange encodeApartSpec)

/-- ITS FALSE NEIGHBOUR: 'it returns false'. Refute it at one input. -/
def encodeApartWrong : ChangeSpec := { name := "encodeApart", fn := fun _ => fun
  | [d1, d2, d3] => { results := [.lit (.bool false)], args := [d1, d2, d3] }
  | _ => none }
def EncodeApartWrongFalsely : Prop := encodeApartRow.holds Tryz.pinned (OpenSpec.ofChange encodeApartWrong)

/-- 'ecdysislaw21.EncodeRest': WHATEVER THE INPUT: true; the input reads as it did. -/
def encodeRestSpec : ChangeSpec := { name := "encodeRest", fn := fun _ => fun
  | [d1, d2, d3] => { results := [.lit (.bool true)], args := [d1, d2, d3] }
  | _ => none }
def encodeRestRow : OpenClaim := { program := "ytnpgcmeclkncnaagreatdoor", sum := "ac7205464095c091d1064544821333106ba3b0ed5dfde16f4f7390113283be77", func := "ecdysis/ecdysislaw21.EncodeRest", spec := "encodeRest", unfollowed := true, recurses := true, named := ["unicode/utf8.first", "unicode/utf8.acceptRanges"], loops := true, apart := false, laid := [("unicode/utf8.acceptRanges", laid_unicode_utf8_acceptRanges), ("unicode/utf8.first", laid_unicode_utf8_first)] }
def EncodeRestSaid : Prop := encodeRestRow.holds Tryz.pinned (OpenSpec.ofChange encodeRestSpec)

/-- ITS FALSE NEIGHBOUR: 'it returns false'. Refute it at one input. -/
def encodeRestWrong : ChangeSpec := { name := "encodeRest", fn := fun _ => fun
  | [d1, d2, d3] => { results := [.lit (.bool false)], args := [d1, d2, d3] }
  | _ => none }
def EncodeRestWrongFalsely : Prop := encodeRestRow.holds Tryz.pinned (OpenSpec.ofChange encodeRestWrong)

/- THE SECOND FORM. 'bulk': how many values and letters a reading holds, each counted each time it is reached (what is shared counts as often as it is met; a slice's spare places count too). A statement '..UptoSaid' is the law's where the arguments, and the package variables that the reading takes, are together of bulk at most 1048576: NARROWER than '..Said'. Prove '..Said' where nothing that the law and all that it calls make is longer than what came in: it says more and counts as full. Else prove '..UptoSaid'. A law counts once. -/
mutual
def uptoBulk {H : Type} : DataW H → Nat
  | .lit (.string bytes) => bytes.length + 1
  | .lit _ => 1
  | .nil => 1
  | .ptr d => uptoBulk d + 1
  | .slice elems spare => uptoBulkAll elems + uptoBulkAll spare + 1
  | .agg parts => uptoBulkAll parts + 1
  | .iface _ d => uptoBulk d + 1
  | .map entries => uptoBulkEntries entries + 1
  | .held _ => 1
def uptoBulkAll {H : Type} : List (DataW H) → Nat
  | [] => 0
  | d :: r => uptoBulk d + uptoBulkAll r
def uptoBulkEntries {H : Type} : List (Lit × DataW H) → Nat
  | [] => 0
  | x :: r => uptoBulkEntry x + uptoBulkEntries r
def uptoBulkEntry {H : Type} : Lit × DataW H → Nat
  | (.string bytes, d) => bytes.length + uptoBulk d + 1
  | (_, d) => uptoBulk d + 1
 end
def uptoSmall : (H : Type) → List (DataW H) → Bool := fun _ ds => decide (uptoBulkAll ds ≤ 1048576)
def OpenSpec.upto (s : _root_.Go.ChangeSpec) : _root_.Go.OpenSpec := { _root_.Go.OpenSpec.ofChange s with cond := some uptoSmall }

/-- 'ecdysislaw43.BoundMessages', WHERE WHAT IT READS IS OF BULK AT MOST 1048576: true; the input reads as it did. -/
def boundMessagesUptoRow : OpenClaim := { program := "ytnpgcmeclkncnaagreatdoor", sum := "ac7205464095c091d1064544821333106ba3b0ed5dfde16f4f7390113283be77", func := "ecdysis/ecdysislaw43.BoundMessages", spec := "boundMessages", unfollowed := true, recurses := true, named := ["unicode/utf8.first", "unicode/utf8.acceptRanges"], loops := true, apart := false, laid := [("unicode/utf8.acceptRanges", laid_unicode_utf8_acceptRanges), ("unicode/utf8.first", laid_unicode_utf8_first)], narrowed := true }
def BoundMessagesUptoSaid : Prop := boundMessagesUptoRow.holds Tryz.pinned (OpenSpec.upto boundMessagesSpec)

/-- 'ecdysislaw43.BoundCosts', WHERE WHAT IT READS IS OF BULK AT MOST 1048576: true; the input reads as it did. -/
def boundCostsUptoRow : OpenClaim := { program := "ytnpgcmeclkncnaagreatdoor", sum := "ac7205464095c091d1064544821333106ba3b0ed5dfde16f4f7390113283be77", func := "ecdysis/ecdysislaw43.BoundCosts", spec := "boundCosts", unfollowed := true, recurses := true, named := ["unicode/utf8.first", "unicode/utf8.acceptRanges"], loops := true, apart := false, laid := [("unicode/utf8.acceptRanges", laid_unicode_utf8_acceptRanges), ("unicode/utf8.first", laid_unicode_utf8_first)], narrowed := true }
def BoundCostsUptoSaid : Prop := boundCostsUptoRow.holds Tryz.pinned (OpenSpec.upto boundCostsSpec)

/-- 'ecdysislaw21.EncodePuts', WHERE WHAT IT READS IS OF BULK AT MOST 1048576: true; the input reads as it did. -/
def encodePutsUptoRow : OpenClaim := { program := "ytnpgcmeclkncnaagreatdoor", sum := "ac7205464095c091d1064544821333106ba3b0ed5dfde16f4f7390113283be77", func := "ecdysis/ecdysislaw21.EncodePuts", spec := "encodePuts", unfollowed := true, recurses := true, named := ["unicode/utf8.first", "unicode/utf8.acceptRanges"], loops := true, apart := false, laid := [("unicode/utf8.acceptRanges", laid_unicode_utf8_acceptRanges), ("unicode/utf8.first", laid_unicode_utf8_first)], narrowed := true }
def EncodePutsUptoSaid : Prop := encodePutsUptoRow.holds Tryz.pinned (OpenSpec.upto encodePutsSpec)

/-- 'ecdysislaw21.EncodeApart', WHERE WHAT IT READS IS OF BULK AT MOST 1048576: true; the input reads as it did. -/
def encodeApartUptoRow : OpenClaim := { program := "ytnpgcmeclkncnaagreatdoor", sum := "ac7205464095c091d1064544821333106ba3b0ed5dfde16f4f7390113283be77", func := "ecdysis/ecdysislaw21.EncodeApart", spec := "encodeApart", unfollowed := true, recurses := true, named := ["unicode/utf8.first", "unicode/utf8.acceptRanges"], loops := true, apart := false, laid := [("unicode/utf8.acceptRanges", laid_unicode_utf8_acceptRanges), ("unicode/utf8.first", laid_unicode_utf8_first)], narrowed := true }
def EncodeApartUptoSaid : Prop := encodeApartUptoRow.holds Tryz.pinned (OpenSpec.upto encodeApartSpec)

/-- 'ecdysislaw21.EncodeRest', WHERE WHAT IT READS IS OF BULK AT MOST 1048576: true; the input reads as it did. -/
def encodeRestUptoRow : OpenClaim := { program := "ytnpgcmeclkncnaagreatdoor", sum := "ac7205464095c091d1064544821333106ba3b0ed5dfde16f4f7390113283be77", func := "ecdysis/ecdysislaw21.EncodeRest", spec := "encodeRest", unfollowed := true, recurses := true, named := ["unicode/utf8.first", "unicode/utf8.acceptRanges"], loops := true, apart := false, laid := [("unicode/utf8.acceptRanges", laid_unicode_utf8_acceptRanges), ("unicode/utf8.first", laid_unicode_utf8_first)], narrowed := true }
def EncodeRestUptoSaid : Prop := encodeRestUptoRow.holds Tryz.pinned (OpenSpec.upto encodeRestSpec)

end Rows
end Go.Proofs.YtnpgcmeclkncnaaGreatDoor
