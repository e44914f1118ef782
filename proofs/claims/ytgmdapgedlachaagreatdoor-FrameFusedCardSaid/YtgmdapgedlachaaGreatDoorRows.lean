/-
  NARROWER THAN 'FOR EVERY INPUT', by the rows' own cells (each row's printed sentence says how): BoundMessages: loops, laid · FrameFused: loops, laid · RunGets: loops, laid · RunFused: loops, laid.
  DERIVED. THE GIVEN ROWS OF THIS SEAT. 4 by the template 'for every input the law returns true; each argument reads behind the call as it read before'; 0 by the template 'total and deterministic' (their statements: YtgmdapgedlachaaGreatDoorTotals.lean).
  GIVEN WITH THE SEED: the statements are not yours to turn. If you find one false, say at which input.
  Laid BY PROGRAM, IN A SANDBOX (cutbox-rows.mjs): the forced cells as the released guide's own fill.sh prints them over the translation d1377ee43e03985d… (all of the seat's roots in one cut). By AI agents, Wed Nov 11 2026. No macro, syntax, notation, axiom, sorry.
-/
import Derived.Test.YtgmdapgedlachaaGreatDoorChecked
import GoSem.PinnedTables
import GoSem.Claim
import GoSem.ClaimJoined
import GoSem.ClaimMapViews
import Derived.JoinedTies
import Derived.KernelRfl
namespace Go.Proofs.YtgmdapgedlachaaGreatDoor
/- THE CELL 'sum', in the pinned program and in every row, IS THE sha256 OF THE DUMP (.gsa) THAT YtgmdapgedlachaaGreatDoorProg.lean LOADS. Nothing in Lean hashes anything: it is a label: what it is worth is what the hold of that sum in a sandbox is worth. -/
noncomputable def Tryz.pinned : Pinned := { name := "ytgmdapgedlachaagreatdoor", sum := "d1377ee43e03985daa6fa11de3c9ff6cf4544183f69e3eb80a056c3504b88116", checked := Tryz.checked }
namespace Rows
def none {H : Type} : Left H := { results := [], args := [] }

/- WHAT THE LISTED PACKAGE-LEVEL VARIABLES READ AS WHEN THE CALL BEGINS. Each datum BY PROGRAM (the guide's laid-datum.mjs) off the statement by which the dump's own 'gosem.cut.vars' lays the variable. In a bare row this is a premise. The card (YtgmdapgedlachaaGreatDoorCards.lean) ties it to the program's text. -/
def laid_unicode_utf8_acceptRanges {H : Type} : DataW H := .agg [.agg [.lit (.int .u8 128), .lit (.int .u8 191)], .agg [.lit (.int .u8 160), .lit (.int .u8 191)], .agg [.lit (.int .u8 128), .lit (.int .u8 159)], .agg [.lit (.int .u8 144), .lit (.int .u8 191)], .agg [.lit (.int .u8 128), .lit (.int .u8 143)], .agg [.lit (.int .u8 0), .lit (.int .u8 0)], .agg [.lit (.int .u8 0), .lit (.int .u8 0)], .agg [.lit (.int .u8 0), .lit (.int .u8 0)], .agg [.lit (.int .u8 0), .lit (.int .u8 0)], .agg [.lit (.int .u8 0), .lit (.int .u8 0)], .agg [.lit (.int .u8 0), .lit (.int .u8 0)], .agg [.lit (.int .u8 0), .lit (.int .u8 0)], .agg [.lit (.int .u8 0), .lit (.int .u8 0)], .agg [.lit (.int .u8 0), .lit (.int .u8 0)], .agg [.lit (.int .u8 0), .lit (.int .u8 0)], .agg [.lit (.int .u8 0), .lit (.int .u8 0)]]
/-- One of Go's own tables, pinned by name: the form's constant. -/
def laid_unicode_utf8_first : DataW Unit := Go.Pinned.utf8First

/-- 'ecdysislaw43.BoundMessages': WHATEVER THE INPUT: true; the input reads as it did. -/
def boundMessagesSpec : ChangeSpec := { name := "boundMessages", fn := fun _ => fun
  | [d1, d2] => { results := [.lit (.bool true)], args := [d1, d2] }
  | _ => none }
def boundMessagesRow : OpenClaim := { program := "ytgmdapgedlachaagreatdoor", sum := "d1377ee43e03985daa6fa11de3c9ff6cf4544183f69e3eb80a056c3504b88116", func := "ecdysis/ecdysislaw43.BoundMessages", spec := "boundMessages", unfollowed := true, recurses := true, named := ["unicode/utf8.first", "unicode/utf8.acceptRanges"], loops := true, apart := false, laid := [("unicode/utf8.acceptRanges", laid_unicode_utf8_acceptRanges), ("unicode/utf8.first", laid_unicode_utf8_first)] }
def BoundMessagesSaid : Prop := boundMessagesRow.holds Tryz.pinned (OpenSpec.ofChange boundMessagesSpec)

/-- ITS FALSE NEIGHBOUR: 'it returns false'. Refute it at one input. -/
def boundMessagesWrong : ChangeSpec := { name := "boundMessages", fn := fun _ => fun
  | [d1, d2] => { results := [.lit (.bool false)], args := [d1, d2] }
  | _ => none }
def BoundMessagesWrongFalsely : Prop := boundMessagesRow.holds Tryz.pinned (OpenSpec.ofChange boundMessagesWrong)

/-- 'ecdysislaw36.FrameFused': WHATEVER THE INPUT: true; the input reads as it did. -/
def frameFusedSpec : ChangeSpec := { name := "frameFused", fn := fun _ => fun
  | [d1, d2, d3] => { results := [.lit (.bool true)], args := [d1, d2, d3] }
  | _ => none }
def frameFusedRow : OpenClaim := { program := "ytgmdapgedlachaagreatdoor", sum := "d1377ee43e03985daa6fa11de3c9ff6cf4544183f69e3eb80a056c3504b88116", func := "ecdysis/ecdysislaw36.FrameFused", spec := "frameFused", unfollowed := true, recurses := true, named := ["unicode/utf8.first", "unicode/utf8.acceptRanges"], loops := true, apart := false, laid := [("unicode/utf8.acceptRanges", laid_unicode_utf8_acceptRanges), ("unicode/utf8.first", laid_unicode_utf8_first)] }
def FrameFusedSaid : Prop := frameFusedRow.holds Tryz.pinned (OpenSpec.ofChange frameFusedSpec)

/-- ITS FALSE NEIGHBOUR: 'it returns false'. Refute it at one input. -/
def frameFusedWrong : ChangeSpec := { name := "frameFused", fn := fun _ => fun
  | [d1, d2, d3] => { results := [.lit (.bool false)], args := [d1, d2, d3] }
  | _ => none }
def FrameFusedWrongFalsely : Prop := frameFusedRow.holds Tryz.pinned (OpenSpec.ofChange frameFusedWrong)

/-- 'ecdysislaw38.RunGets': WHATEVER THE INPUT: true; the input reads as it did. -/
def runGetsSpec : ChangeSpec := { name := "runGets", fn := fun _ => fun
  | [d1, d2] => { results := [.lit (.bool true)], args := [d1, d2] }
  | _ => none }
def runGetsRow : OpenClaim := { program := "ytgmdapgedlachaagreatdoor", sum := "d1377ee43e03985daa6fa11de3c9ff6cf4544183f69e3eb80a056c3504b88116", func := "ecdysis/ecdysislaw38.RunGets", spec := "runGets", unfollowed := true, recurses := true, named := ["unicode/utf8.first", "unicode/utf8.acceptRanges"], loops := true, apart := false, laid := [("unicode/utf8.acceptRanges", laid_unicode_utf8_acceptRanges), ("unicode/utf8.first", laid_unicode_utf8_first)] }
def RunGetsSaid : Prop := runGetsRow.holds Tryz.pinned (OpenSpec.ofChange runGetsSpec)

/-- ITS FALSE NEIGHBOUR: 'it returns false'. Refute it at one input. -/
def runGetsWrong : ChangeSpec := { name := "runGets", fn := fun _ => fun
  | [d1, d2] => { results := [.lit (.bool false)], args := [d1, d2] }
  | _ => none }
def RunGetsWrongFalsely : Prop := runGetsRow.holds Tryz.pinned (OpenSpec.ofChange runGetsWrong)

/-- 'ecdysislaw38.RunFused': WHATEVER THE INPUT: true; the input reads as it did. -/
def runFusedSpec : ChangeSpec := { name := "runFused", fn := fun _ => fun
  | [d1, d2] => { results := [.lit (.bool true)], args := [d1, d2] }
  | _ => none }
def runFusedRow : OpenClaim := { program := "ytgmdapgedlachaagreatdoor", sum := "d1377ee43e03985daa6fa11de3c9ff6cf4544183f69e3eb80a056c3504b88116", func := "ecdysis/ecdysislaw38.RunFused", spec := "runFused", unfollowed := true, recurses := true, named := ["unicode/utf8.first", "unicode/utf8.acceptRanges"], loops := true, apart := false, laid := [("unicode/utf8.acceptRanges", laid_unicode_utf8_acceptRanges), ("unicode/utf8.first", laid_unicode_utf8_first)] }
def RunFusedSaid : Prop := runFusedRow.holds Tryz.pinned (OpenSpec.ofChange runFusedSpec)

/-- ITS FALSE NEIGHBOUR: 'it returns false'. Refute it at one input. -/
def runFusedWrong : ChangeSpec := { name := "runFused", fn := fun _ => fun
  | [d1, d2] => { results := [.lit (.bool false)], args := [d1, d2] }
  | _ => none }
def RunFusedWrongFalsely : Prop := runFusedRow.holds Tryz.pinned (OpenSpec.ofChange runFusedWrong)

/- THE SECOND FORM. 'bulk': how many values and letters a reading holds, each counted each time it is reached (what is shared counts as often as it is met; a slice's spare places count too). A statement '..UptoSaid' is the law's where the arguments, and the package variables that the reading takes, are together of bulk at most 1048576: NARROWER than '..Said'. Prove '..Said' where nothing that the law and all that it calls make is longer than what came in: it says more and counts as full. Else prove '..UptoSaid'. A law counts once. -/
mutual
def uptoBulk {H : Type} : DataW H → Nat
  | .lit (.string bytes) => bytes.length + 1
  | .lit _ => 1
  | .nil => 1
  | .ptr d => uptoBulk d + 1
  | .slice elems spare => uptoBulkAll elems + uptoBulkAll spare + 1
  | .agg parts => uptoBulkAll parts + 1
  | .iface _ d => uptoBulk d + 1
  | .map entries => uptoBulkEntries entries + 1
  | .held _ => 1
def uptoBulkAll {H : Type} : List (DataW H) → Nat
  | [] => 0
  | d :: r => uptoBulk d + uptoBulkAll r
def uptoBulkEntries {H : Type} : List (Lit × DataW H) → Nat
  | [] => 0
  | x :: r => uptoBulkEntry x + uptoBulkEntries r
def uptoBulkEntry {H : Type} : Lit × DataW H → Nat
  | (.string bytes, d) => bytes.length + uptoBulk d + 1
  | (_, d) => uptoBulk d + 1
 end
def uptoSmall : (H : Type) → List (DataW H) → Bool := fun _ ds => decide (uptoBulkAll ds ≤ 1048576)
def OpenSpec.upto (s : _root_.Go.ChangeSpec) : _root_.Go.OpenSpec := { _root_.Go.OpenSpec.ofChange s with cond := some uptoSmall }

/-- 'ecdysislaw43.BoundMessages', WHERE WHAT IT READS IS OF BULK AT MOST 1048576: true; the input reads as it did. -/
def boundMessagesUptoRow : OpenClaim := { program := "ytgmdapgedlachaagreatdoor", sum := "d1377ee43e03985daa6fa11de3c9ff6cf4544183f69e3eb80a056c3504b88116", func := "ecdysis/ecdysislaw43.BoundMessages", spec := "boundMessages", unfollowed := true, recurses := true, named := ["unicode/utf8.first", "unicode/utf8.acceptRanges"], loops := true, apart := false, laid := [("unicode/utf8.acceptRanges", laid_unicode_utf8_acceptRanges), ("unicode/utf8.first", laid_unicode_utf8_first)], narrowed := true }
def BoundMessagesUptoSaid : Prop := boundMessagesUptoRow.holds Tryz.pinned (OpenSpec.upto boundMessagesSpec)

/-- 'ecdysislaw36.FrameFused', WHERE WHAT IT READS IS OF BULK AT MOST 1048576: true; the input reads as it did. -/
def frameFusedUptoRow : OpenClaim := { program := "ytgmdapgedlachaagreatdoor", sum := "d1377ee43e03985daa6fa11de3c9ff6cf4544183f69e3eb80a056c3504b88116", func := "ecdysis/ecdysislaw36.FrameFused", spec := "frameFused", unfollowed := true, recurses := true, named := ["unicode/utf8.first", "unicode/utf8.acceptRanges"], loops := true, apart := false, laid := [("unicode/utf8.acceptRanges", laid_unicode_utf8_acceptRanges), ("unicode/utf8.first", laid_unicode_utf8_first)], narrowed := true }
def FrameFusedUptoSaid : Prop := frameFusedUptoRow.holds Tryz.pinned (OpenSpec.upto frameFusedSpec)

/-- 'ecdysislaw38.RunGets', WHERE WHAT IT READS IS OF BULK AT MOST 1048576: true; the input reads as it did. -/
def runGetsUptoRow : OpenClaim := { program := "ytgmdapgedlachaagreatdoor", sum := "d1377ee43e03985daa6fa11de3c9ff6cf4544183f69e3eb80a056c3504b88116", func := "ecdysis/ecdysislaw38.RunGets", spec := "runGets", unfollowed := true, recurses := true, named := ["unicode/utf8.first", "unicode/utf8.acceptRanges"], loops := true, apart := false, laid := [("unicode/utf8.acceptRanges", laid_unicode_utf8_acceptRanges), ("unicode/utf8.first", laid_unicode_utf8_first)], narrowed := true }
def RunGetsUptoSaid : Prop := runGetsUptoRow.holds Tryz.pinned (OpenSpec.upto runGetsSpec)

/-- 'ecdysislaw38.RunFused', WHERE WHAT IT READS IS OF BULK AT MOST 1048576: true; the input reads as it did. -/
def runFusedUptoRow : OpenClaim := { program := "ytgmdapgedlachaagreatdoor", sum := "d1377ee43e03985daa6fa11de3c9ff6cf4544183f69e3eb80a056c3504b88116", func := "ecdysis/ecdysislaw38.RunFused", spec := "runFused", unfollowed := true, recurses := true, named := ["unicode/utf8.first", "unicode/utf8.acceptRanges"], loops := true, apart := false, laid := [("unicode/utf8.acceptRanges", laid_unicode_utf8_acceptRanges), ("unicode/utf8.first", laid_unicode_utf8_first)], narrowed := true }
def RunFusedUptoSaid : Prop := runFusedUptoRow.holds Tryz.pinned (OpenSpec.upto runFusedSpec)

end Rows
end Go.Proofs.YtgmdapgedlachaaGreatDoor
