/-
  NARROWER THAN 'FOR EVERY INPUT', by the rows' own cells (each row's printed sentence says how): FrameLoads: loops, laid · FrameEmpty: loops, laid · RunGets: loops, laid.
  DERIVED. THE GIVEN ROWS OF THIS SEAT. 3 by the template 'for every input the law returns true; each argument reads behind the call as it read before'; 0 by the template 'total and deterministic' (their statements: YtlijgcifhhcfaaaGreatDoorTotals.lean).
  GIVEN WITH THE SEED: the statements are not yours to turn. If you find one false, say at which input.
  Laid BY PROGRAM, IN A SANDBOX (cutbox-rows.mjs): the forced cells as the released guide's own fill.sh prints them over the translation a2caa2d147ac7173… (all of the seat's roots in one cut). By AI agents, Wed Nov 11 2026. No macro, syntax, notation, axiom, sorry.
-/
import Derived.Test.YtlijgcifhhcfaaaGreatDoorChecked
import GoSem.PinnedTables
import GoSem.Claim
import GoSem.ClaimJoined
import GoSem.ClaimMapViews
import Derived.JoinedTies
import Derived.KernelRfl
namespace Go.Proofs.YtlijgcifhhcfaaaGreatDoor
/- THE CELL 'sum', in the pinned program and in every row, IS THE sha256 OF THE DUMP (.gsa) THAT YtlijgcifhhcfaaaGreatDoorProg.lean LOADS. Nothing in Lean hashes anything: it is a label: what it is worth is what the hold of that sum in a sandbox is worth. -/
noncomputable def Tryz.pinned : Pinned := { name := "ytlijgcifhhcfaaagreatdoor", sum := "a2caa2d147ac7173d6b61b512ab161892b05873f95ba9029da4a6a35c5b9c2fe", checked := Tryz.checked }
namespace Rows
def none {H : Type} : Left H := { results := [], args := [] }

/- WHAT THE LISTED PACKAGE-LEVEL VARIABLES READ AS WHEN THE CALL BEGINS. Each datum BY PROGRAM (the guide's laid-datum.mjs) off the statement by which the dump's own 'gosem.cut.vars' lays the variable. In a bare row this is a premise. The card (YtlijgcifhhcfaaaGreatDoorCards.lean) ties it to the program's text. -/
def laid_unicode_utf8_acceptRanges {H : Type} : DataW H := .agg [.agg [.lit (.int .u8 128), .lit (.int .u8 191)], .agg [.lit (.int .u8 160), .lit (.int .u8 191)], .agg [.lit (.int .u8 128), .lit (.int .u8 159)], .agg [.lit (.int .u8 144), .lit (.int .u8 191)], .agg [.lit (.int .u8 128), .lit (.int .u8 143)], .agg [.lit (.int .u8 0), .lit (.int .u8 0)], .agg [.lit (.int .u8 0), .lit (.int .u8 0)], .agg [.lit (.int .u8 0), .lit (.int .u8 0)], .agg [.lit (.int .u8 0), .lit (.int .u8 0)], .agg [.lit (.int .u8 0), .lit (.int .u8 0)], .agg [.lit (.int .u8 0), .lit (.int .u8 0)], .agg [.lit (.int .u8 0), .lit (.int .u8 0)], .agg [.lit (.int .u8 0), .lit (.int .u8 0)], .agg [.lit (.int .u8 0), .lit (.int .u8 0)], .agg [.lit (.int .u8 0), .lit (.int .u8 0)], .agg [.lit (.int .u8 0), .lit (.int .u8 0)]]
/-- One of Go's own tables, pinned by name: the form's constant. -/
def laid_unicode_utf8_first : DataW Unit := Go.Pinned.utf8First

/-- 'ecdysislaw36.FrameLoads': WHATEVER THE INPUT: true; the input reads as it did. -/
def frameLoadsSpec : ChangeSpec := { name := "frameLoads", fn := fun _ => fun
  | [d1, d2, d3] => { results := [.lit (.bool true)], args := [d1, d2, d3] }
  | _ => none }
def frameLoadsRow : OpenClaim := { program := "ytlijgcifhhcfaaagreatdoor", sum := "a2caa2d147ac7173d6b61b512ab161892b05873f95ba9029da4a6a35c5b9c2fe", func := "ecdysis/ecdysislaw36.FrameLoads", spec := "frameLoads", unfollowed := true, recurses := true, named := ["unicode/utf8.first", "unicode/utf8.acceptRanges"], loops := true, apart := false, laid := [("unicode/utf8.acceptRanges", laid_unicode_utf8_acceptRanges), ("unicode/utf8.first", laid_unicode_utf8_first)] }
def FrameLoadsSaid : Prop := frameLoadsRow.holds Tryz.pinned (OpenSpec.ofChange frameLoadsSpec)

/-- ITS FALSE NEIGHBOUR: 'it returns false'. Refute it at one input. -/
def frameLoadsWrong : ChangeSpec := { name := "frameLoads", fn := fun _ => fun
  | [d1, d2, d3] => { results := [.lit (.bool false)], args := [d1, d2, d3] }
  | _ => none }
def FrameLoadsWrongFalsely : Prop := frameLoadsRow.holds Tryz.pinned (OpenSpec.ofChange frameLoadsWrong)

/-- 'ecdysislaw36.FrameEmpty': WHATEVER THE INPUT: true; the input reads as it did. -/
def frameEmptySpec : ChangeSpec := { name := "frameEmpty", fn := fun _ => fun
  | [d1, d2] => { results := [.lit (.bool true)], args := [d1, d2] }
  | _ => none }
def frameEmptyRow : OpenClaim := { program := "ytlijgcifhhcfaaagreatdoor", sum := "a2caa2d147ac7173d6b61b512ab161892b05873f95ba9029da4a6a35c5b9c2fe", func := "ecdysis/ecdysislaw36.FrameEmpty", spec := "frameEmpty", unfollowed := true, recurses := true, named := ["unicode/utf8.first", "unicode/utf8.acceptRanges"], loops := true, apart := false, laid := [("unicode/utf8.acceptRanges", laid_unicode_utf8_acceptRanges), ("unicode/utf8.first", laid_unicode_utf8_first)] }
def FrameEmptySaid : Prop := frameEmptyRow.holds Tryz.pinned (OpenSpec.ofChange frameEmptySpec)

/-- ITS FALSE NEIGHBOUR: 'it returns false'. Refute it at one input. -/
def frameEmptyWrong : ChangeSpec := { name := "frameEmpty", fn := fun _ => fun
  | [d1, d2] => { results := [.lit (.bool false)], args := [d1, d2] }
  | _ => none }
def FrameEmptyWrongFalsely : Prop := frameEmptyRow.holds Tryz.pinned (OpenSpec.ofChange frameEmptyWrong)

/-- 'ecdysislaw38.RunGets': WHATEVER THE INPUT: true; the input reads as it did. -/
def runGetsSpec : ChangeSpec := { name := "runGets", fn := fun _ => fun
  | [d1, d2] => { results := [.lit (.bool true)], args := [d1, d2] }
  | _ => none }
def runGetsRow : OpenClaim := { program := "ytlijgcifhhcfaaagreatdoor", sum := "a2caa2d147ac7173d6b61b512ab161892b05873f95ba9029da4a6a35c5b9c2fe", func := "ecdysis/ecdysislaw38.RunGets", spec := "runGets", unfollowed := true, recurses := true, named := ["unicode/utf8.first", "unicode/utf8.acceptRanges"], loops := true, apart := false, laid := [("unicode/utf8.acceptRanges", laid_unicode_utf8_acceptRanges), ("unicode/utf8.first", laid_unicode_utf8_first)] }
def RunGetsSaid : Prop := runGetsRow.holds Tryz.pinned (OpenSpec.ofChange runGetsSpec)

/-- ITS FALSE NEIGHBOUR: 'it returns false'. Refute it at one input. -/
def runGetsWrong : ChangeSpec := { name := "runGets", fn := fun _ => fun
  | [d1, d2] => { results := [.lit (.bool false)], args := [d1, d2] }
  | _ => none }
def RunGetsWrongFalsely : Prop := runGetsRow.holds Tryz.pinned (OpenSpec.ofChange runGetsWrong)

/- THE SECOND FORM. 'bulk': how many values and letters a reading holds, each counted each time it is reached (what is shared counts as often as it is met; a slice's spare places count too). A statement '..UptoSaid' is the law's where the arguments, and the package variables that the reading takes, are together of bulk at most 1048576: NARROWER than '..Said'. Prove '..Said' where nothing that the law and all that it calls make is longer than what came in: it says more and counts as full. Else prove '..UptoSaid'. A law counts once. -/
mutual
def uptoBulk {H : Type} : DataW H → Nat
  | .lit (.string bytes) => bytes.length + 1
  | .lit _ => 1
  | .nil => 1
  | .ptr d => uptoBulk d + 1
  | .slice elems spare => uptoBulkAll elems + uptoBulkAll spare + 1
  | .agg parts => uptoBulkAll parts + 1
  | .iface _ d => uptoBulk d + 1
  | .map entries => uptoBulkEntries entries + 1
  | .held _ => 1
def uptoBulkAll {H : Type} : List (DataW H) → Nat
  | [] => 0
  | d :: r => uptoBulk d + uptoBulkAll r
def uptoBulkEntries {H : Type} : List (Lit × DataW H) → Nat
  | [] => 0
  | x :: r => uptoBulkEntry x + uptoBulkEntries r
def uptoBulkEntry {H : Type} : Lit × DataW H → Nat
  | (.string bytes, d) => bytes.length + uptoBulk d + 1
  | (_, d) => uptoBulk d + 1
 end
def uptoSmall : (H : Type) → List (DataW H) → Bool := fun _ ds => decide (uptoBulkAll ds ≤ 1048576)
def OpenSpec.upto (s : _root_.Go.ChangeSpec) : _root_.Go.OpenSpec := { _root_.Go.OpenSpec.ofChange s with cond := some uptoSmall }

/-- 'ecdysislaw36.FrameLoads', WHERE WHAT IT READS IS OF BULK AT MOST 1048576: true; the input reads as it did. -/
def frameLoadsUptoRow : OpenClaim := { program := "ytlijgcifhhcfaaagreatdoor", sum := "a2caa2d147ac7173d6b61b512ab161892b05873f95ba9029da4a6a35c5b9c2fe", func := "ecdysis/ecdysislaw36.FrameLoads", spec := "frameLoads", unfollowed := true, recurses := true, named := ["unicode/utf8.first", "unicode/utf8.acceptRanges"], loops := true, apart := false, laid := [("unicode/utf8.acceptRanges", laid_unicode_utf8_acceptRanges), ("unicode/utf8.first", laid_unicode_utf8_first)], narrowed := true }
def FrameLoadsUptoSaid : Prop := frameLoadsUptoRow.holds Tryz.pinned (OpenSpec.upto frameLoadsSpec)

/-- 'ecdysislaw36.FrameEmpty', WHERE WHAT IT READS IS OF BULK AT MOST 1048576: true; the input reads as it did. -/
def frameEmptyUptoRow : OpenClaim := { program := "ytlijgcifhhcfaaagreatdoor", sum := "a2caa2d147ac7173d6b61b512ab161892b05873f95ba9029da4a6a35c5b9c2fe", func := "ecdysis/ecdysislaw36.FrameEmpty", spec := "frameEmpty", unfollowed := true, recurses := true, named := ["unicode/utf8.first", "unicode/utf8.acceptRanges"], loops := true, apart := false, laid := [("unicode/utf8.acceptRanges", laid_unicode_utf8_acceptRanges), ("unicode/utf8.first", laid_unicode_utf8_first)], narrowed := true }
def FrameEmptyUptoSaid : Prop := frameEmptyUptoRow.holds Tryz.pinned (OpenSpec.upto frameEmptySpec)

/-- 'ecdysislaw38.RunGets', WHERE WHAT IT READS IS OF BULK AT MOST 1048576: true; the input reads as it did. -/
def runGetsUptoRow : OpenClaim := { program := "ytlijgcifhhcfaaagreatdoor", sum := "a2caa2d147ac7173d6b61b512ab161892b05873f95ba9029da4a6a35c5b9c2fe", func := "ecdysis/ecdysislaw38.RunGets", spec := "runGets", unfollowed := true, recurses := true, named := ["unicode/utf8.first", "unicode/utf8.acceptRanges"], loops := true, apart := false, laid := [("unicode/utf8.acceptRanges", laid_unicode_utf8_acceptRanges), ("unicode/utf8.first", laid_unicode_utf8_first)], narrowed := true }
def RunGetsUptoSaid : Prop := runGetsUptoRow.holds Tryz.pinned (OpenSpec.upto runGetsSpec)

end Rows
end Go.Proofs.YtlijgcifhhcfaaaGreatDoor
