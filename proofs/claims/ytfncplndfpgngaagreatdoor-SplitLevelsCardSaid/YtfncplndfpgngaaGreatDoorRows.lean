/-
  NARROWER THAN 'FOR EVERY INPUT', by the rows' own cells (each row's printed sentence says how): SplitPieces: laid · SplitCounts: laid · SplitMerges: laid · SplitLevels: laid · SplitNests: laid · SplitForces: laid.
  DERIVED. THE GIVEN ROWS OF THIS SEAT. 6 by the template 'for every input the law returns true; each argument reads behind the call as it read before'; 0 by the template 'total and deterministic' (their statements: YtfncplndfpgngaaGreatDoorTotals.lean).
  GIVEN WITH THE SEED: the statements are not yours to turn. If you find one false, say at which input.
  Laid BY PROGRAM, IN A SANDBOX (cutbox-rows.mjs): the forced cells as the released guide's own fill.sh prints them over the translation 7a80e77ab3493644… (all of the seat's roots in one cut). By AI agents, Wed Nov 11 2026. No macro, syntax, notation, axiom, sorry.
-/
import Derived.Test.YtfncplndfpgngaaGreatDoorChecked
import GoSem.PinnedTables
import GoSem.Claim
import GoSem.ClaimJoined
import GoSem.ClaimMapViews
import Derived.JoinedTies
import Derived.KernelRfl
namespace Go.Proofs.YtfncplndfpgngaaGreatDoor
/- THE CELL 'sum', in the pinned program and in every row, IS THE sha256 OF THE DUMP (.gsa) THAT YtfncplndfpgngaaGreatDoorProg.lean LOADS. Nothing in Lean hashes anything: it is a label: what it is worth is what the hold of that sum in a sandbox is worth. -/
noncomputable def Tryz.pinned : Pinned := { name := "ytfncplndfpgngaagreatdoor", sum := "7a80e77ab3493644a80d36d2c19d8e865ec092818b858d0963c557ff976ce0b9", checked := Tryz.checked }
namespace Rows
def none {H : Type} : Left H := { results := [], args := [] }

/- WHAT THE LISTED PACKAGE-LEVEL VARIABLES READ AS WHEN THE CALL BEGINS. Each datum BY PROGRAM (the guide's laid-datum.mjs) off the statement by which the dump's own 'gosem.cut.vars' lays the variable. In a bare row this is a premise. The card (YtfncplndfpgngaaGreatDoorCards.lean) ties it to the program's text. -/
def laid_unicode_utf8_acceptRanges {H : Type} : DataW H := .agg [.agg [.lit (.int .u8 128), .lit (.int .u8 191)], .agg [.lit (.int .u8 160), .lit (.int .u8 191)], .agg [.lit (.int .u8 128), .lit (.int .u8 159)], .agg [.lit (.int .u8 144), .lit (.int .u8 191)], .agg [.lit (.int .u8 128), .lit (.int .u8 143)], .agg [.lit (.int .u8 0), .lit (.int .u8 0)], .agg [.lit (.int .u8 0), .lit (.int .u8 0)], .agg [.lit (.int .u8 0), .lit (.int .u8 0)], .agg [.lit (.int .u8 0), .lit (.int .u8 0)], .agg [.lit (.int .u8 0), .lit (.int .u8 0)], .agg [.lit (.int .u8 0), .lit (.int .u8 0)], .agg [.lit (.int .u8 0), .lit (.int .u8 0)], .agg [.lit (.int .u8 0), .lit (.int .u8 0)], .agg [.lit (.int .u8 0), .lit (.int .u8 0)], .agg [.lit (.int .u8 0), .lit (.int .u8 0)], .agg [.lit (.int .u8 0), .lit (.int .u8 0)]]
/-- One of Go's own tables, pinned by name: the form's constant. -/
def laid_unicode_utf8_first : DataW Unit := Go.Pinned.utf8First

/-- 'wardmotelaw23.SplitPieces': WHATEVER THE INPUT: true; the input reads as it did. -/
def splitPiecesSpec : ChangeSpec := { name := "splitPieces", fn := fun _ => fun
  | [d1, d2, d3, d4, d5, d6] => { results := [.lit (.bool true)], args := [d1, d2, d3, d4, d5, d6] }
  | _ => none }
def splitPiecesRow : OpenClaim := { program := "ytfncplndfpgngaagreatdoor", sum := "7a80e77ab3493644a80d36d2c19d8e865ec092818b858d0963c557ff976ce0b9", func := "wardmote/wardmotelaw23.SplitPieces", spec := "splitPieces", inPlace := ["internal/bytealg.IndexByteString", "internal/bytealg.IndexString"], unfollowed := true, recurses := true, named := ["unicode/utf8.first", "unicode/utf8.acceptRanges", "internal/bytealg.MaxLen"], apart := false, laid := [("unicode/utf8.acceptRanges", laid_unicode_utf8_acceptRanges), ("unicode/utf8.first", laid_unicode_utf8_first)] }
def SplitPiecesSaid : Prop := splitPiecesRow.holds Tryz.pinned (OpenSpec.ofChange splitPiecesSpec)

/-- ITS FALSE NEIGHBOUR: 'it returns false'. Refute it at one input. -/
def splitPiecesWrong : ChangeSpec := { name := "splitPieces", fn := fun _ => fun
  | [d1, d2, d3, d4, d5, d6] => { results := [.lit (.bool false)], args := [d1, d2, d3, d4, d5, d6] }
  | _ => none }
def SplitPiecesWrongFalsely : Prop := splitPiecesRow.holds Tryz.pinned (OpenSpec.ofChange splitPiecesWrong)

/-- 'wardmotelaw23.SplitCounts': WHATEVER THE INPUT: true; the input reads as it did. -/
def splitCountsSpec : ChangeSpec := { name := "splitCounts", fn := fun _ => fun
  | [d1, d2, d3] => { results := [.lit (.bool true)], args := [d1, d2, d3] }
  | _ => none }
def splitCountsRow : OpenClaim := { program := "ytfncplndfpgngaagreatdoor", sum := "7a80e77ab3493644a80d36d2c19d8e865ec092818b858d0963c557ff976ce0b9", func := "wardmote/wardmotelaw23.SplitCounts", spec := "splitCounts", inPlace := ["internal/bytealg.IndexByteString", "internal/bytealg.IndexString"], unfollowed := true, recurses := true, named := ["unicode/utf8.first", "unicode/utf8.acceptRanges", "internal/bytealg.MaxLen"], apart := false, laid := [("unicode/utf8.acceptRanges", laid_unicode_utf8_acceptRanges), ("unicode/utf8.first", laid_unicode_utf8_first)] }
def SplitCountsSaid : Prop := splitCountsRow.holds Tryz.pinned (OpenSpec.ofChange splitCountsSpec)

/-- ITS FALSE NEIGHBOUR: 'it returns false'. Refute it at one input. -/
def splitCountsWrong : ChangeSpec := { name := "splitCounts", fn := fun _ => fun
  | [d1, d2, d3] => { results := [.lit (.bool false)], args := [d1, d2, d3] }
  | _ => none }
def SplitCountsWrongFalsely : Prop := splitCountsRow.holds Tryz.pinned (OpenSpec.ofChange splitCountsWrong)

/-- 'wardmotelaw23.SplitMerges': WHATEVER THE INPUT: true; the input reads as it did. -/
def splitMergesSpec : ChangeSpec := { name := "splitMerges", fn := fun _ => fun
  | [d1, d2, d3, d4] => { results := [.lit (.bool true)], args := [d1, d2, d3, d4] }
  | _ => none }
def splitMergesRow : OpenClaim := { program := "ytfncplndfpgngaagreatdoor", sum := "7a80e77ab3493644a80d36d2c19d8e865ec092818b858d0963c557ff976ce0b9", func := "wardmote/wardmotelaw23.SplitMerges", spec := "splitMerges", inPlace := ["internal/bytealg.IndexByteString", "internal/bytealg.IndexString"], unfollowed := true, recurses := true, named := ["unicode/utf8.first", "unicode/utf8.acceptRanges", "internal/bytealg.MaxLen"], apart := false, laid := [("unicode/utf8.acceptRanges", laid_unicode_utf8_acceptRanges), ("unicode/utf8.first", laid_unicode_utf8_first)] }
def SplitMergesSaid : Prop := splitMergesRow.holds Tryz.pinned (OpenSpec.ofChange splitMergesSpec)

/-- ITS FALSE NEIGHBOUR: 'it returns false'. Refute it at one input. -/
def splitMergesWrong : ChangeSpec := { name := "splitMerges", fn := fun _ => fun
  | [d1, d2, d3, d4] => { results := [.lit (.bool false)], args := [d1, d2, d3, d4] }
  | _ => none }
def SplitMergesWrongFalsely : Prop := splitMergesRow.holds Tryz.pinned (OpenSpec.ofChange splitMergesWrong)

/-- 'wardmotelaw23.SplitLevels': WHATEVER THE INPUT: true; the input reads as it did. -/
def splitLevelsSpec : ChangeSpec := { name := "splitLevels", fn := fun _ => fun
  | [d1, d2, d3, d4, d5, d6] => { results := [.lit (.bool true)], args := [d1, d2, d3, d4, d5, d6] }
  | _ => none }
def splitLevelsRow : OpenClaim := { program := "ytfncplndfpgngaagreatdoor", sum := "7a80e77ab3493644a80d36d2c19d8e865ec092818b858d0963c557ff976ce0b9", func := "wardmote/wardmotelaw23.SplitLevels", spec := "splitLevels", inPlace := ["internal/bytealg.IndexByteString", "internal/bytealg.IndexString"], unfollowed := true, recurses := true, named := ["unicode/utf8.first", "unicode/utf8.acceptRanges", "internal/bytealg.MaxLen"], apart := false, laid := [("unicode/utf8.acceptRanges", laid_unicode_utf8_acceptRanges), ("unicode/utf8.first", laid_unicode_utf8_first)] }
def SplitLevelsSaid : Prop := splitLevelsRow.holds Tryz.pinned (OpenSpec.ofChange splitLevelsSpec)

/-- ITS FALSE NEIGHBOUR: 'it returns false'. Refute it at one input. -/
def splitLevelsWrong : ChangeSpec := { name := "splitLevels", fn := fun _ => fun
  | [d1, d2, d3, d4, d5, d6] => { results := [.lit (.bool false)], args := [d1, d2, d3, d4, d5, d6] }
  | _ => none }
def SplitLevelsWrongFalsely : Prop := splitLevelsRow.holds Tryz.pinned (OpenSpec.ofChange splitLevelsWrong)

/-- 'wardmotelaw23.SplitNests': WHATEVER THE INPUT: true; the input reads as it did. -/
def splitNestsSpec : ChangeSpec := { name := "splitNests", fn := fun _ => fun
  | [d1, d2, d3] => { results := [.lit (.bool true)], args := [d1, d2, d3] }
  | _ => none }
def splitNestsRow : OpenClaim := { program := "ytfncplndfpgngaagreatdoor", sum := "7a80e77ab3493644a80d36d2c19d8e865ec092818b858d0963c557ff976ce0b9", func := "wardmote/wardmotelaw23.SplitNests", spec := "splitNests", inPlace := ["internal/bytealg.IndexByteString", "internal/bytealg.IndexString"], unfollowed := true, recurses := true, named := ["unicode/utf8.first", "unicode/utf8.acceptRanges", "internal/bytealg.MaxLen"], apart := false, laid := [("unicode/utf8.acceptRanges", laid_unicode_utf8_acceptRanges), ("unicode/utf8.first", laid_unicode_utf8_first)] }
def SplitNestsSaid : Prop := splitNestsRow.holds Tryz.pinned (OpenSpec.ofChange splitNestsSpec)

/-- ITS FALSE NEIGHBOUR: 'it returns false'. Refute it at one input. -/
def splitNestsWrong : ChangeSpec := { name := "splitNests", fn := fun _ => fun
  | [d1, d2, d3] => { results := [.lit (.bool false)], args := [d1, d2, d3] }
  | _ => none }
def SplitNestsWrongFalsely : Prop := splitNestsRow.holds Tryz.pinned (OpenSpec.ofChange splitNestsWrong)

/-- 'wardmotelaw23.SplitForces': WHATEVER THE INPUT: true; the input reads as it did. -/
def splitForcesSpec : ChangeSpec := { name := "splitForces", fn := fun _ => fun
  | [d1, d2] => { results := [.lit (.bool true)], args := [d1, d2] }
  | _ => none }
def splitForcesRow : OpenClaim := { program := "ytfncplndfpgngaagreatdoor", sum := "7a80e77ab3493644a80d36d2c19d8e865ec092818b858d0963c557ff976ce0b9", func := "wardmote/wardmotelaw23.SplitForces", spec := "splitForces", inPlace := ["internal/bytealg.IndexByteString", "internal/bytealg.IndexString"], unfollowed := true, recurses := true, named := ["unicode/utf8.first", "unicode/utf8.acceptRanges", "internal/bytealg.MaxLen"], apart := false, laid := [("unicode/utf8.acceptRanges", laid_unicode_utf8_acceptRanges), ("unicode/utf8.first", laid_unicode_utf8_first)] }
def SplitForcesSaid : Prop := splitForcesRow.holds Tryz.pinned (OpenSpec.ofChange splitForcesSpec)

/-- ITS FALSE NEIGHBOUR: 'it returns false'. Refute it at one input. -/
def splitForcesWrong : ChangeSpec := { name := "splitForces", fn := fun _ => fun
  | [d1, d2] => { results := [.lit (.bool false)], args := [d1, d2] }
  | _ => none }
def SplitForcesWrongFalsely : Prop := splitForcesRow.holds Tryz.pinned (OpenSpec.ofChange splitForcesWrong)

/- THE SECOND FORM. 'bulk': how many values and letters a reading holds, each counted each time it is reached (what is shared counts as often as it is met; a slice's spare places count too). A statement '..UptoSaid' is the law's where the arguments, and the package variables that the reading takes, are together of bulk at most 1048576: NARROWER than '..Said'. Prove '..Said' where nothing that the law and all that it calls make is longer than what came in: it says more and counts as full. Else prove '..UptoSaid'. A law counts once. -/
mutual
def uptoBulk {H : Type} : DataW H → Nat
  | .lit (.string bytes) => bytes.length + 1
  | .lit _ => 1
  | .nil => 1
  | .ptr d => uptoBulk d + 1
  | .slice elems spare => uptoBulkAll elems + uptoBulkAll spare + 1
  | .agg parts => uptoBulkAll parts + 1
  | .iface _ d => uptoBulk d + 1
  | .map entries => uptoBulkEntries entries + 1
  | .held _ => 1
def uptoBulkAll {H : Type} : List (DataW H) → Nat
  | [] => 0
  | d :: r => uptoBulk d + uptoBulkAll r
def uptoBulkEntries {H : Type} : List (Lit × DataW H) → Nat
  | [] => 0
  | x :: r => uptoBulkEntry x + uptoBulkEntries r
def uptoBulkEntry {H : Type} : Lit × DataW H → Nat
  | (.string bytes, d) => bytes.length + uptoBulk d + 1
  | (_, d) => uptoBulk d + 1
 end
def uptoSmall : (H : Type) → List (DataW H) → Bool := fun _ ds => decide (uptoBulkAll ds ≤ 1048576)
def OpenSpec.upto (s : _root_.Go.ChangeSpec) : _root_.Go.OpenSpec := { _root_.Go.OpenSpec.ofChange s with cond := some uptoSmall }

/-- 'wardmotelaw23.SplitPieces', WHERE WHAT IT READS IS OF BULK AT MOST 1048576: true; the input reads as it did. -/
def splitPiecesUptoRow : OpenClaim := { program := "ytfncplndfpgngaagreatdoor", sum := "7a80e77ab3493644a80d36d2c19d8e865ec092818b858d0963c557ff976ce0b9", func := "wardmote/wardmotelaw23.SplitPieces", spec := "splitPieces", inPlace := ["internal/bytealg.IndexByteString", "internal/bytealg.IndexString"], unfollowed := true, recurses := true, named := ["unicode/utf8.first", "unicode/utf8.acceptRanges", "internal/bytealg.MaxLen"], apart := false, laid := [("unicode/utf8.acceptRanges", laid_unicode_utf8_acceptRanges), ("unicode/utf8.first", laid_unicode_utf8_first)], narrowed := true }
def SplitPiecesUptoSaid : Prop := splitPiecesUptoRow.holds Tryz.pinned (OpenSpec.upto splitPiecesSpec)

/-- 'wardmotelaw23.SplitCounts', WHERE WHAT IT READS IS OF BULK AT MOST 1048576: true; the input reads as it did. -/
def splitCountsUptoRow : OpenClaim := { program := "ytfncplndfpgngaagreatdoor", sum := "7a80e77ab3493644a80d36d2c19d8e865ec092818b858d0963c557ff976ce0b9", func := "wardmote/wardmotelaw23.SplitCounts", spec := "splitCounts", inPlace := ["internal/bytealg.IndexByteString", "internal/bytealg.IndexString"], unfollowed := true, recurses := true, named := ["unicode/utf8.first", "unicode/utf8.acceptRanges", "internal/bytealg.MaxLen"], apart := false, laid := [("unicode/utf8.acceptRanges", laid_unicode_utf8_acceptRanges), ("unicode/utf8.first", laid_unicode_utf8_first)], narrowed := true }
def SplitCountsUptoSaid : Prop := splitCountsUptoRow.holds Tryz.pinned (OpenSpec.upto splitCountsSpec)

/-- 'wardmotelaw23.SplitMerges', WHERE WHAT IT READS IS OF BULK AT MOST 1048576: true; the input reads as it did. -/
def splitMergesUptoRow : OpenClaim := { program := "ytfncplndfpgngaagreatdoor", sum := "7a80e77ab3493644a80d36d2c19d8e865ec092818b858d0963c557ff976ce0b9", func := "wardmote/wardmotelaw23.SplitMerges", spec := "splitMerges", inPlace := ["internal/bytealg.IndexByteString", "internal/bytealg.IndexString"], unfollowed := true, recurses := true, named := ["unicode/utf8.first", "unicode/utf8.acceptRanges", "internal/bytealg.MaxLen"], apart := false, laid := [("unicode/utf8.acceptRanges", laid_unicode_utf8_acceptRanges), ("unicode/utf8.first", laid_unicode_utf8_first)], narrowed := true }
def SplitMergesUptoSaid : Prop := splitMergesUptoRow.holds Tryz.pinned (OpenSpec.upto splitMergesSpec)

/-- 'wardmotelaw23.SplitLevels', WHERE WHAT IT READS IS OF BULK AT MOST 1048576: true; the input reads as it did. -/
def splitLevelsUptoRow : OpenClaim := { program := "ytfncplndfpgngaagreatdoor", sum := "7a80e77ab3493644a80d36d2c19d8e865ec092818b858d0963c557ff976ce0b9", func := "wardmote/wardmotelaw23.SplitLevels", spec := "splitLevels", inPlace := ["internal/bytealg.IndexByteString", "internal/bytealg.IndexString"], unfollowed := true, recurses := true, named := ["unicode/utf8.first", "unicode/utf8.acceptRanges", "internal/bytealg.MaxLen"], apart := false, laid := [("unicode/utf8.acceptRanges", laid_unicode_utf8_acceptRanges), ("unicode/utf8.first", laid_unicode_utf8_first)], narrowed := true }
def SplitLevelsUptoSaid : Prop := splitLevelsUptoRow.holds Tryz.pinned (OpenSpec.upto splitLevelsSpec)

/-- 'wardmotelaw23.SplitNests', WHERE WHAT IT READS IS OF BULK AT MOST 1048576: true; the input reads as it did. -/
def splitNestsUptoRow : OpenClaim := { program := "ytfncplndfpgngaagreatdoor", sum := "7a80e77ab3493644a80d36d2c19d8e865ec092818b858d0963c557ff976ce0b9", func := "wardmote/wardmotelaw23.SplitNests", spec := "splitNests", inPlace := ["internal/bytealg.IndexByteString", "internal/bytealg.IndexString"], unfollowed := true, recurses := true, named := ["unicode/utf8.first", "unicode/utf8.acceptRanges", "internal/bytealg.MaxLen"], apart := false, laid := [("unicode/utf8.acceptRanges", laid_unicode_utf8_acceptRanges), ("unicode/utf8.first", laid_unicode_utf8_first)], narrowed := true }
def SplitNestsUptoSaid : Prop := splitNestsUptoRow.holds Tryz.pinned (OpenSpec.upto splitNestsSpec)

/-- 'wardmotelaw23.SplitForces', WHERE WHAT IT READS IS OF BULK AT MOST 1048576: true; the input reads as it did. -/
def splitForcesUptoRow : OpenClaim := { program := "ytfncplndfpgngaagreatdoor", sum := "7a80e77ab3493644a80d36d2c19d8e865ec092818b858d0963c557ff976ce0b9", func := "wardmote/wardmotelaw23.SplitForces", spec := "splitForces", inPlace := ["internal/bytealg.IndexByteString", "internal/bytealg.IndexString"], unfollowed := true, recurses := true, named := ["unicode/utf8.first", "unicode/utf8.acceptRanges", "internal/bytealg.MaxLen"], apart := false, laid := [("unicode/utf8.acceptRanges", laid_unicode_utf8_acceptRanges), ("unicode/utf8.first", laid_unicode_utf8_first)], narrowed := true }
def SplitForcesUptoSaid : Prop := splitForcesUptoRow.holds Tryz.pinned (OpenSpec.upto splitForcesSpec)

end Rows
end Go.Proofs.YtfncplndfpgngaaGreatDoor
