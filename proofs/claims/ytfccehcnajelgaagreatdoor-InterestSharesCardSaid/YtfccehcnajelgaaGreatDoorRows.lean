/-
  NARROWER THAN 'FOR EVERY INPUT', by the rows' own cells (each row's printed sentence says how): InterestChecks: laid · InterestScores: laid · InterestParts: laid · InterestOverlaps: laid · InterestMerges: laid · InterestShares: laid · InterestKnown: laid.
  DERIVED. THE GIVEN ROWS OF THIS SEAT. 7 by the template 'for every input the law returns true; each argument reads behind the call as it read before'; 0 by the template 'total and deterministic' (their statements: YtfccehcnajelgaaGreatDoorTotals.lean).
  GIVEN WITH THE SEED: the statements are not yours to turn. If you find one false, say at which input.
  Laid BY PROGRAM, IN A SANDBOX (cutbox-rows.mjs): the forced cells as the released guide's own fill.sh prints them over the translation dc46f52c1e7565c5… (all of the seat's roots in one cut). By AI agents, Wed Nov 11 2026. No macro, syntax, notation, axiom, sorry.
-/
import Derived.Test.YtfccehcnajelgaaGreatDoorChecked
import GoSem.PinnedTables
import GoSem.Claim
import GoSem.ClaimJoined
import GoSem.ClaimMapViews
import Derived.JoinedTies
import Derived.KernelRfl
namespace Go.Proofs.YtfccehcnajelgaaGreatDoor
/- THE CELL 'sum', in the pinned program and in every row, IS THE sha256 OF THE DUMP (.gsa) THAT YtfccehcnajelgaaGreatDoorProg.lean LOADS. Nothing in Lean hashes anything: it is a label: what it is worth is what the hold of that sum in a sandbox is worth. -/
noncomputable def Tryz.pinned : Pinned := { name := "ytfccehcnajelgaagreatdoor", sum := "dc46f52c1e7565c5157bd28112d981a70aceba6dd39354f38ac8d3b5b27b8a42", checked := Tryz.checked }
namespace Rows
def none {H : Type} : Left H := { results := [], args := [] }

/- WHAT THE LISTED PACKAGE-LEVEL VARIABLES READ AS WHEN THE CALL BEGINS. Each datum BY PROGRAM (the guide's laid-datum.mjs) off the statement by which the dump's own 'gosem.cut.vars' lays the variable. In a bare row this is a premise. The card (YtfccehcnajelgaaGreatDoorCards.lean) ties it to the program's text. -/
def laid_math_bits_deBruijn64tab {H : Type} : DataW H := .agg [.lit (.int .u8 0), .lit (.int .u8 1), .lit (.int .u8 56), .lit (.int .u8 2), .lit (.int .u8 57), .lit (.int .u8 49), .lit (.int .u8 28), .lit (.int .u8 3), .lit (.int .u8 61), .lit (.int .u8 58), .lit (.int .u8 42), .lit (.int .u8 50), .lit (.int .u8 38), .lit (.int .u8 29), .lit (.int .u8 17), .lit (.int .u8 4), .lit (.int .u8 62), .lit (.int .u8 47), .lit (.int .u8 59), .lit (.int .u8 36), .lit (.int .u8 45), .lit (.int .u8 43), .lit (.int .u8 51), .lit (.int .u8 22), .lit (.int .u8 53), .lit (.int .u8 39), .lit (.int .u8 33), .lit (.int .u8 30), .lit (.int .u8 24), .lit (.int .u8 18), .lit (.int .u8 12), .lit (.int .u8 5), .lit (.int .u8 63), .lit (.int .u8 55), .lit (.int .u8 48), .lit (.int .u8 27), .lit (.int .u8 60), .lit (.int .u8 41), .lit (.int .u8 37), .lit (.int .u8 16), .lit (.int .u8 46), .lit (.int .u8 35), .lit (.int .u8 44), .lit (.int .u8 21), .lit (.int .u8 52), .lit (.int .u8 32), .lit (.int .u8 23), .lit (.int .u8 11), .lit (.int .u8 54), .lit (.int .u8 26), .lit (.int .u8 40), .lit (.int .u8 15), .lit (.int .u8 34), .lit (.int .u8 20), .lit (.int .u8 31), .lit (.int .u8 10), .lit (.int .u8 25), .lit (.int .u8 14), .lit (.int .u8 19), .lit (.int .u8 9), .lit (.int .u8 13), .lit (.int .u8 8), .lit (.int .u8 7), .lit (.int .u8 6)]
def laid_unicode_utf8_acceptRanges {H : Type} : DataW H := .agg [.agg [.lit (.int .u8 128), .lit (.int .u8 191)], .agg [.lit (.int .u8 160), .lit (.int .u8 191)], .agg [.lit (.int .u8 128), .lit (.int .u8 159)], .agg [.lit (.int .u8 144), .lit (.int .u8 191)], .agg [.lit (.int .u8 128), .lit (.int .u8 143)], .agg [.lit (.int .u8 0), .lit (.int .u8 0)], .agg [.lit (.int .u8 0), .lit (.int .u8 0)], .agg [.lit (.int .u8 0), .lit (.int .u8 0)], .agg [.lit (.int .u8 0), .lit (.int .u8 0)], .agg [.lit (.int .u8 0), .lit (.int .u8 0)], .agg [.lit (.int .u8 0), .lit (.int .u8 0)], .agg [.lit (.int .u8 0), .lit (.int .u8 0)], .agg [.lit (.int .u8 0), .lit (.int .u8 0)], .agg [.lit (.int .u8 0), .lit (.int .u8 0)], .agg [.lit (.int .u8 0), .lit (.int .u8 0)], .agg [.lit (.int .u8 0), .lit (.int .u8 0)]]
/-- One of Go's own tables, pinned by name: the form's constant. -/
def laid_unicode_utf8_first : DataW Unit := Go.Pinned.utf8First

/-- 'wardmotelaw27.InterestChecks': WHATEVER THE INPUT: true; the input reads as it did. -/
def interestChecksSpec : ChangeSpec := { name := "interestChecks", fn := fun _ => fun
  | [d1, d2, d3, d4, d5, d6] => { results := [.lit (.bool true)], args := [d1, d2, d3, d4, d5, d6] }
  | _ => none }
def interestChecksRow : OpenClaim := { program := "ytfccehcnajelgaagreatdoor", sum := "dc46f52c1e7565c5157bd28112d981a70aceba6dd39354f38ac8d3b5b27b8a42", func := "wardmote/wardmotelaw27.InterestChecks", spec := "interestChecks", inPlace := ["internal/bytealg.IndexByteString", "internal/bytealg.IndexString", "math/bits.Sub64", "math/bits.Add64"], unfollowed := true, recurses := true, named := ["unicode/utf8.first", "unicode/utf8.acceptRanges", "math/bits.deBruijn64tab", "math/bits.divideError", "math/bits.overflowError", "internal/bytealg.MaxLen"], apart := false, laid := [("math/bits.deBruijn64tab", laid_math_bits_deBruijn64tab), ("unicode/utf8.acceptRanges", laid_unicode_utf8_acceptRanges), ("unicode/utf8.first", laid_unicode_utf8_first)] }
def InterestChecksSaid : Prop := interestChecksRow.holds Tryz.pinned (OpenSpec.ofChange interestChecksSpec)

/-- ITS FALSE NEIGHBOUR: 'it returns false'. Refute it at one input. -/
def interestChecksWrong : ChangeSpec := { name := "interestChecks", fn := fun _ => fun
  | [d1, d2, d3, d4, d5, d6] => { results := [.lit (.bool false)], args := [d1, d2, d3, d4, d5, d6] }
  | _ => none }
def InterestChecksWrongFalsely : Prop := interestChecksRow.holds Tryz.pinned (OpenSpec.ofChange interestChecksWrong)

/-- 'wardmotelaw27.InterestScores': WHATEVER THE INPUT: true; the input reads as it did. -/
def interestScoresSpec : ChangeSpec := { name := "interestScores", fn := fun _ => fun
  | [d1, d2, d3] => { results := [.lit (.bool true)], args := [d1, d2, d3] }
  | _ => none }
def interestScoresRow : OpenClaim := { program := "ytfccehcnajelgaagreatdoor", sum := "dc46f52c1e7565c5157bd28112d981a70aceba6dd39354f38ac8d3b5b27b8a42", func := "wardmote/wardmotelaw27.InterestScores", spec := "interestScores", inPlace := ["internal/bytealg.IndexByteString", "internal/bytealg.IndexString", "math/bits.Sub64", "math/bits.Add64"], unfollowed := true, recurses := true, named := ["unicode/utf8.first", "unicode/utf8.acceptRanges", "math/bits.deBruijn64tab", "math/bits.divideError", "math/bits.overflowError", "internal/bytealg.MaxLen"], apart := false, laid := [("math/bits.deBruijn64tab", laid_math_bits_deBruijn64tab), ("unicode/utf8.acceptRanges", laid_unicode_utf8_acceptRanges), ("unicode/utf8.first", laid_unicode_utf8_first)] }
def InterestScoresSaid : Prop := interestScoresRow.holds Tryz.pinned (OpenSpec.ofChange interestScoresSpec)

/-- ITS FALSE NEIGHBOUR: 'it returns false'. Refute it at one input. -/
def interestScoresWrong : ChangeSpec := { name := "interestScores", fn := fun _ => fun
  | [d1, d2, d3] => { results := [.lit (.bool false)], args := [d1, d2, d3] }
  | _ => none }
def InterestScoresWrongFalsely : Prop := interestScoresRow.holds Tryz.pinned (OpenSpec.ofChange interestScoresWrong)

/-- 'wardmotelaw27.InterestParts': WHATEVER THE INPUT: true; the input reads as it did. -/
def interestPartsSpec : ChangeSpec := { name := "interestParts", fn := fun _ => fun
  | [d1, d2, d3] => { results := [.lit (.bool true)], args := [d1, d2, d3] }
  | _ => none }
def interestPartsRow : OpenClaim := { program := "ytfccehcnajelgaagreatdoor", sum := "dc46f52c1e7565c5157bd28112d981a70aceba6dd39354f38ac8d3b5b27b8a42", func := "wardmote/wardmotelaw27.InterestParts", spec := "interestParts", inPlace := ["internal/bytealg.IndexByteString", "internal/bytealg.IndexString", "math/bits.Sub64", "math/bits.Add64"], unfollowed := true, recurses := true, named := ["unicode/utf8.first", "unicode/utf8.acceptRanges", "math/bits.deBruijn64tab", "math/bits.divideError", "math/bits.overflowError", "internal/bytealg.MaxLen"], apart := false, laid := [("math/bits.deBruijn64tab", laid_math_bits_deBruijn64tab), ("unicode/utf8.acceptRanges", laid_unicode_utf8_acceptRanges), ("unicode/utf8.first", laid_unicode_utf8_first)] }
def InterestPartsSaid : Prop := interestPartsRow.holds Tryz.pinned (OpenSpec.ofChange interestPartsSpec)

/-- ITS FALSE NEIGHBOUR: 'it returns false'. Refute it at one input. -/
def interestPartsWrong : ChangeSpec := { name := "interestParts", fn := fun _ => fun
  | [d1, d2, d3] => { results := [.lit (.bool false)], args := [d1, d2, d3] }
  | _ => none }
def InterestPartsWrongFalsely : Prop := interestPartsRow.holds Tryz.pinned (OpenSpec.ofChange interestPartsWrong)

/-- 'wardmotelaw27.InterestOverlaps': WHATEVER THE INPUT: true; the input reads as it did. -/
def interestOverlapsSpec : ChangeSpec := { name := "interestOverlaps", fn := fun _ => fun
  | [d1, d2] => { results := [.lit (.bool true)], args := [d1, d2] }
  | _ => none }
def interestOverlapsRow : OpenClaim := { program := "ytfccehcnajelgaagreatdoor", sum := "dc46f52c1e7565c5157bd28112d981a70aceba6dd39354f38ac8d3b5b27b8a42", func := "wardmote/wardmotelaw27.InterestOverlaps", spec := "interestOverlaps", inPlace := ["internal/bytealg.IndexByteString", "internal/bytealg.IndexString", "math/bits.Sub64", "math/bits.Add64"], unfollowed := true, recurses := true, named := ["unicode/utf8.first", "unicode/utf8.acceptRanges", "math/bits.deBruijn64tab", "math/bits.divideError", "math/bits.overflowError", "internal/bytealg.MaxLen"], apart := false, laid := [("math/bits.deBruijn64tab", laid_math_bits_deBruijn64tab), ("unicode/utf8.acceptRanges", laid_unicode_utf8_acceptRanges), ("unicode/utf8.first", laid_unicode_utf8_first)] }
def InterestOverlapsSaid : Prop := interestOverlapsRow.holds Tryz.pinned (OpenSpec.ofChange interestOverlapsSpec)

/-- ITS FALSE NEIGHBOUR: 'it returns false'. Refute it at one input. -/
def interestOverlapsWrong : ChangeSpec := { name := "interestOverlaps", fn := fun _ => fun
  | [d1, d2] => { results := [.lit (.bool false)], args := [d1, d2] }
  | _ => none }
def InterestOverlapsWrongFalsely : Prop := interestOverlapsRow.holds Tryz.pinned (OpenSpec.ofChange interestOverlapsWrong)

/-- 'wardmotelaw27.InterestMerges': WHATEVER THE INPUT: true; the input reads as it did. -/
def interestMergesSpec : ChangeSpec := { name := "interestMerges", fn := fun _ => fun
  | [d1, d2, d3, d4] => { results := [.lit (.bool true)], args := [d1, d2, d3, d4] }
  | _ => none }
def interestMergesRow : OpenClaim := { program := "ytfccehcnajelgaagreatdoor", sum := "dc46f52c1e7565c5157bd28112d981a70aceba6dd39354f38ac8d3b5b27b8a42", func := "wardmote/wardmotelaw27.InterestMerges", spec := "interestMerges", inPlace := ["internal/bytealg.IndexByteString", "internal/bytealg.IndexString", "math/bits.Sub64", "math/bits.Add64"], unfollowed := true, recurses := true, named := ["unicode/utf8.first", "unicode/utf8.acceptRanges", "math/bits.deBruijn64tab", "math/bits.divideError", "math/bits.overflowError", "internal/bytealg.MaxLen"], apart := false, laid := [("math/bits.deBruijn64tab", laid_math_bits_deBruijn64tab), ("unicode/utf8.acceptRanges", laid_unicode_utf8_acceptRanges), ("unicode/utf8.first", laid_unicode_utf8_first)] }
def InterestMergesSaid : Prop := interestMergesRow.holds Tryz.pinned (OpenSpec.ofChange interestMergesSpec)

/-- ITS FALSE NEIGHBOUR: 'it returns false'. Refute it at one input. -/
def interestMergesWrong : ChangeSpec := { name := "interestMerges", fn := fun _ => fun
  | [d1, d2, d3, d4] => { results := [.lit (.bool false)], args := [d1, d2, d3, d4] }
  | _ => none }
def InterestMergesWrongFalsely : Prop := interestMergesRow.holds Tryz.pinned (OpenSpec.ofChange interestMergesWrong)

/-- 'wardmotelaw27.InterestShares': WHATEVER THE INPUT: true; the input reads as it did. -/
def interestSharesSpec : ChangeSpec := { name := "interestShares", fn := fun _ => fun
  | [d1, d2, d3, d4, d5, d6] => { results := [.lit (.bool true)], args := [d1, d2, d3, d4, d5, d6] }
  | _ => none }
def interestSharesRow : OpenClaim := { program := "ytfccehcnajelgaagreatdoor", sum := "dc46f52c1e7565c5157bd28112d981a70aceba6dd39354f38ac8d3b5b27b8a42", func := "wardmote/wardmotelaw27.InterestShares", spec := "interestShares", inPlace := ["internal/bytealg.IndexByteString", "internal/bytealg.IndexString", "math/bits.Sub64", "math/bits.Add64"], unfollowed := true, recurses := true, named := ["unicode/utf8.first", "unicode/utf8.acceptRanges", "math/bits.deBruijn64tab", "math/bits.divideError", "math/bits.overflowError", "internal/bytealg.MaxLen"], apart := false, laid := [("math/bits.deBruijn64tab", laid_math_bits_deBruijn64tab), ("unicode/utf8.acceptRanges", laid_unicode_utf8_acceptRanges), ("unicode/utf8.first", laid_unicode_utf8_first)] }
def InterestSharesSaid : Prop := interestSharesRow.holds Tryz.pinned (OpenSpec.ofChange interestSharesSpec)

/-- ITS FALSE NEIGHBOUR: 'it returns false'. Refute it at one input. -/
def interestSharesWrong : ChangeSpec := { name := "interestShares", fn := fun _ => fun
  | [d1, d2, d3, d4, d5, d6] => { results := [.lit (.bool false)], args := [d1, d2, d3, d4, d5, d6] }
  | _ => none }
def InterestSharesWrongFalsely : Prop := interestSharesRow.holds Tryz.pinned (OpenSpec.ofChange interestSharesWrong)

/-- 'wardmotelaw27.InterestKnown': WHATEVER THE INPUT: true; the input reads as it did. -/
def interestKnownSpec : ChangeSpec := { name := "interestKnown", fn := fun _ => fun
  | [] => { results := [.lit (.bool true)], args := [] }
  | _ => none }
def interestKnownRow : OpenClaim := { program := "ytfccehcnajelgaagreatdoor", sum := "dc46f52c1e7565c5157bd28112d981a70aceba6dd39354f38ac8d3b5b27b8a42", func := "wardmote/wardmotelaw27.InterestKnown", spec := "interestKnown", inPlace := ["internal/bytealg.IndexByteString", "internal/bytealg.IndexString", "math/bits.Sub64", "math/bits.Add64", "internal/abi.NoEscape", "internal/bytealg.MakeNoZero"], unfollowed := true, recurses := true, named := ["unicode/utf8.first", "unicode/utf8.acceptRanges", "math/bits.deBruijn64tab", "math/bits.divideError", "math/bits.overflowError", "internal/bytealg.MaxLen"], apart := false, laid := [("math/bits.deBruijn64tab", laid_math_bits_deBruijn64tab), ("unicode/utf8.acceptRanges", laid_unicode_utf8_acceptRanges), ("unicode/utf8.first", laid_unicode_utf8_first)] }
def InterestKnownSaid : Prop := interestKnownRow.holds Tryz.pinned (OpenSpec.ofChange interestKnownSpec)

/-- ITS FALSE NEIGHBOUR: 'it returns false'. Refute it at one input. -/
def interestKnownWrong : ChangeSpec := { name := "interestKnown", fn := fun _ => fun
  | [] => { results := [.lit (.bool false)], args := [] }
  | _ => none }
def InterestKnownWrongFalsely : Prop := interestKnownRow.holds Tryz.pinned (OpenSpec.ofChange interestKnownWrong)

/- THE SECOND FORM. 'bulk': how many values and letters a reading holds, each counted each time it is reached (what is shared counts as often as it is met; a slice's spare places count too). A statement '..UptoSaid' is the law's where the arguments, and the package variables that the reading takes, are together of bulk at most 1048576: NARROWER than '..Said'. Prove '..Said' where nothing that the law and all that it calls make is longer than what came in: it says more and counts as full. Else prove '..UptoSaid'. A law counts once. -/
mutual
def uptoBulk {H : Type} : DataW H → Nat
  | .lit (.string bytes) => bytes.length + 1
  | .lit _ => 1
  | .nil => 1
  | .ptr d => uptoBulk d + 1
  | .slice elems spare => uptoBulkAll elems + uptoBulkAll spare + 1
  | .agg parts => uptoBulkAll parts + 1
  | .iface _ d => uptoBulk d + 1
  | .map entries => uptoBulkEntries entries + 1
  | .held _ => 1
def uptoBulkAll {H : Type} : List (DataW H) → Nat
  | [] => 0
  | d :: r => uptoBulk d + uptoBulkAll r
def uptoBulkEntries {H : Type} : List (Lit × DataW H) → Nat
  | [] => 0
  | x :: r => uptoBulkEntry x + uptoBulkEntries r
def uptoBulkEntry {H : Type} : Lit × DataW H → Nat
  | (.string bytes, d) => bytes.length + uptoBulk d + 1
  | (_, d) => uptoBulk d + 1
 end
def uptoSmall : (H : Type) → List (DataW H) → Bool := fun _ ds => decide (uptoBulkAll ds ≤ 1048576)
def OpenSpec.upto (s : _root_.Go.ChangeSpec) : _root_.Go.OpenSpec := { _root_.Go.OpenSpec.ofChange s with cond := some uptoSmall }

/-- 'wardmotelaw27.InterestChecks', WHERE WHAT IT READS IS OF BULK AT MOST 1048576: true; the input reads as it did. -/
def interestChecksUptoRow : OpenClaim := { program := "ytfccehcnajelgaagreatdoor", sum := "dc46f52c1e7565c5157bd28112d981a70aceba6dd39354f38ac8d3b5b27b8a42", func := "wardmote/wardmotelaw27.InterestChecks", spec := "interestChecks", inPlace := ["internal/bytealg.IndexByteString", "internal/bytealg.IndexString", "math/bits.Sub64", "math/bits.Add64"], unfollowed := true, recurses := true, named := ["unicode/utf8.first", "unicode/utf8.acceptRanges", "math/bits.deBruijn64tab", "math/bits.divideError", "math/bits.overflowError", "internal/bytealg.MaxLen"], apart := false, laid := [("math/bits.deBruijn64tab", laid_math_bits_deBruijn64tab), ("unicode/utf8.acceptRanges", laid_unicode_utf8_acceptRanges), ("unicode/utf8.first", laid_unicode_utf8_first)], narrowed := true }
def InterestChecksUptoSaid : Prop := interestChecksUptoRow.holds Tryz.pinned (OpenSpec.upto interestChecksSpec)

/-- 'wardmotelaw27.InterestScores', WHERE WHAT IT READS IS OF BULK AT MOST 1048576: true; the input reads as it did. -/
def interestScoresUptoRow : OpenClaim := { program := "ytfccehcnajelgaagreatdoor", sum := "dc46f52c1e7565c5157bd28112d981a70aceba6dd39354f38ac8d3b5b27b8a42", func := "wardmote/wardmotelaw27.InterestScores", spec := "interestScores", inPlace := ["internal/bytealg.IndexByteString", "internal/bytealg.IndexString", "math/bits.Sub64", "math/bits.Add64"], unfollowed := true, recurses := true, named := ["unicode/utf8.first", "unicode/utf8.acceptRanges", "math/bits.deBruijn64tab", "math/bits.divideError", "math/bits.overflowError", "internal/bytealg.MaxLen"], apart := false, laid := [("math/bits.deBruijn64tab", laid_math_bits_deBruijn64tab), ("unicode/utf8.acceptRanges", laid_unicode_utf8_acceptRanges), ("unicode/utf8.first", laid_unicode_utf8_first)], narrowed := true }
def InterestScoresUptoSaid : Prop := interestScoresUptoRow.holds Tryz.pinned (OpenSpec.upto interestScoresSpec)

/-- 'wardmotelaw27.InterestParts', WHERE WHAT IT READS IS OF BULK AT MOST 1048576: true; the input reads as it did. -/
def interestPartsUptoRow : OpenClaim := { program := "ytfccehcnajelgaagreatdoor", sum := "dc46f52c1e7565c5157bd28112d981a70aceba6dd39354f38ac8d3b5b27b8a42", func := "wardmote/wardmotelaw27.InterestParts", spec := "interestParts", inPlace := ["internal/bytealg.IndexByteString", "internal/bytealg.IndexString", "math/bits.Sub64", "math/bits.Add64"], unfollowed := true, recurses := true, named := ["unicode/utf8.first", "unicode/utf8.acceptRanges", "math/bits.deBruijn64tab", "math/bits.divideError", "math/bits.overflowError", "internal/bytealg.MaxLen"], apart := false, laid := [("math/bits.deBruijn64tab", laid_math_bits_deBruijn64tab), ("unicode/utf8.acceptRanges", laid_unicode_utf8_acceptRanges), ("unicode/utf8.first", laid_unicode_utf8_first)], narrowed := true }
def InterestPartsUptoSaid : Prop := interestPartsUptoRow.holds Tryz.pinned (OpenSpec.upto interestPartsSpec)

/-- 'wardmotelaw27.InterestOverlaps', WHERE WHAT IT READS IS OF BULK AT MOST 1048576: true; the input reads as it did. -/
def interestOverlapsUptoRow : OpenClaim := { program := "ytfccehcnajelgaagreatdoor", sum := "dc46f52c1e7565c5157bd28112d981a70aceba6dd39354f38ac8d3b5b27b8a42", func := "wardmote/wardmotelaw27.InterestOverlaps", spec := "interestOverlaps", inPlace := ["internal/bytealg.IndexByteString", "internal/bytealg.IndexString", "math/bits.Sub64", "math/bits.Add64"], unfollowed := true, recurses := true, named := ["unicode/utf8.first", "unicode/utf8.acceptRanges", "math/bits.deBruijn64tab", "math/bits.divideError", "math/bits.overflowError", "internal/bytealg.MaxLen"], apart := false, laid := [("math/bits.deBruijn64tab", laid_math_bits_deBruijn64tab), ("unicode/utf8.acceptRanges", laid_unicode_utf8_acceptRanges), ("unicode/utf8.first", laid_unicode_utf8_first)], narrowed := true }
def InterestOverlapsUptoSaid : Prop := interestOverlapsUptoRow.holds Tryz.pinned (OpenSpec.upto interestOverlapsSpec)

/-- 'wardmotelaw27.InterestMerges', WHERE WHAT IT READS IS OF BULK AT MOST 1048576: true; the input reads as it did. -/
def interestMergesUptoRow : OpenClaim := { program := "ytfccehcnajelgaagreatdoor", sum := "dc46f52c1e7565c5157bd28112d981a70aceba6dd39354f38ac8d3b5b27b8a42", func := "wardmote/wardmotelaw27.InterestMerges", spec := "interestMerges", inPlace := ["internal/bytealg.IndexByteString", "internal/bytealg.IndexString", "math/bits.Sub64", "math/bits.Add64"], unfollowed := true, recurses := true, named := ["unicode/utf8.first", "unicode/utf8.acceptRanges", "math/bits.deBruijn64tab", "math/bits.divideError", "math/bits.overflowError", "internal/bytealg.MaxLen"], apart := false, laid := [("math/bits.deBruijn64tab", laid_math_bits_deBruijn64tab), ("unicode/utf8.acceptRanges", laid_unicode_utf8_acceptRanges), ("unicode/utf8.first", laid_unicode_utf8_first)], narrowed := true }
def InterestMergesUptoSaid : Prop := interestMergesUptoRow.holds Tryz.pinned (OpenSpec.upto interestMergesSpec)

/-- 'wardmotelaw27.InterestShares', WHERE WHAT IT READS IS OF BULK AT MOST 1048576: true; the input reads as it did. -/
def interestSharesUptoRow : OpenClaim := { program := "ytfccehcnajelgaagreatdoor", sum := "dc46f52c1e7565c5157bd28112d981a70aceba6dd39354f38ac8d3b5b27b8a42", func := "wardmote/wardmotelaw27.InterestShares", spec := "interestShares", inPlace := ["internal/bytealg.IndexByteString", "internal/bytealg.IndexString", "math/bits.Sub64", "math/bits.Add64"], unfollowed := true, recurses := true, named := ["unicode/utf8.first", "unicode/utf8.acceptRanges", "math/bits.deBruijn64tab", "math/bits.divideError", "math/bits.overflowError", "internal/bytealg.MaxLen"], apart := false, laid := [("math/bits.deBruijn64tab", laid_math_bits_deBruijn64tab), ("unicode/utf8.acceptRanges", laid_unicode_utf8_acceptRanges), ("unicode/utf8.first", laid_unicode_utf8_first)], narrowed := true }
def InterestSharesUptoSaid : Prop := interestSharesUptoRow.holds Tryz.pinned (OpenSpec.upto interestSharesSpec)

/-- 'wardmotelaw27.InterestKnown', WHERE WHAT IT READS IS OF BULK AT MOST 1048576: true; the input reads as it did. -/
def interestKnownUptoRow : OpenClaim := { program := "ytfccehcnajelgaagreatdoor", sum := "dc46f52c1e7565c5157bd28112d981a70aceba6dd39354f38ac8d3b5b27b8a42", func := "wardmote/wardmotelaw27.InterestKnown", spec := "interestKnown", inPlace := ["internal/bytealg.IndexByteString", "internal/bytealg.IndexString", "math/bits.Sub64", "math/bits.Add64", "internal/abi.NoEscape", "internal/bytealg.MakeNoZero"], unfollowed := true, recurses := true, named := ["unicode/utf8.first", "unicode/utf8.acceptRanges", "math/bits.deBruijn64tab", "math/bits.divideError", "math/bits.overflowError", "internal/bytealg.MaxLen"], apart := false, laid := [("math/bits.deBruijn64tab", laid_math_bits_deBruijn64tab), ("unicode/utf8.acceptRanges", laid_unicode_utf8_acceptRanges), ("unicode/utf8.first", laid_unicode_utf8_first)], narrowed := true }
def InterestKnownUptoSaid : Prop := interestKnownUptoRow.holds Tryz.pinned (OpenSpec.upto interestKnownSpec)

end Rows
end Go.Proofs.YtfccehcnajelgaaGreatDoor
