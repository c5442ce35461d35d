/-
  NARROWER THAN 'FOR EVERY INPUT', by the rows' own cells (each row's printed sentence says how): PartyMeasures: laid · PartyGaps: laid · PartyWins: laid · PartyKnown: laid · PartySwings: laid · PartyTurns: laid · PartySeats: laid.
  DERIVED. THE GIVEN ROWS OF THIS SEAT. 7 by the template 'for every input the law returns true; each argument reads behind the call as it read before'; 0 by the template 'total and deterministic' (their statements: YtibdeoeglcngoaaGreatDoorTotals.lean).
  GIVEN WITH THE SEED: the statements are not yours to turn. If you find one false, say at which input.
  Laid BY PROGRAM, IN A SANDBOX (cutbox-rows.mjs): the forced cells as the released guide's own fill.sh prints them over the translation 57a638f5fae7a7dc… (all of the seat's roots in one cut). By AI agents, Wed Nov 11 2026. No macro, syntax, notation, axiom, sorry.
-/
import Derived.Test.YtibdeoeglcngoaaGreatDoorChecked
import GoSem.PinnedTables
import GoSem.Claim
import GoSem.ClaimJoined
import GoSem.ClaimMapViews
import Derived.JoinedTies
import Derived.KernelRfl
namespace Go.Proofs.YtibdeoeglcngoaaGreatDoor
/- THE CELL 'sum', in the pinned program and in every row, IS THE sha256 OF THE DUMP (.gsa) THAT YtibdeoeglcngoaaGreatDoorProg.lean LOADS. Nothing in Lean hashes anything: it is a label: what it is worth is what the hold of that sum in a sandbox is worth. -/
noncomputable def Tryz.pinned : Pinned := { name := "ytibdeoeglcngoaagreatdoor", sum := "57a638f5fae7a7dcd4a1f43604d1d704af9ae4a93e8a7a9b37cf875eff695de4", checked := Tryz.checked }
namespace Rows
def none {H : Type} : Left H := { results := [], args := [] }

/- WHAT THE LISTED PACKAGE-LEVEL VARIABLES READ AS WHEN THE CALL BEGINS. Each datum BY PROGRAM (the guide's laid-datum.mjs) off the statement by which the dump's own 'gosem.cut.vars' lays the variable. In a bare row this is a premise. The card (YtibdeoeglcngoaaGreatDoorCards.lean) ties it to the program's text. -/
def laid_unicode_utf8_acceptRanges {H : Type} : DataW H := .agg [.agg [.lit (.int .u8 128), .lit (.int .u8 191)], .agg [.lit (.int .u8 160), .lit (.int .u8 191)], .agg [.lit (.int .u8 128), .lit (.int .u8 159)], .agg [.lit (.int .u8 144), .lit (.int .u8 191)], .agg [.lit (.int .u8 128), .lit (.int .u8 143)], .agg [.lit (.int .u8 0), .lit (.int .u8 0)], .agg [.lit (.int .u8 0), .lit (.int .u8 0)], .agg [.lit (.int .u8 0), .lit (.int .u8 0)], .agg [.lit (.int .u8 0), .lit (.int .u8 0)], .agg [.lit (.int .u8 0), .lit (.int .u8 0)], .agg [.lit (.int .u8 0), .lit (.int .u8 0)], .agg [.lit (.int .u8 0), .lit (.int .u8 0)], .agg [.lit (.int .u8 0), .lit (.int .u8 0)], .agg [.lit (.int .u8 0), .lit (.int .u8 0)], .agg [.lit (.int .u8 0), .lit (.int .u8 0)], .agg [.lit (.int .u8 0), .lit (.int .u8 0)]]
/-- One of Go's own tables, pinned by name: the form's constant. -/
def laid_unicode_utf8_first : DataW Unit := Go.Pinned.utf8First

/-- 'wardmotelaw28.PartyMeasures': WHATEVER THE INPUT: true; the input reads as it did. -/
def partyMeasuresSpec : ChangeSpec := { name := "partyMeasures", fn := fun _ => fun
  | [d1, d2, d3, d4, d5, d6] => { results := [.lit (.bool true)], args := [d1, d2, d3, d4, d5, d6] }
  | _ => none }
def partyMeasuresRow : OpenClaim := { program := "ytibdeoeglcngoaagreatdoor", sum := "57a638f5fae7a7dcd4a1f43604d1d704af9ae4a93e8a7a9b37cf875eff695de4", func := "wardmote/wardmotelaw28.PartyMeasures", spec := "partyMeasures", inPlace := ["internal/bytealg.IndexByteString", "internal/bytealg.IndexString", "math/bits.Sub64", "math/bits.Add64"], unfollowed := true, recurses := true, named := ["unicode/utf8.first", "unicode/utf8.acceptRanges", "math/bits.divideError", "math/bits.overflowError", "internal/bytealg.MaxLen"], apart := false, laid := [("unicode/utf8.acceptRanges", laid_unicode_utf8_acceptRanges), ("unicode/utf8.first", laid_unicode_utf8_first)] }
def PartyMeasuresSaid : Prop := partyMeasuresRow.holds Tryz.pinned (OpenSpec.ofChange partyMeasuresSpec)

/-- ITS FALSE NEIGHBOUR: 'it returns false'. Refute it at one input. -/
def partyMeasuresWrong : ChangeSpec := { name := "partyMeasures", fn := fun _ => fun
  | [d1, d2, d3, d4, d5, d6] => { results := [.lit (.bool false)], args := [d1, d2, d3, d4, d5, d6] }
  | _ => none }
def PartyMeasuresWrongFalsely : Prop := partyMeasuresRow.holds Tryz.pinned (OpenSpec.ofChange partyMeasuresWrong)

/-- 'wardmotelaw28.PartyGaps': WHATEVER THE INPUT: true; the input reads as it did. -/
def partyGapsSpec : ChangeSpec := { name := "partyGaps", fn := fun _ => fun
  | [d1, d2] => { results := [.lit (.bool true)], args := [d1, d2] }
  | _ => none }
def partyGapsRow : OpenClaim := { program := "ytibdeoeglcngoaagreatdoor", sum := "57a638f5fae7a7dcd4a1f43604d1d704af9ae4a93e8a7a9b37cf875eff695de4", func := "wardmote/wardmotelaw28.PartyGaps", spec := "partyGaps", inPlace := ["internal/bytealg.IndexByteString", "internal/bytealg.IndexString", "math/bits.Sub64", "math/bits.Add64"], unfollowed := true, recurses := true, named := ["unicode/utf8.first", "unicode/utf8.acceptRanges", "math/bits.divideError", "math/bits.overflowError", "internal/bytealg.MaxLen"], apart := false, laid := [("unicode/utf8.acceptRanges", laid_unicode_utf8_acceptRanges), ("unicode/utf8.first", laid_unicode_utf8_first)] }
def PartyGapsSaid : Prop := partyGapsRow.holds Tryz.pinned (OpenSpec.ofChange partyGapsSpec)

/-- ITS FALSE NEIGHBOUR: 'it returns false'. Refute it at one input. -/
def partyGapsWrong : ChangeSpec := { name := "partyGaps", fn := fun _ => fun
  | [d1, d2] => { results := [.lit (.bool false)], args := [d1, d2] }
  | _ => none }
def PartyGapsWrongFalsely : Prop := partyGapsRow.holds Tryz.pinned (OpenSpec.ofChange partyGapsWrong)

/-- 'wardmotelaw28.PartyWins': WHATEVER THE INPUT: true; the input reads as it did. -/
def partyWinsSpec : ChangeSpec := { name := "partyWins", fn := fun _ => fun
  | [d1, d2] => { results := [.lit (.bool true)], args := [d1, d2] }
  | _ => none }
def partyWinsRow : OpenClaim := { program := "ytibdeoeglcngoaagreatdoor", sum := "57a638f5fae7a7dcd4a1f43604d1d704af9ae4a93e8a7a9b37cf875eff695de4", func := "wardmote/wardmotelaw28.PartyWins", spec := "partyWins", inPlace := ["internal/bytealg.IndexByteString", "internal/bytealg.IndexString", "math/bits.Sub64", "math/bits.Add64"], unfollowed := true, recurses := true, named := ["unicode/utf8.first", "unicode/utf8.acceptRanges", "math/bits.divideError", "math/bits.overflowError", "internal/bytealg.MaxLen"], apart := false, laid := [("unicode/utf8.acceptRanges", laid_unicode_utf8_acceptRanges), ("unicode/utf8.first", laid_unicode_utf8_first)] }
def PartyWinsSaid : Prop := partyWinsRow.holds Tryz.pinned (OpenSpec.ofChange partyWinsSpec)

/-- ITS FALSE NEIGHBOUR: 'it returns false'. Refute it at one input. -/
def partyWinsWrong : ChangeSpec := { name := "partyWins", fn := fun _ => fun
  | [d1, d2] => { results := [.lit (.bool false)], args := [d1, d2] }
  | _ => none }
def PartyWinsWrongFalsely : Prop := partyWinsRow.holds Tryz.pinned (OpenSpec.ofChange partyWinsWrong)

/-- 'wardmotelaw28.PartyKnown': WHATEVER THE INPUT: true; the input reads as it did. -/
def partyKnownSpec : ChangeSpec := { name := "partyKnown", fn := fun _ => fun
  | [] => { results := [.lit (.bool true)], args := [] }
  | _ => none }
def partyKnownRow : OpenClaim := { program := "ytibdeoeglcngoaagreatdoor", sum := "57a638f5fae7a7dcd4a1f43604d1d704af9ae4a93e8a7a9b37cf875eff695de4", func := "wardmote/wardmotelaw28.PartyKnown", spec := "partyKnown", inPlace := ["internal/bytealg.IndexByteString", "internal/bytealg.IndexString", "math/bits.Sub64", "math/bits.Add64"], unfollowed := true, recurses := true, named := ["unicode/utf8.first", "unicode/utf8.acceptRanges", "math/bits.divideError", "math/bits.overflowError", "internal/bytealg.MaxLen"], apart := false, laid := [("unicode/utf8.acceptRanges", laid_unicode_utf8_acceptRanges), ("unicode/utf8.first", laid_unicode_utf8_first)] }
def PartyKnownSaid : Prop := partyKnownRow.holds Tryz.pinned (OpenSpec.ofChange partyKnownSpec)

/-- ITS FALSE NEIGHBOUR: 'it returns false'. Refute it at one input. -/
def partyKnownWrong : ChangeSpec := { name := "partyKnown", fn := fun _ => fun
  | [] => { results := [.lit (.bool false)], args := [] }
  | _ => none }
def PartyKnownWrongFalsely : Prop := partyKnownRow.holds Tryz.pinned (OpenSpec.ofChange partyKnownWrong)

/-- 'wardmotelaw28.PartySwings': WHATEVER THE INPUT: true; the input reads as it did. -/
def partySwingsSpec : ChangeSpec := { name := "partySwings", fn := fun _ => fun
  | [d1, d2] => { results := [.lit (.bool true)], args := [d1, d2] }
  | _ => none }
def partySwingsRow : OpenClaim := { program := "ytibdeoeglcngoaagreatdoor", sum := "57a638f5fae7a7dcd4a1f43604d1d704af9ae4a93e8a7a9b37cf875eff695de4", func := "wardmote/wardmotelaw28.PartySwings", spec := "partySwings", inPlace := ["internal/bytealg.IndexByteString", "internal/bytealg.IndexString", "math/bits.Sub64", "math/bits.Add64"], unfollowed := true, recurses := true, named := ["unicode/utf8.first", "unicode/utf8.acceptRanges", "math/bits.divideError", "math/bits.overflowError", "internal/bytealg.MaxLen"], apart := false, laid := [("unicode/utf8.acceptRanges", laid_unicode_utf8_acceptRanges), ("unicode/utf8.first", laid_unicode_utf8_first)] }
def PartySwingsSaid : Prop := partySwingsRow.holds Tryz.pinned (OpenSpec.ofChange partySwingsSpec)

/-- ITS FALSE NEIGHBOUR: 'it returns false'. Refute it at one input. -/
def partySwingsWrong : ChangeSpec := { name := "partySwings", fn := fun _ => fun
  | [d1, d2] => { results := [.lit (.bool false)], args := [d1, d2] }
  | _ => none }
def PartySwingsWrongFalsely : Prop := partySwingsRow.holds Tryz.pinned (OpenSpec.ofChange partySwingsWrong)

/-- 'wardmotelaw28.PartyTurns': WHATEVER THE INPUT: true; the input reads as it did. -/
def partyTurnsSpec : ChangeSpec := { name := "partyTurns", fn := fun _ => fun
  | [d1, d2, d3] => { results := [.lit (.bool true)], args := [d1, d2, d3] }
  | _ => none }
def partyTurnsRow : OpenClaim := { program := "ytibdeoeglcngoaagreatdoor", sum := "57a638f5fae7a7dcd4a1f43604d1d704af9ae4a93e8a7a9b37cf875eff695de4", func := "wardmote/wardmotelaw28.PartyTurns", spec := "partyTurns", inPlace := ["internal/bytealg.IndexByteString", "internal/bytealg.IndexString", "math/bits.Sub64", "math/bits.Add64"], unfollowed := true, recurses := true, named := ["unicode/utf8.first", "unicode/utf8.acceptRanges", "math/bits.divideError", "math/bits.overflowError", "internal/bytealg.MaxLen"], apart := false, laid := [("unicode/utf8.acceptRanges", laid_unicode_utf8_acceptRanges), ("unicode/utf8.first", laid_unicode_utf8_first)] }
def PartyTurnsSaid : Prop := partyTurnsRow.holds Tryz.pinned (OpenSpec.ofChange partyTurnsSpec)

/-- ITS FALSE NEIGHBOUR: 'it returns false'. Refute it at one input. -/
def partyTurnsWrong : ChangeSpec := { name := "partyTurns", fn := fun _ => fun
  | [d1, d2, d3] => { results := [.lit (.bool false)], args := [d1, d2, d3] }
  | _ => none }
def PartyTurnsWrongFalsely : Prop := partyTurnsRow.holds Tryz.pinned (OpenSpec.ofChange partyTurnsWrong)

/-- 'wardmotelaw28.PartySeats': WHATEVER THE INPUT: true; the input reads as it did. -/
def partySeatsSpec : ChangeSpec := { name := "partySeats", fn := fun _ => fun
  | [d1, d2, d3, d4] => { results := [.lit (.bool true)], args := [d1, d2, d3, d4] }
  | _ => none }
def partySeatsRow : OpenClaim := { program := "ytibdeoeglcngoaagreatdoor", sum := "57a638f5fae7a7dcd4a1f43604d1d704af9ae4a93e8a7a9b37cf875eff695de4", func := "wardmote/wardmotelaw28.PartySeats", spec := "partySeats", inPlace := ["internal/bytealg.IndexByteString", "internal/bytealg.IndexString", "math/bits.Sub64", "math/bits.Add64"], unfollowed := true, recurses := true, named := ["unicode/utf8.first", "unicode/utf8.acceptRanges", "math/bits.divideError", "math/bits.overflowError", "internal/bytealg.MaxLen"], apart := false, laid := [("unicode/utf8.acceptRanges", laid_unicode_utf8_acceptRanges), ("unicode/utf8.first", laid_unicode_utf8_first)] }
def PartySeatsSaid : Prop := partySeatsRow.holds Tryz.pinned (OpenSpec.ofChange partySeatsSpec)

/-- ITS FALSE NEIGHBOUR: 'it returns false'. Refute it at one input. -/
def partySeatsWrong : ChangeSpec := { name := "partySeats", fn := fun _ => fun
  | [d1, d2, d3, d4] => { results := [.lit (.bool false)], args := [d1, d2, d3, d4] }
  | _ => none }
def PartySeatsWrongFalsely : Prop := partySeatsRow.holds Tryz.pinned (OpenSpec.ofChange partySeatsWrong)

/- THE SECOND FORM. 'bulk': how many values and letters a reading holds, each counted each time it is reached (what is shared counts as often as it is met; a slice's spare places count too). A statement '..UptoSaid' is the law's where the arguments, and the package variables that the reading takes, are together of bulk at most 1048576: NARROWER than '..Said'. Prove '..Said' where nothing that the law and all that it calls make is longer than what came in: it says more and counts as full. Else prove '..UptoSaid'. A law counts once. -/
mutual
def uptoBulk {H : Type} : DataW H → Nat
  | .lit (.string bytes) => bytes.length + 1
  | .lit _ => 1
  | .nil => 1
  | .ptr d => uptoBulk d + 1
  | .slice elems spare => uptoBulkAll elems + uptoBulkAll spare + 1
  | .agg parts => uptoBulkAll parts + 1
  | .iface _ d => uptoBulk d + 1
  | .map entries => uptoBulkEntries entries + 1
  | .held _ => 1
def uptoBulkAll {H : Type} : List (DataW H) → Nat
  | [] => 0
  | d :: r => uptoBulk d + uptoBulkAll r
def uptoBulkEntries {H : Type} : List (Lit × DataW H) → Nat
  | [] => 0
  | x :: r => uptoBulkEntry x + uptoBulkEntries r
def uptoBulkEntry {H : Type} : Lit × DataW H → Nat
  | (.string bytes, d) => bytes.length + uptoBulk d + 1
  | (_, d) => uptoBulk d + 1
 end
def uptoSmall : (H : Type) → List (DataW H) → Bool := fun _ ds => decide (uptoBulkAll ds ≤ 1048576)
def OpenSpec.upto (s : _root_.Go.ChangeSpec) : _root_.Go.OpenSpec := { _root_.Go.OpenSpec.ofChange s with cond := some uptoSmall }

/-- 'wardmotelaw28.PartyMeasures', WHERE WHAT IT READS IS OF BULK AT MOST 1048576: true; the input reads as it did. -/
def partyMeasuresUptoRow : OpenClaim := { program := "ytibdeoeglcngoaagreatdoor", sum := "57a638f5fae7a7dcd4a1f43604d1d704af9ae4a93e8a7a9b37cf875eff695de4", func := "wardmote/wardmotelaw28.PartyMeasures", spec := "partyMeasures", inPlace := ["internal/bytealg.IndexByteString", "internal/bytealg.IndexString", "math/bits.Sub64", "math/bits.Add64"], unfollowed := true, recurses := true, named := ["unicode/utf8.first", "unicode/utf8.acceptRanges", "math/bits.divideError", "math/bits.overflowError", "internal/bytealg.MaxLen"], apart := false, laid := [("unicode/utf8.acceptRanges", laid_unicode_utf8_acceptRanges), ("unicode/utf8.first", laid_unicode_utf8_first)], narrowed := true }
def PartyMeasuresUptoSaid : Prop := partyMeasuresUptoRow.holds Tryz.pinned (OpenSpec.upto partyMeasuresSpec)

/-- 'wardmotelaw28.PartyGaps', WHERE WHAT IT READS IS OF BULK AT MOST 1048576: true; the input reads as it did. -/
def partyGapsUptoRow : OpenClaim := { program := "ytibdeoeglcngoaagreatdoor", sum := "57a638f5fae7a7dcd4a1f43604d1d704af9ae4a93e8a7a9b37cf875eff695de4", func := "wardmote/wardmotelaw28.PartyGaps", spec := "partyGaps", inPlace := ["internal/bytealg.IndexByteString", "internal/bytealg.IndexString", "math/bits.Sub64", "math/bits.Add64"], unfollowed := true, recurses := true, named := ["unicode/utf8.first", "unicode/utf8.acceptRanges", "math/bits.divideError", "math/bits.overflowError", "internal/bytealg.MaxLen"], apart := false, laid := [("unicode/utf8.acceptRanges", laid_unicode_utf8_acceptRanges), ("unicode/utf8.first", laid_unicode_utf8_first)], narrowed := true }
def PartyGapsUptoSaid : Prop := partyGapsUptoRow.holds Tryz.pinned (OpenSpec.upto partyGapsSpec)

/-- 'wardmotelaw28.PartyWins', WHERE WHAT IT READS IS OF BULK AT MOST 1048576: true; the input reads as it did. -/
def partyWinsUptoRow : OpenClaim := { program := "ytibdeoeglcngoaagreatdoor", sum := "57a638f5fae7a7dcd4a1f43604d1d704af9ae4a93e8a7a9b37cf875eff695de4", func := "wardmote/wardmotelaw28.PartyWins", spec := "partyWins", inPlace := ["internal/bytealg.IndexByteString", "internal/bytealg.IndexString", "math/bits.Sub64", "math/bits.Add64"], unfollowed := true, recurses := true, named := ["unicode/utf8.first", "unicode/utf8.acceptRanges", "math/bits.divideError", "math/bits.overflowError", "internal/bytealg.MaxLen"], apart := false, laid := [("unicode/utf8.acceptRanges", laid_unicode_utf8_acceptRanges), ("unicode/utf8.first", laid_unicode_utf8_first)], narrowed := true }
def PartyWinsUptoSaid : Prop := partyWinsUptoRow.holds Tryz.pinned (OpenSpec.upto partyWinsSpec)

/-- 'wardmotelaw28.PartyKnown', WHERE WHAT IT READS IS OF BULK AT MOST 1048576: true; the input reads as it did. -/
def partyKnownUptoRow : OpenClaim := { program := "ytibdeoeglcngoaagreatdoor", sum := "57a638f5fae7a7dcd4a1f43604d1d704af9ae4a93e8a7a9b37cf875eff695de4", func := "wardmote/wardmotelaw28.PartyKnown", spec := "partyKnown", inPlace := ["internal/bytealg.IndexByteString", "internal/bytealg.IndexString", "math/bits.Sub64", "math/bits.Add64"], unfollowed := true, recurses := true, named := ["unicode/utf8.first", "unicode/utf8.acceptRanges", "math/bits.divideError", "math/bits.overflowError", "internal/bytealg.MaxLen"], apart := false, laid := [("unicode/utf8.acceptRanges", laid_unicode_utf8_acceptRanges), ("unicode/utf8.first", laid_unicode_utf8_first)], narrowed := true }
def PartyKnownUptoSaid : Prop := partyKnownUptoRow.holds Tryz.pinned (OpenSpec.upto partyKnownSpec)

/-- 'wardmotelaw28.PartySwings', WHERE WHAT IT READS IS OF BULK AT MOST 1048576: true; the input reads as it did. -/
def partySwingsUptoRow : OpenClaim := { program := "ytibdeoeglcngoaagreatdoor", sum := "57a638f5fae7a7dcd4a1f43604d1d704af9ae4a93e8a7a9b37cf875eff695de4", func := "wardmote/wardmotelaw28.PartySwings", spec := "partySwings", inPlace := ["internal/bytealg.IndexByteString", "internal/bytealg.IndexString", "math/bits.Sub64", "math/bits.Add64"], unfollowed := true, recurses := true, named := ["unicode/utf8.first", "unicode/utf8.acceptRanges", "math/bits.divideError", "math/bits.overflowError", "internal/bytealg.MaxLen"], apart := false, laid := [("unicode/utf8.acceptRanges", laid_unicode_utf8_acceptRanges), ("unicode/utf8.first", laid_unicode_utf8_first)], narrowed := true }
def PartySwingsUptoSaid : Prop := partySwingsUptoRow.holds Tryz.pinned (OpenSpec.upto partySwingsSpec)

/-- 'wardmotelaw28.PartyTurns', WHERE WHAT IT READS IS OF BULK AT MOST 1048576: true; the input reads as it did. -/
def partyTurnsUptoRow : OpenClaim := { program := "ytibdeoeglcngoaagreatdoor", sum := "57a638f5fae7a7dcd4a1f43604d1d704af9ae4a93e8a7a9b37cf875eff695de4", func := "wardmote/wardmotelaw28.PartyTurns", spec := "partyTurns", inPlace := ["internal/bytealg.IndexByteString", "internal/bytealg.IndexString", "math/bits.Sub64", "math/bits.Add64"], unfollowed := true, recurses := true, named := ["unicode/utf8.first", "unicode/utf8.acceptRanges", "math/bits.divideError", "math/bits.overflowError", "internal/bytealg.MaxLen"], apart := false, laid := [("unicode/utf8.acceptRanges", laid_unicode_utf8_acceptRanges), ("unicode/utf8.first", laid_unicode_utf8_first)], narrowed := true }
def PartyTurnsUptoSaid : Prop := partyTurnsUptoRow.holds Tryz.pinned (OpenSpec.upto partyTurnsSpec)

/-- 'wardmotelaw28.PartySeats', WHERE WHAT IT READS IS OF BULK AT MOST 1048576: true; the input reads as it did. -/
def partySeatsUptoRow : OpenClaim := { program := "ytibdeoeglcngoaagreatdoor", sum := "57a638f5fae7a7dcd4a1f43604d1d704af9ae4a93e8a7a9b37cf875eff695de4", func := "wardmote/wardmotelaw28.PartySeats", spec := "partySeats", inPlace := ["internal/bytealg.IndexByteString", "internal/bytealg.IndexString", "math/bits.Sub64", "math/bits.Add64"], unfollowed := true, recurses := true, named := ["unicode/utf8.first", "unicode/utf8.acceptRanges", "math/bits.divideError", "math/bits.overflowError", "internal/bytealg.MaxLen"], apart := false, laid := [("unicode/utf8.acceptRanges", laid_unicode_utf8_acceptRanges), ("unicode/utf8.first", laid_unicode_utf8_first)], narrowed := true }
def PartySeatsUptoSaid : Prop := partySeatsUptoRow.holds Tryz.pinned (OpenSpec.upto partySeatsSpec)

end Rows
end Go.Proofs.YtibdeoeglcngoaaGreatDoor
