/-
  NARROWER THAN 'FOR EVERY INPUT', by the rows' own cells (each row's printed sentence says how): EditMakes: laid · EditBack: laid · EditStays: laid · EditTotals: laid · EditKnown: laid · EditSteps: laid.
  DERIVED. THE GIVEN ROWS OF THIS SEAT. 6 by the template 'for every input the law returns true; each argument reads behind the call as it read before'; 0 by the template 'total and deterministic' (their statements: YtcijnmkodpfpgaaGreatDoorTotals.lean).
  GIVEN WITH THE SEED: the statements are not yours to turn. If you find one false, say at which input.
  Laid BY PROGRAM, IN A SANDBOX (cutbox-rows.mjs): the forced cells as the released guide's own fill.sh prints them over the translation 0ef3feea675ca0c1… (all of the seat's roots in one cut). By AI agents, Wed Nov 11 2026. No macro, syntax, notation, axiom, sorry.
-/
import Derived.Test.YtcijnmkodpfpgaaGreatDoorChecked
import GoSem.PinnedTables
import GoSem.Claim
import GoSem.ClaimJoined
import GoSem.ClaimMapViews
import Derived.JoinedTies
import Derived.KernelRfl
namespace Go.Proofs.YtcijnmkodpfpgaaGreatDoor
/- THE CELL 'sum', in the pinned program and in every row, IS THE sha256 OF THE DUMP (.gsa) THAT YtcijnmkodpfpgaaGreatDoorProg.lean LOADS. Nothing in Lean hashes anything: it is a label: what it is worth is what the hold of that sum in a sandbox is worth. -/
noncomputable def Tryz.pinned : Pinned := { name := "ytcijnmkodpfpgaagreatdoor", sum := "0ef3feea675ca0c1981888166aa9c58dd4aa2d0a420657137b47aa69dbe4d2da", checked := Tryz.checked }
namespace Rows
def none {H : Type} : Left H := { results := [], args := [] }

/- WHAT THE LISTED PACKAGE-LEVEL VARIABLES READ AS WHEN THE CALL BEGINS. Each datum BY PROGRAM (the guide's laid-datum.mjs) off the statement by which the dump's own 'gosem.cut.vars' lays the variable. In a bare row this is a premise. The card (YtcijnmkodpfpgaaGreatDoorCards.lean) ties it to the program's text. -/
def laid_unicode_utf8_acceptRanges {H : Type} : DataW H := .agg [.agg [.lit (.int .u8 128), .lit (.int .u8 191)], .agg [.lit (.int .u8 160), .lit (.int .u8 191)], .agg [.lit (.int .u8 128), .lit (.int .u8 159)], .agg [.lit (.int .u8 144), .lit (.int .u8 191)], .agg [.lit (.int .u8 128), .lit (.int .u8 143)], .agg [.lit (.int .u8 0), .lit (.int .u8 0)], .agg [.lit (.int .u8 0), .lit (.int .u8 0)], .agg [.lit (.int .u8 0), .lit (.int .u8 0)], .agg [.lit (.int .u8 0), .lit (.int .u8 0)], .agg [.lit (.int .u8 0), .lit (.int .u8 0)], .agg [.lit (.int .u8 0), .lit (.int .u8 0)], .agg [.lit (.int .u8 0), .lit (.int .u8 0)], .agg [.lit (.int .u8 0), .lit (.int .u8 0)], .agg [.lit (.int .u8 0), .lit (.int .u8 0)], .agg [.lit (.int .u8 0), .lit (.int .u8 0)], .agg [.lit (.int .u8 0), .lit (.int .u8 0)]]
/-- One of Go's own tables, pinned by name: the form's constant. -/
def laid_unicode_utf8_first : DataW Unit := Go.Pinned.utf8First

/-- 'wardmotelaw26.EditMakes': WHATEVER THE INPUT: true; the input reads as it did. -/
def editMakesSpec : ChangeSpec := { name := "editMakes", fn := fun _ => fun
  | [d1, d2, d3, d4, d5] => { results := [.lit (.bool true)], args := [d1, d2, d3, d4, d5] }
  | _ => none }
def editMakesRow : OpenClaim := { program := "ytcijnmkodpfpgaagreatdoor", sum := "0ef3feea675ca0c1981888166aa9c58dd4aa2d0a420657137b47aa69dbe4d2da", func := "wardmote/wardmotelaw26.EditMakes", spec := "editMakes", inPlace := ["internal/bytealg.IndexByteString", "internal/bytealg.IndexString"], unfollowed := true, recurses := true, named := ["unicode/utf8.first", "unicode/utf8.acceptRanges", "internal/bytealg.MaxLen"], apart := false, laid := [("unicode/utf8.acceptRanges", laid_unicode_utf8_acceptRanges), ("unicode/utf8.first", laid_unicode_utf8_first)] }
def EditMakesSaid : Prop := editMakesRow.holds Tryz.pinned (OpenSpec.ofChange editMakesSpec)

/-- ITS FALSE NEIGHBOUR: 'it returns false'. Refute it at one input. -/
def editMakesWrong : ChangeSpec := { name := "editMakes", fn := fun _ => fun
  | [d1, d2, d3, d4, d5] => { results := [.lit (.bool false)], args := [d1, d2, d3, d4, d5] }
  | _ => none }
def EditMakesWrongFalsely : Prop := editMakesRow.holds Tryz.pinned (OpenSpec.ofChange editMakesWrong)

/-- 'wardmotelaw26.EditBack': WHATEVER THE INPUT: true; the input reads as it did. -/
def editBackSpec : ChangeSpec := { name := "editBack", fn := fun _ => fun
  | [d1, d2] => { results := [.lit (.bool true)], args := [d1, d2] }
  | _ => none }
def editBackRow : OpenClaim := { program := "ytcijnmkodpfpgaagreatdoor", sum := "0ef3feea675ca0c1981888166aa9c58dd4aa2d0a420657137b47aa69dbe4d2da", func := "wardmote/wardmotelaw26.EditBack", spec := "editBack", inPlace := ["internal/bytealg.IndexByteString", "internal/bytealg.IndexString"], unfollowed := true, recurses := true, named := ["unicode/utf8.first", "unicode/utf8.acceptRanges", "internal/bytealg.MaxLen"], apart := false, laid := [("unicode/utf8.acceptRanges", laid_unicode_utf8_acceptRanges), ("unicode/utf8.first", laid_unicode_utf8_first)] }
def EditBackSaid : Prop := editBackRow.holds Tryz.pinned (OpenSpec.ofChange editBackSpec)

/-- ITS FALSE NEIGHBOUR: 'it returns false'. Refute it at one input. -/
def editBackWrong : ChangeSpec := { name := "editBack", fn := fun _ => fun
  | [d1, d2] => { results := [.lit (.bool false)], args := [d1, d2] }
  | _ => none }
def EditBackWrongFalsely : Prop := editBackRow.holds Tryz.pinned (OpenSpec.ofChange editBackWrong)

/-- 'wardmotelaw26.EditStays': WHATEVER THE INPUT: true; the input reads as it did. -/
def editStaysSpec : ChangeSpec := { name := "editStays", fn := fun _ => fun
  | [d1, d2, d3] => { results := [.lit (.bool true)], args := [d1, d2, d3] }
  | _ => none }
def editStaysRow : OpenClaim := { program := "ytcijnmkodpfpgaagreatdoor", sum := "0ef3feea675ca0c1981888166aa9c58dd4aa2d0a420657137b47aa69dbe4d2da", func := "wardmote/wardmotelaw26.EditStays", spec := "editStays", inPlace := ["internal/bytealg.IndexByteString", "internal/bytealg.IndexString"], unfollowed := true, recurses := true, named := ["unicode/utf8.first", "unicode/utf8.acceptRanges", "internal/bytealg.MaxLen"], apart := false, laid := [("unicode/utf8.acceptRanges", laid_unicode_utf8_acceptRanges), ("unicode/utf8.first", laid_unicode_utf8_first)] }
def EditStaysSaid : Prop := editStaysRow.holds Tryz.pinned (OpenSpec.ofChange editStaysSpec)

/-- ITS FALSE NEIGHBOUR: 'it returns false'. Refute it at one input. -/
def editStaysWrong : ChangeSpec := { name := "editStays", fn := fun _ => fun
  | [d1, d2, d3] => { results := [.lit (.bool false)], args := [d1, d2, d3] }
  | _ => none }
def EditStaysWrongFalsely : Prop := editStaysRow.holds Tryz.pinned (OpenSpec.ofChange editStaysWrong)

/-- 'wardmotelaw26.EditTotals': WHATEVER THE INPUT: true; the input reads as it did. -/
def editTotalsSpec : ChangeSpec := { name := "editTotals", fn := fun _ => fun
  | [d] => { results := [.lit (.bool true)], args := [d] }
  | _ => none }
def editTotalsRow : OpenClaim := { program := "ytcijnmkodpfpgaagreatdoor", sum := "0ef3feea675ca0c1981888166aa9c58dd4aa2d0a420657137b47aa69dbe4d2da", func := "wardmote/wardmotelaw26.EditTotals", spec := "editTotals", inPlace := ["internal/bytealg.IndexByteString", "internal/bytealg.IndexString"], unfollowed := true, recurses := true, named := ["unicode/utf8.first", "unicode/utf8.acceptRanges", "internal/bytealg.MaxLen"], apart := false, laid := [("unicode/utf8.acceptRanges", laid_unicode_utf8_acceptRanges), ("unicode/utf8.first", laid_unicode_utf8_first)] }
def EditTotalsSaid : Prop := editTotalsRow.holds Tryz.pinned (OpenSpec.ofChange editTotalsSpec)

/-- ITS FALSE NEIGHBOUR: 'it returns false'. Refute it at one input. -/
def editTotalsWrong : ChangeSpec := { name := "editTotals", fn := fun _ => fun
  | [d] => { results := [.lit (.bool false)], args := [d] }
  | _ => none }
def EditTotalsWrongFalsely : Prop := editTotalsRow.holds Tryz.pinned (OpenSpec.ofChange editTotalsWrong)

/-- 'wardmotelaw26.EditKnown': WHATEVER THE INPUT: true; the input reads as it did. -/
def editKnownSpec : ChangeSpec := { name := "editKnown", fn := fun _ => fun
  | [] => { results := [.lit (.bool true)], args := [] }
  | _ => none }
def editKnownRow : OpenClaim := { program := "ytcijnmkodpfpgaagreatdoor", sum := "0ef3feea675ca0c1981888166aa9c58dd4aa2d0a420657137b47aa69dbe4d2da", func := "wardmote/wardmotelaw26.EditKnown", spec := "editKnown", inPlace := ["internal/bytealg.IndexByteString", "internal/bytealg.IndexString"], unfollowed := true, recurses := true, named := ["unicode/utf8.first", "unicode/utf8.acceptRanges", "internal/bytealg.MaxLen"], apart := false, laid := [("unicode/utf8.acceptRanges", laid_unicode_utf8_acceptRanges), ("unicode/utf8.first", laid_unicode_utf8_first)] }
def EditKnownSaid : Prop := editKnownRow.holds Tryz.pinned (OpenSpec.ofChange editKnownSpec)

/-- ITS FALSE NEIGHBOUR: 'it returns false'. Refute it at one input. -/
def editKnownWrong : ChangeSpec := { name := "editKnown", fn := fun _ => fun
  | [] => { results := [.lit (.bool false)], args := [] }
  | _ => none }
def EditKnownWrongFalsely : Prop := editKnownRow.holds Tryz.pinned (OpenSpec.ofChange editKnownWrong)

/-- 'wardmotelaw26.EditSteps': WHATEVER THE INPUT: true; the input reads as it did. -/
def editStepsSpec : ChangeSpec := { name := "editSteps", fn := fun _ => fun
  | [d1, d2, d3] => { results := [.lit (.bool true)], args := [d1, d2, d3] }
  | _ => none }
def editStepsRow : OpenClaim := { program := "ytcijnmkodpfpgaagreatdoor", sum := "0ef3feea675ca0c1981888166aa9c58dd4aa2d0a420657137b47aa69dbe4d2da", func := "wardmote/wardmotelaw26.EditSteps", spec := "editSteps", inPlace := ["internal/bytealg.IndexByteString", "internal/bytealg.IndexString"], unfollowed := true, recurses := true, named := ["unicode/utf8.first", "unicode/utf8.acceptRanges", "internal/bytealg.MaxLen"], apart := false, laid := [("unicode/utf8.acceptRanges", laid_unicode_utf8_acceptRanges), ("unicode/utf8.first", laid_unicode_utf8_first)] }
def EditStepsSaid : Prop := editStepsRow.holds Tryz.pinned (OpenSpec.ofChange editStepsSpec)

/-- ITS FALSE NEIGHBOUR: 'it returns false'. Refute it at one input. -/
def editStepsWrong : ChangeSpec := { name := "editSteps", fn := fun _ => fun
  | [d1, d2, d3] => { results := [.lit (.bool false)], args := [d1, d2, d3] }
  | _ => none }
def EditStepsWrongFalsely : Prop := editStepsRow.holds Tryz.pinned (OpenSpec.ofChange editStepsWrong)

/- THE SECOND FORM. 'bulk': how many values and letters a reading holds, each counted each time it is reached (what is shared counts as often as it is met; a slice's spare places count too). A statement '..UptoSaid' is the law's where the arguments, and the package variables that the reading takes, are together of bulk at most 1048576: NARROWER than '..Said'. Prove '..Said' where nothing that the law and all that it calls make is longer than what came in: it says more and counts as full. Else prove '..UptoSaid'. A law counts once. -/
mutual
def uptoBulk {H : Type} : DataW H → Nat
  | .lit (.string bytes) => bytes.length + 1
  | .lit _ => 1
  | .nil => 1
  | .ptr d => uptoBulk d + 1
  | .slice elems spare => uptoBulkAll elems + uptoBulkAll spare + 1
  | .agg parts => uptoBulkAll parts + 1
  | .iface _ d => uptoBulk d + 1
  | .map entries => uptoBulkEntries entries + 1
  | .held _ => 1
def uptoBulkAll {H : Type} : List (DataW H) → Nat
  | [] => 0
  | d :: r => uptoBulk d + uptoBulkAll r
def uptoBulkEntries {H : Type} : List (Lit × DataW H) → Nat
  | [] => 0
  | x :: r => uptoBulkEntry x + uptoBulkEntries r
def uptoBulkEntry {H : Type} : Lit × DataW H → Nat
  | (.string bytes, d) => bytes.length + uptoBulk d + 1
  | (_, d) => uptoBulk d + 1
 end
def uptoSmall : (H : Type) → List (DataW H) → Bool := fun _ ds => decide (uptoBulkAll ds ≤ 1048576)
def OpenSpec.upto (s : _root_.Go.ChangeSpec) : _root_.Go.OpenSpec := { _root_.Go.OpenSpec.ofChange s with cond := some uptoSmall }

/-- 'wardmotelaw26.EditMakes', WHERE WHAT IT READS IS OF BULK AT MOST 1048576: true; the input reads as it did. -/
def editMakesUptoRow : OpenClaim := { program := "ytcijnmkodpfpgaagreatdoor", sum := "0ef3feea675ca0c1981888166aa9c58dd4aa2d0a420657137b47aa69dbe4d2da", func := "wardmote/wardmotelaw26.EditMakes", spec := "editMakes", inPlace := ["internal/bytealg.IndexByteString", "internal/bytealg.IndexString"], unfollowed := true, recurses := true, named := ["unicode/utf8.first", "unicode/utf8.acceptRanges", "internal/bytealg.MaxLen"], apart := false, laid := [("unicode/utf8.acceptRanges", laid_unicode_utf8_acceptRanges), ("unicode/utf8.first", laid_unicode_utf8_first)], narrowed := true }
def EditMakesUptoSaid : Prop := editMakesUptoRow.holds Tryz.pinned (OpenSpec.upto editMakesSpec)

/-- 'wardmotelaw26.EditBack', WHERE WHAT IT READS IS OF BULK AT MOST 1048576: true; the input reads as it did. -/
def editBackUptoRow : OpenClaim := { program := "ytcijnmkodpfpgaagreatdoor", sum := "0ef3feea675ca0c1981888166aa9c58dd4aa2d0a420657137b47aa69dbe4d2da", func := "wardmote/wardmotelaw26.EditBack", spec := "editBack", inPlace := ["internal/bytealg.IndexByteString", "internal/bytealg.IndexString"], unfollowed := true, recurses := true, named := ["unicode/utf8.first", "unicode/utf8.acceptRanges", "internal/bytealg.MaxLen"], apart := false, laid := [("unicode/utf8.acceptRanges", laid_unicode_utf8_acceptRanges), ("unicode/utf8.first", laid_unicode_utf8_first)], narrowed := true }
def EditBackUptoSaid : Prop := editBackUptoRow.holds Tryz.pinned (OpenSpec.upto editBackSpec)

/-- 'wardmotelaw26.EditStays', WHERE WHAT IT READS IS OF BULK AT MOST 1048576: true; the input reads as it did. -/
def editStaysUptoRow : OpenClaim := { program := "ytcijnmkodpfpgaagreatdoor", sum := "0ef3feea675ca0c1981888166aa9c58dd4aa2d0a420657137b47aa69dbe4d2da", func := "wardmote/wardmotelaw26.EditStays", spec := "editStays", inPlace := ["internal/bytealg.IndexByteString", "internal/bytealg.IndexString"], unfollowed := true, recurses := true, named := ["unicode/utf8.first", "unicode/utf8.acceptRanges", "internal/bytealg.MaxLen"], apart := false, laid := [("unicode/utf8.acceptRanges", laid_unicode_utf8_acceptRanges), ("unicode/utf8.first", laid_unicode_utf8_first)], narrowed := true }
def EditStaysUptoSaid : Prop := editStaysUptoRow.holds Tryz.pinned (OpenSpec.upto editStaysSpec)

/-- 'wardmotelaw26.EditTotals', WHERE WHAT IT READS IS OF BULK AT MOST 1048576: true; the input reads as it did. -/
def editTotalsUptoRow : OpenClaim := { program := "ytcijnmkodpfpgaagreatdoor", sum := "0ef3feea675ca0c1981888166aa9c58dd4aa2d0a420657137b47aa69dbe4d2da", func := "wardmote/wardmotelaw26.EditTotals", spec := "editTotals", inPlace := ["internal/bytealg.IndexByteString", "internal/bytealg.IndexString"], unfollowed := true, recurses := true, named := ["unicode/utf8.first", "unicode/utf8.acceptRanges", "internal/bytealg.MaxLen"], apart := false, laid := [("unicode/utf8.acceptRanges", laid_unicode_utf8_acceptRanges), ("unicode/utf8.first", laid_unicode_utf8_first)], narrowed := true }
def EditTotalsUptoSaid : Prop := editTotalsUptoRow.holds Tryz.pinned (OpenSpec.upto editTotalsSpec)

/-- 'wardmotelaw26.EditKnown', WHERE WHAT IT READS IS OF BULK AT MOST 1048576: true; the input reads as it did. -/
def editKnownUptoRow : OpenClaim := { program := "ytcijnmkodpfpgaagreatdoor", sum := "0ef3feea675ca0c1981888166aa9c58dd4aa2d0a420657137b47aa69dbe4d2da", func := "wardmote/wardmotelaw26.EditKnown", spec := "editKnown", inPlace := ["internal/bytealg.IndexByteString", "internal/bytealg.IndexString"], unfollowed := true, recurses := true, named := ["unicode/utf8.first", "unicode/utf8.acceptRanges", "internal/bytealg.MaxLen"], apart := false, laid := [("unicode/utf8.acceptRanges", laid_unicode_utf8_acceptRanges), ("unicode/utf8.first", laid_unicode_utf8_first)], narrowed := true }
def EditKnownUptoSaid : Prop := editKnownUptoRow.holds Tryz.pinned (OpenSpec.upto editKnownSpec)

/-- 'wardmotelaw26.EditSteps', WHERE WHAT IT READS IS OF BULK AT MOST 1048576: true; the input reads as it did. -/
def editStepsUptoRow : OpenClaim := { program := "ytcijnmkodpfpgaagreatdoor", sum := "0ef3feea675ca0c1981888166aa9c58dd4aa2d0a420657137b47aa69dbe4d2da", func := "wardmote/wardmotelaw26.EditSteps", spec := "editSteps", inPlace := ["internal/bytealg.IndexByteString", "internal/bytealg.IndexString"], unfollowed := true, recurses := true, named := ["unicode/utf8.first", "unicode/utf8.acceptRanges", "internal/bytealg.MaxLen"], apart := false, laid := [("unicode/utf8.acceptRanges", laid_unicode_utf8_acceptRanges), ("unicode/utf8.first", laid_unicode_utf8_first)], narrowed := true }
def EditStepsUptoSaid : Prop := editStepsUptoRow.holds Tryz.pinned (OpenSpec.upto editStepsSpec)

end Rows
end Go.Proofs.YtcijnmkodpfpgaaGreatDoor
