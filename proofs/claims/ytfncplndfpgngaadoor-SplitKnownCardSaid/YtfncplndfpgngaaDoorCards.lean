/-
  DERIVED. GIVEN WITH THE SEED: THE CARDS: each row of YtfncplndfpgngaaDoorRows.lean that lists a variable, with what it lists TIED to the program's text (the seventh form; the later family's looks); each row that meets fmt, with fmt's text TOLD by the authors' own Lean function (tested against real Go, not proved from fmt's source: count such statements apart). THE CARD IS WHAT COUNTS. Prove the row's statement (the work); the ties are given (YtfncplndfpgngaaDoorTie.lean); close each card by the builder's one call (the guide's Derived/Test/ToyasCard.lean, 'card_holds'). Laid BY PROGRAM, IN A SANDBOX (cutbox-door.mjs). By AI agents, Wed Nov 11 2026. No macro, syntax, notation, axiom, sorry.
-/
import Derived.Test.YtfncplndfpgngaaDoorRows
import GoSem.ClaimSeven
namespace Go.Proofs.YtfncplndfpgngaaDoor
namespace Rows

/-- THE TIED CARD OF 'wardmotelaw23.SplitKnown'. -/
def splitKnownCard : Claim7 := { stood := { row := splitKnownRow, standIns := [], harness := (true, "2f49a14f108bb50771d80473d66d4b6fb9b5e37bdc7edb10321a98d5403872d0"), looks := true }, kinds := [], alts := [], laidByText := true, laidKinds := [.data, .pinned], laidTests := true, laidLooks := .later }
def SplitKnownCardSaid : Prop := Claim7.holds Tryd.pinned (.plain (OpenSpec.ofChange splitKnownSpec)) splitKnownCard

/-- THE SECOND FORM's CARD OF 'wardmotelaw23.SplitKnown'. -/
def splitKnownUptoCard : Claim7 := { stood := { row := splitKnownUptoRow, standIns := [], harness := (true, "2f49a14f108bb50771d80473d66d4b6fb9b5e37bdc7edb10321a98d5403872d0"), looks := true }, kinds := [], alts := [], laidByText := true, laidKinds := [.data, .pinned], laidTests := true, laidLooks := .later }
def SplitKnownUptoCardSaid : Prop := Claim7.holds Tryd.pinned (.plain (OpenSpec.upto splitKnownSpec)) splitKnownUptoCard
end Rows
end Go.Proofs.YtfncplndfpgngaaDoor
