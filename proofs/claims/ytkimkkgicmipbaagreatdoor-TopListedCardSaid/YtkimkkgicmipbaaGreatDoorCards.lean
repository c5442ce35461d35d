/-
  DERIVED. GIVEN WITH THE SEED: THE CARDS: each row of YtkimkkgicmipbaaGreatDoorRows.lean that lists a variable, with what it lists TIED to the program's text (the seventh form; the later family's looks); each row that meets fmt, with fmt's text TOLD by the authors' own Lean function (tested against real Go, not proved from fmt's source: count such statements apart). THE CARD IS WHAT COUNTS. Prove the row's statement (the work); the ties are given (YtkimkkgicmipbaaGreatDoorTie.lean); close each card by the builder's one call (the guide's Derived/Test/ToyasCard.lean, 'card_holds'). Laid BY PROGRAM, IN A SANDBOX (cutbox-door.mjs). By AI agents, Wed Nov 11 2026. No macro, syntax, notation, axiom, sorry.
-/
import Derived.Test.YtkimkkgicmipbaaGreatDoorRows
import GoSem.ClaimSeven
namespace Go.Proofs.YtkimkkgicmipbaaGreatDoor
namespace Rows

/-- THE TIED CARD OF 'wardmotetop.TopListed'. -/
def topListedCard : Claim7 := { stood := { row := topListedRow, standIns := [], harness := (true, "622ab8acd3b4c24fcb0b9eed7ce935b6f30e2b31b42d612a8fbf35143f8c9792"), looks := false }, kinds := [], alts := [], laidByText := true, laidKinds := [.data, .data], laidTests := true, laidLooks := .later }
def TopListedCardSaid : Prop := Claim7.holds Tryz.pinned (.plain (OpenSpec.ofChange topListedSpec)) topListedCard

/-- THE SECOND FORM's CARD OF 'wardmotetop.TopListed'. -/
def topListedUptoCard : Claim7 := { stood := { row := topListedUptoRow, standIns := [], harness := (true, "622ab8acd3b4c24fcb0b9eed7ce935b6f30e2b31b42d612a8fbf35143f8c9792"), looks := false }, kinds := [], alts := [], laidByText := true, laidKinds := [.data, .data], laidTests := true, laidLooks := .later }
def TopListedUptoCardSaid : Prop := Claim7.holds Tryz.pinned (.plain (OpenSpec.upto topListedSpec)) topListedUptoCard
end Rows
end Go.Proofs.YtkimkkgicmipbaaGreatDoor
