/-
  DERIVED. GIVEN WITH THE SEED: THE CARDS: each row of YtbgcdbblaadokaaGreatDoorRows.lean that lists a variable, with what it lists TIED to the program's text (the seventh form; the later family's looks); each row that meets fmt, with fmt's text TOLD by the authors' own Lean function (tested against real Go, not proved from fmt's source: count such statements apart). THE CARD IS WHAT COUNTS. Prove the row's statement (the work); the ties are given (YtbgcdbblaadokaaGreatDoorTie.lean); close each card by the builder's one call (the guide's Derived/Test/ToyasCard.lean, 'card_holds'). Laid BY PROGRAM, IN A SANDBOX (cutbox-door.mjs). By AI agents, Wed Nov 11 2026. No macro, syntax, notation, axiom, sorry.
-/
import Derived.Test.YtbgcdbblaadokaaGreatDoorRows
import GoSem.ClaimSeven
namespace Go.Proofs.YtbgcdbblaadokaaGreatDoor
namespace Rows

/-- THE TIED CARD OF 'wardmotelaw29.MinorityNormal'. -/
def minorityNormalCard : Claim7 := { stood := { row := minorityNormalRow, standIns := [], harness := (true, "a501eed0dd4131ebee06d180ca536c14fc900fd5a03e5119a78ad4a2e877305e"), looks := true }, kinds := [], alts := [], laidByText := true, laidKinds := [.data, .pinned], laidTests := true, laidLooks := .later }
def MinorityNormalCardSaid : Prop := Claim7.holds Tryz.pinned (.plain (OpenSpec.ofChange minorityNormalSpec)) minorityNormalCard

/-- THE TIED CARD OF 'wardmotelaw29.MinorityTurns'. -/
def minorityTurnsCard : Claim7 := { stood := { row := minorityTurnsRow, standIns := [], harness := (true, "a501eed0dd4131ebee06d180ca536c14fc900fd5a03e5119a78ad4a2e877305e"), looks := true }, kinds := [], alts := [], laidByText := true, laidKinds := [.data, .pinned], laidTests := true, laidLooks := .later }
def MinorityTurnsCardSaid : Prop := Claim7.holds Tryz.pinned (.plain (OpenSpec.ofChange minorityTurnsSpec)) minorityTurnsCard

/-- THE TIED CARD OF 'wardmotelaw29.MinorityTwo'. -/
def minorityTwoCard : Claim7 := { stood := { row := minorityTwoRow, standIns := [], harness := (true, "a501eed0dd4131ebee06d180ca536c14fc900fd5a03e5119a78ad4a2e877305e"), looks := true }, kinds := [], alts := [], laidByText := true, laidKinds := [.data, .pinned], laidTests := true, laidLooks := .later }
def MinorityTwoCardSaid : Prop := Claim7.holds Tryz.pinned (.plain (OpenSpec.ofChange minorityTwoSpec)) minorityTwoCard

/-- THE SECOND FORM's CARD OF 'wardmotelaw29.MinorityNormal'. -/
def minorityNormalUptoCard : Claim7 := { stood := { row := minorityNormalUptoRow, standIns := [], harness := (true, "a501eed0dd4131ebee06d180ca536c14fc900fd5a03e5119a78ad4a2e877305e"), looks := true }, kinds := [], alts := [], laidByText := true, laidKinds := [.data, .pinned], laidTests := true, laidLooks := .later }
def MinorityNormalUptoCardSaid : Prop := Claim7.holds Tryz.pinned (.plain (OpenSpec.upto minorityNormalSpec)) minorityNormalUptoCard

/-- THE SECOND FORM's CARD OF 'wardmotelaw29.MinorityTurns'. -/
def minorityTurnsUptoCard : Claim7 := { stood := { row := minorityTurnsUptoRow, standIns := [], harness := (true, "a501eed0dd4131ebee06d180ca536c14fc900fd5a03e5119a78ad4a2e877305e"), looks := true }, kinds := [], alts := [], laidByText := true, laidKinds := [.data, .pinned], laidTests := true, laidLooks := .later }
def MinorityTurnsUptoCardSaid : Prop := Claim7.holds Tryz.pinned (.plain (OpenSpec.upto minorityTurnsSpec)) minorityTurnsUptoCard

/-- THE SECOND FORM's CARD OF 'wardmotelaw29.MinorityTwo'. -/
def minorityTwoUptoCard : Claim7 := { stood := { row := minorityTwoUptoRow, standIns := [], harness := (true, "a501eed0dd4131ebee06d180ca536c14fc900fd5a03e5119a78ad4a2e877305e"), looks := true }, kinds := [], alts := [], laidByText := true, laidKinds := [.data, .pinned], laidTests := true, laidLooks := .later }
def MinorityTwoUptoCardSaid : Prop := Claim7.holds Tryz.pinned (.plain (OpenSpec.upto minorityTwoSpec)) minorityTwoUptoCard
end Rows
end Go.Proofs.YtbgcdbblaadokaaGreatDoor
