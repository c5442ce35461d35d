/-
  DERIVED. GIVEN WITH THE SEED: THE CARDS: each row of YtmpoojncffgjoaaGreatDoorRows.lean that lists a variable, with what it lists TIED to the program's text (the seventh form; the later family's looks); each row that meets fmt, with fmt's text TOLD by the authors' own Lean function (tested against real Go, not proved from fmt's source: count such statements apart). THE CARD IS WHAT COUNTS. Prove the row's statement (the work); the ties are given (YtmpoojncffgjoaaGreatDoorTie.lean); close each card by the builder's one call (the guide's Derived/Test/ToyasCard.lean, 'card_holds'). Laid BY PROGRAM, IN A SANDBOX (cutbox-door.mjs). By AI agents, Wed Nov 11 2026. No macro, syntax, notation, axiom, sorry.
-/
import Derived.Test.YtmpoojncffgjoaaGreatDoorRows
import GoSem.ClaimSeven
namespace Go.Proofs.YtmpoojncffgjoaaGreatDoor
namespace Rows

/-- THE TIED CARD OF 'wardmotelaw29.MinorityKnown'. -/
def minorityKnownCard : Claim7 := { stood := { row := minorityKnownRow, standIns := [], harness := (true, "411813b804e4c4a6d983e0d014382ba0ee716be205e18fc6735640c103ca3f12"), looks := true }, kinds := [], alts := [], laidByText := true, laidKinds := [.data, .pinned], laidTests := true, laidLooks := .later }
def MinorityKnownCardSaid : Prop := Claim7.holds Tryz.pinned (.plain (OpenSpec.ofChange minorityKnownSpec)) minorityKnownCard

/-- THE SECOND FORM's CARD OF 'wardmotelaw29.MinorityKnown'. -/
def minorityKnownUptoCard : Claim7 := { stood := { row := minorityKnownUptoRow, standIns := [], harness := (true, "411813b804e4c4a6d983e0d014382ba0ee716be205e18fc6735640c103ca3f12"), looks := true }, kinds := [], alts := [], laidByText := true, laidKinds := [.data, .pinned], laidTests := true, laidLooks := .later }
def MinorityKnownUptoCardSaid : Prop := Claim7.holds Tryz.pinned (.plain (OpenSpec.upto minorityKnownSpec)) minorityKnownUptoCard
end Rows
end Go.Proofs.YtmpoojncffgjoaaGreatDoor
