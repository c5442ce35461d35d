/-
  DERIVED. GIVEN WITH THE SEED: THE CARDS: each row of YtkhpmhhnolpcnaaGreatDoorRows.lean that lists a variable, with what it lists TIED to the program's text (the seventh form; the later family's looks); each row that meets fmt, with fmt's text TOLD by the authors' own Lean function (tested against real Go, not proved from fmt's source: count such statements apart). THE CARD IS WHAT COUNTS. Prove the row's statement (the work); the ties are given (YtkhpmhhnolpcnaaGreatDoorTie.lean); close each card by the builder's one call (the guide's Derived/Test/ToyasCard.lean, 'card_holds'). Laid BY PROGRAM, IN A SANDBOX (cutbox-door.mjs). By AI agents, Wed Nov 11 2026. No macro, syntax, notation, axiom, sorry.
-/
import Derived.Test.YtkhpmhhnolpcnaaGreatDoorRows
import GoSem.ClaimSeven
namespace Go.Proofs.YtkhpmhhnolpcnaaGreatDoor
namespace Rows

/-- THE TIED CARD OF 'wardmotelaw29.MinorityIndexes'. -/
def minorityIndexesCard : Claim7 := { stood := { row := minorityIndexesRow, standIns := [], harness := (true, "34f877e15552b99a5dff73b8c6d704c937515d094f65fb4fb043656943f6a09f"), looks := true }, kinds := [], alts := [], laidByText := true, laidKinds := [.data, .pinned], laidTests := true, laidLooks := .later }
def MinorityIndexesCardSaid : Prop := Claim7.holds Tryz.pinned (.plain (OpenSpec.ofChange minorityIndexesSpec)) minorityIndexesCard

/-- THE SECOND FORM's CARD OF 'wardmotelaw29.MinorityIndexes'. -/
def minorityIndexesUptoCard : Claim7 := { stood := { row := minorityIndexesUptoRow, standIns := [], harness := (true, "34f877e15552b99a5dff73b8c6d704c937515d094f65fb4fb043656943f6a09f"), looks := true }, kinds := [], alts := [], laidByText := true, laidKinds := [.data, .pinned], laidTests := true, laidLooks := .later }
def MinorityIndexesUptoCardSaid : Prop := Claim7.holds Tryz.pinned (.plain (OpenSpec.upto minorityIndexesSpec)) minorityIndexesUptoCard
end Rows
end Go.Proofs.YtkhpmhhnolpcnaaGreatDoor
