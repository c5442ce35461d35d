/-
  DERIVED. GIVEN WITH THE SEED: THE CARDS: each row of YtlleajifdbnbaaaGreatDoorRows.lean that lists a variable, with what it lists TIED to the program's text (the seventh form; the later family's looks); each row that meets fmt, with fmt's text TOLD by the authors' own Lean function (tested against real Go, not proved from fmt's source: count such statements apart). THE CARD IS WHAT COUNTS. Prove the row's statement (the work); the ties are given (YtlleajifdbnbaaaGreatDoorTie.lean); close each card by the builder's one call (the guide's Derived/Test/ToyasCard.lean, 'card_holds'). Laid BY PROGRAM, IN A SANDBOX (cutbox-door.mjs). By AI agents, Wed Nov 11 2026. No macro, syntax, notation, axiom, sorry.
-/
import Derived.Test.YtlleajifdbnbaaaGreatDoorRows
import GoSem.ClaimSeven
namespace Go.Proofs.YtlleajifdbnbaaaGreatDoor
namespace Rows

/-- THE TIED CARD OF 'wardmotelaw31.WilsonWalks'. -/
def wilsonWalksCard : Claim7 := { stood := { row := wilsonWalksRow, standIns := [], harness := (true, "2ae9f80d09a94796fd25afc10e6f365c3db29239daf42129f4ad62b3b3720781"), looks := false }, kinds := [], alts := [], laidByText := true, laidKinds := [.data], laidTests := true, laidLooks := .later }
def WilsonWalksCardSaid : Prop := Claim7.holds Tryz.pinned (.plain (OpenSpec.ofChange wilsonWalksSpec)) wilsonWalksCard

/-- THE TIED CARD OF 'wardmotelaw31.WilsonDraws'. -/
def wilsonDrawsCard : Claim7 := { stood := { row := wilsonDrawsRow, standIns := [], harness := (true, "2ae9f80d09a94796fd25afc10e6f365c3db29239daf42129f4ad62b3b3720781"), looks := false }, kinds := [], alts := [], laidByText := true, laidKinds := [.data], laidTests := true, laidLooks := .later }
def WilsonDrawsCardSaid : Prop := Claim7.holds Tryz.pinned (.plain (OpenSpec.ofChange wilsonDrawsSpec)) wilsonDrawsCard

/-- THE SECOND FORM's CARD OF 'wardmotelaw31.WilsonWalks'. -/
def wilsonWalksUptoCard : Claim7 := { stood := { row := wilsonWalksUptoRow, standIns := [], harness := (true, "2ae9f80d09a94796fd25afc10e6f365c3db29239daf42129f4ad62b3b3720781"), looks := false }, kinds := [], alts := [], laidByText := true, laidKinds := [.data], laidTests := true, laidLooks := .later }
def WilsonWalksUptoCardSaid : Prop := Claim7.holds Tryz.pinned (.plain (OpenSpec.upto wilsonWalksSpec)) wilsonWalksUptoCard

/-- THE SECOND FORM's CARD OF 'wardmotelaw31.WilsonDraws'. -/
def wilsonDrawsUptoCard : Claim7 := { stood := { row := wilsonDrawsUptoRow, standIns := [], harness := (true, "2ae9f80d09a94796fd25afc10e6f365c3db29239daf42129f4ad62b3b3720781"), looks := false }, kinds := [], alts := [], laidByText := true, laidKinds := [.data], laidTests := true, laidLooks := .later }
def WilsonDrawsUptoCardSaid : Prop := Claim7.holds Tryz.pinned (.plain (OpenSpec.upto wilsonDrawsSpec)) wilsonDrawsUptoCard
end Rows
end Go.Proofs.YtlleajifdbnbaaaGreatDoor
