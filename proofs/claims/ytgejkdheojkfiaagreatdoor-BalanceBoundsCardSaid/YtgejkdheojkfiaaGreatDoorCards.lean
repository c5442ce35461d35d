/-
  DERIVED. GIVEN WITH THE SEED: THE CARDS: each row of YtgejkdheojkfiaaGreatDoorRows.lean that lists a variable, with what it lists TIED to the program's text (the seventh form; the later family's looks); each row that meets fmt, with fmt's text TOLD by the authors' own Lean function (tested against real Go, not proved from fmt's source: count such statements apart). THE CARD IS WHAT COUNTS. Prove the row's statement (the work); the ties are given (YtgejkdheojkfiaaGreatDoorTie.lean); close each card by the builder's one call (the guide's Derived/Test/ToyasCard.lean, 'card_holds'). Laid BY PROGRAM, IN A SANDBOX (cutbox-door.mjs). By AI agents, Wed Nov 11 2026. No macro, syntax, notation, axiom, sorry.
-/
import Derived.Test.YtgejkdheojkfiaaGreatDoorRows
import GoSem.ClaimSeven
namespace Go.Proofs.YtgejkdheojkfiaaGreatDoor
namespace Rows

/-- THE TIED CARD OF 'wardmotelaw22.BalanceBounds'. -/
def balanceBoundsCard : Claim7 := { stood := { row := balanceBoundsRow, standIns := [], harness := (true, "30458bb35e0a21a289332d19b28bb50ba79b08e3fd2f14a4906600b28e352ad4"), looks := true }, kinds := [], alts := [], laidByText := true, laidKinds := [.data, .pinned], laidTests := true, laidLooks := .later }
def BalanceBoundsCardSaid : Prop := Claim7.holds Tryz.pinned (.plain (OpenSpec.ofChange balanceBoundsSpec)) balanceBoundsCard

/-- THE TIED CARD OF 'wardmotelaw22.BalanceCounts'. -/
def balanceCountsCard : Claim7 := { stood := { row := balanceCountsRow, standIns := [], harness := (true, "30458bb35e0a21a289332d19b28bb50ba79b08e3fd2f14a4906600b28e352ad4"), looks := true }, kinds := [], alts := [], laidByText := true, laidKinds := [.data, .pinned], laidTests := true, laidLooks := .later }
def BalanceCountsCardSaid : Prop := Claim7.holds Tryz.pinned (.plain (OpenSpec.ofChange balanceCountsSpec)) balanceCountsCard

/-- THE SECOND FORM's CARD OF 'wardmotelaw22.BalanceBounds'. -/
def balanceBoundsUptoCard : Claim7 := { stood := { row := balanceBoundsUptoRow, standIns := [], harness := (true, "30458bb35e0a21a289332d19b28bb50ba79b08e3fd2f14a4906600b28e352ad4"), looks := true }, kinds := [], alts := [], laidByText := true, laidKinds := [.data, .pinned], laidTests := true, laidLooks := .later }
def BalanceBoundsUptoCardSaid : Prop := Claim7.holds Tryz.pinned (.plain (OpenSpec.upto balanceBoundsSpec)) balanceBoundsUptoCard

/-- THE SECOND FORM's CARD OF 'wardmotelaw22.BalanceCounts'. -/
def balanceCountsUptoCard : Claim7 := { stood := { row := balanceCountsUptoRow, standIns := [], harness := (true, "30458bb35e0a21a289332d19b28bb50ba79b08e3fd2f14a4906600b28e352ad4"), looks := true }, kinds := [], alts := [], laidByText := true, laidKinds := [.data, .pinned], laidTests := true, laidLooks := .later }
def BalanceCountsUptoCardSaid : Prop := Claim7.holds Tryz.pinned (.plain (OpenSpec.upto balanceCountsSpec)) balanceCountsUptoCard
end Rows
end Go.Proofs.YtgejkdheojkfiaaGreatDoor
