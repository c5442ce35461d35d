/- PartyKnown: the kernel computes what the printed function gives. -/
import Derived.Test.YtibdeoeglcngoaaGreatDoorWK7
namespace Go.Proofs.YtibdeoeglcngoaaGreatDoor
open Go Go.RowKit
theorem cI : aK_p 600 = some true := by kernel_rfl
theorem dc : ∃ n, aK_p n = some true := ⟨600, cI⟩
end Go.Proofs.YtibdeoeglcngoaaGreatDoor
