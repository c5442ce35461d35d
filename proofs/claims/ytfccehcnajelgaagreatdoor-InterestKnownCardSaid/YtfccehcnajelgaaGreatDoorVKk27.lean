/- InterestKnown: the kernel computes what the printed function gives. -/
import Derived.Test.YtfccehcnajelgaaGreatDoorVG6
namespace Go.Proofs.YtfccehcnajelgaaGreatDoor
open Go Go.RowKit
theorem bY : ao_p 600 = some true := by kernel_rfl
theorem cu : ∃ n, ao_p n = some true := ⟨600, bY⟩
end Go.Proofs.YtfccehcnajelgaaGreatDoor
