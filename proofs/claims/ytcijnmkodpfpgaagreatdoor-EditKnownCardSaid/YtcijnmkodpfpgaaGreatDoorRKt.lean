/- EditKnown: rounds 168 to 200 of the long session, by the kernel. -/
import Derived.Test.YtcijnmkodpfpgaaGreatDoorRKo
namespace Go.Proofs.YtcijnmkodpfpgaaGreatDoor
open Go Go.RowKit
theorem k84 (J) : LB (LB J) (St9 84) = J (St9 85) := by kernel_rfl
theorem k85 (J) : LB (LB J) (St9 85) = J (St9 86) := by kernel_rfl
theorem k86 (J) : LB (LB J) (St9 86) = J (St9 87) := by kernel_rfl
theorem k87 (J) : LB (LB J) (St9 87) = J (St9 88) := by kernel_rfl
theorem k88 (J) : LB (LB J) (St9 88) = J (St9 89) := by kernel_rfl
theorem k89 (J) : LB (LB J) (St9 89) = J (St9 90) := by kernel_rfl
theorem k90 (J) : LB (LB J) (St9 90) = J (St9 91) := by kernel_rfl
theorem k91 (J) : LB (LB J) (St9 91) = J (St9 92) := by kernel_rfl
theorem k92 (J) : LB (LB J) (St9 92) = J (St9 93) := by kernel_rfl
theorem k93 (J) : LB (LB J) (St9 93) = J (St9 94) := by kernel_rfl
theorem k94 (J) : LB (LB J) (St9 94) = J (St9 95) := by kernel_rfl
theorem k95 (J) : LB (LB J) (St9 95) = J (St9 96) := by kernel_rfl
theorem k96 (J) : LB (LB J) (St9 96) = J (St9 97) := by kernel_rfl
theorem k97 (J) : LB (LB J) (St9 97) = J (St9 98) := by kernel_rfl
theorem k98 (J) : LB (LB J) (St9 98) = J (St9 99) := by kernel_rfl
theorem k99 (J) : LB (LB J) (St9 99) = J (St9 100) := by kernel_rfl
end Go.Proofs.YtcijnmkodpfpgaaGreatDoor
