/- EditKnown: rounds 136 to 168 of the long session, by the kernel. -/
import Derived.Test.YtcijnmkodpfpgaaGreatDoorRKo
namespace Go.Proofs.YtcijnmkodpfpgaaGreatDoor
open Go Go.RowKit
theorem k68 (J) : LB (LB J) (St9 68) = J (St9 69) := by kernel_rfl
theorem k69 (J) : LB (LB J) (St9 69) = J (St9 70) := by kernel_rfl
theorem k70 (J) : LB (LB J) (St9 70) = J (St9 71) := by kernel_rfl
theorem k71 (J) : LB (LB J) (St9 71) = J (St9 72) := by kernel_rfl
theorem k72 (J) : LB (LB J) (St9 72) = J (St9 73) := by kernel_rfl
theorem k73 (J) : LB (LB J) (St9 73) = J (St9 74) := by kernel_rfl
theorem k74 (J) : LB (LB J) (St9 74) = J (St9 75) := by kernel_rfl
theorem k75 (J) : LB (LB J) (St9 75) = J (St9 76) := by kernel_rfl
theorem k76 (J) : LB (LB J) (St9 76) = J (St9 77) := by kernel_rfl
theorem k77 (J) : LB (LB J) (St9 77) = J (St9 78) := by kernel_rfl
theorem k78 (J) : LB (LB J) (St9 78) = J (St9 79) := by kernel_rfl
theorem k79 (J) : LB (LB J) (St9 79) = J (St9 80) := by kernel_rfl
theorem k80 (J) : LB (LB J) (St9 80) = J (St9 81) := by kernel_rfl
theorem k81 (J) : LB (LB J) (St9 81) = J (St9 82) := by kernel_rfl
theorem k82 (J) : LB (LB J) (St9 82) = J (St9 83) := by kernel_rfl
theorem k83 (J) : LB (LB J) (St9 83) = J (St9 84) := by kernel_rfl
end Go.Proofs.YtcijnmkodpfpgaaGreatDoor
