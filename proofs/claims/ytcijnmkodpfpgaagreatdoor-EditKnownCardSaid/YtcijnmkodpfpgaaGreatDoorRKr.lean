/- EditKnown: rounds 104 to 136 of the long session, by the kernel. -/
import Derived.Test.YtcijnmkodpfpgaaGreatDoorRKo
namespace Go.Proofs.YtcijnmkodpfpgaaGreatDoor
open Go Go.RowKit
theorem k52 (J) : LB (LB J) (St9 52) = J (St9 53) := by kernel_rfl
theorem k53 (J) : LB (LB J) (St9 53) = J (St9 54) := by kernel_rfl
theorem k54 (J) : LB (LB J) (St9 54) = J (St9 55) := by kernel_rfl
theorem k55 (J) : LB (LB J) (St9 55) = J (St9 56) := by kernel_rfl
theorem k56 (J) : LB (LB J) (St9 56) = J (St9 57) := by kernel_rfl
theorem k57 (J) : LB (LB J) (St9 57) = J (St9 58) := by kernel_rfl
theorem k58 (J) : LB (LB J) (St9 58) = J (St9 59) := by kernel_rfl
theorem k59 (J) : LB (LB J) (St9 59) = J (St9 60) := by kernel_rfl
theorem k60 (J) : LB (LB J) (St9 60) = J (St9 61) := by kernel_rfl
theorem k61 (J) : LB (LB J) (St9 61) = J (St9 62) := by kernel_rfl
theorem k62 (J) : LB (LB J) (St9 62) = J (St9 63) := by kernel_rfl
theorem k63 (J) : LB (LB J) (St9 63) = J (St9 64) := by kernel_rfl
theorem k64 (J) : LB (LB J) (St9 64) = J (St9 65) := by kernel_rfl
theorem k65 (J) : LB (LB J) (St9 65) = J (St9 66) := by kernel_rfl
theorem k66 (J) : LB (LB J) (St9 66) = J (St9 67) := by kernel_rfl
theorem k67 (J) : LB (LB J) (St9 67) = J (St9 68) := by kernel_rfl
end Go.Proofs.YtcijnmkodpfpgaaGreatDoor
