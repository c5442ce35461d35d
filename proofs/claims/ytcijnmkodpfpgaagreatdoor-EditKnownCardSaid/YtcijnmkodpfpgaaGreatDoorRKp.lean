/- EditKnown: rounds 0 to 64 of the long session, by the kernel. -/
import Derived.Test.YtcijnmkodpfpgaaGreatDoorRKo
namespace Go.Proofs.YtcijnmkodpfpgaaGreatDoor
open Go Go.RowKit
theorem k0 (J) : LB (LB J) (St9 0) = J (St9 1) := by kernel_rfl
theorem k1 (J) : LB (LB J) (St9 1) = J (St9 2) := by kernel_rfl
theorem k2 (J) : LB (LB J) (St9 2) = J (St9 3) := by kernel_rfl
theorem k3 (J) : LB (LB J) (St9 3) = J (St9 4) := by kernel_rfl
theorem k4 (J) : LB (LB J) (St9 4) = J (St9 5) := by kernel_rfl
theorem k5 (J) : LB (LB J) (St9 5) = J (St9 6) := by kernel_rfl
theorem k6 (J) : LB (LB J) (St9 6) = J (St9 7) := by kernel_rfl
theorem k7 (J) : LB (LB J) (St9 7) = J (St9 8) := by kernel_rfl
theorem k8 (J) : LB (LB J) (St9 8) = J (St9 9) := by kernel_rfl
theorem k9 (J) : LB (LB J) (St9 9) = J (St9 10) := by kernel_rfl
theorem k10 (J) : LB (LB J) (St9 10) = J (St9 11) := by kernel_rfl
theorem k11 (J) : LB (LB J) (St9 11) = J (St9 12) := by kernel_rfl
theorem k12 (J) : LB (LB J) (St9 12) = J (St9 13) := by kernel_rfl
theorem k13 (J) : LB (LB J) (St9 13) = J (St9 14) := by kernel_rfl
theorem k14 (J) : LB (LB J) (St9 14) = J (St9 15) := by kernel_rfl
theorem k15 (J) : LB (LB J) (St9 15) = J (St9 16) := by kernel_rfl
theorem k16 (J) : LB (LB J) (St9 16) = J (St9 17) := by kernel_rfl
theorem k17 (J) : LB (LB J) (St9 17) = J (St9 18) := by kernel_rfl
theorem k18 (J) : LB (LB J) (St9 18) = J (St9 19) := by kernel_rfl
theorem k19 (J) : LB (LB J) (St9 19) = J (St9 20) := by kernel_rfl
theorem k20 (J) : LB (LB J) (St9 20) = J (St9 21) := by kernel_rfl
theorem k21 (J) : LB (LB J) (St9 21) = J (St9 22) := by kernel_rfl
theorem k22 (J) : LB (LB J) (St9 22) = J (St9 23) := by kernel_rfl
theorem k23 (J) : LB (LB J) (St9 23) = J (St9 24) := by kernel_rfl
theorem k24 (J) : LB (LB J) (St9 24) = J (St9 25) := by kernel_rfl
theorem k25 (J) : LB (LB J) (St9 25) = J (St9 26) := by kernel_rfl
theorem k26 (J) : LB (LB J) (St9 26) = J (St9 27) := by kernel_rfl
theorem k27 (J) : LB (LB J) (St9 27) = J (St9 28) := by kernel_rfl
theorem k28 (J) : LB (LB J) (St9 28) = J (St9 29) := by kernel_rfl
theorem k29 (J) : LB (LB J) (St9 29) = J (St9 30) := by kernel_rfl
theorem k30 (J) : LB (LB J) (St9 30) = J (St9 31) := by kernel_rfl
theorem k31 (J) : LB (LB J) (St9 31) = J (St9 32) := by kernel_rfl
end Go.Proofs.YtcijnmkodpfpgaaGreatDoor
