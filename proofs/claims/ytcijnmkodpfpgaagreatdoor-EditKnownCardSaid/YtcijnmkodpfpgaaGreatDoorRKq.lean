/- EditKnown: rounds 64 to 104 of the long session, by the kernel. -/
import Derived.Test.YtcijnmkodpfpgaaGreatDoorRKo
namespace Go.Proofs.YtcijnmkodpfpgaaGreatDoor
open Go Go.RowKit
theorem k32 (J) : LB (LB J) (St9 32) = J (St9 33) := by kernel_rfl
theorem k33 (J) : LB (LB J) (St9 33) = J (St9 34) := by kernel_rfl
theorem k34 (J) : LB (LB J) (St9 34) = J (St9 35) := by kernel_rfl
theorem k35 (J) : LB (LB J) (St9 35) = J (St9 36) := by kernel_rfl
theorem k36 (J) : LB (LB J) (St9 36) = J (St9 37) := by kernel_rfl
theorem k37 (J) : LB (LB J) (St9 37) = J (St9 38) := by kernel_rfl
theorem k38 (J) : LB (LB J) (St9 38) = J (St9 39) := by kernel_rfl
theorem k39 (J) : LB (LB J) (St9 39) = J (St9 40) := by kernel_rfl
theorem k40 (J) : LB (LB J) (St9 40) = J (St9 41) := by kernel_rfl
theorem k41 (J) : LB (LB J) (St9 41) = J (St9 42) := by kernel_rfl
theorem k42 (J) : LB (LB J) (St9 42) = J (St9 43) := by kernel_rfl
theorem k43 (J) : LB (LB J) (St9 43) = J (St9 44) := by kernel_rfl
theorem k44 (J) : LB (LB J) (St9 44) = J (St9 45) := by kernel_rfl
theorem k45 (J) : LB (LB J) (St9 45) = J (St9 46) := by kernel_rfl
theorem k46 (J) : LB (LB J) (St9 46) = J (St9 47) := by kernel_rfl
theorem k47 (J) : LB (LB J) (St9 47) = J (St9 48) := by kernel_rfl
theorem k48 (J) : LB (LB J) (St9 48) = J (St9 49) := by kernel_rfl
theorem k49 (J) : LB (LB J) (St9 49) = J (St9 50) := by kernel_rfl
theorem k50 (J) : LB (LB J) (St9 50) = J (St9 51) := by kernel_rfl
theorem k51 (J) : LB (LB J) (St9 51) = J (St9 52) := by kernel_rfl
end Go.Proofs.YtcijnmkodpfpgaaGreatDoor
