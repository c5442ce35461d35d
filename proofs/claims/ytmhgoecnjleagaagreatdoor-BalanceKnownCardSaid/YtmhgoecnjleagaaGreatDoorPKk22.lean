/- BalanceKnown: the kernel computes what the printed function gives. -/
import Derived.Test.YtmhgoecnjleagaaGreatDoorPK8
namespace Go.Proofs.YtmhgoecnjleagaaGreatDoor
open Go Go.RowKit
theorem balanceKnown_true : wardmotelaw22_BalanceKnown_p 600 = some true := by kernel_rfl
theorem balanceKnown_ex : ∃ n, wardmotelaw22_BalanceKnown_p n = some true := ⟨600, balanceKnown_true⟩
end Go.Proofs.YtmhgoecnjleagaaGreatDoor
