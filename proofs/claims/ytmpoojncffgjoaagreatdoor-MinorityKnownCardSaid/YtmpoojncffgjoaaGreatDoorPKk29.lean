/- MinorityKnown: the kernel computes what the printed function gives. -/
import Derived.Test.YtmpoojncffgjoaaGreatDoorPK8
namespace Go.Proofs.YtmpoojncffgjoaaGreatDoor
open Go Go.RowKit
theorem minorityKnown_true : wardmotelaw29_MinorityKnown_p 5000 = some true := by kernel_rfl
theorem minorityKnown_ex : ∃ n, wardmotelaw29_MinorityKnown_p n = some true := ⟨5000, minorityKnown_true⟩
end Go.Proofs.YtmpoojncffgjoaaGreatDoor
