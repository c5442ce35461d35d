/- SplitKnown: the kernel computes what the printed function gives. -/
import Derived.Test.YtfncplndfpgngaaDoorPK4
namespace Go.Proofs.YtfncplndfpgngaaDoor
open Go Go.RowKit
theorem splitKnown_true : wardmotelaw23_SplitKnown_p 600 = some true := by kernel_rfl
theorem splitKnown_ex : ∃ n, wardmotelaw23_SplitKnown_p n = some true := ⟨600, splitKnown_true⟩
end Go.Proofs.YtfncplndfpgngaaDoor
