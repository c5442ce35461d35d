/- Plain law: SplitMerges. No program in sight but the printed functions. -/
import Derived.Test.YtfncplndfpgngaaGreatDoorSGQc
namespace Go.Proofs.YtfncplndfpgngaaGreatDoor
open Go
set_option maxRecDepth 8000
/-! ### Other labels -/
end Go.Proofs.YtfncplndfpgngaaGreatDoor
