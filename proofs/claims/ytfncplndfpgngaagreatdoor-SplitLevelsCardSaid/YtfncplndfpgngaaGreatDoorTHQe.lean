/- Plain law: SplitForces. No program in sight but the printed functions. -/
import Derived.Test.YtfncplndfpgngaaGreatDoorTHQd
namespace Go.Proofs.YtfncplndfpgngaaGreatDoor
open Go
set_option maxRecDepth 8000
end Go.Proofs.YtfncplndfpgngaaGreatDoor
