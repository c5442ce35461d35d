/- Plain laws: two words divided by one. No program in sight but the printed functions. -/
import Derived.Test.YtfccehcnajelgaaGreatDoorQAVb
namespace Go.Proofs.YtfccehcnajelgaaGreatDoor
open Go
set_option maxRecDepth 8000
end Go.Proofs.YtfccehcnajelgaaGreatDoor
