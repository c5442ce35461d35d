/- Plain laws: integers of any length divided; greatest common divisors; lowest terms. No program in sight but the printed functions. -/
import Derived.Test.YtfccehcnajelgaaGreatDoorQAVc
namespace Go.Proofs.YtfccehcnajelgaaGreatDoor
open Go
set_option maxRecDepth 8000
end Go.Proofs.YtfccehcnajelgaaGreatDoor
