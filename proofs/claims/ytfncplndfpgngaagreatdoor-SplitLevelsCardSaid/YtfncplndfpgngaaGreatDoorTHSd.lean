/- Plain laws: a drafted plan fits; the totals. No program in sight but the printed functions. -/
import Derived.Test.YtfncplndfpgngaaGreatDoorTHSc
namespace Go.Proofs.YtfncplndfpgngaaGreatDoor
open Go
end Go.Proofs.YtfncplndfpgngaaGreatDoor
