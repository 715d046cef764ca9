/- The walk of package pick: Pick. -/
import Derived.Test.YtmpjfomfibkbnaaGreatDoorPickP
set_option linter.unusedSimpArgs false
set_option linter.unusedVariables false
namespace Go.Proofs.YtmpjfomfibkbnaaGreatDoor
open Go.RowKit

end Go.Proofs.YtmpjfomfibkbnaaGreatDoor
