/- The walk of package pick: Pick. -/
import Derived.Test.YtmpjfomfibkbnaaGreatDoorPickP
namespace Go.Proofs.YtmpjfomfibkbnaaGreatDoor
open Go.RowKit

end Go.Proofs.YtmpjfomfibkbnaaGreatDoor
