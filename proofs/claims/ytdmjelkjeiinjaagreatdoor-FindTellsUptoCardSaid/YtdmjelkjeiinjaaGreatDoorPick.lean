/- The walk of package pick: Pick. -/
import Derived.Test.YtdmjelkjeiinjaaGreatDoorPickP
namespace Go.Proofs.YtdmjelkjeiinjaaGreatDoor
open Go.RowKit

end Go.Proofs.YtdmjelkjeiinjaaGreatDoor
