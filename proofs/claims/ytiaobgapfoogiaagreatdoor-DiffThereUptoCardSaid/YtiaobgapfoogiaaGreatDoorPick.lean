/- The walk of package pick: Pick. -/
import Derived.Test.YtiaobgapfoogiaaGreatDoorPickP
namespace Go.Proofs.YtiaobgapfoogiaaGreatDoor
open Go.RowKit

end Go.Proofs.YtiaobgapfoogiaaGreatDoor
