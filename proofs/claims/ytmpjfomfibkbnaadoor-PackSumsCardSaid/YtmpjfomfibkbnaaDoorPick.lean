/- The walk of package pick: Pick. -/
import Derived.Test.YtmpjfomfibkbnaaDoorPickP
namespace Go.Proofs.YtmpjfomfibkbnaaDoor
open Go.RowKit

end Go.Proofs.YtmpjfomfibkbnaaDoor
