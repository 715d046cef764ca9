/- The walk of package pick: Pick. -/
import Derived.Test.YtmpjfomfibkbnaaDoorPickP
set_option linter.unusedSimpArgs false
set_option linter.unusedVariables false
namespace Go.Proofs.YtmpjfomfibkbnaaDoor
open Go.RowKit

end Go.Proofs.YtmpjfomfibkbnaaDoor
