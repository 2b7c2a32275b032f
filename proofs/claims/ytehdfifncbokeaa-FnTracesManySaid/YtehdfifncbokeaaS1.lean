/- slices.Compare at rows of integers leaves the world alone. -/
import Derived.Test.YtehdfifncbokeaaGrpQ
import Derived.Test.YtehdfifncbokeaaGrpD
namespace Go.Proofs.Ytehdfifncbokeaa
set_option linter.unusedSimpArgs false
set_option linter.unusedVariables false
set_option maxRecDepth 8000
set_option maxHeartbeats 2000000
open Go.RowKit

end Go.Proofs.Ytehdfifncbokeaa
