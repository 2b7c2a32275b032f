/- What AutoValid returns, of the program and of the reference: one contract each, at every argument that reads as an automaton. -/
import Derived.Test.YtehdfifncbokeaaChecked
import Derived.Test.YtehdfifncbokeaaGrpA
import Derived.WalkSmall
import Derived.Test.YtehdfifncbokeaaGrpC
import Derived.Deep.RegionHeld3
namespace Go.Proofs.Ytehdfifncbokeaa
set_option linter.unusedSimpArgs false
set_option linter.unusedVariables false
set_option maxRecDepth 8000
set_option maxHeartbeats 2000000
open Go.RowKit

end Go.Proofs.Ytehdfifncbokeaa

namespace Go.Proofs.Ytehdfifncbokeaa
set_option linter.unusedSimpArgs false
set_option linter.unusedVariables false
set_option maxRecDepth 8000
set_option maxHeartbeats 2000000
open Go.RowKit

end Go.Proofs.Ytehdfifncbokeaa

namespace Go.Proofs.Ytehdfifncbokeaa
set_option linter.unusedSimpArgs false
set_option linter.unusedVariables false
set_option maxRecDepth 8000
set_option maxHeartbeats 2000000
open Go.RowKit

end Go.Proofs.Ytehdfifncbokeaa

namespace Go.Proofs.Ytehdfifncbokeaa
set_option linter.unusedSimpArgs false
set_option linter.unusedVariables false
set_option maxRecDepth 8000
set_option maxHeartbeats 2000000
open Go.RowKit

end Go.Proofs.Ytehdfifncbokeaa

namespace Go.Proofs.Ytehdfifncbokeaa
set_option linter.unusedSimpArgs false
set_option linter.unusedVariables false
set_option maxRecDepth 8000
set_option maxHeartbeats 2000000
open Go.RowKit

end Go.Proofs.Ytehdfifncbokeaa

namespace Go.Proofs.Ytehdfifncbokeaa
set_option linter.unusedSimpArgs false
set_option linter.unusedVariables false
set_option maxRecDepth 8000
set_option maxHeartbeats 2000000
open Go.RowKit

end Go.Proofs.Ytehdfifncbokeaa
