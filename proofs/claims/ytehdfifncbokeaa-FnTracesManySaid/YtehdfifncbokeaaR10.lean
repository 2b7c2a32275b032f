/- Draws of an automaton alone, walked by the engine. -/
import Derived.Test.YtehdfifncbokeaaR9
import Derived.Test.YtehdfifncbokeaaGrpS
import Derived.Test.YtehdfifncbokeaaEngMin
namespace Go.Proofs.Ytehdfifncbokeaa
set_option linter.unusedSimpArgs false
set_option linter.unusedVariables false
set_option maxRecDepth 8000
set_option maxHeartbeats 2000000
open Go Go.RowKit AV

end Go.Proofs.Ytehdfifncbokeaa
