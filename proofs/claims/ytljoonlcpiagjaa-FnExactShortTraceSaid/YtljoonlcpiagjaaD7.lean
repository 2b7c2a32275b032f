/- What is left of a tree behind an atom and an action, in the program, walked by the engine. -/
import Derived.Test.YtljoonlcpiagjaaGrpE
import Derived.Test.YtljoonlcpiagjaaGrpH
import Derived.Test.YtljoonlcpiagjaaD6
import Derived.Test.YtljoonlcpiagjaaGrpJ
import Derived.Test.YtljoonlcpiagjaaEngMin
namespace Go.Proofs.Ytljoonlcpiagjaa
set_option linter.unusedSimpArgs false
set_option linter.unusedVariables false
set_option maxRecDepth 8000
set_option maxHeartbeats 2000000
open Go Go.RowKit AV

end Go.Proofs.Ytljoonlcpiagjaa
