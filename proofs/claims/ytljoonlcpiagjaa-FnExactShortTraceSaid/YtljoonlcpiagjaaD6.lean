/- Rows cloned, put behind one another, put in order, in the program: walked by the engine. -/
import Derived.Test.YtljoonlcpiagjaaD5
import Derived.Test.YtljoonlcpiagjaaGrpT
import Derived.Test.YtljoonlcpiagjaaGrpJ
import Derived.Test.YtljoonlcpiagjaaEngMin
namespace Go.Proofs.Ytljoonlcpiagjaa
set_option linter.unusedSimpArgs false
set_option linter.unusedVariables false
set_option maxRecDepth 8000
set_option maxHeartbeats 2000000
open Go Go.RowKit AV

end Go.Proofs.Ytljoonlcpiagjaa
