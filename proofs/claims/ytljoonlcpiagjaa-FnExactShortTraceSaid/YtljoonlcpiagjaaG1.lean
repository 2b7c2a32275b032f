/- The program's PartsOf, BeginsWith and TraceValid, walked by the engine. -/
import Derived.Test.YtljoonlcpiagjaaF1
import Derived.Test.YtljoonlcpiagjaaD7
import Derived.Test.YtljoonlcpiagjaaGrpJ
import Derived.Test.YtljoonlcpiagjaaEngMin
namespace Go.Proofs.Ytljoonlcpiagjaa
set_option linter.unusedSimpArgs false
set_option linter.unusedVariables false
set_option maxRecDepth 8000
set_option maxHeartbeats 2000000
open Go Go.RowKit AV

end Go.Proofs.Ytljoonlcpiagjaa
