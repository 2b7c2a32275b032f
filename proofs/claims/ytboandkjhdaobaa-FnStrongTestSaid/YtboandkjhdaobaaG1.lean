/- The program's PartsOf, BeginsWith and TraceValid, walked by the engine. -/
import Derived.Test.YtboandkjhdaobaaF1
import Derived.Test.YtboandkjhdaobaaD7
import Derived.Test.YtboandkjhdaobaaGrpJ
import Derived.Test.YtboandkjhdaobaaEngMin
namespace Go.Proofs.Ytboandkjhdaobaa
set_option linter.unusedSimpArgs false
set_option linter.unusedVariables false
set_option maxRecDepth 8000
set_option maxHeartbeats 2000000
open Go Go.RowKit AV

end Go.Proofs.Ytboandkjhdaobaa
