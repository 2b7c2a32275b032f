/- The program's PartsOf, BeginsWith and TraceValid, walked by the engine. -/
import Derived.Test.YtmhiipmajlmlgaaGreatF1
import Derived.Test.YtmhiipmajlmlgaaGreatD7
import Derived.Test.YtmhiipmajlmlgaaGreatGrpJ
import Derived.Test.YtmhiipmajlmlgaaGreatEngMin
namespace Go.Proofs.YtmhiipmajlmlgaaGreat
set_option linter.unusedSimpArgs false
set_option linter.unusedVariables false
set_option maxRecDepth 8000
set_option maxHeartbeats 2000000
open Go Go.RowKit AV

end Go.Proofs.YtmhiipmajlmlgaaGreat
