/- Pairs that prove equality, in the reference. Walked by the engine. -/
import Derived.Test.YtmhiipmajlmlgaaGreatQ2
import Derived.Test.YtmhiipmajlmlgaaGreatGrpR
import Derived.Test.YtmhiipmajlmlgaaGreatEngMin
namespace Go.Proofs.YtmhiipmajlmlgaaGreat
set_option linter.unusedSimpArgs false
set_option linter.unusedVariables false
set_option maxRecDepth 8000
set_option maxHeartbeats 2000000
open Go Go.RowKit AV

end Go.Proofs.YtmhiipmajlmlgaaGreat
