/- The parts of a valid automaton as natural numbers. No program in sight. -/
import Derived.Test.YtmhiipmajlmlgaaGrpD
namespace Go.Proofs.Ytmhiipmajlmlgaa
set_option linter.unusedSimpArgs false
set_option linter.unusedVariables false
set_option maxRecDepth 8000
set_option maxHeartbeats 2000000
open Go Go.RowKit AV

end Go.Proofs.Ytmhiipmajlmlgaa
