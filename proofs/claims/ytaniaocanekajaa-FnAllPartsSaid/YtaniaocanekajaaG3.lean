/- The program's Alive and Determined, walked by the engine. -/
import Derived.Test.YtaniaocanekajaaGrpM
import Derived.Test.YtaniaocanekajaaG2
import Derived.Test.YtaniaocanekajaaD9
import Derived.Test.YtaniaocanekajaaEngMin
namespace Go.Proofs.Ytaniaocanekajaa
set_option linter.unusedSimpArgs false
set_option linter.unusedVariables false
set_option maxRecDepth 8000
set_option maxHeartbeats 2000000
open Go Go.RowKit AV

end Go.Proofs.Ytaniaocanekajaa
