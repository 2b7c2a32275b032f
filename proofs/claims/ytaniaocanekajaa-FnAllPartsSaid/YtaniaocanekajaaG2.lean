/- The program's TraceBy, walked by the engine; slices.ContainsFunc at rows of integers. -/
import Derived.Test.YtaniaocanekajaaF2
import Derived.Test.YtaniaocanekajaaG1
import Derived.Test.YtaniaocanekajaaGrpH
import Derived.Test.YtaniaocanekajaaEngMin
namespace Go.Proofs.Ytaniaocanekajaa
set_option linter.unusedSimpArgs false
set_option linter.unusedVariables false
set_option maxRecDepth 8000
set_option maxHeartbeats 2000000
open Go Go.RowKit AV

end Go.Proofs.Ytaniaocanekajaa
