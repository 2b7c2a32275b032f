/- How the reference draws small expressions, two expressions that are often equal, tests to hold behind: plain functions. No program in sight. -/
import Derived.Test.YtehdfifncbokeaaGrpL
import Derived.Test.YtehdfifncbokeaaGrpN
namespace Go.Proofs.Ytehdfifncbokeaa
set_option linter.unusedSimpArgs false
set_option linter.unusedVariables false
set_option maxRecDepth 8000
set_option maxHeartbeats 2000000

end Go.Proofs.Ytehdfifncbokeaa
