/- Rows that are held alone: neighbours alike are struck, and what is left is put in order, each once. -/
import Derived.Test.YtehdfifncbokeaaGrpH
import Derived.Test.YtehdfifncbokeaaD2
import Derived.Test.YtehdfifncbokeaaGrpJ
namespace Go.Proofs.Ytehdfifncbokeaa
set_option linter.unusedSimpArgs false
set_option linter.unusedVariables false
set_option maxRecDepth 8000
set_option maxHeartbeats 2000000
open Go Go.RowKit AV

end Go.Proofs.Ytehdfifncbokeaa
