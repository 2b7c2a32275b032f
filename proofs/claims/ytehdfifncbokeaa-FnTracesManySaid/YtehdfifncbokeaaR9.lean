/- The reference's draw of an automaton, walked by the engine. -/
import Derived.Test.YtehdfifncbokeaaGrpY
import Derived.Test.YtehdfifncbokeaaGrpM
import Derived.Test.YtehdfifncbokeaaGrpL
import Derived.Test.YtehdfifncbokeaaGrpK
import Derived.Test.YtehdfifncbokeaaEngMin
namespace Go.Proofs.Ytehdfifncbokeaa
set_option linter.unusedSimpArgs false
set_option linter.unusedVariables false
set_option maxRecDepth 8000
set_option maxHeartbeats 2000000
open Go Go.RowKit AV

attribute [local go_sem] List.nil_prefix wpOpsY_cons wpOpsY_nil KOpsY_app rdGM minOf rdMin rdMinN wpOpsDR_cons wpOpsDR_nil KOpsR_app rdLR lentMv lentCall

end Go.Proofs.Ytehdfifncbokeaa
