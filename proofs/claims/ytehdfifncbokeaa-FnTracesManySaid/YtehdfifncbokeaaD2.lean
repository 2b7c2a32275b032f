/- The library's slices.SortFunc at rows of integers that are held alone: the engine's contract. -/
import Derived.Test.YtehdfifncbokeaaS1
import Derived.Test.YtehdfifncbokeaaGrpC
import Derived.Test.YtehdfifncbokeaaLay
import Derived.Shelf.SlSortCmp.NoneTotal
namespace Go.Proofs.Ytehdfifncbokeaa
set_option linter.unusedSimpArgs false
set_option linter.unusedVariables false
set_option maxRecDepth 8000
set_option maxHeartbeats 2000000
open Go Go.Shelf Go.RowKit Go.Lib Go.Sort AV

end Go.Proofs.Ytehdfifncbokeaa
