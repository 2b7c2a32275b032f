/- The library's slices.SortFunc at rows of integers, laid over the program. -/
import Derived.Test.YtehdfifncbokeaaProg
import Derived.Shelf.SlSortCmp.Whole1
import Derived.KernelRfl
namespace Go.Proofs.Ytehdfifncbokeaa
set_option linter.unusedSimpArgs false
set_option linter.unusedVariables false
set_option maxRecDepth 8000
set_option maxHeartbeats 2000000
open Go Go.Shelf Go.RowKit

end Go.Proofs.Ytehdfifncbokeaa
