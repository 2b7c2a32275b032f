/- The reference's Alive and Determined, walked by the engine. -/
import Derived.Test.YtaniaocanekajaaF1
import Derived.Test.YtaniaocanekajaaEngMin
namespace Go.Proofs.Ytaniaocanekajaa
set_option linter.unusedSimpArgs false
set_option linter.unusedVariables false
set_option maxRecDepth 8000
set_option maxHeartbeats 2000000
open Go Go.RowKit AV

theorem allD_yes {e : List Int} (h : katB e = true) : allD e = allL e := if_pos h
theorem allD_no {e : List Int} (h : katB e = false) : allD e = [] := if_neg (by simp [h])
end Go.Proofs.Ytaniaocanekajaa

namespace Go.Proofs.Ytaniaocanekajaa
set_option linter.unusedSimpArgs false
set_option linter.unusedVariables false
set_option maxRecDepth 8000
set_option maxHeartbeats 2000000
open Go Go.RowKit AV

end Go.Proofs.Ytaniaocanekajaa
