/- The test that has to hold before, told by first and last atoms. No program in sight. -/
import Derived.Test.YtmhiipmajlmlgaaRelP
import Derived.Test.YtmhiipmajlmlgaaGrpN
namespace Go.Proofs.Ytmhiipmajlmlgaa
set_option linter.unusedSimpArgs false
set_option linter.unusedVariables false
set_option maxRecDepth 8000
set_option maxHeartbeats 2000000
open Go.RowKit

section
variable {l : LL}
end

section
variable {l : LL} (hcl : ∀ u ∈ l, ∀ m, m < 12 → ∀ v ∈ leftM u m, v ∈ l) (hwf : ∀ u ∈ l, (exOf u).wf) {t : Nat} (ht : t ≤ 15)
include hcl hwf ht
end
section
variable {x : Ex} (hw : x.wf) (hl : x.steps.length ≤ 40) {t : Nat} (ht : t ≤ 15)
include hw hl ht
end

end Go.Proofs.Ytmhiipmajlmlgaa
