/- All parts of an expression, in the program, walked by the engine. -/
import Derived.Test.YtaniaocanekajaaGrpE
import Derived.Test.YtaniaocanekajaaD7
import Derived.Test.YtaniaocanekajaaGrpH
import Derived.Test.YtaniaocanekajaaEngMin
namespace Go.Proofs.Ytaniaocanekajaa
set_option linter.unusedSimpArgs false
set_option linter.unusedVariables false
set_option maxRecDepth 8000
set_option maxHeartbeats 2000000
open Go Go.RowKit AV

theorem idx_has {t : List Int} {l : LL} : idxF (fun a => decide (t = a)) 0 l < 0 ↔ ¬ t ∈ l := by
  rw [idxF_neg]
  constructor
  · intro h hm
    have := h t hm
    simp at this
  · intro h x hx
    simp only [decide_eq_false_iff_not]
    rintro rfl
    exact h hx

end Go.Proofs.Ytaniaocanekajaa
