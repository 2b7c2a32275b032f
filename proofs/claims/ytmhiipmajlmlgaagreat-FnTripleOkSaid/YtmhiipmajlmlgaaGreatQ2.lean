/- Pairs that are reached, in the reference. Walked by the engine. -/
import Derived.Test.YtmhiipmajlmlgaaGreatGrpM
import Derived.Test.YtmhiipmajlmlgaaGreatGrpL
import Derived.Test.YtmhiipmajlmlgaaGreatGrpU
import Derived.Test.YtmhiipmajlmlgaaGreatGrpD
import Derived.Test.YtmhiipmajlmlgaaGreatGrpR
import Derived.Test.YtmhiipmajlmlgaaGreatEngMin
namespace Go.Proofs.YtmhiipmajlmlgaaGreat
set_option linter.unusedSimpArgs false
set_option linter.unusedVariables false
set_option maxRecDepth 8000
set_option maxHeartbeats 2000000
open Go Go.RowKit AV

theorem katB_okQ {e : List Int} (h : katB e = true) : KatOK e := by
  obtain ⟨x, hw, rfl, h40⟩ := katB_tree h
  exact KatOK.of hw h40
theorem autD_okQ {e : List Int} (h : (autD e).ends.length ≠ 0) : AutoOK (autD e) := by
  by_cases hc : katB e = true ∧ (allL e).length ≤ 10
  · exact autD_ok (katB_okQ hc.1) h
  · rw [autD_no hc] at h; exact absurd rfl h
theorem two_eq {x : List Int} {a b : Int} (h : x.length = 2) (h0 : x[0] = a) (h1 : x[1] = b) : x = [a, b] := by
  match x, h with
  | [c, d], _ => simp at h0 h1; rw [h0, h1]

attribute [local go_sem] Function.comp_apply rowP2

end Go.Proofs.YtmhiipmajlmlgaaGreat
