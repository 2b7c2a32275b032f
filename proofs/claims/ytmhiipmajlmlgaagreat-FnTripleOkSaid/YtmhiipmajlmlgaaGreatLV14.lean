/- The law FnWeakTest, walked by the engine. -/
import Derived.Test.YtmhiipmajlmlgaaGreatGrpY
import Derived.Test.YtmhiipmajlmlgaaGreatW2
import Derived.Test.YtmhiipmajlmlgaaGreatTB
import Derived.Test.YtmhiipmajlmlgaaGreatGrpD
import Derived.Test.YtmhiipmajlmlgaaGreatJ1
import Derived.Test.YtmhiipmajlmlgaaGreatGrpR
import Derived.Test.YtmhiipmajlmlgaaGreatR7a
import Derived.Test.YtmhiipmajlmlgaaGreatGrpV
import Derived.Test.YtmhiipmajlmlgaaGreatEngMin
namespace Go.Proofs.YtmhiipmajlmlgaaGreat
set_option linter.unusedSimpArgs false
set_option linter.unusedVariables false
set_option maxRecDepth 8000
set_option maxHeartbeats 2000000
open Go Go.RowKit AV

attribute [local go_sem] List.nil_prefix List.drop_zero List.drop_succ_cons List.take_zero List.take_succ_cons List.take_nil

theorem weakI_lt (D : AutoD) (q : Int) : weakI D q < 16 := by
  unfold weakI
  split
  · omega
  · have := weakN_lt D q.toNat
    omega
theorem weakI_test {D : AutoD} {q : Int} (h : 0 ≤ weakI D q) : 0 ≤ q ∧ q ≤ 15 := by
  unfold weakI at h
  split at h
  · omega
  · rename_i g
    exact Classical.byContradiction fun e => g (.inr e)
theorem weakI_tree {e : List Int} {q : Int} (h : 0 ≤ weakI (autD e) q) : ∃ x : Ex, x.wf ∧ x.steps = e := by
  by_cases hc : katB e = true ∧ (allL e).length ≤ 10
  · obtain ⟨x, hw, h1, _⟩ := katB_tree hc.1
    exact ⟨x, hw, h1⟩
  · unfold weakI at h
    rw [autD_no hc, if_pos (.inl rfl)] at h
    omega
end Go.Proofs.YtmhiipmajlmlgaaGreat
