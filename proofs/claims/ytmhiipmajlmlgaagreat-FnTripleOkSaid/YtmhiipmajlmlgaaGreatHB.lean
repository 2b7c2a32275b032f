/- Bounds of what the laws compare. -/
import Derived.Test.YtmhiipmajlmlgaaGreatG1
import Derived.Test.YtmhiipmajlmlgaaGreatGrpF
namespace Go.Proofs.YtmhiipmajlmlgaaGreat
set_option linter.unusedSimpArgs false
set_option linter.unusedVariables false
set_option maxRecDepth 8000
set_option maxHeartbeats 2000000

theorem autoL_bd (l : LL) (h : l.length ≤ 10) : (autoL l).ends.length ≤ 1048576 ∧ (autoL l).next.length ≤ 1048576 ∧ ∀ x ∈ (autoL l).next, x.length ≤ 1048576 := by
  have h1 : (autoL l).ends.length = l.length := by simp [autoL, endsM]
  have h2 : (autoL l).next = l.map fun t => rowM l t 12 := rfl
  refine ⟨by omega, by rw [h2, List.length_map]; omega, fun x hx => ?_⟩
  rw [h2] at hx
  obtain ⟨t, _, rfl⟩ := List.mem_map.1 hx
  rw [rowM_len]; omega
theorem autD_bd (e : List Int) : (autD e).ends.length ≤ 1048576 ∧ (autD e).next.length ≤ 1048576 ∧ ∀ x ∈ (autD e).next, x.length ≤ 1048576 := by
  by_cases h : katB e = true ∧ (allL e).length ≤ 10
  · rw [autD_yes h.1 h.2]
    exact autoL_bd _ h.2
  · rw [autD_no h]; simp

end Go.Proofs.YtmhiipmajlmlgaaGreat
