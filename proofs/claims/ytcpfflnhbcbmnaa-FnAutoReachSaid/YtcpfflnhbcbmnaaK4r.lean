/- Elder contracts on automata, as the engine's: what is reached. -/
import Derived.Test.YtcpfflnhbcbmnaaK0a
import Derived.Test.YtcpfflnhbcbmnaaAutoR
namespace Go.Proofs.Ytcpfflnhbcbmnaa
set_option linter.unusedSimpArgs false
set_option linter.unusedVariables false
set_option maxRecDepth 8000
set_option maxHeartbeats 2000000
open Go Go.RowKit AV

def autoReachR (args : List AV) (r : AV) : Prop := ∃ D : AutoD, args = [autA D] ∧ r = I (reachI D)
theorem specAutoReach_ctr : CtrOK Try.prog 42 (pureC autoReachR) := ctr_below Try.func42 rfl rfl (by
  rintro _ _ ⟨D, rfl, rfl⟩ w Z vs hvs hz ha
  obtain ⟨v0, v1, e0, h0, h1⟩ := auto1 hz (ha 0 (by simp))
  rw [args1 hvs, e0]
  exact ⟨_, .num _ _, specAutoReach v0 v1 D w h0 h1⟩)

theorem implAutoReach_ctr : CtrOK Try.prog 41 (pureC autoReachR) := ctr_below Try.func41 rfl rfl (by
  rintro _ _ ⟨D, rfl, rfl⟩ w Z vs hvs hz ha
  obtain ⟨v0, v1, e0, h0, h1⟩ := auto1 hz (ha 0 (by simp))
  rw [args1 hvs, e0]
  exact ⟨_, .num _ _, implAutoReach v0 v1 D w h0 h1⟩)

end Go.Proofs.Ytcpfflnhbcbmnaa
