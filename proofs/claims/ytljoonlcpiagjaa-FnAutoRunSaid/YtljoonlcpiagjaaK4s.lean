/- Elder contracts on automata, as the engine's: sets of states. -/
import Derived.Test.YtljoonlcpiagjaaGrpU
import Derived.Test.YtljoonlcpiagjaaAutoS
namespace Go.Proofs.Ytljoonlcpiagjaa
set_option linter.unusedSimpArgs false
set_option linter.unusedVariables false
set_option maxRecDepth 8000
set_option maxHeartbeats 2000000
open Go Go.RowKit AV

def stEndR (args : List AV) (r : AV) : Prop := ∃ (D : AutoD) (set : Int), args = [autA D, I set] ∧ r = I (stEnd D set)
def stBehR (args : List AV) (r : AV) : Prop := ∃ (D : AutoD) (set atom act : Int), args = [autA D, I set, I atom, I act] ∧ r = I (stBeh D set atom act)

theorem implStatesEnd_ctr : CtrOK Try.prog 35 (pureC stEndR) := ctr_below Try.func35 rfl rfl (by
  rintro _ _ ⟨D, set, rfl, rfl⟩ w Z vs hvs hz ha
  obtain ⟨v0, v1, e0, h0, h1⟩ := auto1 hz (ha 0 (by simp))
  rw [args2 hvs, e0, prep_num (ha 1 (by simp))]
  exact ⟨_, .num _ _, implStatesEnd v0 v1 D set w h0 h1⟩)

theorem implStatesBehind_ctr : CtrOK Try.prog 33 (pureC stBehR) := ctr_below Try.func33 rfl rfl (by
  rintro _ _ ⟨D, set, atom, act, rfl, rfl⟩ w Z vs hvs hz ha
  obtain ⟨v0, v1, e0, h0, h1⟩ := auto1 hz (ha 0 (by simp))
  rw [args4 hvs, e0, prep_num (ha 1 (by simp)), prep_num (ha 2 (by simp)), prep_num (ha 3 (by simp))]
  exact ⟨_, .num _ _, implStatesBehind v0 v1 D set atom act w h0 h1⟩)

end Go.Proofs.Ytljoonlcpiagjaa
