/- Elder contracts on automata, as the engine's: sets of states. -/
import Derived.Test.YtmhiipmajlmlgaaGrpU
import Derived.Test.YtmhiipmajlmlgaaAutoS
namespace Go.Proofs.Ytmhiipmajlmlgaa
set_option linter.unusedSimpArgs false
set_option linter.unusedVariables false
set_option maxRecDepth 8000
set_option maxHeartbeats 2000000
open Go Go.RowKit AV

def stBehR (args : List AV) (r : AV) : Prop := ∃ (D : AutoD) (set atom act : Int), args = [autA D, I set, I atom, I act] ∧ r = I (stBeh D set atom act)

theorem implStatesBehind_ctr : CtrOK Try.prog 15 (pureC stBehR) := ctr_below Try.func15 rfl rfl (by
  rintro _ _ ⟨D, set, atom, act, rfl, rfl⟩ w Z vs hvs hz ha
  obtain ⟨v0, v1, e0, h0, h1⟩ := auto1 hz (ha 0 (by simp))
  rw [args4 hvs, e0, prep_num (ha 1 (by simp)), prep_num (ha 2 (by simp)), prep_num (ha 3 (by simp))]
  exact ⟨_, .num _ _, implStatesBehind v0 v1 D set atom act w h0 h1⟩)

end Go.Proofs.Ytmhiipmajlmlgaa
