/- Whether a set is one of states, as the engine's. -/
import Derived.Test.YtmhiipmajlmlgaaGreatGrpU
import Derived.Test.YtmhiipmajlmlgaaGreatAutoS
import Derived.Test.YtmhiipmajlmlgaaGreatTy
namespace Go.Proofs.YtmhiipmajlmlgaaGreat
set_option linter.unusedSimpArgs false
set_option linter.unusedVariables false
set_option maxRecDepth 8000
set_option maxHeartbeats 2000000
open Go Go.RowKit AV

def hasSetR (args : List AV) (r : AV) : Prop := ∃ (D : AutoD) (set : Int), args = [autA D, I set] ∧ AutoOK D ∧ r = .bool (decide (0 ≤ set ∧ set < 2 ^ D.ends.length))
theorem hasSet_ctr : CtrOK Tryz.prog 87 (pureC hasSetR) := ctr_below Tryz.func87 rfl rfl (by
  rintro _ _ ⟨D, set, rfl, hok, rfl⟩ w Z vs hvs hz ha
  obtain ⟨v0, v1, e0, h0, h1⟩ := auto1 hz (ha 0 (by simp))
  rw [args2 hvs, e0, prep_num (ha 1 (by simp))]
  have e : decide (0 ≤ set ∧ set < 2 ^ D.ends.length) = inB set 0 (2 ^ D.ends.length - 1) := by
    unfold inB
    exact decide_eq_decide.2 (by generalize (2 : Int) ^ D.ends.length = q; omega)
  rw [e]
  exact ⟨_, .bool _, hasSet_any v0 v1 D set w hok h0 h1⟩)

end Go.Proofs.YtmhiipmajlmlgaaGreat
