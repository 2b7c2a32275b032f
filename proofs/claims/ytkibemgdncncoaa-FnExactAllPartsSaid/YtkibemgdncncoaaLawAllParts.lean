/- The law FnExactAllParts in the words of its row. -/
import Derived.Test.YtkibemgdncncoaaH7
namespace Go.Proofs.Ytkibemgdncncoaa
set_option linter.unusedSimpArgs false
set_option linter.unusedVariables false
set_option maxRecDepth 8000
set_option maxHeartbeats 2000000
open Go Go.RowKit AV

theorem fnExactAllParts (v0 : Value) (l0 : List Int) (w : World) (h0 : IS w.heap.size w v0 l0) :
    Calls Try.prog 8 #[v0] w fun e w' => e = .returned (.bool true) ∧ Below w.heap.size w w' := by
  have hm : maxLen ≤ 9223372036854775807 := by decide
  refine law_of_ctr fnExactAllParts_ctr (args := [ints l0]) ⟨_, rfl, Nat.le_trans h0.len hm, rfl⟩ rfl fun i hi => ?_
  obtain rfl : i = 0 := by simp at hi; omega
  exact h0.prep

end Go.Proofs.Ytkibemgdncncoaa
