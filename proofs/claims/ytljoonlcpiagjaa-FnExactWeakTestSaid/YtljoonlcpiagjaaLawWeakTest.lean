/- The law FnExactWeakTest in the words of its row. -/
import Derived.Test.YtljoonlcpiagjaaH9
namespace Go.Proofs.Ytljoonlcpiagjaa
set_option linter.unusedSimpArgs false
set_option linter.unusedVariables false
set_option maxRecDepth 8000
set_option maxHeartbeats 2000000
open Go Go.RowKit AV

theorem fnExactWeakTest (v0 : Value) (l0 : List Int) (l1 : Int) (w : World) (h0 : IS w.heap.size w v0 l0) :
    Calls Try.prog 11 #[v0, .int .i64 l1] w fun e w' => e = .returned (.bool true) ∧ Below w.heap.size w w' := by
  have hm : maxLen ≤ 9223372036854775807 := by decide
  refine law_of_ctr fnExactWeakTest_ctr (args := [ints l0, I l1]) ⟨_, _, rfl, Nat.le_trans h0.len hm, rfl⟩ rfl fun i hi => ?_
  have hi' : i = 0 ∨ i = 1 := by simp at hi; omega
  rcases hi' with rfl | rfl
  · exact h0.prep
  · exact .num _ _

end Go.Proofs.Ytljoonlcpiagjaa
