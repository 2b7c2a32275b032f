/- The law FnExactPairsOf in the words of its row. -/
import Derived.Test.YtboandkjhdaobaaH13
namespace Go.Proofs.Ytboandkjhdaobaa
set_option linter.unusedSimpArgs false
set_option linter.unusedVariables false
set_option maxRecDepth 8000
set_option maxHeartbeats 2000000
open Go Go.RowKit AV

theorem fnExactPairsOf (v0 : Value) (l0 : List Int) (v1 : Value) (l1 : List Int) (w : World) (h0 : IS w.heap.size w v0 l0) (h1 : IS w.heap.size w v1 l1) :
    Calls Try.prog 8 #[v0, v1] w fun e w' => e = .returned (.bool true) ∧ Below w.heap.size w w' := by
  have hm : maxLen ≤ 9223372036854775807 := by decide
  refine law_of_ctr fnExactPairsOf_ctr (args := [ints l0, ints l1]) ⟨_, _, rfl, Nat.le_trans h0.len hm, Nat.le_trans h1.len hm, rfl⟩ rfl fun i hi => ?_
  have hi' : i = 0 ∨ i = 1 := by simp at hi; omega
  rcases hi' with rfl | rfl
  · exact h0.prep
  · exact h1.prep

end Go.Proofs.Ytboandkjhdaobaa
