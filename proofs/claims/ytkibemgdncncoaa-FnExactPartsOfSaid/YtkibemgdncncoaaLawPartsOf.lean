/- The law FnExactPartsOf in the words of its row. -/
import Derived.Test.YtkibemgdncncoaaH1
namespace Go.Proofs.Ytkibemgdncncoaa
set_option linter.unusedSimpArgs false
set_option linter.unusedVariables false
set_option maxRecDepth 8000
set_option maxHeartbeats 2000000
open Go Go.RowKit AV

theorem fnExactPartsOf (v0 : Value) (l0 : List Int) (l1 : Int) (l2 : Int) (w : World) (h0 : IS w.heap.size w v0 l0) :
    Calls Try.prog 3 #[v0, .int .i64 l1, .int .i64 l2] w fun e w' => e = .returned (.bool true) ∧ Below w.heap.size w w' := by
  have hm : maxLen ≤ 9223372036854775807 := by decide
  refine law_of_ctr fnExactPartsOf_ctr (args := [ints l0, I l1, I l2]) ⟨_, _, _, rfl, Nat.le_trans h0.len hm, rfl⟩ rfl fun i hi => ?_
  have hi' : i = 0 ∨ i = 1 ∨ i = 2 := by simp at hi; omega
  rcases hi' with rfl | rfl | rfl
  · exact h0.prep
  · exact .num _ _
  · exact .num _ _

end Go.Proofs.Ytkibemgdncncoaa
