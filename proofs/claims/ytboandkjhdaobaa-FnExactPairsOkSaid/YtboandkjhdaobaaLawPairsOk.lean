/- The law FnExactPairsOk in the words of its row. -/
import Derived.Test.YtboandkjhdaobaaH17
namespace Go.Proofs.Ytboandkjhdaobaa
set_option linter.unusedSimpArgs false
set_option linter.unusedVariables false
set_option maxRecDepth 8000
set_option maxHeartbeats 2000000
open Go Go.RowKit AV

theorem fnExactPairsOk (v0 : Value) (l0 : List Int) (v1 : Value) (l1 : List Int) (v2 : Value) (l2 : List (List Int)) (w : World) (h0 : IS w.heap.size w v0 l0) (h1 : IS w.heap.size w v1 l1) (h2 : ISS w.heap.size w v2 l2) :
    Calls Try.prog 9 #[v0, v1, v2] w fun e w' => e = .returned (.bool true) ∧ Below w.heap.size w w' := by
  have hm : maxLen ≤ 9223372036854775807 := by decide
  refine law_of_ctr fnExactPairsOk_ctr (args := [ints l0, ints l1, rows l2]) ⟨_, _, _, rfl, Nat.le_trans h0.len hm, Nat.le_trans h1.len hm, Nat.le_trans h2.len hm, fun x hx => Nat.le_trans (h2.rowLen x hx) hm, rfl⟩ rfl fun i hi => ?_
  have hi' : i = 0 ∨ i = 1 ∨ i = 2 := by simp at hi; omega
  rcases hi' with rfl | rfl | rfl
  · exact h0.prep
  · exact h1.prep
  · exact h2.prep

end Go.Proofs.Ytboandkjhdaobaa
