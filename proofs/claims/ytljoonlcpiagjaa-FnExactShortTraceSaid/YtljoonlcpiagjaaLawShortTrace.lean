/- The law FnExactShortTrace in the words of its row. -/
import Derived.Test.YtljoonlcpiagjaaH12
namespace Go.Proofs.Ytljoonlcpiagjaa
set_option linter.unusedSimpArgs false
set_option linter.unusedVariables false
set_option maxRecDepth 8000
set_option maxHeartbeats 2000000
open Go Go.RowKit AV

theorem fnExactShortTrace (v0 v1 : Value) (D : AutoD) (w : World) (h0 : IS w.heap.size w v0 D.ends) (h1 : ISS w.heap.size w v1 D.next) :
    Calls Try.prog 9 #[.agg #[v0, v1]] w fun e w' => e = .returned (.bool true) ∧ Below w.heap.size w w' := by
  have hm : maxLen ≤ 9223372036854775807 := by decide
  refine law_of_ctr fnExactShortTrace_ctr (args := [agg [ints D.ends, rows D.next]]) ⟨_, _, rfl, Nat.le_trans h0.len hm, Nat.le_trans h1.len hm, fun x hx => Nat.le_trans (h1.rowLen x hx) hm, rfl⟩ rfl fun i hi => ?_
  obtain rfl : i = 0 := by simp at hi; omega
  exact auto_prep h0.prep h1.prep

end Go.Proofs.Ytljoonlcpiagjaa
