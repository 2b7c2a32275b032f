/- The law FnExactAutoBoth in the words of its row. -/
import Derived.Test.YtboandkjhdaobaaLB
namespace Go.Proofs.Ytboandkjhdaobaa
set_option linter.unusedSimpArgs false
set_option linter.unusedVariables false
set_option maxRecDepth 8000
set_option maxHeartbeats 2000000
open Go Go.RowKit AV

theorem twoAuto_law {f : Nat} (h : CtrOK Try.prog f (pureC twoAutoR)) (v0 v1 : Value) (D : AutoD) (v2 v3 : Value) (D2 : AutoD) (w : World) (h0 : IS w.heap.size w v0 D.ends) (h1 : ISS w.heap.size w v1 D.next) (h2 : IS w.heap.size w v2 D2.ends) (h3 : ISS w.heap.size w v3 D2.next) :
    Calls Try.prog f #[.agg #[v0, v1], .agg #[v2, v3]] w fun e w' => e = .returned (.bool true) ∧ Below w.heap.size w w' := by
  have hm : maxLen ≤ 9223372036854775807 := by decide
  refine law_of_ctr h (args := [agg [ints D.ends, rows D.next], agg [ints D2.ends, rows D2.next]]) ⟨_, _, _, _, rfl, Nat.le_trans h0.len hm, Nat.le_trans h1.len hm, fun x hx => Nat.le_trans (h1.rowLen x hx) hm, Nat.le_trans h2.len hm, Nat.le_trans h3.len hm, fun x hx => Nat.le_trans (h3.rowLen x hx) hm, rfl⟩ rfl fun i hi => ?_
  have hi' : i = 0 ∨ i = 1 := by simp at hi; omega
  rcases hi' with rfl | rfl
  · exact auto_prep h0.prep h1.prep
  · exact auto_prep h2.prep h3.prep

end Go.Proofs.Ytboandkjhdaobaa
