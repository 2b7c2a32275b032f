/- Draws of an automaton alone, walked by the engine. -/
import Derived.Test.YtboandkjhdaobaaR9
import Derived.Test.YtboandkjhdaobaaGrpS
import Derived.Test.YtboandkjhdaobaaEngMin
namespace Go.Proofs.Ytboandkjhdaobaa
set_option linter.unusedSimpArgs false
set_option linter.unusedVariables false
set_option maxRecDepth 8000
set_option maxHeartbeats 2000000
open Go Go.RowKit AV

noncomputable abbrev drwA (bs : List Nat) (most n : Nat) : AutoD := (autoX (bs.take 2000) 0 most n).1
theorem code_ok {bs : List Nat} (h : ∀ b ∈ bs, b < 256) : CodeOK (bs.take 2000) := ⟨by simp; omega, fun b hb => h b (List.mem_of_mem_take hb)⟩

noncomputable abbrev drwA2 (bs : List Nat) (most n : Nat) : AutoD := (autoX (bs.take 2000) (autoX (bs.take 2000) 0 most n).2 most n).1
def drawTwoR (most n : Nat) (args : List AV) (r : AV) : Prop := ∃ bs : List Nat, args = [byts bs] ∧ bs.length ≤ 1099511627776 ∧ (∀ b ∈ bs, b < 256) ∧ r = .tup [agg [ints (drwA bs most n).ends, rows (drwA bs most n).next], agg [ints (drwA2 bs most n).ends, rows (drwA2 bs most n).next]]

end Go.Proofs.Ytboandkjhdaobaa
