/- The parts of a valid automaton as natural numbers. No program in sight. -/
import Derived.Test.YtehdfifncbokeaaGreatGrpD
namespace Go.Proofs.YtehdfifncbokeaaGreat
set_option linter.unusedSimpArgs false
set_option linter.unusedVariables false
set_option maxRecDepth 8000
set_option maxHeartbeats 2000000
open Go Go.RowKit AV

def smallE (E : List Int) (N : List (List Int)) : Prop := E.length ≤ 1099511627776 ∧ N.length ≤ 1099511627776 ∧ ∀ x ∈ N, x.length ≤ 1099511627776
end Go.Proofs.YtehdfifncbokeaaGreat
