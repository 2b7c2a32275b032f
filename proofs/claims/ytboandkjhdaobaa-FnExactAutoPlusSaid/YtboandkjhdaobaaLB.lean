/- The law FnExactAutoBoth, walked by the engine. -/
import Derived.Test.YtboandkjhdaobaaB2
import Derived.Test.YtboandkjhdaobaaGrpF
import Derived.Test.YtboandkjhdaobaaGrpJ
import Derived.Test.YtboandkjhdaobaaEngMin
namespace Go.Proofs.Ytboandkjhdaobaa
set_option linter.unusedSimpArgs false
set_option linter.unusedVariables false
set_option maxRecDepth 8000
set_option maxHeartbeats 2000000
open Go Go.RowKit AV

def twoAutoR (args : List AV) (r : AV) : Prop := ∃ (E F : List Int) (N M : List (List Int)), args = [agg [ints E, rows N], agg [ints F, rows M]] ∧ E.length ≤ 9223372036854775807 ∧ N.length ≤ 9223372036854775807 ∧ (∀ x ∈ N, x.length ≤ 9223372036854775807) ∧ F.length ≤ 9223372036854775807 ∧ M.length ≤ 9223372036854775807 ∧ (∀ x ∈ M, x.length ≤ 9223372036854775807) ∧ r = .bool true

theorem totR_bound : ∀ (ll : List (List Int)) (m : Nat), (∀ x ∈ ll, x.length ≤ m) → totR ll ≤ ll.length * m
  | [], _, _ => by simp [totR]
  | r :: rs, m, h => by
    have h1 := h r (by simp)
    have h2 := totR_bound rs m fun x hx => h x (by simp [hx])
    simp only [totR, List.length_cons, Nat.add_mul, Nat.one_mul]
    omega

end Go.Proofs.Ytboandkjhdaobaa
