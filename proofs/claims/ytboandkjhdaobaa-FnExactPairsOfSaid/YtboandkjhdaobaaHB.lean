/- Bounds of what the laws compare. -/
import Derived.Test.YtboandkjhdaobaaG1
import Derived.Test.YtboandkjhdaobaaGrpF
namespace Go.Proofs.Ytboandkjhdaobaa
set_option linter.unusedSimpArgs false
set_option linter.unusedVariables false
set_option maxRecDepth 8000
set_option maxHeartbeats 2000000

theorem totR_bound' : ∀ (ll : List (List Int)) (m : Nat), (∀ x ∈ ll, x.length ≤ m) → totR ll ≤ ll.length * m
  | [], _, _ => by simp [totR]
  | r :: rs, m, h => by
    have h1 := h r (by simp)
    have h2 := totR_bound' rs m fun x hx => h x (by simp [hx])
    simp only [totR, List.length_cons, Nat.add_mul, Nat.one_mul]
    omega
end Go.Proofs.Ytboandkjhdaobaa
