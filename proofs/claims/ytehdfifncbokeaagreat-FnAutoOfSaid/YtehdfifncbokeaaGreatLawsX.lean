/- What the laws on parts say, plainly. No program in sight. -/
import Derived.Test.YtehdfifncbokeaaGreatGrpC
namespace Go.Proofs.YtehdfifncbokeaaGreat
set_option linter.unusedSimpArgs false
set_option linter.unusedVariables false
set_option maxRecDepth 8000
set_option maxHeartbeats 2000000
open Go.RowKit

theorem allL_self (e : List Int) : e ∈ allL e := List.mem_of_getElem? (allL_head e)

theorem mem_stepS {s : LL} {atom : Nat} {act : Int} {q : List Int} : q ∈ stepS s atom act ↔ ∃ p ∈ s, q ∈ partsOfL atom act p := by
  unfold stepS
  rw [mem_ordL, List.mem_flatMap]
theorem TraceOK.cons {t : List Int} (h : TraceOK t) {atom : Nat} {act : Int} (ha : atom < 4) (hc : 16 ≤ act ∧ act ≤ 18) (hl : t.length ≤ 39) : TraceOK ((atom : Int) :: act :: t) := by
  have h0 : ∀ i, nth ((atom : Int) :: act :: t) (i + 2) = nth t i := fun i => by simp [nth]
  refine ⟨by have := h.odd; simp only [List.length_cons]; omega, by simp only [List.length_cons]; omega, fun k hk => ?_, fun k hk => ?_⟩
  · simp only [List.length_cons] at hk
    cases k with
    | zero => show 0 ≤ (atom : Int) ∧ (atom : Int) ≤ 3; omega
    | succ k => rw [show 2 * (k + 1) = 2 * k + 2 by omega, h0]; exact h.atoms k (by omega)
  · simp only [List.length_cons] at hk
    cases k with
    | zero => exact hc
    | succ k => rw [show 2 * (k + 1) + 1 = 2 * k + 1 + 2 by omega, h0]; exact h.acts k (by omega)
end Go.Proofs.YtehdfifncbokeaaGreat
