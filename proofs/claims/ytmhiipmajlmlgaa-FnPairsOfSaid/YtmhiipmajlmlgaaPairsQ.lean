/- Rows that prove that two automata are equal, as they are gone through. No program in sight. -/
import Derived.Test.YtmhiipmajlmlgaaPairsP
namespace Go.Proofs.Ytmhiipmajlmlgaa
set_option linter.unusedSimpArgs false
set_option linter.unusedVariables false
set_option maxRecDepth 8000
set_option maxHeartbeats 2000000
open Go.RowKit

structure HasP (A B : AutoD) (L : List (List Int)) (k : Nat) (K : List (Nat × Nat)) : Prop where
  row : ∀ i (h : i < L.length), i < k → ∃ p ∈ K, L[i] = rowP2 p
  mem : ∀ p ∈ K, rowP2 p ∈ L ∧ p.1 < 2 ^ A.ends.length ∧ p.2 < 2 ^ B.ends.length
  len : K.length ≤ k
section
variable {A B : AutoD} {L : List (List Int)} {k : Nat} {K : List (Nat × Nat)}
theorem HasP.zero : HasP A B L 0 [] := ⟨fun i _ h => by omega, fun p hp => by simp at hp, Nat.le_refl _⟩
theorem HasP.new (h : HasP A B L k K) (hk : k < L.length) {p : Nat × Nat} (e : L[k] = rowP2 p) (b1 : p.1 < 2 ^ A.ends.length) (b2 : p.2 < 2 ^ B.ends.length) : HasP A B L (k + 1) (K ++ [p]) := by
  refine ⟨fun i hi hik => ?_, fun q hq => ?_, by have := h.len; simp; omega⟩
  · rcases Nat.lt_or_ge i k with g | g
    · obtain ⟨q, hq, e2⟩ := h.row i hi g
      exact ⟨q, List.mem_append_left _ hq, e2⟩
    · obtain rfl : i = k := by omega
      exact ⟨p, by simp, e⟩
  · rcases List.mem_append.1 hq with g | g
    · exact h.mem q g
    · rw [List.mem_singleton] at g
      subst g
      exact ⟨e ▸ List.getElem_mem hk, b1, b2⟩
theorem HasP.all (h : HasP A B L L.length K) {p : Nat × Nat} : rowP2 p ∈ L ↔ p ∈ K := by
  constructor
  · intro hp
    obtain ⟨i, hi, e⟩ := List.getElem_of_mem hp
    obtain ⟨q, hq, e2⟩ := h.row i hi hi
    rw [e] at e2
    exact rowP2_inj e2 ▸ hq
  · exact fun hp => (h.mem p hp).1
def GoodR (A B : AutoD) (L : List (List Int)) (k : Nat) : Prop := ∀ i (h : i < L.length), i < k → ∃ p : Nat × Nat, L[i] = rowP2 p ∧ p.1 < 2 ^ A.ends.length ∧ p.2 < 2 ^ B.ends.length ∧ endF A p.1 = endF B p.2 ∧ ∀ m, m < 12 → rowP2 (stepP A B p m) ∈ L
theorem GoodR.zero : GoodR A B L 0 := fun i _ h => by omega
theorem GoodR.next (h : GoodR A B L k) (hk : k < L.length) {p : Nat × Nat} (e : L[k] = rowP2 p) (b1 : p.1 < 2 ^ A.ends.length) (b2 : p.2 < 2 ^ B.ends.length) (hf : endF A p.1 = endF B p.2) (hs : ∀ m, m < 12 → rowP2 (stepP A B p m) ∈ L) : GoodR A B L (k + 1) := fun i hi hik => by
  rcases Nat.lt_or_ge i k with g | g
  · exact h i hi g
  · obtain rfl : i = k := by omega
    exact ⟨p, e, b1, b2, hf, hs⟩
end

theorem pairsL_nil {A B : AutoD} : pairsL A B = [] ↔ (A.ends.length = 0 ∨ B.ends.length = 0) ∨ reachP A B = none := by
  by_cases h : A.ends.length = 0 ∨ B.ends.length = 0
  · exact ⟨fun _ => .inl h, fun _ => pairsL_no h⟩
  · cases hr : reachP A B with
    | none => exact ⟨fun _ => .inr rfl, fun _ => pairsL_many hr⟩
    | some l =>
      rw [pairsL_yes h hr]
      have := prF_mem hr
      constructor
      · intro e
        rw [List.map_eq_nil_iff] at e
        rw [e] at this; cases this
      · rintro (g | g)
        · exact absurd g h
        · cases g

end Go.Proofs.Ytmhiipmajlmlgaa
