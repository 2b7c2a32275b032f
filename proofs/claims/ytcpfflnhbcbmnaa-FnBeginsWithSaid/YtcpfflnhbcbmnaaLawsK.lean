/- Beginnings: an action that is told is a step of the expression. No program in sight. -/
import Derived.Test.YtcpfflnhbcbmnaaGrpC
namespace Go.Proofs.Ytcpfflnhbcbmnaa
set_option linter.unusedSimpArgs false
set_option linter.unusedVariables false
set_option maxRecDepth 8000
set_option maxHeartbeats 2000000

theorem partsX_step {atom : Nat} {act : Int} : ∀ {x : Ex}, partsX atom act x ≠ [] → act ∈ x.steps
  | .leaf n, h => by
    unfold partsX at h
    split at h
    · rename_i hn; simp [Ex.steps, hn]
    · exact absurd rfl h
  | .pls a b, h => by
    by_cases ha : partsX atom act a = []
    · have hb : partsX atom act b ≠ [] := fun hb => h (by simp [partsX, ha, hb])
      simp [Ex.steps, partsX_step hb]
    · simp [Ex.steps, partsX_step ha]
  | .thn a b, h => by
    by_cases ha : partsX atom act a = []
    · have hb : partsX atom act b ≠ [] := fun hb => h (by simp [partsX, ha, hb])
      simp [Ex.steps, partsX_step hb]
    · simp [Ex.steps, partsX_step ha]
  | .str a, h => by
    have ha : partsX atom act a ≠ [] := fun ha => h (by simp [partsX, ha])
    simp [Ex.steps, partsX_step ha]

theorem begD_law (e : List Int) (atom : Int) : begD e atom = -1 ∨ ∃ s : Nat, s < 8 ∧ begD e atom = (s : Int) ∧ ∀ c : Nat, c < 3 → s.testBit c = decide ((partsOfD e atom (16 + (c : Int))).length ≠ 0) ∧ (s.testBit c = true → (16 + (c : Int)) ∈ e) := by
  by_cases h : katB e = true ∧ (0 ≤ atom ∧ atom ≤ 3)
  · refine .inr ⟨begTo atom.toNat e 3, sumB_lt _ 3, if_pos h, fun c hc => ?_⟩
    have h1 : (begTo atom.toNat e 3).testBit c = decide ((partsOfL atom.toNat (16 + (c : Int)) e).length ≠ 0) := by
      rw [begTo, sumB_testBit, decide_eq_true hc, Bool.true_and]; rfl
    have h2 : partsOfD e atom (16 + (c : Int)) = partsOfL atom.toNat (16 + (c : Int)) e := if_pos ⟨h.1, h.2, by omega, by omega⟩
    refine ⟨by rw [h1, h2], fun hb => ?_⟩
    rw [h1, decide_eq_true_eq] at hb
    obtain ⟨x, hw, rfl, _⟩ := katB_tree h.1
    rw [partsOfL_steps hw] at hb
    refine partsX_step (atom := atom.toNat) fun hx => hb ?_
    rw [partsL, hx]
    rfl
  · exact .inl (if_neg h)

end Go.Proofs.Ytcpfflnhbcbmnaa
