/- Bounds of what the laws compare. -/
import Derived.Test.YtkibemgdncncoaaG1
import Derived.Test.YtkibemgdncncoaaGrpF
namespace Go.Proofs.Ytkibemgdncncoaa
set_option linter.unusedSimpArgs false
set_option linter.unusedVariables false
set_option maxRecDepth 8000
set_option maxHeartbeats 2000000

theorem partsOfD_bd (e : List Int) (atom act : Int) : (partsOfD e atom act).length ≤ 1048576 ∧ ∀ x ∈ partsOfD e atom act, x.length ≤ 1048576 := by
  by_cases h : katB e = true ∧ (0 ≤ atom ∧ atom ≤ 3) ∧ (16 ≤ act ∧ act ≤ 18)
  · obtain ⟨x, hw, rfl, h40⟩ := katB_tree h.1
    rw [partsOfD_yes hw h.1 h.2.1 h.2.2]
    have h1 := partsL_count (atom := atom.toNat) h.2.2.1 x
    have h2 := actsX_len x
    refine ⟨by omega, fun t ht => ?_⟩
    obtain ⟨p, hp, rfl⟩ := mem_partsL.1 ht
    have h3 := partsX_steps h.2.2.1 x hp
    have h4 := Nat.mul_le_mul h40 h40
    omega
  · rw [partsOfD_no h]; simp
theorem totR_bound' : ∀ (ll : List (List Int)) (m : Nat), (∀ x ∈ ll, x.length ≤ m) → totR ll ≤ ll.length * m
  | [], _, _ => by simp [totR]
  | r :: rs, m, h => by
    have h1 := h r (by simp)
    have h2 := totR_bound' rs m fun x hx => h x (by simp [hx])
    simp only [totR, List.length_cons, Nat.add_mul, Nat.one_mul]
    omega
theorem autoL_bd (l : LL) (h : l.length ≤ 10) : (autoL l).ends.length ≤ 1048576 ∧ (autoL l).next.length ≤ 1048576 ∧ ∀ x ∈ (autoL l).next, x.length ≤ 1048576 := by
  have h1 : (autoL l).ends.length = l.length := by simp [autoL, endsM]
  have h2 : (autoL l).next = l.map fun t => rowM l t 12 := rfl
  refine ⟨by omega, by rw [h2, List.length_map]; omega, fun x hx => ?_⟩
  rw [h2] at hx
  obtain ⟨t, _, rfl⟩ := List.mem_map.1 hx
  rw [rowM_len]; omega
theorem autD_bd (e : List Int) : (autD e).ends.length ≤ 1048576 ∧ (autD e).next.length ≤ 1048576 ∧ ∀ x ∈ (autD e).next, x.length ≤ 1048576 := by
  by_cases h : katB e = true ∧ (allL e).length ≤ 10
  · rw [autD_yes h.1 h.2]
    exact autoL_bd _ h.2
  · rw [autD_no h]; simp

end Go.Proofs.Ytkibemgdncncoaa
