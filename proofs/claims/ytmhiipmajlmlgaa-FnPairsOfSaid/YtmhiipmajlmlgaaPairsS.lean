/- What the law on pairs says: each comes once, they are closed, and exchanged there are as many. No program in sight. -/
import Derived.Test.YtmhiipmajlmlgaaPairsQ
namespace Go.Proofs.Ytmhiipmajlmlgaa
set_option linter.unusedSimpArgs false
set_option linter.unusedVariables false
set_option maxRecDepth 8000
set_option maxHeartbeats 2000000
open Go.RowKit

theorem pairsL_some {A B : AutoD} (h : pairsL A B ≠ []) : A.ends.length ≠ 0 ∧ B.ends.length ≠ 0 ∧ ∃ l, reachP A B = some l ∧ pairsL A B = l.map rowP2 := by
  have h1 : ¬ ((A.ends.length = 0 ∨ B.ends.length = 0) ∨ reachP A B = none) := fun g => h (pairsL_nil.2 g)
  cases hr : reachP A B with
  | none => exact absurd (.inr hr) h1
  | some l => exact ⟨fun g => h1 (.inl (.inl g)), fun g => h1 (.inl (.inr g)), l, rfl, pairsL_yes (fun g => h1 (.inl g)) hr⟩
theorem pairs_row {A B : AutoD} {k : Nat} (hk : k < (pairsL A B).length) : ∃ p : Nat × Nat, (pairsL A B)[k] = rowP2 p ∧ (pairsL A B)[k] ∉ (pairsL A B).take k ∧ ∀ m, m < 12 → rowP2 (stepP A B p m) ∈ pairsL A B := by
  obtain ⟨_, _, l, hr, e⟩ := pairsL_some (A := A) (B := B) fun h => by rw [h] at hk; simp at hk
  generalize pairsL A B = P at hk e ⊢
  subst e
  have hk' : k < l.length := by simpa using hk
  refine ⟨l[k], by simp, fun hm => ?_, fun m hm => List.mem_map.2 ⟨_, prF_closed hr (List.getElem_mem hk') hm, rfl⟩⟩
  obtain ⟨i, hi, e⟩ := List.getElem_of_mem hm
  have hik : i < k := by simp at hi; omega
  have hnd : l.Nodup := (prF_at hr).nd
  rw [List.getElem_take, List.getElem_map, List.getElem_map] at e
  exact List.pairwise_iff_getElem.1 hnd i k (by omega) hk' hik (rowP2_inj e)
def swp (p : Nat × Nat) : Nat × Nat := (p.2, p.1)
theorem pairs_swap (A B : AutoD) : (pairsL B A).length = (pairsL A B).length := by
  have hs : reachP B A = (reachP A B).map fun r => r.map swp := prI_map (stp := stepP A B) (stq := stepP B A) (g := swp) (fun x y h => by
    simp only [swp, Prod.mk.injEq] at h
    exact Prod.ext h.2 h.1) (fun _ _ => rfl) 101 [(1, 1)] 0
  by_cases h : A.ends.length = 0 ∨ B.ends.length = 0
  · rw [pairsL_no h, pairsL_no (by rcases h with h | h; exact .inr h; exact .inl h)]
  · have h' : ¬ (B.ends.length = 0 ∨ A.ends.length = 0) := fun g => h (by rcases g with g | g; exact .inr g; exact .inl g)
    cases hr : reachP A B with
    | none => rw [pairsL_many hr, pairsL_many (by rw [hs, hr]; rfl)]
    | some l => rw [pairsL_yes h hr, pairsL_yes h' (l := l.map swp) (by rw [hs, hr]; rfl)]; simp

end Go.Proofs.Ytmhiipmajlmlgaa
