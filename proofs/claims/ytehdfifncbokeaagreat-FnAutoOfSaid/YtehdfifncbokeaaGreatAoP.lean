/- The automaton of an expression has its traces. No program in sight. -/
import Derived.Test.YtehdfifncbokeaaGreatLangP
import Derived.Test.YtehdfifncbokeaaGreatGrpR
import Derived.Test.YtehdfifncbokeaaGreatGrpN
import Derived.Test.YtehdfifncbokeaaGreatLawsX
import Derived.Test.YtehdfifncbokeaaGreatGrpL
namespace Go.Proofs.YtehdfifncbokeaaGreat
set_option linter.unusedSimpArgs false
set_option linter.unusedVariables false
set_option maxRecDepth 8000
set_option maxHeartbeats 2000000
open Go.RowKit

theorem setTo_all {x : Ex} (hx : x.wf) (h40 : x.steps.length ≤ 40) {t : List Int} (ht : TraceOK t) : ∀ k, k ≤ t.length / 2 → ∀ p ∈ setTo x.steps t k, p ∈ allL x.steps
  | 0, _, p, hp => by
    simp only [setTo, List.mem_singleton] at hp
    subst hp
    exact allL_self _
  | k + 1, hk, p, hp => by
    rw [setTo, mem_stepS] at hp
    obtain ⟨q, hq, hpq⟩ := hp
    have hq' := setTo_all hx h40 ht k (by omega) q hq
    have hat := ht.trV.1 k (by omega)
    have hac := ht.trV.2 k (by omega)
    obtain ⟨hm, hm12⟩ := ht.mv (j := k) (by have := ht.odd; omega)
    refine allL_closed hx h40 hq' hm12 ?_
    have e1 : mvN t k / 3 = (nth t (2 * k)).toNat := by omega
    have e2 : (16 : Int) + ((mvN t k % 3 : Nat) : Int) = nth t (2 * k + 1) := by omega
    rw [e1, e2]; exact hpq
theorem run_set {x : Ex} (hx : x.wf) (h40 : x.steps.length ≤ 40) {t : List Int} (ht : TraceOK t) : ∀ k, k ≤ t.length / 2 → ∀ j, (runT (autoL (allL x.steps)) t k).testBit j = true ↔ ∃ h : j < (allL x.steps).length, (allL x.steps)[j] ∈ setTo x.steps t k
  | 0, _, j => by
    have hnd := allL_nodup x.steps
    have hhd : (allL x.steps)[0]? = some x.steps := allL_head _
    simp only [runT, setTo, List.mem_singleton]
    rw [one_bit]
    constructor
    · rintro rfl
      obtain ⟨h, e⟩ := List.getElem?_eq_some_iff.1 hhd
      exact ⟨h, e⟩
    · rintro ⟨h, e⟩
      obtain ⟨h0, e0⟩ := List.getElem?_eq_some_iff.1 hhd
      by_cases hj : j = 0
      · exact hj
      · exfalso
        exact List.pairwise_iff_getElem.1 hnd 0 j h0 h (by omega) (e0.trans e.symm)
  | k + 1, hk, j => by
    have ih := run_set hx h40 ht k (by omega)
    have hV := ht.trV
    have hat := hV.1 k (by omega)
    have hac := hV.2 k (by omega)
    obtain ⟨hm, hm12⟩ := ht.mv (j := k) (by have := ht.odd; omega)
    have hsl := (setTo_left hx ht k (by have := ht.odd; omega)).1
    have hleft : ∀ u, leftM u (mvN t k) = partsOfL (nth t (2 * k)).toNat (nth t (2 * k + 1)) u := fun u => by
      unfold leftM
      have e1 : mvN t k / 3 = (nth t (2 * k)).toNat := by omega
      have e2 : (16 : Int) + ((mvN t k % 3 : Nat) : Int) = nth t (2 * k + 1) := by omega
      rw [e1, e2]
    rw [runT, behF_bit]
    simp only [autoL_len]
    constructor
    · rintro ⟨i, hi, h1, h2⟩
      obtain ⟨hj, h3⟩ := (autoL_bit hi hm12).1 h2
      obtain ⟨_, h4⟩ := (ih i).1 h1
      refine ⟨hj, ?_⟩
      rw [setTo, mem_stepS]
      rw [hleft] at h3
      exact ⟨_, h4, h3⟩
    · rintro ⟨hj, h⟩
      rw [setTo, mem_stepS] at h
      obtain ⟨p, hp, hq⟩ := h
      have hpl : p ∈ allL x.steps := setTo_all hx h40 ht k (by omega) p hp
      obtain ⟨i, hi, rfl⟩ := List.getElem_of_mem hpl
      refine ⟨i, hi, (ih i).2 ⟨hi, hp⟩, (autoL_bit hi hm12).2 ⟨hj, ?_⟩⟩
      rw [hleft]; exact hq

theorem run_trc {e : List Int} (hn : (autD e).ends.length ≠ 0) (t : List Int) : runB (autD e) t = trcB e t := by
  have hc : katB e = true ∧ (allL e).length ≤ 10 := Classical.byContradiction fun h => hn (by rw [autD_no h]; rfl)
  have hok : AutoOK (autD e) := autD_ok (katB_true.1 hc.1) hn
  rw [← trb_trc]
  obtain ⟨x, hw, rfl, h40⟩ := katB_tree hc.1
  rw [autD_yes hc.1 hc.2] at hok ⊢
  by_cases ht : TraceOK t
  · unfold runB
    rw [if_pos ⟨hok, ht⟩, Bool.eq_iff_iff, trbB_true, runF, endF_bit]
    simp only [autoL_len]
    have hrs := run_set hw h40 ht (t.length / 2) (Nat.le_refl _)
    constructor
    · rintro ⟨i, hi, h1, h2⟩
      obtain ⟨_, h3⟩ := (hrs i).1 h1
      rw [autoL_ends hi] at h2
      exact ⟨hc.1, ht, _, h3, h2⟩
    · rintro ⟨_, _, p, hp, h2⟩
      obtain ⟨i, hi, rfl⟩ := List.getElem_of_mem (setTo_all hw h40 ht _ (Nat.le_refl _) p hp)
      exact ⟨i, hi, (hrs i).2 ⟨hi, hp⟩, by rw [autoL_ends hi]; exact h2⟩
  · unfold runB
    rw [if_neg (fun h => ht h.2)]
    exact (trbB_false.2 fun h => ht h.2.1).symm

end Go.Proofs.YtehdfifncbokeaaGreat
