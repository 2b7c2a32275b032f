/- What the law of the trimmed automaton asks, plainly. No program in sight. -/
import Derived.Test.YtljoonlcpiagjaaGrpN
import Derived.Test.YtljoonlcpiagjaaS2
import Derived.Test.YtljoonlcpiagjaaGrpQ
namespace Go.Proofs.Ytljoonlcpiagjaa
set_option linter.unusedSimpArgs false
set_option linter.unusedVariables false
set_option maxRecDepth 8000
set_option maxHeartbeats 2000000

theorem cnt_lo {s n : Nat} (h0 : ∀ i, i ≠ 0 → i < n → s.testBit i = true) : ∀ k, k < n → cntN s (k + 1) = bitN s 0 + k
  | 0, _ => by simp [cntN]
  | k + 1, hk => by
    have ih := cnt_lo h0 k (Nat.lt_of_succ_lt hk)
    have hb := bitN_t (h0 (k + 1) (Nat.succ_ne_zero k) hk)
    show cntN s (k + 1) + bitN s (k + 1) = _
    rw [ih, hb]; rfl
theorem cnt_hi {s n : Nat} (hs : s < 2 ^ n) : ∀ j, cntN s (n + j) = cntN s n
  | 0 => rfl
  | j + 1 => by
    have ih := cnt_hi hs j
    have hb := bitN_f (hi_false hs (Nat.le_add_right n j))
    show cntN s (n + j) + bitN s (n + j) = _
    rw [ih, hb]; rfl
theorem cnt_all {s n : Nat} (h1 : 1 ≤ n) (hn : n ≤ 40) (h0 : ∀ i, i ≠ 0 → i < n → s.testBit i = true) (hs : s < 2 ^ n) : cntN s 40 = bitN s 0 + (n - 1) := by
  have e1 := cnt_lo h0 (n - 1) (by omega)
  have e2 := cnt_hi hs (40 - n)
  rw [show n - 1 + 1 = n by omega] at e1
  rw [show n + (40 - n) = 40 by omega] at e2
  rw [e2, e1]
theorem trimD_eq {D : AutoD} (h : AutoOK D) : trimD D = trD D := if_pos h
theorem trim_runB {D : AutoD} (h : AutoOK D) (t : List Int) : runB (trimD D) t = runB D t := by
  rw [trimD_eq h]
  unfold runB
  by_cases ht : TraceOK t
  · rw [if_pos ⟨tr_ok h, ht⟩, if_pos ⟨h, ht⟩, trim_runF h ht (by have := ht.odd; omega)]
  · rw [if_neg (fun h => ht h.2), if_neg (fun h => ht h.2)]
theorem trim_twice {D : AutoD} (h : AutoOK D) : trimD (trimD D) = trimD D := by
  rw [trimD_eq h, trimD_eq (tr_ok h), trim_again h]
theorem trim_law {D : AutoD} (h : AutoOK D) : ∃ L n : Nat, (trimD D).ends.length = n ∧ 1 ≤ n ∧ n ≤ D.ends.length ∧ n ≤ 10 ∧ liveI (trimD D) = (L : Int) ∧ L < 1024 ∧ (cntN L 40 = n ∨ (cntN L 40 = n - 1 ∧ L % 2 = 0)) := by
  have hT := tr_ok h
  have h1 := (kp_zero h).1
  have h2 : (keptL D).length ≤ D.ends.length := ktL_len (keepOf D) D.ends.length
  have h3 := liveF_lt (trD D)
  have h4 : 2 ^ (trD D).ends.length ≤ 2 ^ 10 := Nat.pow_le_pow_right (by omega) hT.hi
  have h5 := hT.hi
  have h6 := cnt_all (s := liveF (trD D)) (n := (keptL D).length) h1 (by rw [tr_len] at h5; omega) (fun i hi hn => trim_lives h hn hi) (by rw [tr_len] at h3; exact h3)
  rw [tr_len] at h5
  refine ⟨liveF (trD D), (keptL D).length, by rw [trimD_eq h, tr_len], h1, h2, h5, by rw [trimD_eq h, liveI_yes hT], Nat.lt_of_lt_of_le h3 h4, ?_⟩
  cases hb : (liveF (trD D)).testBit 0 with
  | true => rw [bitN_t hb] at h6; exact .inl (by omega)
  | false =>
    rw [bitN_f hb] at h6
    refine .inr ⟨by omega, ?_⟩
    rw [Nat.testBit_eq_decide_div_mod_eq] at hb
    have : ¬ liveF (trD D) / 2 ^ 0 % 2 = 1 := by simpa using hb
    simp at this; omega

theorem trimD_bnd (D : AutoD) : (trimD D).ends.length ≤ 10 ∧ (trimD D).next.length ≤ 10 ∧ ∀ x ∈ (trimD D).next, x.length ≤ 12 := by
  by_cases h : AutoOK D
  · have hl := ktL_len (keepOf D) D.ends.length
    have h10 := h.hi
    rw [trimD_yes h]
    refine ⟨by simp only [trimTo, List.length_map]; omega, by simp only [trimTo, List.length_map]; omega, fun x hx => ?_⟩
    obtain ⟨s, _, rfl⟩ := List.mem_map.1 (show x ∈ (ktL (keepOf D) D.ends.length).map _ from hx)
    simp
  · rw [trimD_no h]; simp

end Go.Proofs.Ytljoonlcpiagjaa
