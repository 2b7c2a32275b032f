/- What the law on shortest traces says, plainly. No program in sight. -/
import Derived.Test.YtljoonlcpiagjaaGrpC
import Derived.Test.YtljoonlcpiagjaaGrpN
namespace Go.Proofs.Ytljoonlcpiagjaa
set_option linter.unusedSimpArgs false
set_option linter.unusedVariables false
set_option maxRecDepth 8000
set_option maxHeartbeats 2000000
open Go.RowKit

theorem live_back {D : AutoD} : ∀ n c, (∃ k, k < D.ends.length ∧ (stA (behF D) 1 n c).testBit k = true ∧ (liveF D).testBit k = true) → (liveF D).testBit 0 = true
  | 0, c, ⟨k, hk, h1, h2⟩ => by
    have h3 : (1 : Nat).testBit k = true := h1
    have : k = 0 := by
      rw [show (1 : Nat) = 2 ^ 0 from rfl, Nat.testBit_two_pow, decide_eq_true_eq] at h3
      omega
    subst this; exact h2
  | n + 1, c, ⟨k, hk, h1, h2⟩ => by
    have h3 : (behT D (stA (behF D) 1 n (c / 12)) (c % 12) D.ends.length).testBit k = true := h1
    obtain ⟨i, hi, h4, h5⟩ := (behT_testBit D _ _ k _).1 h3
    exact live_back n (c / 12) ⟨i, hi, h4, live_next hi (by omega) h5 h2⟩
theorem acc_live {D : AutoD} {n c : Nat} (h : AccW (behF D) 1 (endF D) n c) : (liveF D).testBit 0 = true := by
  obtain ⟨i, hi, h4, h5⟩ := (endT_testBit D _ _ D.ends.length).1 h.2
  exact live_back n (c / 4) ⟨i, hi, h4, live_end hi (by
    rcases Nat.eq_zero_or_pos (endsN D i) with e | e
    · rw [e] at h5; simp at h5
    · exact e)⟩

theorem runT_wd (D : AutoD) : ∀ n c (rest : List Int), runT D (wdL n c ++ rest) n = stA (behF D) 1 n c
  | 0, _, _ => rfl
  | n + 1, c, rest => by
    have e : wdL (n + 1) c ++ rest = wdL n (c / 12) ++ ([((c % 12 / 3 : Nat) : Int), ((16 + c % 12 % 3 : Nat) : Int)] ++ rest) := by rw [wdL, List.append_assoc]
    rw [e, runT, runT_wd D n (c / 12)]
    have hl := wdL_len n (c / 12)
    have h0 : nth (wdL n (c / 12) ++ ([((c % 12 / 3 : Nat) : Int), ((16 + c % 12 % 3 : Nat) : Int)] ++ rest)) (2 * n) = ((c % 12 / 3 : Nat) : Int) := by
      have := nth_right (wdL n (c / 12)) ([((c % 12 / 3 : Nat) : Int), ((16 + c % 12 % 3 : Nat) : Int)] ++ rest) 0
      rw [hl] at this
      exact this
    have h1 : nth (wdL n (c / 12) ++ ([((c % 12 / 3 : Nat) : Int), ((16 + c % 12 % 3 : Nat) : Int)] ++ rest)) (2 * n + 1) = ((16 + c % 12 % 3 : Nat) : Int) := by
      have := nth_right (wdL n (c / 12)) ([((c % 12 / 3 : Nat) : Int), ((16 + c % 12 % 3 : Nat) : Int)] ++ rest) 1
      rw [hl] at this
      exact this
    have hm : mvN (wdL n (c / 12) ++ ([((c % 12 / 3 : Nat) : Int), ((16 + c % 12 % 3 : Nat) : Int)] ++ rest)) n = c % 12 := by
      unfold mvN; rw [h0, h1]; omega
    rw [hm]; rfl
theorem runF_trc (D : AutoD) (n c : Nat) : runF D (trcL n c) = (endF D (stA (behF D) 1 n (c / 4))).testBit (c % 4) := by
  unfold runF
  have hl := trcL_len n c
  have h1 : (trcL n c).length / 2 = n := by omega
  have h2 : (trcL n c).length - 1 = (wdL n (c / 4)).length + 0 := by rw [wdL_len]; omega
  rw [h1, h2]
  show (endF D (runT D (wdL n (c / 4) ++ [((c % 4 : Nat) : Int)]) n)).testBit (nth (wdL n (c / 4) ++ [((c % 4 : Nat) : Int)]) ((wdL n (c / 4)).length + 0)).toNat = _
  rw [runT_wd, nth_right]
  show (endF D (stA (behF D) 1 n (c / 4))).testBit ((c % 4 : Nat) : Int).toNat = _
  rw [Int.toNat_natCast]

theorem wd_trTo : ∀ n c, trTo (wdL n c) (2 * n)
  | 0, _ => trTo_zero _
  | n + 1, c => by
    have ih := wd_trTo n (c / 12)
    have hl := wdL_len n (c / 12)
    intro i hi
    rw [wdL]
    by_cases h : i < 2 * n
    · rw [nth_left (by omega)]; exact ih i h
    · have : i = (wdL n (c / 12)).length + 0 ∨ i = (wdL n (c / 12)).length + 1 := by omega
      rcases this with e | e
      · rw [e, nth_right]
        show (_ → 0 ≤ ((c % 12 / 3 : Nat) : Int) ∧ ((c % 12 / 3 : Nat) : Int) ≤ 3) ∧ (_ → _)
        exact ⟨fun _ => ⟨by omega, by omega⟩, fun h => by omega⟩
      · rw [e, nth_right]
        show (_ → _) ∧ (_ → 16 ≤ ((16 + c % 12 % 3 : Nat) : Int) ∧ ((16 + c % 12 % 3 : Nat) : Int) ≤ 18)
        exact ⟨fun h => by omega, fun _ => ⟨by omega, by omega⟩⟩
theorem trc_ok {n c : Nat} (h : n ≤ 20) : TraceOK (trcL n c) := by
  have hl := trcL_len n c
  have hw := wdL_len n (c / 4)
  refine TraceOK.of (by omega) (by omega) ?_
  intro i hi
  unfold trcL at *
  by_cases g : i < 2 * n
  · rw [nth_left (by omega)]; exact wd_trTo n _ i g
  · have : i = (wdL n (c / 4)).length + 0 := by omega
    rw [this, nth_right]
    show (_ → 0 ≤ ((c % 4 : Nat) : Int) ∧ ((c % 4 : Nat) : Int) ≤ 3) ∧ (_ → _)
    exact ⟨fun _ => ⟨by omega, by omega⟩, fun h => by omega⟩
theorem take_wd {u : List Int} (h : TraceOK u) : ∀ j, 2 * j < u.length → ∃ c, c < 12 ^ j ∧ u.take (2 * j) = wdL j c
  | 0, _ => ⟨0, by simp, by simp [wdL]⟩
  | j + 1, hj => by
    obtain ⟨c, hc, e⟩ := take_wd h j (by omega)
    have h0 := h.atoms j (by omega)
    have h1 := h.acts j (by omega)
    have g0 : nth u (2 * j) = u[2 * j]'(by omega) := by simp [nth, List.getD, show 2 * j < u.length by omega]
    have g1 : nth u (2 * j + 1) = u[2 * j + 1]'(by omega) := by simp [nth, List.getD, show 2 * j + 1 < u.length by omega]
    rw [g0] at h0
    rw [g1] at h1
    obtain ⟨a, ha⟩ : ∃ a : Nat, u[2 * j]'(by omega) = (a : Int) := ⟨(u[2 * j]'(by omega)).toNat, by omega⟩
    obtain ⟨b, hb⟩ : ∃ b : Nat, u[2 * j + 1]'(by omega) = ((16 + b : Nat) : Int) := ⟨(u[2 * j + 1]'(by omega) - 16).toNat, by omega⟩
    rw [ha] at h0
    rw [hb] at h1
    refine ⟨c * 12 + (3 * a + b), by rw [Nat.pow_succ]; omega, ?_⟩
    rw [wdL_succ _ _ _ (by omega), ← e, show (3 * a + b) / 3 = a by omega, show (3 * a + b) % 3 = b by omega]
    rw [show 2 * (j + 1) = 2 * j + 1 + 1 by omega, List.take_succ_eq_append_getElem (by omega), List.take_succ_eq_append_getElem (by omega), ha, hb, List.append_assoc]
    rfl
theorem trace_code {u : List Int} (h : TraceOK u) : ∃ n c, n ≤ 20 ∧ c < 12 ^ n * 4 ∧ u = trcL n c := by
  have ho := h.odd
  have hl := h.len
  obtain ⟨c, hc, e⟩ := take_wd h (u.length / 2) (by omega)
  have h0 := h.atoms (u.length / 2) (by omega)
  have g0 : nth u (2 * (u.length / 2)) = u[2 * (u.length / 2)]'(by omega) := by simp [nth, List.getD, show 2 * (u.length / 2) < u.length by omega]
  rw [g0] at h0
  obtain ⟨a, ha⟩ : ∃ a : Nat, u[2 * (u.length / 2)]'(by omega) = (a : Int) := ⟨(u[2 * (u.length / 2)]'(by omega)).toNat, by omega⟩
  rw [ha] at h0
  refine ⟨u.length / 2, c * 4 + a, by omega, by omega, ?_⟩
  rw [trcL_mk _ _ _ (by omega), ← e, ← ha]
  have h5 := List.take_succ_eq_append_getElem (l := u) (i := 2 * (u.length / 2)) (by omega)
  rw [← h5, List.take_of_length_le (by omega)]
theorem runB_acc {D : AutoD} {u : List Int} (h : runB D u = true) : AutoOK D ∧ ∃ n c, n ≤ 20 ∧ u = trcL n c ∧ AccW (behF D) 1 (endF D) n c := by
  unfold runB at h
  split at h
  · rename_i hh
    obtain ⟨n, c, h1, h2, rfl⟩ := trace_code hh.2
    rw [runF_trc] at h
    exact ⟨hh.1, n, c, h1, rfl, h2, h⟩
  · cases h
theorem acc_runB {D : AutoD} (hD : AutoOK D) {n c : Nat} (hn : n ≤ 20) (h : AccW (behF D) 1 (endF D) n c) : runB D (trcL n c) = true := by
  unfold runB
  rw [if_pos ⟨hD, trc_ok hn⟩, runF_trc]
  exact h.2
theorem sh_least {D : AutoD} {t : List Int} {ok : Bool} (hs : ShR (behF D) 1 (endF D) t ok) {u : List Int} (h : runB D u = true) : ok = true ∧ ¬ u.length < t.length ∧ ¬ (u.length = t.length ∧ lexLt u t = true) := by
  obtain ⟨hD, n, c, hn, rfl, ha⟩ := runB_acc h
  rcases hs with ⟨rfl, m, d, hm, hd, rfl⟩ | ⟨rfl, rfl, hno⟩
  · refine ⟨rfl, ?_, ?_⟩
    · rw [trcL_len, trcL_len]
      intro hl
      exact hd.2.1 n (by omega) c ha
    · rw [trcL_len, trcL_len]
      rintro ⟨hl, hx⟩
      obtain rfl : n = m := by omega
      rw [trcL_lt n ha.1 hd.1.1, decide_eq_true_eq] at hx
      have := hd.2.2 c ha
      omega
  · exact absurd ha (hno n (by omega) c)
theorem sh_run {D : AutoD} (hD : AutoOK D) {t : List Int} (hs : ShR (behF D) 1 (endF D) t true) : runB D t = true := by
  rcases hs with ⟨_, m, d, hm, hd, rfl⟩ | ⟨h, _, _⟩
  · exact acc_runB hD hm hd.1
  · cases h
theorem sh_live {D : AutoD} {t : List Int} (hs : ShR (behF D) 1 (endF D) t true) : (liveF D).testBit 0 = true := by
  rcases hs with ⟨_, m, d, hm, hd, rfl⟩ | ⟨h, _, _⟩
  · exact acc_live hd.1
  · cases h
end Go.Proofs.Ytljoonlcpiagjaa
