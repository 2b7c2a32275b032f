/- What KatValid returns, of the program and of the reference: one contract each, at every list of numbers. -/
import Derived.Test.YtoaelngalnojiaaAuto
import Derived.Test.YtoaelngalnojiaaKatP
namespace Go.Proofs.Ytoaelngalnojiaa
open Go.RowKit

theorem l2Takes_any (n : Int) (w : World) :
    Calls Try.prog 79 #[.int .i64 n] w fun e w' => e = .returned (.int .i64 ((takesN n : Nat) : Int)) ∧ w = w' := by
  by_cases h1 : n = 19
  · subst h1
    go_enter Try.func79, Try.ntmps79
    go_wp2
    go_ret
    exact ⟨rfl, rfl⟩
  by_cases h2 : n = 20
  · subst h2
    go_enter Try.func79, Try.ntmps79
    go_wp2
    go_ret
    exact ⟨rfl, rfl⟩
  by_cases h3 : n = 21
  · subst h3
    go_enter Try.func79, Try.ntmps79
    go_wp2
    go_ret
    exact ⟨rfl, rfl⟩
  have q1 : (n == 19) = false := by rw [beq_eq_false_iff_ne]; exact h1
  have q2 : (n == 20) = false := by rw [beq_eq_false_iff_ne]; exact h2
  have q3 : (n == 21) = false := by rw [beq_eq_false_iff_ne]; exact h3
  have hz : takesN n = 0 := by unfold takesN; rw [if_neg (by omega), if_neg (by omega)]
  have HZ := Lib.hid hz
  clear h1 h2 h3 hz
  go_enter Try.func79, Try.ntmps79
  go_wp2
  go_ret
  exact ⟨ret_int (by rw [HZ.out]; rfl), rfl⟩

theorem takes_any (n : Int) (w : World) :
    Calls Try.prog 81 #[.int .i64 n] w fun e w' => e = .returned (.int .i64 ((takesN n : Nat) : Int)) ∧ w = w' := by
  by_cases h1 : n = 19
  · subst h1
    go_enter Try.func81, Try.ntmps81
    go_wp2
    go_ret
    exact ⟨rfl, rfl⟩
  by_cases h2 : n = 20
  · subst h2
    go_enter Try.func81, Try.ntmps81
    go_wp2
    go_ret
    exact ⟨rfl, rfl⟩
  by_cases h3 : n = 21
  · subst h3
    go_enter Try.func81, Try.ntmps81
    go_wp2
    go_ret
    exact ⟨rfl, rfl⟩
  have q1 : (n == 19) = false := by rw [beq_eq_false_iff_ne]; exact h1
  have q2 : (n == 20) = false := by rw [beq_eq_false_iff_ne]; exact h2
  have q3 : (n == 21) = false := by rw [beq_eq_false_iff_ne]; exact h3
  have hz : takesN n = 0 := by unfold takesN; rw [if_neg (by omega), if_neg (by omega)]
  have HZ := Lib.hid hz
  clear h1 h2 h3 hz
  go_enter Try.func81, Try.ntmps81
  go_wp2
  go_ret
  exact ⟨ret_int (by rw [HZ.out]; rfl), rfl⟩

set_option maxHeartbeats 400000 in
theorem specKatValid (v : Value) (l : List Int) (w : World) (h : IS w.heap.size w v l) :
    Calls Try.prog 52 #[v] w fun e w' => e = .returned (.bool (katB l)) ∧ w = w' := by
  obtain ⟨A, c, rfl, hl, hm, hA⟩ := h
  unfold maxLen at hm
  have HA := Lib.hid hA
  clear hA
  go_enter Try.func52, Try.ntmps52
  go_wp2
  go_loop [3, 4] (fun x i => ∃ k d : Nat, k ≤ l.length ∧ i = .int .i64 k ∧ x = .int .i64 d ∧ depthAt l k d) (fun _ i => l.length - (intOf i).toNat)
  case atStart => exact ⟨0, 0, by omega, rfl, rfl, depthAt_zero l⟩
  case round =>
    obtain ⟨k, d, hk, rfl, rfl, hd⟩ := hrel
    have hdl := depthAt_le hd hk
    have HD := Lib.hid hd
    clear hd
    by_cases hlt : k < l.length
    · obtain ⟨b, o, rfl, hb, hc⟩ := HA.out (by omega)
      have hkc := hc k hlt
      have hki : (k : Int) < (l.length : Int) := by omega
      have htl := takesN_le (nth l k)
      clear hc HA
      by_cases hr : 0 ≤ nth l k ∧ nth l k ≤ 21
      case neg =>
        have hB : inB (nth l k) 0 21 = false := inB_f hr
        go_wp2_with ((go_at_call 47; refine (l1In_any _ _ _ _).mono ?_; rintro e w' ⟨rfl, rfl⟩))
        go_ret
        exact ⟨ret_bool (katB_false.2 (depthAt_fail HD.out hlt (.inl hr))).symm, rfl⟩
      have hB : inB (nth l k) 0 21 = true := inB_t hr
      have hr1 := hr.1
      have hr2 := hr.2
      clear hr
      by_cases ht : takesN (nth l k) ≤ d
      case neg =>
        have ht' : (d : Int) < (takesN (nth l k) : Int) := by omega
        go_wp2_with (first | (go_at_call 47; refine (l1In_any _ _ _ _).mono ?_; rintro e w' ⟨rfl, rfl⟩) | (go_at_call 79; refine (l2Takes_any _ _).mono ?_; rintro e w' ⟨rfl, rfl⟩))
        go_ret
        exact ⟨ret_bool (katB_false.2 (depthAt_fail HD.out hlt (.inr (by omega)))).symm, rfl⟩
      have ht' : ¬ (d : Int) < (takesN (nth l k) : Int) := by omega
      go_wp2_with (first | (go_at_call 47; refine (l1In_any _ _ _ _).mono ?_; rintro e w' ⟨rfl, rfl⟩) | (go_at_call 79; refine (l2Takes_any _ _).mono ?_; rintro e w' ⟨rfl, rfl⟩))
      go_round
      case rel => exact ⟨k + 1, d + 1 - takesN (nth l k), by omega, by go_num, by first | rfl | (congr 1; omega), depthAt_step HD.out hlt hr1 hr2 ht⟩
      case measure => simp [intOf]; omega
    · obtain rfl : k = l.length := by omega
      by_cases h40 : 1 ≤ l.length ∧ l.length ≤ 40
      · have hB : inB (l.length : Int) 1 40 = true := inB_t (by omega)
        have he := depthAt_end HD.out h40.2
        have HE := Lib.hid he
        clear he
        go_wp2_with ((go_at_call 47; refine (l1In_any _ _ _ _).mono ?_; rintro e w' ⟨rfl, rfl⟩))
        go_ret
        exact ⟨ret_bool (by rw [HE.out, Bool.eq_iff_iff, beq_iff_eq, decide_eq_true_eq]; omega), rfl⟩
      · have hB : inB (l.length : Int) 1 40 = false := inB_f (by omega)
        go_wp2_with ((go_at_call 47; refine (l1In_any _ _ _ _).mono ?_; rintro e w' ⟨rfl, rfl⟩))
        go_ret
        refine ⟨ret_bool (katB_false.2 ?_).symm, rfl⟩
        rintro ⟨h1, x, hx⟩
        by_cases h0 : l.length = 0
        · rw [List.eq_nil_of_length_eq_zero h0] at hx
          injection hx with hx
          cases hx
        · omega

set_option maxHeartbeats 400000 in
theorem implKatValid (v : Value) (l : List Int) (w : World) (h : IS w.heap.size w v l) :
    Calls Try.prog 54 #[v] w fun e w' => e = .returned (.bool (katB l)) ∧ w = w' := by
  obtain ⟨A, c, rfl, hl, hm, hA⟩ := h
  unfold maxLen at hm
  have HA := Lib.hid hA
  clear hA
  by_cases hl40 : l.length ≤ 40
  case neg =>
    clear HA
    go_enter Try.func54, Try.ntmps54
    go_wp2
    go_ret
    exact ⟨ret_bool (katB_false.2 fun h => hl40 h.1).symm, rfl⟩
  by_cases hl1 : 1 ≤ l.length
  case neg =>
    clear HA
    have h0 : l = [] := List.eq_nil_of_length_eq_zero (by omega)
    go_enter Try.func54, Try.ntmps54
    go_wp2
    go_ret
    refine ⟨ret_bool (katB_false.2 ?_).symm, rfl⟩
    rintro ⟨_, x, hx⟩
    rw [h0] at hx
    injection hx with hx
    cases hx
  go_enter Try.func54, Try.ntmps54
  go_wp2
  go_loop [3, 16] (fun x i => ∃ k d : Nat, k ≤ l.length ∧ i = .int .i64 k ∧ x = .int .i64 d ∧ depthAt l k d) (fun _ i => l.length - (intOf i).toNat)
  case atStart => exact ⟨0, 0, by omega, rfl, rfl, depthAt_zero l⟩
  case round =>
    obtain ⟨k, d, hk, rfl, rfl, hd⟩ := hrel
    have hdl := depthAt_le hd hk
    have HD := Lib.hid hd
    clear hd
    by_cases hlt : k < l.length
    · obtain ⟨b, o, rfl, hb, hc⟩ := HA.out (by omega)
      have hkc := hc k hlt
      have hki : (k : Int) < (l.length : Int) := by omega
      have htl := takesN_le (nth l k)
      clear hc HA
      by_cases hr : 0 ≤ nth l k ∧ nth l k ≤ 21
      case neg =>
        have hB : inB (nth l k) 0 21 = false := inB_f hr
        by_cases hr0 : 0 ≤ nth l k
        all_goals
          go_wp2
          go_ret
          exact ⟨ret_bool (katB_false.2 (depthAt_fail HD.out hlt (.inl hr))).symm, rfl⟩
      have hB : inB (nth l k) 0 21 = true := inB_t hr
      have hr1 := hr.1
      have hr2 := hr.2
      clear hr
      by_cases ht : takesN (nth l k) ≤ d
      case neg =>
        have ht' : (d : Int) < (takesN (nth l k) : Int) := by omega
        go_wp2_with ((go_at_call 81; refine (takes_any _ _).mono ?_; rintro e w' ⟨rfl, rfl⟩))
        go_ret
        exact ⟨ret_bool (katB_false.2 (depthAt_fail HD.out hlt (.inr (by omega)))).symm, rfl⟩
      have ht' : ¬ (d : Int) < (takesN (nth l k) : Int) := by omega
      go_wp2_with ((go_at_call 81; refine (takes_any _ _).mono ?_; rintro e w' ⟨rfl, rfl⟩))
      go_round
      case rel => exact ⟨k + 1, d + 1 - takesN (nth l k), by omega, by go_num, by first | rfl | (congr 1; omega), depthAt_step HD.out hlt hr1 hr2 ht⟩
      case measure => simp [intOf]; omega
    · obtain rfl : k = l.length := by omega
      have he := depthAt_end HD.out hl40
      have HE := Lib.hid he
      clear he
      go_wp2
      go_ret
      exact ⟨ret_bool (by rw [HE.out, Bool.eq_iff_iff, beq_iff_eq, decide_eq_true_eq]; omega), rfl⟩

end Go.Proofs.Ytoaelngalnojiaa
