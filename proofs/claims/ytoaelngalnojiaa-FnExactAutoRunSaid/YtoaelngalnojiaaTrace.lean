/- What TraceValid returns, of the program and of the reference: one contract each, at every list of numbers. -/
import Derived.Test.YtoaelngalnojiaaAutoF
import Derived.Test.YtoaelngalnojiaaAutoP2
namespace Go.Proofs.Ytoaelngalnojiaa
open Go.RowKit

set_option maxHeartbeats 400000 in
theorem specTraceValid (v : Value) (t : List Int) (w : World) (h : IS w.heap.size w v t) :
    Calls Try.prog 68 #[v] w fun e w' => e = .returned (.bool (traceOKB t)) ∧ w = w' := by
  obtain ⟨A, c, rfl, hl, hm, hA⟩ := h
  unfold maxLen at hm
  have HA := Lib.hid hA
  clear hA
  go_enter Try.func68, Try.ntmps68
  go_wp2
  go_loop [3] (fun i => ∃ k : Nat, k ≤ t.length ∧ i = .int .i64 k ∧ trTo t k) (fun i => t.length - (intOf i).toNat)
  case atStart => exact ⟨0, by omega, rfl, trTo_zero t⟩
  case round =>
    obtain ⟨k, hk, rfl, hr⟩ := hrel
    have HR := Lib.hid hr
    clear hr
    by_cases hlt : k < t.length
    · obtain ⟨b, o, rfl, hb, hc⟩ := HA.out (by omega)
      have hkc := hc k hlt
      have hki : (k : Int) < (t.length : Int) := by omega
      clear hc HA
      by_cases hpar : k % 2 = 0
      · have q0 : ((k : Int) % 2 == 0) = true := by rw [beq_iff_eq]; omega
        have q1 : ((k : Int) % 2 == 1) = false := by rw [beq_eq_false_iff_ne]; omega
        have HP := Lib.hid hpar
        clear hpar
        by_cases hv : 0 ≤ nth t k ∧ nth t k ≤ 3
        · have hB : inB (nth t k) 0 3 = true := inB_t hv
          have HV := Lib.hid hv
          clear hv
          go_wp2_with ((go_at_call 47; refine (l1In_any _ _ _ _).mono ?_; rintro e w' ⟨rfl, rfl⟩))
          go_round
          case rel => exact ⟨k + 1, by omega, by go_num, trTo_succ HR.out ⟨fun _ => HV.out, fun e => absurd HP.out (by omega)⟩⟩
          case measure => simp [intOf]; omega
        · have hB : inB (nth t k) 0 3 = false := inB_f hv
          have HV := Lib.hid hv
          clear hv
          go_wp2_with ((go_at_call 47; refine (l1In_any _ _ _ _).mono ?_; rintro e w' ⟨rfl, rfl⟩))
          go_ret
          exact ⟨ret_bool (traceOKB_false.2 fun h => HV.out ((h.to k hlt).1 HP.out)).symm, rfl⟩
      · have q0 : ((k : Int) % 2 == 0) = false := by rw [beq_eq_false_iff_ne]; omega
        have q1 : ((k : Int) % 2 == 1) = true := by rw [beq_iff_eq]; omega
        have HP := Lib.hid (show k % 2 = 1 by omega)
        clear hpar
        by_cases hv : 16 ≤ nth t k ∧ nth t k ≤ 18
        · have hB : inB (nth t k) 16 18 = true := inB_t hv
          have HV := Lib.hid hv
          clear hv
          go_wp2_with ((go_at_call 47; refine (l1In_any _ _ _ _).mono ?_; rintro e w' ⟨rfl, rfl⟩))
          go_round
          case rel => exact ⟨k + 1, by omega, by go_num, trTo_succ HR.out ⟨fun e => absurd HP.out (by omega), fun _ => HV.out⟩⟩
          case measure => simp [intOf]; omega
        · have hB : inB (nth t k) 16 18 = false := inB_f hv
          have HV := Lib.hid hv
          clear hv
          go_wp2_with ((go_at_call 47; refine (l1In_any _ _ _ _).mono ?_; rintro e w' ⟨rfl, rfl⟩))
          go_ret
          exact ⟨ret_bool (traceOKB_false.2 fun h => HV.out ((h.to k hlt).2 HP.out)).symm, rfl⟩
    · obtain rfl : k = t.length := by omega
      by_cases hodd : t.length % 2 = 1
      · have q1 : ((t.length : Int) % 2 == 1) = true := by rw [beq_iff_eq]; omega
        have HO := Lib.hid hodd
        clear hodd
        by_cases h41 : t.length ≤ 41
        · go_wp2
          go_ret
          exact ⟨ret_bool (by rw [traceOKB_true.2 (TraceOK.of HO.out h41 HR.out)]; simp; omega), rfl⟩
        · go_wp2
          go_ret
          exact ⟨ret_bool (by rw [traceOKB_false.2 fun h => h41 h.len]; simp; omega), rfl⟩
      · have q1 : ((t.length : Int) % 2 == 1) = false := by rw [beq_eq_false_iff_ne]; omega
        have HO := Lib.hid hodd
        clear hodd
        go_wp2
        go_ret
        exact ⟨ret_bool (traceOKB_false.2 fun h => HO.out h.odd).symm, rfl⟩

set_option maxHeartbeats 400000 in
theorem implTraceValid (v : Value) (t : List Int) (w : World) (h : IS w.heap.size w v t) :
    Calls Try.prog 70 #[v] w fun e w' => e = .returned (.bool (traceOKB t)) ∧ w = w' := by
  obtain ⟨A, c, rfl, hl, hm, hA⟩ := h
  unfold maxLen at hm
  have HA := Lib.hid hA
  clear hA
  by_cases hodd : t.length % 2 = 1
  case neg =>
    have hp : ((t.length : Int) % 2 != 1) = true := by rw [bne_iff_ne]; omega
    clear HA
    go_enter Try.func70, Try.ntmps70
    go_wp2
    go_ret
    exact ⟨ret_bool (traceOKB_false.2 fun h => hodd h.odd).symm, rfl⟩
  have hp : ((t.length : Int) % 2 != 1) = false := by rw [bne_eq_false_iff_eq]; omega
  have HO := Lib.hid hodd
  clear hodd
  by_cases h41 : t.length ≤ 41
  case neg =>
    clear HA
    go_enter Try.func70, Try.ntmps70
    go_wp2
    go_ret
    exact ⟨ret_bool (traceOKB_false.2 fun h => h41 h.len).symm, rfl⟩
  go_enter Try.func70, Try.ntmps70
  go_wp2
  go_loop [16] (fun i => ∃ k : Nat, k ≤ t.length ∧ i = .int .i64 k ∧ trTo t k) (fun i => t.length - (intOf i).toNat)
  case atStart => exact ⟨0, by omega, rfl, trTo_zero t⟩
  case round =>
    obtain ⟨k, hk, rfl, hr⟩ := hrel
    have HR := Lib.hid hr
    clear hr
    by_cases hlt : k < t.length
    · obtain ⟨b, o, rfl, hb, hc⟩ := HA.out (by omega)
      have hkc := hc k hlt
      have hki : (k : Int) < (t.length : Int) := by omega
      clear hc HA
      by_cases hpar : k % 2 = 0
      · have q0 : ((k : Int) % 2 == 0) = true := by rw [beq_iff_eq]; omega
        have q1 : ((k : Int) % 2 == 1) = false := by rw [beq_eq_false_iff_ne]; omega
        have HP := Lib.hid hpar
        clear hpar
        by_cases hv : 0 ≤ nth t k ∧ nth t k ≤ 3
        · have hB : inB (nth t k) 0 3 = true := inB_t hv
          have HV := Lib.hid hv
          clear hv
          go_wp2_with ((go_at_call 60; refine (isAtom_any _ _).mono ?_; rintro e w' ⟨rfl, rfl⟩))
          go_round
          case rel => exact ⟨k + 1, by omega, by go_num, trTo_succ HR.out ⟨fun _ => HV.out, fun e => absurd HP.out (by omega)⟩⟩
          case measure => simp [intOf]; omega
        · have hB : inB (nth t k) 0 3 = false := inB_f hv
          have HV := Lib.hid hv
          clear hv
          go_wp2_with ((go_at_call 60; refine (isAtom_any _ _).mono ?_; rintro e w' ⟨rfl, rfl⟩))
          go_ret
          exact ⟨ret_bool (traceOKB_false.2 fun h => HV.out ((h.to k hlt).1 HP.out)).symm, rfl⟩
      · have q0 : ((k : Int) % 2 == 0) = false := by rw [beq_eq_false_iff_ne]; omega
        have q1 : ((k : Int) % 2 == 1) = true := by rw [beq_iff_eq]; omega
        have HP := Lib.hid (show k % 2 = 1 by omega)
        clear hpar
        by_cases hv : 16 ≤ nth t k ∧ nth t k ≤ 18
        · have hB : inB (nth t k) 16 18 = true := inB_t hv
          have HV := Lib.hid hv
          clear hv
          go_wp2_with ((go_at_call 61; refine (isAct_any _ _).mono ?_; rintro e w' ⟨rfl, rfl⟩))
          go_round
          case rel => exact ⟨k + 1, by omega, by go_num, trTo_succ HR.out ⟨fun e => absurd HP.out (by omega), fun _ => HV.out⟩⟩
          case measure => simp [intOf]; omega
        · have hB : inB (nth t k) 16 18 = false := inB_f hv
          have HV := Lib.hid hv
          clear hv
          go_wp2_with ((go_at_call 61; refine (isAct_any _ _).mono ?_; rintro e w' ⟨rfl, rfl⟩))
          go_ret
          exact ⟨ret_bool (traceOKB_false.2 fun h => HV.out ((h.to k hlt).2 HP.out)).symm, rfl⟩
    · obtain rfl : k = t.length := by omega
      go_wp2
      go_ret
      exact ⟨ret_bool (traceOKB_true.2 (TraceOK.of HO.out h41 HR.out)).symm, rfl⟩

end Go.Proofs.Ytoaelngalnojiaa
