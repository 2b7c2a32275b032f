/- slices.Compare at rows of integers leaves the world alone. -/
import Derived.Test.YtehdfifncbokeaaGreatGrpQ
import Derived.Test.YtehdfifncbokeaaGreatGrpD
namespace Go.Proofs.YtehdfifncbokeaaGreat
set_option linter.unusedSimpArgs false
set_option linter.unusedVariables false
set_option maxRecDepth 8000
set_option maxHeartbeats 2000000
open Go.RowKit

theorem isNaN_any (a : Int) (w : World) : Calls Tryz.prog 96 #[.int .i64 a] w fun e w' => e = .returned (.bool false) ∧ w = w' := by
  have h : (a != a) = false := by simp
  go_enter Tryz.func96, Tryz.ntmps96
  go_wp2
  go_ret
  exact ⟨rfl, rfl⟩

theorem cmpCompare_any (a b : Int) (w : World) : Calls Tryz.prog 85 #[.int .i64 a, .int .i64 b] w fun e w' => e = .returned (.int .i64 (cmpI a b)) ∧ w = w' := by
  by_cases h1 : a < b
  · go_enter Tryz.func85, Tryz.ntmps85
    go_wp2_with ((go_at_call 96; refine (isNaN_any _ _).mono ?_; rintro e w' ⟨rfl, rfl⟩))
    go_ret
    exact ⟨ret_int (by unfold cmpI; rw [if_pos (by omega)]), rfl⟩
  · by_cases h2 : b < a
    · go_enter Tryz.func85, Tryz.ntmps85
      go_wp2_with ((go_at_call 96; refine (isNaN_any _ _).mono ?_; rintro e w' ⟨rfl, rfl⟩))
      go_ret
      exact ⟨ret_int (by unfold cmpI; rw [if_neg (by omega), if_neg (by omega)]), rfl⟩
    · go_enter Tryz.func85, Tryz.ntmps85
      go_wp2_with ((go_at_call 96; refine (isNaN_any _ _).mono ?_; rintro e w' ⟨rfl, rfl⟩))
      go_ret
      exact ⟨ret_int (by unfold cmpI; rw [if_neg (by omega), if_pos (by omega)]), rfl⟩

theorem nth_eq_getElem {l : List Int} {k : Nat} (h : k < l.length) : nth l k = l[k] := nth_getElem h

set_option maxHeartbeats 4000000 in
theorem compare_any (va vb : Value) (l m : List Int) (w : World) (B : Nat) (ha : IS B w va l) (hb : IS B w vb m) :
    Calls Tryz.prog 73 #[va, vb] w fun e w' => e = .returned (.int .i64 (cmpL l m)) ∧ w = w' := by
  obtain ⟨A, c, rfl, hl, hm, hA⟩ := ha
  obtain ⟨A', d, rfl, hl', hm', hB⟩ := hb
  unfold maxLen at hm hm'
  have HA := Lib.hid hA
  have HB := Lib.hid hB
  clear hA hB
  go_enter Tryz.func73, Tryz.ntmps73
  go_wp2
  go_loop [11] (fun i => ∃ k : Nat, k ≤ l.length ∧ k ≤ m.length ∧ i = .int .i64 k ∧ l.take k = m.take k) (fun i => l.length - (intOf i).toNat)
  case atStart => exact ⟨0, by omega, by omega, rfl, rfl⟩
  case round =>
    obtain ⟨k, hk, hk', rfl, hr⟩ := hrel
    have HR := Lib.hid hr
    clear hr
    by_cases hlt : k < l.length
    · obtain ⟨b, o, rfl, hbl, hc⟩ := HA.out (by omega)
      have hkc := hc k hlt
      have hki : (k : Int) < (l.length : Int) := by omega
      clear hc HA
      by_cases hlm : k < m.length
      · obtain ⟨b', o', rfl, hbl', hc'⟩ := HB.out (by omega)
        have hkc' := hc' k hlm
        have hkm : ¬ (k : Int) ≥ (m.length : Int) := by omega
        have hkm2 : (k : Int) < (m.length : Int) := by omega
        clear hc' HB
        have HX := Lib.hid (nth_eq_getElem hlt)
        have HY := Lib.hid (nth_eq_getElem hlm)
        by_cases he : nth l k = nth m k
        · have hz : (cmpI (nth l k) (nth m k) != 0) = false := by unfold cmpI; rw [if_neg (by omega), if_pos he]; rfl
          have HE := Lib.hid he
          clear he
          go_wp2_with ((go_at_call 85; refine (cmpCompare_any _ _ _).mono ?_; rintro e w' ⟨rfl, rfl⟩))
          go_round
          case rel => exact ⟨k + 1, by omega, by omega, by go_num, lex_next hlt hlm HR.out (by rw [← HX.out, ← HY.out]; exact HE.out)⟩
          case measure => simp [intOf]; omega
        · have hz : (cmpI (nth l k) (nth m k) != 0) = true := by
            have h : cmpI (nth l k) (nth m k) = -1 ∨ cmpI (nth l k) (nth m k) = 1 := by
              unfold cmpI
              by_cases h : nth l k < nth m k
              · exact .inl (if_pos h)
              · exact .inr (by rw [if_neg h, if_neg he])
            rcases h with h | h <;> rw [h] <;> rfl
          have HE := Lib.hid he
          clear he
          go_wp2_with ((go_at_call 85; refine (cmpCompare_any _ _ _).mono ?_; rintro e w' ⟨rfl, rfl⟩))
          go_ret
          have hne : ¬ l[k] = m[k] := by rw [← HX.out, ← HY.out]; exact HE.out
          have h1 := lex_ne hlt hlm HR.out hne
          refine ⟨ret_int ?_, rfl⟩
          rw [HX.out, HY.out]
          unfold cmpL cmpI
          rw [h1.1, if_neg h1.2, if_neg hne]
          simp only [decide_eq_true_eq]
      · have hkm : (k : Int) ≥ (m.length : Int) := by omega
        clear HB
        go_wp2
        go_ret
        have h1 := lex_end hk hk' HR.out (.inr (by omega))
        refine ⟨ret_int ?_, rfl⟩
        unfold cmpL
        rw [h1.1, decide_eq_false (by omega), if_neg (by simp), if_neg (fun e => by have := h1.2.1 e; omega)]
    · have hki : ¬ (k : Int) < (l.length : Int) := by omega
      have h1 := lex_end hk hk' HR.out (.inl (by omega))
      have H1 := Lib.hid h1
      clear h1
      by_cases hlm : l.length < m.length
      · have hl2 : (l.length : Int) < (m.length : Int) := by omega
        clear HA HB
        go_wp2
        go_ret
        refine ⟨ret_int ?_, rfl⟩
        unfold cmpL
        rw [H1.out.1, decide_eq_true hlm, if_pos rfl]
      · have hl2 : ¬ (l.length : Int) < (m.length : Int) := by omega
        clear HA HB
        go_wp2
        go_ret
        refine ⟨ret_int ?_, rfl⟩
        unfold cmpL
        rw [H1.out.1, decide_eq_false hlm, if_neg (by simp), if_pos (H1.out.2.2 (by omega))]

end Go.Proofs.YtehdfifncbokeaaGreat
