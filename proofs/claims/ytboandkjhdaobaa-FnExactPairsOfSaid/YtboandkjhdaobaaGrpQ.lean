/- What AutoValid returns, of the program and of the reference: one contract each, at every argument that reads as an automaton. -/
import Derived.Test.YtboandkjhdaobaaChecked
import Derived.Test.YtboandkjhdaobaaGrpA
import Derived.WalkSmall
import Derived.Test.YtboandkjhdaobaaGrpC
import Derived.Deep.RegionHeld3
namespace Go.Proofs.Ytboandkjhdaobaa
set_option linter.unusedSimpArgs false
set_option linter.unusedVariables false
set_option maxRecDepth 8000
set_option maxHeartbeats 2000000
open Go.RowKit

def inB (n lo hi : Int) : Bool := decide (lo ≤ n ∧ n ≤ hi)
end Go.Proofs.Ytboandkjhdaobaa

namespace Go.Proofs.Ytboandkjhdaobaa
set_option linter.unusedSimpArgs false
set_option linter.unusedVariables false
set_option maxRecDepth 8000
set_option maxHeartbeats 2000000
open Go.RowKit

theorem l1Bit_any (s k : Nat) (hk : k < 64) (w : World) :
    Calls Try.prog 131 #[.int .i64 s, .int .i64 k] w fun e w' => e = .returned (.int .i64 (bitN s k)) ∧ w = w' := by
  go_enter Try.func131, Try.ntmps131
  go_wp2
  go_ret
  refine ⟨ret_int ?_, rfl⟩
  rw [← bitN_eq, shr_nat]
  exact Int.tmod_eq_emod_of_nonneg (Int.natCast_nonneg _)

set_option maxHeartbeats 400000 in
theorem l1Both_any (a b : Nat) (ha : a < 1048576) (w : World) :
    Calls Try.prog 143 #[.int .i64 a, .int .i64 b] w fun e w' => e = .returned (.int .i64 ((a &&& b : Nat) : Int)) ∧ w = w' := by
  have hx : (a &&& b) ≤ a := Nat.and_le_left
  go_enter Try.func143, Try.ntmps143
  go_wp2
  go_loop [5, 6] (fun x i => ∃ k : Nat, k ≤ 20 ∧ i = .int .i64 k ∧ x = .int .i64 (lowN (a &&& b) k)) (fun _ i => 21 - (intOf i).toNat)
  case atStart => exact ⟨0, by omega, rfl, by simp [lowN_zero]⟩
  case round =>
    obtain ⟨k, hk, rfl, rfl⟩ := hrel
    have hpb := pow_bd20 hk
    have hpi := pow_int k
    have hw : IntKind.i64.wrap (2 ^ k) = 2 ^ k := IntWalk.i64_in _ (by omega)
    have hm := lowN_le (a &&& b) k
    by_cases hc1 : (2 : Int) ^ k ≤ (a : Int)
    · by_cases hc2 : (2 : Int) ^ k ≤ (b : Int)
      · have hk20 : k < 20 := by
          rcases Nat.lt_or_ge k 20 with h | h
          · exact h
          · have h1 : 2 ^ 20 ≤ 2 ^ k := Nat.pow_le_pow_right (by omega) h
            have h2 := le_pow hc1
            exfalso; revert h1 h2; generalize 2 ^ k = z; intro h1 h2; omega
        have hs := lowN_succ (a &&& b) k
        have hm1 := lowN_le (a &&& b) (k + 1)
        have q1 : IntKind.i64.wrap ((bitN a k : Int) * (bitN b k : Int)) = (bitN (a &&& b) k : Int) := by
          rw [← Int.natCast_mul, bitN_and]; exact wrap_nat (by have := bitN_le (a &&& b) k; omega)
        have q2 : IntKind.i64.wrap ((bitN (a &&& b) k : Int) * 2 ^ k) = ((bitN (a &&& b) k * 2 ^ k : Nat) : Int) := by
          rw [hpi, ← Int.natCast_mul]; exact wrap_nat (by omega)
        have q3 : IntKind.i64.wrap ((lowN (a &&& b) k : Int) + (bitN (a &&& b) k : Int) * 2 ^ k) = (lowN (a &&& b) (k + 1) : Int) := by
          rw [hpi, ← Int.natCast_mul, ← Int.natCast_add, ← hs]; exact wrap_nat (by omega)
        clear hpi hs
        go_wp2_with ((go_at_call 131; refine (l1Bit_any _ _ (by omega) _).mono ?_; rintro e w' ⟨rfl, rfl⟩))
        go_round
        case rel => exact ⟨k + 1, by omega, by go_num, rfl⟩
        case measure => simp [intOf]; omega
      · clear hpi
        go_wp2
        go_ret
        exact ⟨ret_int (by rw [lowN_lt (lt_pow (by have : (a &&& b) ≤ b := Nat.and_le_right; omega))]), rfl⟩
    · clear hpi
      go_wp2
      go_ret
      exact ⟨ret_int (by rw [lowN_lt (lt_pow (by omega))]), rfl⟩

theorem l1Either_any (a b : Nat) (ha : a < 1048576) (hb : b < 1048576) (w : World) :
    Calls Try.prog 103 #[.int .i64 a, .int .i64 b] w fun e w' => e = .returned (.int .i64 ((a ||| b : Nat) : Int)) ∧ w = w' := by
  have h := or_add_and a b
  have h1 : (a &&& b) ≤ a := Nat.and_le_left
  have h2 : (a &&& b) ≤ b := Nat.and_le_right
  have hs : (a : Int) + b - ((a &&& b : Nat) : Int) = ((a ||| b : Nat) : Int) := by omega
  clear h
  go_enter Try.func103, Try.ntmps103
  go_wp2_with ((go_at_call 143; refine (l1Both_any _ _ ha _).mono ?_; rintro e w' ⟨rfl, rfl⟩))
  go_ret
  exact ⟨rfl, rfl⟩

set_option maxHeartbeats 400000 in
theorem l5Ends_any (v0 v1 : Value) (D : AutoD) (set : Nat) (w : World) (hok : AutoOK D) (h0 : IS w.heap.size w v0 D.ends) (h1 : ISS w.heap.size w v1 D.next) (hset : set < 1048576) :
    Calls Try.prog 122 #[.agg #[v0, v1], .int .i64 set] w fun e w' => e = .returned (.int .i64 ((endF D set : Nat) : Int)) ∧ Below w.heap.size w w' := by
  obtain ⟨b0, o0, c0, b1, o1, c1, L⟩ := Lk.of hok h0 h1
  obtain rfl := L.e0
  obtain rfl := L.e1
  have hlo := hok.lo
  have hhi := hok.hi
  obtain ⟨W, hW, hbW, hsW, x0, x1, -⟩ := box2 w (.slice (some ⟨b0, o0, none⟩) D.ends.length c0) (.slice (some ⟨b1, o1, none⟩) D.ends.length c1) 31
  have LW := L.below hbW
  go_enter Try.func122, Try.ntmps122
  go_wp2

  clear hW hsW h0 h1 L
  have HL := Lib.hid (And.intro hbW LW)
  clear hbW LW
  go_loop [5, 6] (fun x i => ∃ k : Nat, k ≤ D.ends.length ∧ i = .int .i64 k ∧ x = .int .i64 ((endT D set k : Nat) : Int)) (fun _ i => D.ends.length - (intOf i).toNat)
  case atStart => exact ⟨0, by omega, rfl, rfl⟩
  case round =>
    obtain ⟨k, hk, rfl, rfl⟩ := hrel
    have hacc := hok.endT_lt set k hk
    by_cases hlt : k < D.ends.length
    · have hc := HL.out.2.c0 k hlt
      have hnx := hok.endsN_lt hlt
      have hbd : endT D set k < 1048576 := by omega
      have hbn : endsN D k < 1048576 := by omega
      have hk0 : (k : Int) < (D.ends.length : Int) := by omega
      clear hacc hnx
      have hs : endT D set (k + 1) = if set.testBit k then endT D set k ||| endsN D k else endT D set k := rfl
      by_cases hb : set.testBit k = true
      · rw [if_pos hb] at hs
        have Hs := Lib.hid hs
        clear hs
        have hbit := bitN_t hb
        clear hb
        go_wp2_with (first | (go_at_call 131; refine (l1Bit_any _ _ (by omega) _).mono ?_; rintro e w' ⟨rfl, rfl⟩) | (go_at_call 103; refine (l1Either_any _ _ hbd hbn _).mono ?_; rintro e w' ⟨rfl, rfl⟩))
        go_round
        case rel => exact ⟨k + 1, by omega, by go_num, by rw [Hs.out]⟩
        case measure => simp [intOf]; omega
      · rw [if_neg hb] at hs
        have hb : set.testBit k = false := by simpa using hb
        have Hs := Lib.hid hs
        clear hs
        have hbit := bitN_f hb
        clear hb
        go_wp2_with ((go_at_call 131; refine (l1Bit_any _ _ (by omega) _).mono ?_; rintro e w' ⟨rfl, rfl⟩))
        go_round
        case rel => exact ⟨k + 1, by omega, by go_num, by rw [Hs.out]⟩
        case measure => simp [intOf]; omega
    · obtain rfl : k = D.ends.length := by omega
      go_wp2_with fail
      go_ret
      exact ⟨rfl, HL.out.1⟩

set_option maxHeartbeats 400000 in
theorem l5Step_any (v0 v1 : Value) (D : AutoD) (set m : Nat) (w : World) (hok : AutoOK D) (h0 : IS w.heap.size w v0 D.ends) (h1 : ISS w.heap.size w v1 D.next) (hset : set < 1048576) (hm : m < 12) :
    Calls Try.prog 88 #[.agg #[v0, v1], .int .i64 set, .int .i64 m] w fun e w' => e = .returned (.int .i64 ((behF D set m : Nat) : Int)) ∧ Below w.heap.size w w' := by
  obtain ⟨b0, o0, c0, b1, o1, c1, L⟩ := Lk.of hok h0 h1
  obtain rfl := L.e0
  obtain rfl := L.e1
  have hlo := hok.lo
  have hhi := hok.hi
  obtain ⟨W, hW, hbW, hsW, x0, x1, -⟩ := box2 w (.slice (some ⟨b0, o0, none⟩) D.ends.length c0) (.slice (some ⟨b1, o1, none⟩) D.ends.length c1) 31
  have LW := L.below hbW
  go_enter Try.func88, Try.ntmps88
  go_wp2

  clear hW hsW h0 h1 L
  have HL := Lib.hid (And.intro hbW LW)
  clear hbW LW
  go_loop [7, 8] (fun x i => ∃ k : Nat, k ≤ D.ends.length ∧ i = .int .i64 k ∧ x = .int .i64 ((behT D set m k : Nat) : Int)) (fun _ i => D.ends.length - (intOf i).toNat)
  case atStart => exact ⟨0, by omega, rfl, rfl⟩
  case round =>
    obtain ⟨k, hk, rfl, rfl⟩ := hrel
    have hacc := hok.behT_lt set hm k hk
    by_cases hlt : k < D.ends.length
    · obtain ⟨br, or, cr, -, hr, hcr⟩ := HL.out.2.c1 k hlt
      have hc := hcr m hm
      have hnx := hok.nextN_lt hlt hm
      have hpow := hok.pow_le
      clear hcr
      have hbd : behT D set m k < 1048576 := by omega
      have hbn : nextN D k m < 1048576 := by omega
      have hk0 : (k : Int) < (D.ends.length : Int) := by omega
      have hm0 : (m : Int) < 12 := by omega
      clear hpow
      clear hacc hnx
      have hs : behT D set m (k + 1) = if set.testBit k then behT D set m k ||| nextN D k m else behT D set m k := rfl
      by_cases hb : set.testBit k = true
      · rw [if_pos hb] at hs
        have Hs := Lib.hid hs
        clear hs
        have hbit := bitN_t hb
        clear hb
        go_wp2_with (first | (go_at_call 131; refine (l1Bit_any _ _ (by omega) _).mono ?_; rintro e w' ⟨rfl, rfl⟩) | (go_at_call 103; refine (l1Either_any _ _ hbd hbn _).mono ?_; rintro e w' ⟨rfl, rfl⟩))
        go_round
        case rel => exact ⟨k + 1, by omega, by go_num, by rw [Hs.out]⟩
        case measure => simp [intOf]; omega
      · rw [if_neg hb] at hs
        have hb : set.testBit k = false := by simpa using hb
        have Hs := Lib.hid hs
        clear hs
        have hbit := bitN_f hb
        clear hb
        go_wp2_with ((go_at_call 131; refine (l1Bit_any _ _ (by omega) _).mono ?_; rintro e w' ⟨rfl, rfl⟩))
        go_round
        case rel => exact ⟨k + 1, by omega, by go_num, by rw [Hs.out]⟩
        case measure => simp [intOf]; omega
    · obtain rfl : k = D.ends.length := by omega
      go_wp2_with fail
      go_ret
      exact ⟨rfl, HL.out.1⟩

set_option maxHeartbeats 400000 in
theorem endsOf_any (v0 v1 : Value) (D : AutoD) (set : Nat) (w : World) (hok : AutoOK D) (h0 : IS w.heap.size w v0 D.ends) (h1 : ISS w.heap.size w v1 D.next) (hset : set < 1048576) :
    Calls Try.prog 121 #[.agg #[v0, v1], .int .i64 set] w fun e w' => e = .returned (.int .i64 ((endF D set : Nat) : Int)) ∧ Below w.heap.size w w' := by
  obtain ⟨b0, o0, c0, b1, o1, c1, L⟩ := Lk.of hok h0 h1
  obtain rfl := L.e0
  obtain rfl := L.e1
  have hlo := hok.lo
  have hhi := hok.hi
  obtain ⟨W, hW, hbW, hsW, x0, x1, -⟩ := box2 w (.slice (some ⟨b0, o0, none⟩) D.ends.length c0) (.slice (some ⟨b1, o1, none⟩) D.ends.length c1) 31
  have LW := L.below hbW
  go_enter Try.func121, Try.ntmps121
  go_wp2

  clear hW hsW h0 h1 L
  have HL := Lib.hid (And.intro hbW LW)
  clear hbW LW
  go_loop [5, 11] (fun x i => ∃ k : Nat, k ≤ D.ends.length ∧ i = .int .i64 k ∧ x = .int .i64 ((endT D set k : Nat) : Int)) (fun _ i => D.ends.length - (intOf i).toNat)
  case atStart => exact ⟨0, by omega, rfl, rfl⟩
  case round =>
    obtain ⟨k, hk, rfl, rfl⟩ := hrel
    have hacc := hok.endT_lt set k hk
    by_cases hlt : k < D.ends.length
    · have hc := HL.out.2.c0 k hlt
      have hnx := hok.endsN_lt hlt
      have hbd : endT D set k < 1048576 := by omega
      have hbn : endsN D k < 1048576 := by omega
      have hk0 : (k : Int) < (D.ends.length : Int) := by omega
      clear hacc hnx
      have hs : endT D set (k + 1) = if set.testBit k then endT D set k ||| endsN D k else endT D set k := rfl
      by_cases hb : set.testBit k = true
      · rw [if_pos hb] at hs
        have Hs := Lib.hid hs
        clear hs
        have hbit := test_t (s := set) (k := k) (by omega) hb
        clear hb
        have hor := bits_or (endT D set k) (endsN D k) (by omega) (by omega)
        go_wp2
        go_round
        case rel => exact ⟨k + 1, by omega, by go_num, by rw [Hs.out]⟩
        case measure => simp [intOf]; omega
      · rw [if_neg hb] at hs
        have hb : set.testBit k = false := by simpa using hb
        have Hs := Lib.hid hs
        clear hs
        have hbit := test_f (s := set) (k := k) (by omega) hb
        clear hb
        go_wp2
        go_round
        case rel => exact ⟨k + 1, by omega, by go_num, by rw [Hs.out]⟩
        case measure => simp [intOf]; omega
    · obtain rfl : k = D.ends.length := by omega
      go_wp2_with fail
      go_ret
      exact ⟨rfl, HL.out.1⟩

set_option maxHeartbeats 400000 in
theorem behindSet_any (v0 v1 : Value) (D : AutoD) (set m : Nat) (w : World) (hok : AutoOK D) (h0 : IS w.heap.size w v0 D.ends) (h1 : ISS w.heap.size w v1 D.next) (hset : set < 1048576) (hm : m < 12) :
    Calls Try.prog 100 #[.agg #[v0, v1], .int .i64 set, .int .i64 m] w fun e w' => e = .returned (.int .i64 ((behF D set m : Nat) : Int)) ∧ Below w.heap.size w w' := by
  obtain ⟨b0, o0, c0, b1, o1, c1, L⟩ := Lk.of hok h0 h1
  obtain rfl := L.e0
  obtain rfl := L.e1
  have hlo := hok.lo
  have hhi := hok.hi
  obtain ⟨W, hW, hbW, hsW, x0, x1, -⟩ := box2 w (.slice (some ⟨b0, o0, none⟩) D.ends.length c0) (.slice (some ⟨b1, o1, none⟩) D.ends.length c1) 31
  have LW := L.below hbW
  go_enter Try.func100, Try.ntmps100
  go_wp2

  clear hW hsW h0 h1 L
  have HL := Lib.hid (And.intro hbW LW)
  clear hbW LW
  go_loop [7, 12] (fun x i => ∃ k : Nat, k ≤ D.ends.length ∧ i = .int .i64 k ∧ x = .int .i64 ((behT D set m k : Nat) : Int)) (fun _ i => D.ends.length - (intOf i).toNat)
  case atStart => exact ⟨0, by omega, rfl, rfl⟩
  case round =>
    obtain ⟨k, hk, rfl, rfl⟩ := hrel
    have hacc := hok.behT_lt set hm k hk
    by_cases hlt : k < D.ends.length
    · obtain ⟨br, or, cr, -, hr, hcr⟩ := HL.out.2.c1 k hlt
      have hc := hcr m hm
      have hnx := hok.nextN_lt hlt hm
      have hpow := hok.pow_le
      clear hcr
      have hbd : behT D set m k < 1048576 := by omega
      have hbn : nextN D k m < 1048576 := by omega
      have hk0 : (k : Int) < (D.ends.length : Int) := by omega
      have hm0 : (m : Int) < 12 := by omega
      clear hpow
      clear hacc hnx
      have hs : behT D set m (k + 1) = if set.testBit k then behT D set m k ||| nextN D k m else behT D set m k := rfl
      by_cases hb : set.testBit k = true
      · rw [if_pos hb] at hs
        have Hs := Lib.hid hs
        clear hs
        have hbit := test_t (s := set) (k := k) (by omega) hb
        clear hb
        have hor := bits_or (behT D set m k) (nextN D k m) (by omega) (by omega)
        go_wp2
        go_round
        case rel => exact ⟨k + 1, by omega, by go_num, by rw [Hs.out]⟩
        case measure => simp [intOf]; omega
      · rw [if_neg hb] at hs
        have hb : set.testBit k = false := by simpa using hb
        have Hs := Lib.hid hs
        clear hs
        have hbit := test_f (s := set) (k := k) (by omega) hb
        clear hb
        go_wp2
        go_round
        case rel => exact ⟨k + 1, by omega, by go_num, by rw [Hs.out]⟩
        case measure => simp [intOf]; omega
    · obtain rfl : k = D.ends.length := by omega
      go_wp2_with fail
      go_ret
      exact ⟨rfl, HL.out.1⟩

end Go.Proofs.Ytboandkjhdaobaa

namespace Go.Proofs.Ytboandkjhdaobaa
set_option linter.unusedSimpArgs false
set_option linter.unusedVariables false
set_option maxRecDepth 8000
set_option maxHeartbeats 2000000
open Go.RowKit

end Go.Proofs.Ytboandkjhdaobaa

namespace Go.Proofs.Ytboandkjhdaobaa
set_option linter.unusedSimpArgs false
set_option linter.unusedVariables false
set_option maxRecDepth 8000
set_option maxHeartbeats 2000000
open Go.RowKit

end Go.Proofs.Ytboandkjhdaobaa

namespace Go.Proofs.Ytboandkjhdaobaa
set_option linter.unusedSimpArgs false
set_option linter.unusedVariables false
set_option maxRecDepth 8000
set_option maxHeartbeats 2000000
open Go.RowKit

end Go.Proofs.Ytboandkjhdaobaa

namespace Go.Proofs.Ytboandkjhdaobaa
set_option linter.unusedSimpArgs false
set_option linter.unusedVariables false
set_option maxRecDepth 8000
set_option maxHeartbeats 2000000
open Go.RowKit

end Go.Proofs.Ytboandkjhdaobaa
