/- What AutoValid returns, of the program and of the reference: one contract each, at every argument that reads as an automaton. -/
import Derived.Test.YtmhiipmajlmlgaaChecked
import Derived.Test.YtmhiipmajlmlgaaGrpA
import Derived.WalkSmall
import Derived.Test.YtmhiipmajlmlgaaGrpC
import Derived.Deep.RegionHeld3
namespace Go.Proofs.Ytmhiipmajlmlgaa
set_option linter.unusedSimpArgs false
set_option linter.unusedVariables false
set_option maxRecDepth 8000
set_option maxHeartbeats 2000000
open Go.RowKit

def inB (n lo hi : Int) : Bool := decide (lo ≤ n ∧ n ≤ hi)
theorem inB_t {n lo hi : Int} (h : lo ≤ n ∧ n ≤ hi) : inB n lo hi = true := by simp [inB, h]
theorem inB_f {n lo hi : Int} (h : ¬ (lo ≤ n ∧ n ≤ hi)) : inB n lo hi = false := by simp only [inB, h, decide_false]
theorem implTestValid_any (n : Int) (w : World) :
    Calls Try.prog 22 #[.int .i64 n] w fun e w' => e = .returned (.bool (inB n 0 15)) ∧ w = w' := by
  by_cases h1 : 0 ≤ n <;> by_cases h2 : n ≤ 15 <;>
  (go_enter Try.func22, Try.ntmps22
   go_wp2
   go_ret
   exact ⟨ret_bool (by simp [inB, *]), rfl⟩)

def okTo (D : AutoD) (k : Nat) : Prop := ∀ i, i < k → (0 ≤ nth D.ends i ∧ nth D.ends i ≤ 15) ∧ (nthL D.next i).length = 12 ∧ ∀ j, j < 12 → 0 ≤ nth (nthL D.next i) j ∧ nth (nthL D.next i) j ≤ 2 ^ D.ends.length - 1
def setsTo (D : AutoD) (k m : Nat) : Prop := ∀ j, j < m → 0 ≤ nth (nthL D.next k) j ∧ nth (nthL D.next k) j ≤ 2 ^ D.ends.length - 1
theorem okTo_zero (D : AutoD) : okTo D 0 := fun _ h => absurd h (by omega)
theorem setsTo_zero (D : AutoD) (k : Nat) : setsTo D k 0 := fun _ h => absurd h (by omega)
theorem setsTo_succ {D : AutoD} {k m : Nat} (h : setsTo D k m) (h1 : 0 ≤ nth (nthL D.next k) m ∧ nth (nthL D.next k) m ≤ 2 ^ D.ends.length - 1) : setsTo D k (m + 1) := fun j hj => by
  by_cases e : j = m
  · subst e; exact h1
  · exact h j (by omega)
theorem okTo_succ {D : AutoD} {k : Nat} (h : okTo D k) (h1 : 0 ≤ nth D.ends k ∧ nth D.ends k ≤ 15) (h2 : (nthL D.next k).length = 12) (h3 : setsTo D k 12) : okTo D (k + 1) := fun j hj => by
  by_cases e : j = k
  · subst e; exact ⟨h1, h2, h3⟩
  · exact h j (by omega)
theorem okTo_all {D : AutoD} (hlo : 1 ≤ D.ends.length) (hhi : D.ends.length ≤ 10) (hn : D.next.length = D.ends.length) (h : okTo D D.ends.length) : autoOKB D = true :=
  autoOKB_true.2 ⟨hlo, hhi, hn, fun k hk => (h k hk).1, fun k hk => (h k hk).2.1, fun k hk => (h k hk).2.2⟩

set_option maxHeartbeats 400000 in
theorem implAutoValid (v0 v1 : Value) (D : AutoD) (w : World) (h0 : IS w.heap.size w v0 D.ends) (h1 : ISS w.heap.size w v1 D.next) :
    Calls Try.prog 50 #[.agg #[v0, v1]] w fun e w' => e = .returned (.bool (autoOKB D)) ∧ Below w.heap.size w w' := by
  obtain ⟨A0, c0, rfl, hl0, hm0, hA0⟩ := h0
  obtain ⟨A1, c1, rfl, hl1, hm1, hA1⟩ := h1
  unfold maxLen at hm0 hm1
  by_cases hlo : 1 ≤ D.ends.length ∧ D.ends.length ≤ 10
  case neg =>
    by_cases hlo1 : 1 ≤ D.ends.length
    all_goals
      go_enter Try.func50, Try.ntmps50
      go_wp2
      go_ret
      exact ⟨ret_bool (autoOKB_false.2 fun h => hlo ⟨h.lo, h.hi⟩).symm, (Below.refl _ _).alloc (Nat.le_refl _) _⟩
  obtain ⟨hlo, hhi⟩ := hlo
  by_cases hn : D.next.length = D.ends.length
  case neg =>
    have hne : ((D.next.length : Int) != (D.ends.length : Int)) = true := by rw [bne_iff_ne]; omega
    go_enter Try.func50, Try.ntmps50
    go_wp2
    go_ret
    exact ⟨ret_bool (autoOKB_false.2 fun h => hn h.len).symm, (Below.refl _ _).alloc (Nat.le_refl _) _⟩
  have hne : ((D.next.length : Int) != (D.ends.length : Int)) = false := by rw [bne_eq_false_iff_eq]; omega
  obtain ⟨b0, o0, rfl, hb0, hc0⟩ := hA0 (by omega)
  obtain ⟨b1, o1, rfl, hb1, hc1⟩ := hA1 (by omega)
  have HC0 := Lib.hid hc0
  have HC1 := Lib.hid hc1
  have HN := Lib.hid hn
  clear hc0 hc1 hA0 hA1 hn
  go_enter Try.func50, Try.ntmps50
  go_wp2
  clear hne
  obtain ⟨W, hW, hbW, hsW, x0, x1, -⟩ := box2 w (.slice (some ⟨b0, o0, none⟩) D.ends.length c0) (.slice (some ⟨b1, o1, none⟩) D.next.length c1) 31
  rw [hW]
  have hszW : w.heap.size + 1 ≤ W.heap.size := by omega
  clear hW hsW
  have HX := Lib.hid (And.intro hbW (And.intro x0 x1))
  have hkcs : ∀ k, k < D.ends.length → W.cell? ⟨b0, o0 + k, none⟩ = some (.int .i64 (nth D.ends k)) := fun k hk => below_at hbW hb0 (HC0.out k hk)
  have HK0 := Lib.hid hkcs
  clear hbW x0 x1 hkcs
  go_loop [24] (fun i => ∃ k : Nat, k ≤ D.ends.length ∧ i = .int .i64 k ∧ okTo D k)
    (fun i => D.ends.length - (intOf i).toNat)
  case atStart => exact ⟨0, Nat.zero_le _, rfl, okTo_zero D⟩
  case round =>
    obtain ⟨k, hk, rfl, hok⟩ := hrel
    have Hok := Lib.hid hok
    clear hok
    by_cases hlt : k < D.ends.length
    · have hkc := HK0.out k hlt
      obtain ⟨u, hkr, hi⟩ := HC1.out k (by have := HN.out; omega)
      replace hkr := below_at HX.out.1 hb1 hkr
      replace hi := hi.below HX.out.1
      obtain ⟨-, x0, x1⟩ := HX.out
      obtain ⟨Ar, cr, rfl, hlr, hmr, hAr⟩ := hi
      unfold maxLen at hmr
      have HAr := Lib.hid hAr
      clear hAr
      have hk1 : (k : Int) < (D.next.length : Int) := by have := HN.out; omega
      have hk2 : (k : Int) < (D.ends.length : Int) := by omega
      by_cases hv : 0 ≤ nth D.ends k ∧ nth D.ends k ≤ 15
      case neg =>
        have hB : inB (nth D.ends k) 0 15 = false := inB_f hv
        go_wp2_with ((go_at_call 22; refine (implTestValid_any _ _).mono ?_; rintro e w' ⟨rfl, rfl⟩))
        go_ret
        exact ⟨ret_bool (autoOKB_false.2 fun h => hv (h.ends k hlt)).symm, HX.out.1⟩
      have hB : inB (nth D.ends k) 0 15 = true := inB_t hv
      by_cases hr : (nthL D.next k).length = 12
      case neg =>
        have hne : (((nthL D.next k).length : Int) != 12) = true := by rw [bne_iff_ne]; omega
        go_wp2_with ((go_at_call 22; refine (implTestValid_any _ _).mono ?_; rintro e w' ⟨rfl, rfl⟩))
        go_ret
        exact ⟨ret_bool (autoOKB_false.2 fun h => hr (h.rows k hlt)).symm, HX.out.1⟩
      have hne : (((nthL D.next k).length : Int) != 12) = false := by rw [bne_eq_false_iff_eq]; omega
      obtain ⟨br, or, rfl, hbr, hcr⟩ := HAr.out (by omega)
      have HCR := Lib.hid hcr
      have HR := Lib.hid hr
      clear hcr hr
      have hrr : 12 ≤ (nthL D.next k).length := by have := HR.out; omega
      go_wp2_with ((go_at_call 22; refine (implTestValid_any _ _).mono ?_; rintro e w' ⟨rfl, rfl⟩))
      have HKK := Lib.hid (And.intro hkc (And.intro hkr (And.intro x0 x1)))
      clear hne hB hkc hkr x0 x1
      go_loop [49] (fun i => ∃ j : Nat, j ≤ (nthL D.next k).length ∧ i = .int .i64 j ∧ setsTo D k j)
        (fun i => (nthL D.next k).length - (intOf i).toNat)
      case atStart => exact ⟨0, by omega, rfl, setsTo_zero D k⟩
      case round =>
        obtain ⟨j, hj, rfl, hs⟩ := hrel
        have Hs := Lib.hid hs
        clear hs
        by_cases hlt2 : j < (nthL D.next k).length
        · have hrc := HCR.out j (by omega)
          have hjr : (j : Int) < ((nthL D.next k).length : Int) := by omega
          have hp := shl_one D.ends.length hhi
          have hw1 : IntKind.i64.wrap (2 ^ D.ends.length) = 2 ^ D.ends.length := IntWalk.i64_in _ (by omega)
          by_cases hv2 : 0 ≤ nth (nthL D.next k) j
          · by_cases hv3 : nth (nthL D.next k) j < 2 ^ D.ends.length
            · go_wp2
              go_round
              case rel => exact ⟨j + 1, by omega, by go_num, setsTo_succ Hs.out ⟨hv2, by omega⟩⟩
              case measure => simp [intOf]; omega
            · go_wp2
              go_ret
              exact ⟨ret_bool (autoOKB_false.2 fun h => by have := h.sets k hlt j (by have := HR.out; omega); omega).symm, HX.out.1⟩
          · go_wp2
            go_ret
            exact ⟨ret_bool (autoOKB_false.2 fun h => by have := h.sets k hlt j (by have := HR.out; omega); omega).symm, HX.out.1⟩
        · obtain rfl : j = (nthL D.next k).length := by omega
          go_wp2_with fail
          go_round
          case rel => exact ⟨k + 1, by omega, by go_num, okTo_succ Hok.out hv HR.out (by have := Hs.out; rw [HR.out] at this; exact this)⟩
          case measure => simp [intOf]; omega
    · obtain rfl : k = D.ends.length := by omega
      go_wp2_with fail
      go_ret
      exact ⟨ret_bool (okTo_all hlo hhi HN.out Hok.out).symm, HX.out.1⟩

end Go.Proofs.Ytmhiipmajlmlgaa

namespace Go.Proofs.Ytmhiipmajlmlgaa
set_option linter.unusedSimpArgs false
set_option linter.unusedVariables false
set_option maxRecDepth 8000
set_option maxHeartbeats 2000000
open Go.RowKit

theorem l1Bit_any (s k : Nat) (hk : k < 64) (w : World) :
    Calls Try.prog 75 #[.int .i64 s, .int .i64 k] w fun e w' => e = .returned (.int .i64 (bitN s k)) ∧ w = w' := by
  go_enter Try.func75, Try.ntmps75
  go_wp2
  go_ret
  refine ⟨ret_int ?_, rfl⟩
  rw [← bitN_eq, shr_nat]
  exact Int.tmod_eq_emod_of_nonneg (Int.natCast_nonneg _)

theorem isAtom_any (n : Int) (w : World) :
    Calls Try.prog 52 #[.int .i64 n] w fun e w' => e = .returned (.bool (inB n 0 3)) ∧ w = w' := by
  by_cases h1 : 0 ≤ n <;> by_cases h2 : n ≤ 3 <;>
  (go_enter Try.func52, Try.ntmps52
   go_wp2
   go_ret
   exact ⟨ret_bool (by simp [inB, *]), rfl⟩)

theorem isAct_any (n : Int) (w : World) :
    Calls Try.prog 53 #[.int .i64 n] w fun e w' => e = .returned (.bool (inB n 16 18)) ∧ w = w' := by
  by_cases h1 : 16 ≤ n <;> by_cases h2 : n ≤ 18 <;>
  (go_enter Try.func53, Try.ntmps53
   go_wp2
   go_ret
   exact ⟨ret_bool (by simp [inB, *]), rfl⟩)

theorem move_any (a b : Int) (ha : 0 ≤ a) (ha' : a ≤ 3) (hb : 16 ≤ b) (hb' : b ≤ 18) (w : World) :
    Calls Try.prog 47 #[.int .i64 a, .int .i64 b] w fun e w' => e = .returned (.int .i64 (3 * a + b - 16)) ∧ w = w' := by
  go_enter Try.func47, Try.ntmps47
  go_wp2
  go_ret
  exact ⟨rfl, rfl⟩

set_option maxHeartbeats 400000 in
theorem l1Both_any (a b : Nat) (ha : a < 1048576) (w : World) :
    Calls Try.prog 99 #[.int .i64 a, .int .i64 b] w fun e w' => e = .returned (.int .i64 ((a &&& b : Nat) : Int)) ∧ w = w' := by
  have hx : (a &&& b) ≤ a := Nat.and_le_left
  go_enter Try.func99, Try.ntmps99
  go_wp2
  go_loop [5, 6] (fun x i => ∃ k : Nat, k ≤ 20 ∧ i = .int .i64 k ∧ x = .int .i64 (lowN (a &&& b) k)) (fun _ i => 21 - (intOf i).toNat)
  case atStart => exact ⟨0, by omega, rfl, by simp [lowN_zero]⟩
  case round =>
    obtain ⟨k, hk, rfl, rfl⟩ := hrel
    have hpb := pow_bd20 hk
    have hpi := pow_int k
    have hw : IntKind.i64.wrap (2 ^ k) = 2 ^ k := IntWalk.i64_in _ (by omega)
    have hm := lowN_le (a &&& b) k
    by_cases hc1 : (2 : Int) ^ k ≤ (a : Int)
    · by_cases hc2 : (2 : Int) ^ k ≤ (b : Int)
      · have hk20 : k < 20 := by
          rcases Nat.lt_or_ge k 20 with h | h
          · exact h
          · have h1 : 2 ^ 20 ≤ 2 ^ k := Nat.pow_le_pow_right (by omega) h
            have h2 := le_pow hc1
            exfalso; revert h1 h2; generalize 2 ^ k = z; intro h1 h2; omega
        have hs := lowN_succ (a &&& b) k
        have hm1 := lowN_le (a &&& b) (k + 1)
        have q1 : IntKind.i64.wrap ((bitN a k : Int) * (bitN b k : Int)) = (bitN (a &&& b) k : Int) := by
          rw [← Int.natCast_mul, bitN_and]; exact wrap_nat (by have := bitN_le (a &&& b) k; omega)
        have q2 : IntKind.i64.wrap ((bitN (a &&& b) k : Int) * 2 ^ k) = ((bitN (a &&& b) k * 2 ^ k : Nat) : Int) := by
          rw [hpi, ← Int.natCast_mul]; exact wrap_nat (by omega)
        have q3 : IntKind.i64.wrap ((lowN (a &&& b) k : Int) + (bitN (a &&& b) k : Int) * 2 ^ k) = (lowN (a &&& b) (k + 1) : Int) := by
          rw [hpi, ← Int.natCast_mul, ← Int.natCast_add, ← hs]; exact wrap_nat (by omega)
        clear hpi hs
        go_wp2_with ((go_at_call 75; refine (l1Bit_any _ _ (by omega) _).mono ?_; rintro e w' ⟨rfl, rfl⟩))
        go_round
        case rel => exact ⟨k + 1, by omega, by go_num, rfl⟩
        case measure => simp [intOf]; omega
      · clear hpi
        go_wp2
        go_ret
        exact ⟨ret_int (by rw [lowN_lt (lt_pow (by have : (a &&& b) ≤ b := Nat.and_le_right; omega))]), rfl⟩
    · clear hpi
      go_wp2
      go_ret
      exact ⟨ret_int (by rw [lowN_lt (lt_pow (by omega))]), rfl⟩

theorem l1Either_any (a b : Nat) (ha : a < 1048576) (hb : b < 1048576) (w : World) :
    Calls Try.prog 90 #[.int .i64 a, .int .i64 b] w fun e w' => e = .returned (.int .i64 ((a ||| b : Nat) : Int)) ∧ w = w' := by
  have h := or_add_and a b
  have h1 : (a &&& b) ≤ a := Nat.and_le_left
  have h2 : (a &&& b) ≤ b := Nat.and_le_right
  have hs : (a : Int) + b - ((a &&& b : Nat) : Int) = ((a ||| b : Nat) : Int) := by omega
  clear h
  go_enter Try.func90, Try.ntmps90
  go_wp2_with ((go_at_call 99; refine (l1Both_any _ _ ha _).mono ?_; rintro e w' ⟨rfl, rfl⟩))
  go_ret
  exact ⟨rfl, rfl⟩

set_option maxHeartbeats 400000 in
theorem l5Step_any (v0 v1 : Value) (D : AutoD) (set m : Nat) (w : World) (hok : AutoOK D) (h0 : IS w.heap.size w v0 D.ends) (h1 : ISS w.heap.size w v1 D.next) (hset : set < 1048576) (hm : m < 12) :
    Calls Try.prog 41 #[.agg #[v0, v1], .int .i64 set, .int .i64 m] w fun e w' => e = .returned (.int .i64 ((behF D set m : Nat) : Int)) ∧ Below w.heap.size w w' := by
  obtain ⟨b0, o0, c0, b1, o1, c1, L⟩ := Lk.of hok h0 h1
  obtain rfl := L.e0
  obtain rfl := L.e1
  have hlo := hok.lo
  have hhi := hok.hi
  obtain ⟨W, hW, hbW, hsW, x0, x1, -⟩ := box2 w (.slice (some ⟨b0, o0, none⟩) D.ends.length c0) (.slice (some ⟨b1, o1, none⟩) D.ends.length c1) 31
  have LW := L.below hbW
  go_enter Try.func41, Try.ntmps41
  go_wp2
  clear hW hsW h0 h1 L
  have HL := Lib.hid (And.intro hbW LW)
  clear hbW LW
  go_loop [7, 8] (fun x i => ∃ k : Nat, k ≤ D.ends.length ∧ i = .int .i64 k ∧ x = .int .i64 ((behT D set m k : Nat) : Int)) (fun _ i => D.ends.length - (intOf i).toNat)
  case atStart => exact ⟨0, by omega, rfl, rfl⟩
  case round =>
    obtain ⟨k, hk, rfl, rfl⟩ := hrel
    have hacc := hok.behT_lt set hm k hk
    by_cases hlt : k < D.ends.length
    · obtain ⟨br, or, cr, -, hr, hcr⟩ := HL.out.2.c1 k hlt
      have hc := hcr m hm
      have hnx := hok.nextN_lt hlt hm
      have hpow := hok.pow_le
      clear hcr
      have hbd : behT D set m k < 1048576 := by omega
      have hbn : nextN D k m < 1048576 := by omega
      have hk0 : (k : Int) < (D.ends.length : Int) := by omega
      have hm0 : (m : Int) < 12 := by omega
      clear hpow
      clear hacc hnx
      have hs : behT D set m (k + 1) = if set.testBit k then behT D set m k ||| nextN D k m else behT D set m k := rfl
      by_cases hb : set.testBit k = true
      · rw [if_pos hb] at hs
        have Hs := Lib.hid hs
        clear hs
        have hbit := bitN_t hb
        clear hb
        go_wp2_with (first | (go_at_call 75; refine (l1Bit_any _ _ (by omega) _).mono ?_; rintro e w' ⟨rfl, rfl⟩) | (go_at_call 90; refine (l1Either_any _ _ hbd hbn _).mono ?_; rintro e w' ⟨rfl, rfl⟩))
        go_round
        case rel => exact ⟨k + 1, by omega, by go_num, by rw [Hs.out]⟩
        case measure => simp [intOf]; omega
      · rw [if_neg hb] at hs
        have hb : set.testBit k = false := by simpa using hb
        have Hs := Lib.hid hs
        clear hs
        have hbit := bitN_f hb
        clear hb
        go_wp2_with ((go_at_call 75; refine (l1Bit_any _ _ (by omega) _).mono ?_; rintro e w' ⟨rfl, rfl⟩))
        go_round
        case rel => exact ⟨k + 1, by omega, by go_num, by rw [Hs.out]⟩
        case measure => simp [intOf]; omega
    · obtain rfl : k = D.ends.length := by omega
      go_wp2_with fail
      go_ret
      exact ⟨rfl, HL.out.1⟩

set_option maxHeartbeats 400000 in
theorem behindSet_any (v0 v1 : Value) (D : AutoD) (set m : Nat) (w : World) (hok : AutoOK D) (h0 : IS w.heap.size w v0 D.ends) (h1 : ISS w.heap.size w v1 D.next) (hset : set < 1048576) (hm : m < 12) :
    Calls Try.prog 54 #[.agg #[v0, v1], .int .i64 set, .int .i64 m] w fun e w' => e = .returned (.int .i64 ((behF D set m : Nat) : Int)) ∧ Below w.heap.size w w' := by
  obtain ⟨b0, o0, c0, b1, o1, c1, L⟩ := Lk.of hok h0 h1
  obtain rfl := L.e0
  obtain rfl := L.e1
  have hlo := hok.lo
  have hhi := hok.hi
  obtain ⟨W, hW, hbW, hsW, x0, x1, -⟩ := box2 w (.slice (some ⟨b0, o0, none⟩) D.ends.length c0) (.slice (some ⟨b1, o1, none⟩) D.ends.length c1) 31
  have LW := L.below hbW
  go_enter Try.func54, Try.ntmps54
  go_wp2
  clear hW hsW h0 h1 L
  have HL := Lib.hid (And.intro hbW LW)
  clear hbW LW
  go_loop [7, 12] (fun x i => ∃ k : Nat, k ≤ D.ends.length ∧ i = .int .i64 k ∧ x = .int .i64 ((behT D set m k : Nat) : Int)) (fun _ i => D.ends.length - (intOf i).toNat)
  case atStart => exact ⟨0, by omega, rfl, rfl⟩
  case round =>
    obtain ⟨k, hk, rfl, rfl⟩ := hrel
    have hacc := hok.behT_lt set hm k hk
    by_cases hlt : k < D.ends.length
    · obtain ⟨br, or, cr, -, hr, hcr⟩ := HL.out.2.c1 k hlt
      have hc := hcr m hm
      have hnx := hok.nextN_lt hlt hm
      have hpow := hok.pow_le
      clear hcr
      have hbd : behT D set m k < 1048576 := by omega
      have hbn : nextN D k m < 1048576 := by omega
      have hk0 : (k : Int) < (D.ends.length : Int) := by omega
      have hm0 : (m : Int) < 12 := by omega
      clear hpow
      clear hacc hnx
      have hs : behT D set m (k + 1) = if set.testBit k then behT D set m k ||| nextN D k m else behT D set m k := rfl
      by_cases hb : set.testBit k = true
      · rw [if_pos hb] at hs
        have Hs := Lib.hid hs
        clear hs
        have hbit := test_t (s := set) (k := k) (by omega) hb
        clear hb
        have hor := bits_or (behT D set m k) (nextN D k m) (by omega) (by omega)
        go_wp2
        go_round
        case rel => exact ⟨k + 1, by omega, by go_num, by rw [Hs.out]⟩
        case measure => simp [intOf]; omega
      · rw [if_neg hb] at hs
        have hb : set.testBit k = false := by simpa using hb
        have Hs := Lib.hid hs
        clear hs
        have hbit := test_f (s := set) (k := k) (by omega) hb
        clear hb
        go_wp2
        go_round
        case rel => exact ⟨k + 1, by omega, by go_num, by rw [Hs.out]⟩
        case measure => simp [intOf]; omega
    · obtain rfl : k = D.ends.length := by omega
      go_wp2_with fail
      go_ret
      exact ⟨rfl, HL.out.1⟩

end Go.Proofs.Ytmhiipmajlmlgaa

namespace Go.Proofs.Ytmhiipmajlmlgaa
set_option linter.unusedSimpArgs false
set_option linter.unusedVariables false
set_option maxRecDepth 8000
set_option maxHeartbeats 2000000
open Go.RowKit

end Go.Proofs.Ytmhiipmajlmlgaa

namespace Go.Proofs.Ytmhiipmajlmlgaa
set_option linter.unusedSimpArgs false
set_option linter.unusedVariables false
set_option maxRecDepth 8000
set_option maxHeartbeats 2000000
open Go.RowKit

end Go.Proofs.Ytmhiipmajlmlgaa

namespace Go.Proofs.Ytmhiipmajlmlgaa
set_option linter.unusedSimpArgs false
set_option linter.unusedVariables false
set_option maxRecDepth 8000
set_option maxHeartbeats 2000000
open Go.RowKit

end Go.Proofs.Ytmhiipmajlmlgaa

namespace Go.Proofs.Ytmhiipmajlmlgaa
set_option linter.unusedSimpArgs false
set_option linter.unusedVariables false
set_option maxRecDepth 8000
set_option maxHeartbeats 2000000
open Go.RowKit

end Go.Proofs.Ytmhiipmajlmlgaa
