/- Plain facts on sets as numbers: the bit operations of Go's int at small numbers. No program in sight. -/
import Derived.Test.YtechllcflknnlaaBase
namespace Go.Proofs.Ytechllcflknnlaa
set_option linter.unusedSimpArgs false
set_option linter.unusedVariables false
set_option maxRecDepth 8000
open Go.RowKit

theorem or_add_and (a : Nat) : ∀ b, (a ||| b) + (a &&& b) = a + b := by
  induction a using Nat.strongRecOn with
  | ind a ih =>
    intro b
    by_cases ha : a = 0
    · subst ha; simp
    · have h := ih (a / 2) (by omega) (b / 2)
      have h1 : (a ||| b) / 2 = a / 2 ||| b / 2 := Nat.or_div_two
      have h2 : (a &&& b) / 2 = a / 2 &&& b / 2 := Nat.and_div_two
      have h3 : (a ||| b) % 2 = 1 ↔ a % 2 = 1 ∨ b % 2 = 1 := Nat.or_mod_two_eq_one
      have h4 : (a &&& b) % 2 = 1 ↔ a % 2 = 1 ∧ b % 2 = 1 := Nat.and_mod_two_eq_one
      omega

theorem wrap_nat {a : Nat} (h : a < 9223372036854775808) : IntKind.i64.wrap (a : Int) = a := IntWalk.i64_in _ (by omega)

theorem bvNat (a : Nat) : BitVec.ofInt 64 (a : Int) = BitVec.ofNat 64 a := by simp

theorem bits_and (a b : Nat) (ha : a < 9223372036854775808) : bits .and .i64 (a : Int) (b : Int) = ((a &&& b : Nat) : Int) := by
  have h : (a &&& b) ≤ a := Nat.and_le_left
  have e : (BitVec.ofNat 64 a &&& BitVec.ofNat 64 b).toNat = a &&& b := by
    rw [BitVec.toNat_and, BitVec.toNat_ofNat, BitVec.toNat_ofNat, ← Nat.and_mod_two_pow]
    exact Nat.mod_eq_of_lt (by omega)
  show IntKind.i64.wrap (((BitVec.ofInt 64 (a : Int) &&& BitVec.ofInt 64 (b : Int)).toNat : Nat) : Int) = _
  rw [bvNat, bvNat, e]
  exact wrap_nat (by omega)

theorem bits_or (a b : Nat) (ha : a < 9223372036854775808) (hb : b < 9223372036854775808) : bits .or .i64 (a : Int) (b : Int) = ((a ||| b : Nat) : Int) := by
  have h : (a ||| b) < 2 ^ 63 := Nat.or_lt_two_pow (by simpa using ha) (by simpa using hb)
  have e : (BitVec.ofNat 64 a ||| BitVec.ofNat 64 b).toNat = a ||| b := by
    rw [BitVec.toNat_or, BitVec.toNat_ofNat, BitVec.toNat_ofNat, ← Nat.or_mod_two_pow]
    exact Nat.mod_eq_of_lt (by omega)
  show IntKind.i64.wrap (((BitVec.ofInt 64 (a : Int) ||| BitVec.ofInt 64 (b : Int)).toNat : Nat) : Int) = _
  rw [bvNat, bvNat, e]
  exact wrap_nat (by simpa using h)

theorem bits_xor (a b : Nat) (ha : a < 9223372036854775808) (hb : b < 9223372036854775808) : bits .xor .i64 (a : Int) (b : Int) = ((a ^^^ b : Nat) : Int) := by
  have h : (a ^^^ b) < 2 ^ 63 := Nat.xor_lt_two_pow (by simpa using ha) (by simpa using hb)
  have e : (BitVec.ofNat 64 a ^^^ BitVec.ofNat 64 b).toNat = a ^^^ b := by
    rw [BitVec.toNat_xor, BitVec.toNat_ofNat, BitVec.toNat_ofNat, ← Nat.xor_mod_two_pow]
    exact Nat.mod_eq_of_lt (by omega)
  show IntKind.i64.wrap (((BitVec.ofInt 64 (a : Int) ^^^ BitVec.ofInt 64 (b : Int)).toNat : Nat) : Int) = _
  rw [bvNat, bvNat, e]
  exact wrap_nat (by simpa using h)

def bitN (s k : Nat) : Nat := (s.testBit k).toNat
theorem bitN_eq (s k : Nat) : s / 2 ^ k % 2 = bitN s k := by
  unfold bitN; rw [Nat.toNat_testBit]
theorem bitN_t {s k : Nat} (h : s.testBit k = true) : bitN s k = 1 := by simp [bitN, h]
theorem bitN_f {s k : Nat} (h : s.testBit k = false) : bitN s k = 0 := by simp [bitN, h]
theorem bitN_le (s k : Nat) : bitN s k ≤ 1 := by unfold bitN; cases s.testBit k <;> simp

theorem shr_nat (s k : Nat) : (s : Int) / 2 ^ k = ((s / 2 ^ k : Nat) : Int) := by simp

/-- 'set >> k & 1' -/
theorem shr_and_one (s k : Nat) (hs : s < 9223372036854775808) : bits .and .i64 ((s : Int) / 2 ^ k) 1 = (bitN s k : Int) := by
  have h : s / 2 ^ k ≤ s := Nat.div_le_self _ _
  have := bits_and (s / 2 ^ k) 1 (by omega)
  rw [shr_nat]
  rw [show ((1 : Nat) : Int) = 1 from rfl] at this
  rw [this, Nat.and_one_is_mod, bitN_eq]

theorem test_t {s k : Nat} (hs : s < 9223372036854775808) (h : s.testBit k = true) : (bits .and .i64 ((s : Int) / 2 ^ k) 1 == 1) = true := by
  rw [shr_and_one s k hs, bitN_t h]; rfl
theorem test_f {s k : Nat} (hs : s < 9223372036854775808) (h : s.testBit k = false) : (bits .and .i64 ((s : Int) / 2 ^ k) 1 == 1) = false := by
  rw [shr_and_one s k hs, bitN_f h]; rfl

theorem mod_succ (x k : Nat) : x % 2 ^ (k + 1) = x % 2 ^ k + bitN x k * 2 ^ k := by
  rw [← bitN_eq, Nat.mod_pow_succ, Nat.mul_comm]

def lowN (x k : Nat) : Nat := x % 2 ^ k
theorem lowN_succ (x k : Nat) : lowN x (k + 1) = lowN x k + bitN x k * 2 ^ k := mod_succ x k
theorem lowN_zero (x : Nat) : lowN x 0 = 0 := by simp [lowN, Nat.mod_one]
theorem lowN_le (x k : Nat) : lowN x k ≤ x := Nat.mod_le _ _
theorem lowN_lt {x k : Nat} (h : x < 2 ^ k) : lowN x k = x := Nat.mod_eq_of_lt h
theorem bitN_and (a b k : Nat) : bitN a k * bitN b k = bitN (a &&& b) k := by
  unfold bitN; rw [Nat.testBit_and]; cases a.testBit k <;> cases b.testBit k <;> rfl
theorem pow_int (k : Nat) : (2 : Int) ^ k = ((2 ^ k : Nat) : Int) := by simp

theorem pow_bd {k n : Nat} (h : k ≤ n) : (1 : Int) ≤ 2 ^ k ∧ (2 : Int) ^ k ≤ ((2 ^ n : Nat) : Int) := by
  rw [pow_int]
  exact ⟨Int.ofNat_le.2 (Nat.two_pow_pos k), Int.ofNat_le.2 (Nat.pow_le_pow_right (by omega) h)⟩
theorem pow_bd20 {k : Nat} (h : k ≤ 20) : (1 : Int) ≤ 2 ^ k ∧ (2 : Int) ^ k ≤ 1048576 := pow_bd h
theorem pow_bd10 {k : Nat} (h : k ≤ 10) : (1 : Int) ≤ 2 ^ k ∧ (2 : Int) ^ k ≤ 1024 := pow_bd h
theorem pow_lt20 {k : Nat} (h : k ≤ 10) : 2 ^ k < 1048576 := Nat.lt_of_le_of_lt (Nat.pow_le_pow_right (by omega) h) (by decide)
theorem lt_pow {a k : Nat} (h : (a : Int) < 2 ^ k) : a < 2 ^ k := Int.ofNat_lt.1 (by rw [← pow_int]; exact h)
theorem le_pow {a k : Nat} (h : (2 : Int) ^ k ≤ a) : 2 ^ k ≤ a := Int.ofNat_le.1 (by rw [← pow_int]; exact h)

theorem lt_of_testBit_zero {x n : Nat} (h : x < 2 ^ n) {k : Nat} (hk : n ≤ k) : x.testBit k = false :=
  Nat.testBit_lt_two_pow (Nat.lt_of_lt_of_le h (Nat.pow_le_pow_right (by omega) hk))

end Go.Proofs.Ytechllcflknnlaa
