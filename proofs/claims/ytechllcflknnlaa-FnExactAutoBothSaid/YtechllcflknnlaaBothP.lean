/- Plain facts on the automaton of both: the sets that the reference sums and the program ors are the same. No program in sight. -/
import Derived.Test.YtechllcflknnlaaAutoP
namespace Go.Proofs.Ytechllcflknnlaa
set_option linter.unusedSimpArgs false
set_option linter.unusedVariables false
set_option maxRecDepth 8000
open Go.RowKit

/-- The sum of the powers of two at which p holds, below J. -/
def sumB (p : Nat → Bool) : Nat → Nat
  | 0 => 0
  | J + 1 => sumB p J + (p J).toNat * 2 ^ J
theorem sumB_lt (p : Nat → Bool) : ∀ J, sumB p J < 2 ^ J
  | 0 => by simp [sumB]
  | J + 1 => by
    have h := sumB_lt p J
    have : (p J).toNat * 2 ^ J ≤ 2 ^ J := by cases p J <;> simp
    rw [sumB, Nat.pow_succ]
    omega
theorem sumB_testBit (p : Nat → Bool) (j : Nat) : ∀ J, (sumB p J).testBit j = (decide (j < J) && p j)
  | 0 => by simp [sumB]
  | J + 1 => by
    have h := sumB_lt p J
    have ih := sumB_testBit p j J
    rw [sumB, Nat.add_comm, Nat.mul_comm]
    rw [Nat.testBit_two_pow_mul_add _ h]
    by_cases hj : j < J
    · rw [if_pos hj, ih]
      simp [hj, show j < J + 1 by omega]
    · rw [if_neg hj]
      by_cases e : j = J
      · subst e; cases hp : p j <;> simp
      · have : ¬ j < J + 1 := by omega
        simp only [this, decide_false, Bool.false_and]
        obtain ⟨d, hd⟩ : ∃ d, j - J = d + 1 := ⟨j - J - 1, by omega⟩
        rw [hd]
        cases p J
        · simp
        · simp [Nat.testBit_succ]
theorem eq_sumB {p : Nat → Bool} {J x : Nat} (h : ∀ j, x.testBit j = (decide (j < J) && p j)) : x = sumB p J := Nat.eq_of_testBit_eq fun j => by rw [h, sumB_testBit]

def bothP (A B m : Nat) (j : Nat) : Bool := A.testBit (j / m) && B.testBit (j % m)
theorem bothP_toNat (A B m j : Nat) : (bothP A B m j).toNat = bitN A (j / m) * bitN B (j % m) := by
  unfold bothP bitN; cases A.testBit (j / m) <;> cases B.testBit (j % m) <;> rfl
def orT (A B m : Nat) : Nat → Nat
  | 0 => 0
  | x + 1 => if A.testBit x = true then orT A B m x ||| B * 2 ^ (m * x) else orT A B m x
theorem orT_testBit (A : Nat) {B m : Nat} (hB : B < 2 ^ m) (hm : 0 < m) (j : Nat) : ∀ x, (orT A B m x).testBit j = (decide (j < m * x) && bothP A B m j)
  | 0 => by simp [orT]
  | x + 1 => by
    have ih := orT_testBit A hB hm j x
    have hs : m * (x + 1) = m * x + m := by rw [Nat.mul_add, Nat.mul_one]
    have hsh : (B * 2 ^ (m * x)).testBit j = (decide (m * x ≤ j) && B.testBit (j - m * x)) := by rw [Nat.mul_comm, Nat.testBit_two_pow_mul]
    unfold orT
    by_cases h1 : j < m * x
    · have e2 : decide (j < m * (x + 1)) = true := by rw [decide_eq_true_eq]; omega
      have e1 : decide (j < m * x) = true := by rw [decide_eq_true_eq]; exact h1
      have e3 : decide (m * x ≤ j) = false := by rw [decide_eq_false_iff_not]; omega
      rw [e2]
      split
      · rw [Nat.testBit_or, ih, hsh, e1, e3]; simp
      · rw [ih, e1]
    · have e1 : decide (j < m * x) = false := by rw [decide_eq_false_iff_not]; exact h1
      have e3 : decide (m * x ≤ j) = true := by rw [decide_eq_true_eq]; omega
      by_cases h2 : j < m * (x + 1)
      · have e2 : decide (j < m * (x + 1)) = true := by rw [decide_eq_true_eq]; exact h2
        have hd : j / m = x := by
          rw [Nat.div_eq_iff hm]; constructor
          · rw [Nat.mul_comm]; omega
          · rw [Nat.mul_comm]; omega
        have hr : j % m = j - m * x := by have := Nat.div_add_mod j m; rw [hd] at this; omega
        rw [e2, bothP, hd, hr]
        split
        · rename_i ha
          rw [Nat.testBit_or, ih, hsh, e1, e3, ha]; simp
        · rename_i ha
          rw [ih, e1]; simp [ha]
      · have e2 : decide (j < m * (x + 1)) = false := by rw [decide_eq_false_iff_not]; exact h2
        have hz : B.testBit (j - m * x) = false := Nat.testBit_lt_two_pow (Nat.lt_of_lt_of_le hB (Nat.pow_le_pow_right (by omega) (by omega)))
        rw [e2]
        split
        · rw [Nat.testBit_or, ih, hsh, e1, hz]; simp
        · rw [ih, e1]
theorem orT_eq (A : Nat) {B m : Nat} (hB : B < 2 ^ m) (hm : 0 < m) (x : Nat) : orT A B m x = sumB (bothP A B m) (m * x) := eq_sumB fun j => orT_testBit A hB hm j x

def bothN (X Y : AutoD) (k mv : Nat) : Nat :=
  sumB (bothP (nextN X (k / Y.ends.length) mv) (nextN Y (k % Y.ends.length) mv) Y.ends.length) (X.ends.length * Y.ends.length)
def bothE (X Y : AutoD) (k : Nat) : Nat := endsN X (k / Y.ends.length) &&& endsN Y (k % Y.ends.length)
def rowOf (f : Nat → Nat) (n : Nat) : List Int := (List.range n).map fun i => ((f i : Nat) : Int)
theorem rowOf_len (f : Nat → Nat) (n : Nat) : (rowOf f n).length = n := by simp [rowOf]
theorem rowOf_succ (f : Nat → Nat) (n : Nat) : rowOf f (n + 1) = rowOf f n ++ [((f n : Nat) : Int)] := by simp [rowOf, List.range_succ]
theorem rowOf_nth (f : Nat → Nat) {n i : Nat} (h : i < n) : nth (rowOf f n) i = ((f i : Nat) : Int) := by simp [rowOf, nth, List.getD, h]
def rowsOf (g : Nat → List Int) (n : Nat) : List (List Int) := (List.range n).map g
theorem rowsOf_len (g : Nat → List Int) (n : Nat) : (rowsOf g n).length = n := by simp [rowsOf]
theorem rowsOf_succ (g : Nat → List Int) (n : Nat) : rowsOf g (n + 1) = rowsOf g n ++ [g n] := by simp [rowsOf, List.range_succ]
/-- The automaton of both, as far as its first k states. -/
def bothTo (X Y : AutoD) (k : Nat) : AutoD := ⟨rowOf (bothE X Y) k, rowsOf (fun k => rowOf (bothN X Y k) 12) k⟩

end Go.Proofs.Ytechllcflknnlaa
