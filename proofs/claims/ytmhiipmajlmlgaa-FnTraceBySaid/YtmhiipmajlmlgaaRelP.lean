/- What an expression says of the first and the last atom of its traces; and that its parts, one after the other, say the same. No program in sight. -/
import Derived.Test.YtmhiipmajlmlgaaGrpC
namespace Go.Proofs.Ytmhiipmajlmlgaa
set_option linter.unusedSimpArgs false
set_option linter.unusedVariables false
set_option maxRecDepth 8000
set_option maxHeartbeats 2000000
open Go.RowKit

inductive StarR (R : Nat → Nat → Prop) : Nat → Nat → Prop where
  | refl (a : Nat) : StarR R a a
  | step {a b c : Nat} (h : R a b) (hb : b < 4) (t : StarR R b c) : StarR R a c
inductive RelC : Ex → Nat → Nat → Prop where
  | fin {x : Ex} {a : Nat} (ha : a < 4) (h : (endX x).testBit a = true) : RelC x a a
  | step {x p : Ex} {a b c a' : Nat} (ha : a < 4) (hc : c < 3) (hp : p ∈ partsX a (16 + (c : Int)) x) (ha' : a' < 4) (h : RelC p a' b) : RelC x a b
theorem RelC.lt {x : Ex} {a b : Nat} (h : RelC x a b) : a < 4 ∧ b < 4 := by
  induction h with
  | fin ha h => exact ⟨ha, ha⟩
  | step ha hc hp ha' h ih => exact ⟨ha, ih.2⟩
theorem bit15 {a : Nat} (h : a < 4) : (15 : Nat).testBit a = true := by
  have : a = 0 ∨ a = 1 ∨ a = 2 ∨ a = 3 := by omega
  rcases this with rfl | rfl | rfl | rfl <;> rfl
theorem relC_leaf15 {a b : Nat} (h : RelC (.leaf 15) a b) : a = b := by
  cases h with
  | fin ha h => rfl
  | step ha hc hp ha' h =>
    simp only [partsX] at hp
    rw [if_neg (by omega)] at hp
    simp at hp
theorem RelC.left {x y : Ex} {a b : Nat} (h : RelC x a b) : RelC (.pls x y) a b := by
  cases h with
  | fin ha h => exact .fin ha (by simp only [endX, Nat.testBit_or, h, Bool.true_or])
  | step ha hc hp ha' h => exact .step ha hc (by simp only [partsX]; exact List.mem_append_left _ hp) ha' h
theorem RelC.right {x y : Ex} {a b : Nat} (h : RelC y a b) : RelC (.pls x y) a b := by
  cases h with
  | fin ha h => exact .fin ha (by simp only [endX, Nat.testBit_or, h, Bool.or_true])
  | step ha hc hp ha' h => exact .step ha hc (by simp only [partsX]; exact List.mem_append_right _ hp) ha' h
theorem RelC.beh {p y : Ex} {a b c : Nat} (h1 : RelC p a c) (h2 : RelC y c b) (ht : RelC (.thn p y) a b) : RelC (behX p y) a b := by
  rcases behX_cases p y with ⟨rfl, e⟩ | e
  · rw [e]
    have := relC_leaf15 h1
    subst this; exact h2
  · rw [e]; exact ht
theorem RelC.thn {x y : Ex} {a b c : Nat} (h1 : RelC x a c) (h2 : RelC y c b) : RelC (.thn x y) a b := by
  induction h1 with
  | fin ha h =>
    cases h2 with
    | fin hb g => exact .fin ha (by simp only [endX, Nat.testBit_and, h, g, Bool.true_and])
    | step hb hc hp ha' g => exact .step ha hc (by simp only [partsX]; rw [if_pos h]; exact List.mem_append_right _ hp) ha' g
  | step ha hc hp ha' h ih => exact .step ha hc (by simp only [partsX]; exact List.mem_append_left _ (List.mem_map.2 ⟨_, hp, rfl⟩)) ha' (RelC.beh h h2 (ih h2))
theorem RelC.str {x : Ex} {a b c : Nat} (h1 : RelC x a c) (h2 : RelC (.str x) c b) : RelC (.str x) a b := by
  cases h1 with
  | fin ha h => exact h2
  | step ha hc hp ha' h => exact .step ha hc (by simp only [partsX]; exact List.mem_map.2 ⟨_, hp, rfl⟩) ha' (RelC.beh h h2 (RelC.thn h h2))
end Go.Proofs.Ytmhiipmajlmlgaa
