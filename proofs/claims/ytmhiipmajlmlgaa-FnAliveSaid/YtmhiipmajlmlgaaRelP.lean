/- What an expression says of the first and the last atom of its traces; and that its parts, one after the other, say the same. No program in sight. -/
import Derived.Test.YtmhiipmajlmlgaaGrpC
namespace Go.Proofs.Ytmhiipmajlmlgaa
set_option linter.unusedSimpArgs false
set_option linter.unusedVariables false
set_option maxRecDepth 8000
set_option maxHeartbeats 2000000
open Go.RowKit

inductive StarR (R : Nat → Nat → Prop) : Nat → Nat → Prop where
  | refl (a : Nat) : StarR R a a
  | step {a b c : Nat} (h : R a b) (hb : b < 4) (t : StarR R b c) : StarR R a c
def RelX : Ex → Nat → Nat → Prop
  | .leaf n, a, b => if n ≤ 15 then a = b ∧ n.toNat.testBit a = true else True
  | .thn x y, a, b => ∃ c, c < 4 ∧ RelX x a c ∧ RelX y c b
  | .pls x y, a, b => RelX x a b ∨ RelX y a b
  | .str x, a, b => StarR (RelX x) a b
inductive RelC : Ex → Nat → Nat → Prop where
  | fin {x : Ex} {a : Nat} (ha : a < 4) (h : (endX x).testBit a = true) : RelC x a a
  | step {x p : Ex} {a b c a' : Nat} (ha : a < 4) (hc : c < 3) (hp : p ∈ partsX a (16 + (c : Int)) x) (ha' : a' < 4) (h : RelC p a' b) : RelC x a b
theorem RelC.lt {x : Ex} {a b : Nat} (h : RelC x a b) : a < 4 ∧ b < 4 := by
  induction h with
  | fin ha h => exact ⟨ha, ha⟩
  | step ha hc hp ha' h ih => exact ⟨ha, ih.2⟩
theorem bit15 {a : Nat} (h : a < 4) : (15 : Nat).testBit a = true := by
  have : a = 0 ∨ a = 1 ∨ a = 2 ∨ a = 3 := by omega
  rcases this with rfl | rfl | rfl | rfl <;> rfl
theorem relC_leaf15 {a b : Nat} (h : RelC (.leaf 15) a b) : a = b := by
  cases h with
  | fin ha h => rfl
  | step ha hc hp ha' h =>
    simp only [partsX] at hp
    rw [if_neg (by omega)] at hp
    simp at hp
theorem RelC.left {x y : Ex} {a b : Nat} (h : RelC x a b) : RelC (.pls x y) a b := by
  cases h with
  | fin ha h => exact .fin ha (by simp only [endX, Nat.testBit_or, h, Bool.true_or])
  | step ha hc hp ha' h => exact .step ha hc (by simp only [partsX]; exact List.mem_append_left _ hp) ha' h
theorem RelC.right {x y : Ex} {a b : Nat} (h : RelC y a b) : RelC (.pls x y) a b := by
  cases h with
  | fin ha h => exact .fin ha (by simp only [endX, Nat.testBit_or, h, Bool.or_true])
  | step ha hc hp ha' h => exact .step ha hc (by simp only [partsX]; exact List.mem_append_right _ hp) ha' h
theorem RelC.beh {p y : Ex} {a b c : Nat} (h1 : RelC p a c) (h2 : RelC y c b) (ht : RelC (.thn p y) a b) : RelC (behX p y) a b := by
  rcases behX_cases p y with ⟨rfl, e⟩ | e
  · rw [e]
    have := relC_leaf15 h1
    subst this; exact h2
  · rw [e]; exact ht
theorem RelC.thn {x y : Ex} {a b c : Nat} (h1 : RelC x a c) (h2 : RelC y c b) : RelC (.thn x y) a b := by
  induction h1 with
  | fin ha h =>
    cases h2 with
    | fin hb g => exact .fin ha (by simp only [endX, Nat.testBit_and, h, g, Bool.true_and])
    | step hb hc hp ha' g => exact .step ha hc (by simp only [partsX]; rw [if_pos h]; exact List.mem_append_right _ hp) ha' g
  | step ha hc hp ha' h ih => exact .step ha hc (by simp only [partsX]; exact List.mem_append_left _ (List.mem_map.2 ⟨_, hp, rfl⟩)) ha' (RelC.beh h h2 (ih h2))
theorem RelC.str {x : Ex} {a b c : Nat} (h1 : RelC x a c) (h2 : RelC (.str x) c b) : RelC (.str x) a b := by
  cases h1 with
  | fin ha h => exact h2
  | step ha hc hp ha' h => exact .step ha hc (by simp only [partsX]; exact List.mem_map.2 ⟨_, hp, rfl⟩) ha' (RelC.beh h h2 (RelC.thn h h2))
theorem relX_C : ∀ {x : Ex}, x.wf → ∀ {a b : Nat}, a < 4 → b < 4 → RelX x a b → RelC x a b
  | .leaf n, hw, a, b, ha, hb, h => by
    simp only [RelX] at h
    by_cases g : n ≤ 15
    · rw [if_pos g] at h
      obtain ⟨rfl, h⟩ := h
      exact .fin ha (by unfold endX; rw [if_pos g]; exact h)
    · have h1 := hw.2
      exact .step (c := (n - 16).toNat) (p := .leaf 15) ha (by omega) (by simp only [partsX]; rw [if_pos (by omega)]; simp) hb (.fin hb (by unfold endX; rw [if_pos (by omega)]; exact bit15 hb))
  | .thn x y, hw, a, b, ha, hb, ⟨c, hc, h1, h2⟩ => RelC.thn (relX_C hw.1 ha hc h1) (relX_C hw.2 hc hb h2)
  | .pls x y, hw, a, b, ha, hb, h => by
    rcases h with h | h
    · exact (relX_C hw.1 ha hb h).left
    · exact (relX_C hw.2 ha hb h).right
  | .str x, hw, a, b, ha, hb, h => by
    have ih := fun {a b : Nat} => @relX_C x hw a b
    have h' : StarR (RelX x) a b := h
    induction h' with
    | refl a => exact .fin ha (by unfold endX; exact bit15 ha)
    | step h1 hc t it => exact RelC.str (ih ha hc h1) (it hc hb t)
theorem endX_rel : ∀ {x : Ex}, x.wf → ∀ {a : Nat}, a < 4 → (endX x).testBit a = true → RelX x a a
  | .leaf n, hw, a, ha, h => by
    unfold endX at h
    simp only [RelX]
    by_cases g : n ≤ 15
    · rw [if_pos g] at h ⊢; exact ⟨trivial, h⟩
    · rw [if_neg g]; trivial
  | .thn x y, hw, a, ha, h => by
    simp only [endX, Nat.testBit_and, Bool.and_eq_true] at h
    exact ⟨a, ha, endX_rel hw.1 ha h.1, endX_rel hw.2 ha h.2⟩
  | .pls x y, hw, a, ha, h => by
    simp only [endX, Nat.testBit_or, Bool.or_eq_true] at h
    rcases h with h | h
    · exact .inl (endX_rel hw.1 ha h)
    · exact .inr (endX_rel hw.2 ha h)
  | .str x, hw, a, ha, h => StarR.refl a
theorem beh_rel {p y : Ex} {a b : Nat} (ha : a < 4) (h : RelX (behX p y) a b) : ∃ c, c < 4 ∧ RelX p a c ∧ RelX y c b := by
  rcases behX_cases p y with ⟨rfl, e⟩ | e
  · rw [e] at h
    exact ⟨a, ha, by simp only [RelX]; rw [if_pos (by omega)]; exact ⟨trivial, bit15 ha⟩, h⟩
  · rw [e] at h; exact h
theorem part_rel : ∀ {x : Ex}, x.wf → ∀ {a b c a' : Nat} {p : Ex}, a < 4 → a' < 4 → c < 3 → p ∈ partsX a (16 + (c : Int)) x → RelX p a' b → RelX x a b
  | .leaf n, hw, a, b, c, a', p, ha, ha', hc, hp, h => by
    simp only [partsX] at hp
    split at hp
    · rename_i g
      simp only [RelX]
      rw [if_neg (by omega)]; trivial
    · simp at hp
  | .thn x y, hw, a, b, c, a', p, ha, ha', hc, hp, h => by
    simp only [partsX] at hp
    rcases List.mem_append.1 hp with hp | hp
    · obtain ⟨q, hq, rfl⟩ := List.mem_map.1 hp
      obtain ⟨d, hd, h1, h2⟩ := beh_rel ha' h
      exact ⟨d, hd, part_rel hw.1 ha ha' hc hq h1, h2⟩
    · split at hp
      · rename_i g
        exact ⟨a, ha, endX_rel hw.1 ha g, part_rel hw.2 ha ha' hc hp h⟩
      · simp at hp
  | .pls x y, hw, a, b, c, a', p, ha, ha', hc, hp, h => by
    simp only [partsX] at hp
    rcases List.mem_append.1 hp with hp | hp
    · exact .inl (part_rel hw.1 ha ha' hc hp h)
    · exact .inr (part_rel hw.2 ha ha' hc hp h)
  | .str x, hw, a, b, c, a', p, ha, ha', hc, hp, h => by
    simp only [partsX] at hp
    obtain ⟨q, hq, rfl⟩ := List.mem_map.1 hp
    obtain ⟨d, hd, h1, h2⟩ := beh_rel ha' h
    exact StarR.step (part_rel (x := x) hw ha ha' hc hq h1) hd h2
theorem relC_X {x : Ex} {a b : Nat} (hw : x.wf) (h : RelC x a b) : RelX x a b := by
  induction h with
  | fin ha h => exact endX_rel hw ha h
  | step ha hc hp ha' h ih => exact part_rel hw ha ha' hc hp (ih (partsX_wf hw _ hp))
end Go.Proofs.Ytmhiipmajlmlgaa
