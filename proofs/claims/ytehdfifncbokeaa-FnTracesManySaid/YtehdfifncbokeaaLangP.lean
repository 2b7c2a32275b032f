/- Which traces an expression has; its parts, one after the other, tell the same. No program in sight. -/
import Derived.Test.YtehdfifncbokeaaGrpR
namespace Go.Proofs.Ytehdfifncbokeaa
set_option linter.unusedSimpArgs false
set_option linter.unusedVariables false
set_option maxRecDepth 8000
set_option maxHeartbeats 2000000
open Go.RowKit

inductive StarN (R : Nat → Nat → Prop) : Nat → Nat → Prop where
  | refl (a : Nat) : StarN R a a
  | step {a b c : Nat} (hl : a < b) (h : R a b) (t : StarN R b c) : StarN R a c
theorem StarN.le {R : Nat → Nat → Prop} {a b : Nat} (h : StarN R a b) : a ≤ b := by
  induction h with
  | refl a => exact Nat.le_refl _
  | step hl h t ih => omega
theorem StarN.inv {R : Nat → Nat → Prop} {a b : Nat} : StarN R a b ↔ a = b ∨ ∃ c, a < c ∧ c ≤ b ∧ R a c ∧ StarN R c b := by
  constructor
  · intro h
    cases h with
    | refl a => exact .inl rfl
    | step hl h t => exact .inr ⟨_, hl, t.le, h, t⟩
  · rintro (rfl | ⟨c, h1, _, h2, h3⟩)
    · exact .refl _
    · exact .step h1 h2 h3

def Lg (t : List Int) : Ex → Nat → Nat → Prop
  | .leaf n, a, b => if n ≤ 15 then a = b ∧ n.toNat.testBit (nth t (2 * a)).toNat = true else b = a + 1 ∧ nth t (2 * a + 1) = n
  | .thn x y, a, b => ∃ c, a ≤ c ∧ c ≤ b ∧ Lg t x a c ∧ Lg t y c b
  | .pls x y, a, b => Lg t x a b ∨ Lg t y a b
  | .str x, a, b => StarN (Lg t x) a b

def TrV (t : List Int) (n : Nat) : Prop := (∀ i, i ≤ n → 0 ≤ nth t (2 * i) ∧ nth t (2 * i) ≤ 3) ∧ ∀ i, i < n → 16 ≤ nth t (2 * i + 1) ∧ nth t (2 * i + 1) ≤ 18
theorem TraceOK.trV {t : List Int} (h : TraceOK t) : TrV t (t.length / 2) := ⟨fun i hi => h.atoms i (by have := h.odd; omega), fun i hi => h.acts i (by have := h.odd; omega)⟩
theorem TrV.mono {t : List Int} {n m : Nat} (h : TrV t n) (hm : m ≤ n) : TrV t m := ⟨fun i hi => h.1 i (by omega), fun i hi => h.2 i (by omega)⟩

theorem Lg.le {t : List Int} : ∀ {x : Ex} {a b : Nat}, Lg t x a b → a ≤ b
  | .leaf n, a, b, h => by
    simp only [Lg] at h
    split at h
    · omega
    · omega
  | .thn x y, a, b, ⟨c, h1, h2, _, _⟩ => by omega
  | .pls x y, a, b, h => by
    rcases h with h | h
    · exact Lg.le h
    · exact Lg.le h
  | .str x, a, b, h => StarN.le h

open Classical in
noncomputable def lgB (t : List Int) (x : Ex) (a b : Nat) : Bool := decide (Lg t x a b)
theorem lgB_true {t : List Int} {x : Ex} {a b : Nat} : lgB t x a b = true ↔ Lg t x a b := by simp [lgB]
theorem lgB_false {t : List Int} {x : Ex} {a b : Nat} : lgB t x a b = false ↔ ¬ Lg t x a b := by simp [lgB]
end Go.Proofs.Ytehdfifncbokeaa
