/- Drawn traces of an expression: bounds. No program in sight. -/
import Derived.Test.YtehdfifncbokeaaGreatDrawP4
namespace Go.Proofs.YtehdfifncbokeaaGreat
set_option linter.unusedSimpArgs false
set_option linter.unusedVariables false
set_option maxRecDepth 8000
set_option maxHeartbeats 2000000

theorem pow3_le {d : Nat} (h : d ≤ 2) : 1 ≤ 3 ^ d ∧ 3 ^ d ≤ 9 := by
  rcases (by omega : d = 0 ∨ d = 1 ∨ d = 2) with rfl | rfl | rfl <;> decide
theorem ofX_p9 (bs : List Nat) (x : Ex) {deep : Nat} (p : Nat) (h : deep ≤ 2) : (ofX bs x deep p).2 ≤ p + 36 * x.steps.length := by
  have h1 := ofX_p bs x deep p
  have h2 : 4 * x.steps.length * 3 ^ deep ≤ 4 * x.steps.length * 9 := Nat.mul_le_mul_left _ (pow3_le h).2
  omega
theorem ofX_len9 (bs : List Nat) (x : Ex) {deep : Nat} (p : Nat) (h : deep ≤ 2) : (ofX bs x deep p).1.length ≤ 27 * x.steps.length := by
  have h1 := ofX_len bs x deep p
  have h2 : 3 * x.steps.length * 3 ^ deep ≤ 3 * x.steps.length * 9 := Nat.mul_le_mul_left _ (pow3_le h).2
  omega
theorem glueX_pos (bs : List Nat) (p : Nat) {a b : List Int} (ha : 1 ≤ a.length) (hb : 1 ≤ b.length) : 1 ≤ (glueX bs p a b).1.length := by
  unfold glueX
  split
  · dsimp only
    split
    · exact ha
    · simp only [List.length_append]; omega
  · simp only [List.length_append]; omega
theorem starX_pos {bs : List Nat} {f : Nat → List Int × Nat} (h : ∀ q, 1 ≤ (f q).1.length) : ∀ (k : Nat) (out : List Int) (p : Nat), 1 ≤ out.length → 1 ≤ (starX bs f k out p).1.length
  | 0, out, p, ho => ho
  | k + 1, out, p, ho => by
    unfold starX
    dsimp only
    exact starX_pos h k _ _ (glueX_pos bs _ ho (h p))
theorem ofX_pos (bs : List Nat) : ∀ (x : Ex) (deep p : Nat), 1 ≤ (ofX bs x deep p).1.length
  | .leaf n, deep, p => by unfold ofX; split <;> simp
  | .pls a b, deep, p => by
    unfold ofX
    split
    · exact ofX_pos bs a _ _
    · exact ofX_pos bs b _ _
  | .thn a b, deep, p => by
    unfold ofX
    exact glueX_pos bs _ (ofX_pos bs a _ _) (ofX_pos bs b _ _)
  | .str a, deep, p => by
    unfold ofX
    exact starX_pos (fun q => ofX_pos bs a _ q) _ _ _ (by simp)
theorem glueX_odd (bs : List Nat) (p : Nat) {a b : List Int} (ha : a.length % 2 = 1) (hb : b.length % 2 = 1) : (glueX bs p a b).1.length % 2 = 1 := by
  unfold glueX
  split
  · dsimp only
    split
    · exact ha
    · simp only [List.length_append, List.length_take]; omega
  · simp only [List.length_append, List.length_take]; omega
theorem starX_odd {bs : List Nat} {f : Nat → List Int × Nat} (h : ∀ q, (f q).1.length % 2 = 1) : ∀ (k : Nat) (out : List Int) (p : Nat), out.length % 2 = 1 → (starX bs f k out p).1.length % 2 = 1
  | 0, out, p, ho => ho
  | k + 1, out, p, ho => by
    unfold starX
    dsimp only
    exact starX_odd h k _ _ (glueX_odd bs _ ho (h p))
theorem ofX_odd (bs : List Nat) : ∀ (x : Ex) (deep p : Nat), (ofX bs x deep p).1.length % 2 = 1
  | .leaf n, deep, p => by unfold ofX; split <;> simp
  | .pls a b, deep, p => by
    unfold ofX
    split
    · exact ofX_odd bs a _ _
    · exact ofX_odd bs b _ _
  | .thn a b, deep, p => by
    unfold ofX
    exact glueX_odd bs _ (ofX_odd bs a _ _) (ofX_odd bs b _ _)
  | .str a, deep, p => by
    unfold ofX
    exact starX_odd (fun q => ofX_odd bs a _ q) _ _ _ (by simp)

end Go.Proofs.YtehdfifncbokeaaGreat
