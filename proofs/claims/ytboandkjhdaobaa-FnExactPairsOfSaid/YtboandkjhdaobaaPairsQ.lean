/- Rows that prove that two automata are equal, as they are gone through. No program in sight. -/
import Derived.Test.YtboandkjhdaobaaPairsP
namespace Go.Proofs.Ytboandkjhdaobaa
set_option linter.unusedSimpArgs false
set_option linter.unusedVariables false
set_option maxRecDepth 8000
set_option maxHeartbeats 2000000
open Go.RowKit

structure HasP (A B : AutoD) (L : List (List Int)) (k : Nat) (K : List (Nat × Nat)) : Prop where
  row : ∀ i (h : i < L.length), i < k → ∃ p ∈ K, L[i] = rowP2 p
  mem : ∀ p ∈ K, rowP2 p ∈ L ∧ p.1 < 2 ^ A.ends.length ∧ p.2 < 2 ^ B.ends.length
  len : K.length ≤ k
section
variable {A B : AutoD} {L : List (List Int)} {k : Nat} {K : List (Nat × Nat)}
theorem HasP.zero : HasP A B L 0 [] := ⟨fun i _ h => by omega, fun p hp => by simp at hp, Nat.le_refl _⟩
theorem HasP.old (h : HasP A B L k K) (hk : k < L.length) {p : Nat × Nat} (hp : p ∈ K) (e : L[k] = rowP2 p) : HasP A B L (k + 1) K := by
  refine ⟨fun i hi hik => ?_, h.mem, by have := h.len; omega⟩
  rcases Nat.lt_or_ge i k with g | g
  · exact h.row i hi g
  · obtain rfl : i = k := by omega
    exact ⟨p, hp, e⟩
theorem HasP.new (h : HasP A B L k K) (hk : k < L.length) {p : Nat × Nat} (e : L[k] = rowP2 p) (b1 : p.1 < 2 ^ A.ends.length) (b2 : p.2 < 2 ^ B.ends.length) : HasP A B L (k + 1) (K ++ [p]) := by
  refine ⟨fun i hi hik => ?_, fun q hq => ?_, by have := h.len; simp; omega⟩
  · rcases Nat.lt_or_ge i k with g | g
    · obtain ⟨q, hq, e2⟩ := h.row i hi g
      exact ⟨q, List.mem_append_left _ hq, e2⟩
    · obtain rfl : i = k := by omega
      exact ⟨p, by simp, e⟩
  · rcases List.mem_append.1 hq with g | g
    · exact h.mem q g
    · rw [List.mem_singleton] at g
      subst g
      exact ⟨e ▸ List.getElem_mem hk, b1, b2⟩
theorem HasP.all (h : HasP A B L L.length K) {p : Nat × Nat} : rowP2 p ∈ L ↔ p ∈ K := by
  constructor
  · intro hp
    obtain ⟨i, hi, e⟩ := List.getElem_of_mem hp
    obtain ⟨q, hq, e2⟩ := h.row i hi hi
    rw [e] at e2
    exact rowP2_inj e2 ▸ hq
  · exact fun hp => (h.mem p hp).1
theorem HasP.yes (h : HasP A B L L.length K) (hA : A.ends.length ≠ 0) (hB : B.ends.length ≠ 0) (hL : L.length ≤ 100) (h1 : (1, 1) ∈ K) (hc : ∀ p ∈ K, finP A B p = 0 ∧ ∀ m, m < 12 → stepP A B p m ∈ K) : okB A B L = true := by
  refine okB_true.2 ⟨hA, hB, hL, h.all.2 h1, fun r hr => ?_⟩
  obtain ⟨i, hi, rfl⟩ := List.getElem_of_mem hr
  obtain ⟨p, hp, e⟩ := h.row i hi hi
  obtain ⟨_, b1, b2⟩ := h.mem p hp
  obtain ⟨c1, c2⟩ := hc p hp
  exact ⟨p, e, b1, b2, finP_zero.1 c1, fun m hm => h.all.2 (c2 m hm)⟩
theorem HasP.no_one (h : HasP A B L L.length K) (h1 : (1, 1) ∉ K) : okB A B L = false := okB_false.2 fun ⟨_, _, _, g, _⟩ => h1 (h.all.1 g)
theorem HasP.no_fin (h : HasP A B L L.length K) {p : Nat × Nat} (hp : p ∈ K) (hf : finP A B p ≠ 0) : okB A B L = false := okB_false.2 fun ⟨_, _, _, _, g⟩ => by
  obtain ⟨q, e, _, _, g2, _⟩ := g _ (h.all.2 hp)
  rw [rowP2_inj e] at hf
  exact hf (finP_zero.2 g2)
theorem HasP.no_step (h : HasP A B L L.length K) {p : Nat × Nat} (hp : p ∈ K) {m : Nat} (hm : m < 12) (hf : stepP A B p m ∉ K) : okB A B L = false := okB_false.2 fun ⟨_, _, _, _, g⟩ => by
  obtain ⟨q, e, _, _, _, g2⟩ := g _ (h.all.2 hp)
  rw [rowP2_inj e] at hf
  exact hf (h.all.1 (g2 m hm))
theorem okB_row (hk : k < L.length) (h : ¬ ∃ p : Nat × Nat, L[k] = rowP2 p ∧ p.1 < 2 ^ A.ends.length ∧ p.2 < 2 ^ B.ends.length) : okB A B L = false := okB_false.2 fun ⟨_, _, _, _, g⟩ => by
  obtain ⟨q, e, b1, b2, _⟩ := g _ (List.getElem_mem hk)
  exact h ⟨q, e, b1, b2⟩
theorem okB_len (hk : k < L.length) (h : L[k].length ≠ 2) : okB A B L = false := okB_row hk fun ⟨p, e, _⟩ => h (by rw [e]; rfl)
theorem okB_one {a b : Int} (hk : k < L.length) (e : L[k] = [a, b]) (h : ¬ (0 ≤ a ∧ a < 2 ^ A.ends.length)) : okB A B L = false := okB_row hk fun ⟨p, e2, b1, _⟩ => h (by
  rw [e] at e2
  simp only [rowP2, List.cons.injEq, and_true] at e2
  rw [e2.1]
  refine ⟨by omega, ?_⟩
  have : ((p.1 : Nat) : Int) < ((2 ^ A.ends.length : Nat) : Int) := Int.ofNat_lt.2 b1
  simpa using this)
theorem okB_two {a b : Int} (hk : k < L.length) (e : L[k] = [a, b]) (h : ¬ (0 ≤ b ∧ b < 2 ^ B.ends.length)) : okB A B L = false := okB_row hk fun ⟨p, e2, _, b1⟩ => h (by
  rw [e] at e2
  simp only [rowP2, List.cons.injEq, and_true] at e2
  rw [e2.2]
  refine ⟨by omega, ?_⟩
  have : ((p.2 : Nat) : Int) < ((2 ^ B.ends.length : Nat) : Int) := Int.ofNat_lt.2 b1
  simpa using this)
theorem okB_no (h : ¬ (A.ends.length ≠ 0 ∧ B.ends.length ≠ 0 ∧ L.length ≤ 100 ∧ [1, 1] ∈ L)) : okB A B L = false := okB_false.2 fun ⟨h1, h2, h3, h4, _⟩ => h ⟨h1, h2, h3, h4⟩
theorem okB_fin {p : Nat × Nat} (hk : k < L.length) (e : L[k] = rowP2 p) (h : endF A p.1 ≠ endF B p.2) : okB A B L = false := okB_false.2 fun ⟨_, _, _, _, g⟩ => by
  obtain ⟨q, e2, _, _, g2, _⟩ := g _ (List.getElem_mem hk)
  rw [rowP2_inj (e.symm.trans e2)] at h
  exact h g2
theorem okB_step {p : Nat × Nat} (hk : k < L.length) (e : L[k] = rowP2 p) {m : Nat} (hm : m < 12) (h : rowP2 (stepP A B p m) ∉ L) : okB A B L = false := okB_false.2 fun ⟨_, _, _, _, g⟩ => by
  obtain ⟨q, e2, _, _, _, g2⟩ := g _ (List.getElem_mem hk)
  rw [rowP2_inj (e.symm.trans e2)] at h
  exact h (g2 m hm)
def GoodR (A B : AutoD) (L : List (List Int)) (k : Nat) : Prop := ∀ i (h : i < L.length), i < k → ∃ p : Nat × Nat, L[i] = rowP2 p ∧ p.1 < 2 ^ A.ends.length ∧ p.2 < 2 ^ B.ends.length ∧ endF A p.1 = endF B p.2 ∧ ∀ m, m < 12 → rowP2 (stepP A B p m) ∈ L
theorem GoodR.zero : GoodR A B L 0 := fun i _ h => by omega
theorem GoodR.next (h : GoodR A B L k) (hk : k < L.length) {p : Nat × Nat} (e : L[k] = rowP2 p) (b1 : p.1 < 2 ^ A.ends.length) (b2 : p.2 < 2 ^ B.ends.length) (hf : endF A p.1 = endF B p.2) (hs : ∀ m, m < 12 → rowP2 (stepP A B p m) ∈ L) : GoodR A B L (k + 1) := fun i hi hik => by
  rcases Nat.lt_or_ge i k with g | g
  · exact h i hi g
  · obtain rfl : i = k := by omega
    exact ⟨p, e, b1, b2, hf, hs⟩
theorem GoodR.yes (h : GoodR A B L L.length) (hA : A.ends.length ≠ 0) (hB : B.ends.length ≠ 0) (hL : L.length ≤ 100) (h1 : [1, 1] ∈ L) : okB A B L = true := okB_true.2 ⟨hA, hB, hL, h1, fun r hr => by
  obtain ⟨i, hi, rfl⟩ := List.getElem_of_mem hr
  exact h i hi hi⟩
end

noncomputable def diffT (A B : AutoD) : List Int := if pairsL A B = [] then [] else shT (stepP A B) (1, 1) (finP A B)
noncomputable def diffB (A B : AutoD) : Bool := if pairsL A B = [] then false else shB (stepP A B) (1, 1) (finP A B)
noncomputable def equalI (A B : AutoD) : Int := if okB A B (pairsL A B) = true then 1 else if diffB A B = true then 0 else -1
theorem ok_not_diff {A B : AutoD} {L : List (List Int)} (h : okB A B L = true) : diffB A B = false := by
  unfold diffB
  split
  · rfl
  · exact (ShR.eq (.inr ⟨rfl, rfl, okB_none h 21⟩)).2.symm
theorem pairsL_nil {A B : AutoD} : pairsL A B = [] ↔ (A.ends.length = 0 ∨ B.ends.length = 0) ∨ reachP A B = none := by
  by_cases h : A.ends.length = 0 ∨ B.ends.length = 0
  · exact ⟨fun _ => .inl h, fun _ => pairsL_no h⟩
  · cases hr : reachP A B with
    | none => exact ⟨fun _ => .inr rfl, fun _ => pairsL_many hr⟩
    | some l =>
      rw [pairsL_yes h hr]
      have := prF_mem hr
      constructor
      · intro e
        rw [List.map_eq_nil_iff] at e
        rw [e] at this; cases this
      · rintro (g | g)
        · exact absurd g h
        · cases g

end Go.Proofs.Ytboandkjhdaobaa
