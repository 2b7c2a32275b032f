/- The parts of a valid automaton as natural numbers. No program in sight. -/
import Derived.Test.YtljoonlcpiagjaaGrpD
namespace Go.Proofs.Ytljoonlcpiagjaa
set_option linter.unusedSimpArgs false
set_option linter.unusedVariables false
set_option maxRecDepth 8000
set_option maxHeartbeats 2000000
open Go Go.RowKit AV

theorem k_row_len {E : List Int} {N : List (List Int)} (h : AutoOK ⟨E, N⟩) {i : Nat} (hi : i < N.length) : N[i].length = 12 := by
  have hl : N.length = E.length := h.len
  have h0 : (nthL N i).length = 12 := h.rows i (by show i < E.length; omega)
  rwa [nthL_getElem hi] at h0
theorem k_next_cast {E : List Int} {N : List (List Int)} (h : AutoOK ⟨E, N⟩) {i j : Nat} (hi : i < N.length) (hj : j < N[i].length) : N[i][j] = ((nextN ⟨E, N⟩ i j : Nat) : Int) := by
  have hl : N.length = E.length := h.len
  have hr := k_row_len h hi
  have h0 : 0 ≤ nth (nthL N i) j := (h.sets i (by show i < E.length; omega) j (by omega)).1
  show N[i][j] = ((nth (nthL N i) j).toNat : Int)
  rw [nthL_getElem hi, nth_getElem hj] at h0 ⊢
  omega
theorem k_next_lt {E : List Int} {N : List (List Int)} (h : AutoOK ⟨E, N⟩) {i j : Nat} (hi : i < N.length) (hj : j < N[i].length) : nextN ⟨E, N⟩ i j < 2 ^ E.length := by
  have hl : N.length = E.length := h.len
  have hr := k_row_len h hi
  have h0 : nth (nthL N i) j ≤ 2 ^ E.length - 1 := (h.sets i (by show i < E.length; omega) j (by omega)).2
  have h1 := k_next_cast h hi hj
  rw [nthL_getElem hi, nth_getElem hj, h1] at h0
  exact lt_pow (by omega)

def smallE (E : List Int) (N : List (List Int)) : Prop := E.length ≤ 1099511627776 ∧ N.length ≤ 1099511627776 ∧ ∀ x ∈ N, x.length ≤ 1099511627776
theorem smallE_valid {E : List Int} {N : List (List Int)} (h : smallE E N) : E.length ≤ 4611686018427387904 ∧ N.length ≤ 4611686018427387904 ∧ (∀ x ∈ N, x.length ≤ 4611686018427387904) :=
  ⟨by have := h.1; omega, by have := h.2.1; omega, fun x hx => by have := h.2.2 x hx; omega⟩

end Go.Proofs.Ytljoonlcpiagjaa
