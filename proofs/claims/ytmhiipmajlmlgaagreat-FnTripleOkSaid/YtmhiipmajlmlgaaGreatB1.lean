/- The reference's AutoBoth, walked by the engine. -/
import Derived.Test.YtmhiipmajlmlgaaGreatGrpD
import Derived.Test.YtmhiipmajlmlgaaGreatEngMin
namespace Go.Proofs.YtmhiipmajlmlgaaGreat
set_option linter.unusedSimpArgs false
set_option linter.unusedVariables false
set_option maxRecDepth 8000
set_option maxHeartbeats 2000000
open Go Go.RowKit AV

theorem ends_cast {E : List Int} {N : List (List Int)} (h : AutoOK ⟨E, N⟩) {i : Nat} (hi : i < E.length) : E[i] = ((endsN ⟨E, N⟩ i : Nat) : Int) := by
  have h0 : 0 ≤ nth E i := (h.ends i hi).1
  show E[i] = ((nth E i).toNat : Int)
  rw [nth_getElem hi] at h0 ⊢
  omega
theorem ends_le {E : List Int} {N : List (List Int)} (h : AutoOK ⟨E, N⟩) {i : Nat} (hi : i < E.length) : endsN ⟨E, N⟩ i ≤ 15 := by
  have h0 : nth E i ≤ 15 := (h.ends i hi).2
  show (nth E i).toNat ≤ 15
  omega
theorem row_len {E : List Int} {N : List (List Int)} (h : AutoOK ⟨E, N⟩) {i : Nat} (hi : i < N.length) : N[i].length = 12 := by
  have hl : N.length = E.length := h.len
  have h0 : (nthL N i).length = 12 := h.rows i (by show i < E.length; omega)
  rwa [nthL_getElem hi] at h0
theorem next_cast {E : List Int} {N : List (List Int)} (h : AutoOK ⟨E, N⟩) {i j : Nat} (hi : i < N.length) (hj : j < N[i].length) : N[i][j] = ((nextN ⟨E, N⟩ i j : Nat) : Int) := by
  have hl : N.length = E.length := h.len
  have hr := row_len h hi
  have h0 : 0 ≤ nth (nthL N i) j := (h.sets i (by show i < E.length; omega) j (by omega)).1
  show N[i][j] = ((nth (nthL N i) j).toNat : Int)
  rw [nthL_getElem hi, nth_getElem hj] at h0 ⊢
  omega
theorem next_lt {E : List Int} {N : List (List Int)} (h : AutoOK ⟨E, N⟩) {i j : Nat} (hi : i < N.length) (hj : j < N[i].length) : nextN ⟨E, N⟩ i j < 2 ^ E.length := by
  have hl : N.length = E.length := h.len
  have hr := row_len h hi
  have h0 : nth (nthL N i) j ≤ 2 ^ E.length - 1 := (h.sets i (by show i < E.length; omega) j (by omega)).2
  have h1 := next_cast h hi hj
  rw [nthL_getElem hi, nth_getElem hj, h1] at h0
  exact lt_pow (by omega)

end Go.Proofs.YtmhiipmajlmlgaaGreat
