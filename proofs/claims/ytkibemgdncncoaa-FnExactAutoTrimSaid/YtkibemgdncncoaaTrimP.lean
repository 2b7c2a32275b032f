/- Plain facts on a trimmed automaton. No program in sight. -/
import Derived.Test.YtkibemgdncncoaaGrpC
namespace Go.Proofs.Ytkibemgdncncoaa
set_option linter.unusedSimpArgs false
set_option linter.unusedVariables false
set_option maxRecDepth 8000
set_option maxHeartbeats 2000000

/-- The states below k that are kept. -/
def ktL (keep k : Nat) : List Nat := (List.range k).filter fun s => keep.testBit s
theorem ktL_zero (keep : Nat) : ktL keep 0 = [] := rfl
theorem ktL_yes {keep k : Nat} (h : keep.testBit k = true) : ktL keep (k + 1) = ktL keep k ++ [k] := by simp [ktL, List.range_succ, List.filter_append, h]
theorem ktL_no {keep k : Nat} (h : keep.testBit k = false) : ktL keep (k + 1) = ktL keep k := by simp [ktL, List.range_succ, List.filter_append, h]
theorem ktL_len (keep k : Nat) : (ktL keep k).length ≤ k := by
  have := List.length_filter_le (fun s => keep.testBit s) (List.range k)
  simpa [ktL] using this
theorem ktL_mem {keep k s : Nat} : s ∈ ktL keep k ↔ s < k ∧ keep.testBit s = true := by simp [ktL]
theorem ktL_nodup (keep k : Nat) : (ktL keep k).Nodup := List.nodup_range.filter _
theorem ktL_stay {keep n : Nat} (h : keep < 2 ^ n) : ∀ j, ktL keep (n + j) = ktL keep n
  | 0 => rfl
  | j + 1 => by
    rw [← Nat.add_assoc, ktL_no, ktL_stay h j]
    exact Nat.testBit_lt_two_pow (Nat.lt_of_lt_of_le h (Nat.pow_le_pow_right (by omega) (by omega)))

/-- A set by the kept states' new numbers. -/
def keepN (set : Nat) (L : List Nat) : Nat := sumB (fun i => set.testBit (L.getD i 0)) L.length
theorem sumB_congr {p q : Nat → Bool} : ∀ J, (∀ i, i < J → p i = q i) → sumB p J = sumB q J
  | 0, _ => rfl
  | J + 1, h => by rw [sumB, sumB, sumB_congr J fun i hi => h i (by omega), h J (by omega)]
theorem keepN_snoc (set : Nat) (L : List Nat) (k : Nat) : keepN set (L ++ [k]) = keepN set L + (set.testBit k).toNat * 2 ^ L.length := by
  unfold keepN
  rw [List.length_append, List.length_singleton, sumB]
  congr 1
  · refine sumB_congr _ fun i hi => ?_
    simp [List.getD, List.getElem?_append_left hi]
  · simp [List.getD]
theorem keepN_lt (set : Nat) (L : List Nat) : keepN set L < 2 ^ L.length := sumB_lt _ _

/-- The set as it grows by the places that have been gone to. -/
def seenN (set : Nat) (L seen : List Nat) : Nat := seen.foldl (fun acc j => if set.testBit (L.getD j 0) then acc ||| 2 ^ j else acc) 0
theorem seenN_snoc (set : Nat) (L seen : List Nat) (j : Nat) : seenN set L (seen ++ [j]) = if set.testBit (L.getD j 0) then seenN set L seen ||| 2 ^ j else seenN set L seen := by simp [seenN]
theorem foldN_testBit (set : Nat) (L : List Nat) (i : Nat) : ∀ (seen : List Nat) (acc : Nat), (seen.foldl (fun acc j => if set.testBit (L.getD j 0) then acc ||| 2 ^ j else acc) acc).testBit i = (acc.testBit i || (decide (i ∈ seen) && set.testBit (L.getD i 0)))
  | [], acc => by simp
  | j :: s, acc => by
    rw [List.foldl_cons, foldN_testBit set L i s]
    by_cases hij : i = j
    · subst hij
      split
      · rename_i h
        rw [Nat.testBit_or, Nat.testBit_two_pow, h]; simp
      · rename_i h
        have : set.testBit (L.getD i 0) = false := by simpa using h
        rw [this]; simp
    · have hji : ¬ j = i := fun e => hij e.symm
      split
      · rw [Nat.testBit_or, Nat.testBit_two_pow]; simp [hij, hji]
      · simp [hij]
theorem seenN_testBit (set : Nat) (L : List Nat) (i : Nat) (seen : List Nat) : (seenN set L seen).testBit i = (decide (i ∈ seen) && set.testBit (L.getD i 0)) := by
  rw [seenN, foldN_testBit]; simp
theorem seenN_all {set : Nat} {L seen : List Nat} (h1 : ∀ j ∈ seen, j < L.length) (h2 : ∀ j, j < L.length → j ∈ seen) : seenN set L seen = keepN set L := by
  apply Nat.eq_of_testBit_eq
  intro i
  rw [seenN_testBit, keepN, sumB_testBit]
  congr 1
  rw [Bool.eq_iff_iff, decide_eq_true_eq, decide_eq_true_eq]
  exact ⟨h1 i, h2 i⟩
theorem seenN_lt {set : Nat} {L seen : List Nat} (h1 : ∀ j ∈ seen, j < L.length) : seenN set L seen < 2 ^ L.length := by
  apply Nat.lt_pow_two_of_testBit
  intro i hi
  rw [seenN_testBit]
  have : ¬ i ∈ seen := fun h => by have := h1 i h; omega
  simp [this]

noncomputable def keepOf (D : AutoD) : Nat := 1 ||| (reachF D &&& liveF D)
noncomputable def trimTo (D : AutoD) (L : List Nat) : AutoD := ⟨L.map (nth D.ends), L.map fun s => (List.range 12).map fun m => ((keepN (nextN D s m) (ktL (keepOf D) D.ends.length) : Nat) : Int)⟩
open Classical in
noncomputable def trimD (D : AutoD) : AutoD := if AutoOK D then trimTo D (ktL (keepOf D) D.ends.length) else ⟨[], []⟩
theorem trimD_yes {D : AutoD} (h : AutoOK D) : trimD D = trimTo D (ktL (keepOf D) D.ends.length) := if_pos h
theorem trimD_no {D : AutoD} (h : ¬ AutoOK D) : trimD D = ⟨[], []⟩ := if_neg h
theorem trimTo_nil (D : AutoD) : trimTo D [] = ⟨[], []⟩ := rfl

end Go.Proofs.Ytkibemgdncncoaa
