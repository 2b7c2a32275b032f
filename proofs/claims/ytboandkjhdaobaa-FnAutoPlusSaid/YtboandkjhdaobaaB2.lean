/- The program's AutoBoth, walked by the engine. -/
import Derived.Test.YtboandkjhdaobaaB1
import Derived.Test.YtboandkjhdaobaaEngMin
namespace Go.Proofs.Ytboandkjhdaobaa
set_option linter.unusedSimpArgs false
set_option linter.unusedVariables false
set_option maxRecDepth 8000
set_option maxHeartbeats 2000000
open Go Go.RowKit AV

def rowAt (f : Nat → Nat) (mv v : Nat) : Nat → Nat := fun i => if i < mv then f i else if i = mv then v else 0
theorem rowOf_set (f : Nat → Nat) (n i v : Nat) : (rowOf f n).set i (v : Int) = rowOf (fun j => if j = i then v else f j) n := by
  refine List.ext_getElem? fun j => ?_
  by_cases hij : j = i
  · subst hij
    by_cases hj : j < n
    · simp [rowOf, List.getElem?_set, hj]
    · simp [rowOf, List.getElem?_set, hj]
  · rw [List.getElem?_set_ne (Ne.symm hij)]
    by_cases hj : j < n <;> simp [rowOf, hj, hij]
theorem rowOf_congr {f g : Nat → Nat} {n : Nat} (h : ∀ i, i < n → f i = g i) : rowOf f n = rowOf g n := by
  unfold rowOf
  exact List.map_congr_left fun i hi => by rw [h i (List.mem_range.1 hi)]
theorem rowAt_set (f : Nat → Nat) (mv v v' n : Nat) : (rowOf (rowAt f mv v) n).set mv (v' : Int) = rowOf (rowAt f mv v') n := by
  rw [rowOf_set]
  refine rowOf_congr fun i _ => ?_
  unfold rowAt
  by_cases h : i = mv
  · subst h; simp
  · simp [h]
theorem rowAt_zero (f : Nat → Nat) (n : Nat) : rowOf (rowAt f 0 0) n = List.replicate n 0 := by
  refine List.ext_getElem (by simp [rowOf]) fun i h1 h2 => ?_
  simp [rowOf, rowAt]
theorem rowAt_next (f : Nat → Nat) (mv n : Nat) : rowOf (rowAt f mv (f mv)) n = rowOf (rowAt f (mv + 1) 0) n := by
  refine rowOf_congr fun i _ => ?_
  unfold rowAt
  by_cases h : i < mv
  · simp [h, show i < mv + 1 by omega]
  · by_cases h2 : i = mv
    · subst h2; simp
    · simp [h, h2, show ¬ i < mv + 1 by omega]
theorem rowAt_end (f : Nat → Nat) (v n : Nat) : rowOf (rowAt f n v) n = rowOf f n := rowOf_congr fun i hi => by simp [rowAt, hi]
end Go.Proofs.Ytboandkjhdaobaa
