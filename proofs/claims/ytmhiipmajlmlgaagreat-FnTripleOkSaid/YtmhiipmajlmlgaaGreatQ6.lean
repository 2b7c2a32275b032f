/- The first trace of just one of two expressions, in the reference. Walked by the engine. -/
import Derived.Test.YtmhiipmajlmlgaaGreatQ2
import Derived.Test.YtmhiipmajlmlgaaGreatX1
import Derived.Test.YtmhiipmajlmlgaaGreatGrpZ
import Derived.Test.YtmhiipmajlmlgaaGreatGrpR
import Derived.Test.YtmhiipmajlmlgaaGreatEngMin
namespace Go.Proofs.YtmhiipmajlmlgaaGreat
set_option linter.unusedSimpArgs false
set_option linter.unusedVariables false
set_option maxRecDepth 8000
set_option maxHeartbeats 2000000
open Go Go.RowKit AV

def srows (S : List (Nat × Nat)) : AV := .own (S.map fun p => ints (rowP2 p))
attribute [local go_sem] srows
theorem pairsL_len (A B : AutoD) : (pairsL A B).length ≤ 100 := by
  unfold pairsL
  split
  · simp
  · split
    · rename_i l h
      rw [List.length_map]
      exact (prF_at h).hi
    · simp
end Go.Proofs.YtmhiipmajlmlgaaGreat
