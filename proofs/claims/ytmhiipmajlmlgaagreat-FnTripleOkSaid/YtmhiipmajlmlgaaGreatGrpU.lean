/- Automata as arguments: from the engine's words to plain predicates. -/
import Derived.Test.YtmhiipmajlmlgaaGreatGrpJ
import Derived.Test.YtmhiipmajlmlgaaGreatTy
import Derived.Test.YtmhiipmajlmlgaaGreatGrpQ
namespace Go.Proofs.YtmhiipmajlmlgaaGreat
set_option linter.unusedSimpArgs false
set_option linter.unusedVariables false
set_option maxRecDepth 8000
set_option maxHeartbeats 2000000
open Go Go.RowKit AV

def autA (D : AutoD) : AV := agg [ints D.ends, rows D.next]
theorem auto1 {Z : Nat → Option Obj} {w : World} (hz : ∀ b o, Z b = some o → w.heap[b]? = some o) {D : AutoD} {v : Value} (h : PRep Z (autA D) v) : ∃ v0 v1, v = .agg #[v0, v1] ∧ IS w.heap.size w v0 D.ends ∧ ISS w.heap.size w v1 D.next := prep_auto hz h

end Go.Proofs.YtmhiipmajlmlgaaGreat

namespace Go.Proofs.YtmhiipmajlmlgaaGreat
set_option linter.unusedSimpArgs false
set_option linter.unusedVariables false
set_option maxRecDepth 8000
set_option maxHeartbeats 2000000
open Go Go.RowKit AV

def stepR (args : List AV) (r : AV) : Prop := ∃ (D : AutoD) (set m : Nat), args = [autA D, I set, I m] ∧ AutoOK D ∧ set < 1048576 ∧ m < 12 ∧ r = I ((behF D set m : Nat) : Int)
theorem behindSet_ctr : CtrOK Tryz.prog 41 (pureC stepR) := ctr_below Tryz.func41 rfl rfl (by
  rintro _ _ ⟨D, set, m, rfl, hok, hs, hm, rfl⟩ w Z vs hvs hz ha
  obtain ⟨v0, v1, e0, h0, h1⟩ := auto1 hz (ha 0 (by simp))
  rw [args3 hvs, e0, prep_num (ha 1 (by simp)), prep_num (ha 2 (by simp))]
  exact ⟨_, .num _ _, behindSet_any v0 v1 D set m w hok h0 h1 hs hm⟩)

def setEndsR (args : List AV) (r : AV) : Prop := ∃ (D : AutoD) (set : Nat), args = [autA D, I set] ∧ AutoOK D ∧ set < 1048576 ∧ r = I ((endF D set : Nat) : Int)
theorem endsOf_ctr : CtrOK Tryz.prog 43 (pureC setEndsR) := ctr_below Tryz.func43 rfl rfl (by
  rintro _ _ ⟨D, set, rfl, hok, hs, rfl⟩ w Z vs hvs hz ha
  obtain ⟨v0, v1, e0, h0, h1⟩ := auto1 hz (ha 0 (by simp))
  rw [args2 hvs, e0, prep_num (ha 1 (by simp))]
  exact ⟨_, .num _ _, endsOf_any v0 v1 D set w hok h0 h1 hs⟩)

end Go.Proofs.YtmhiipmajlmlgaaGreat

namespace Go.Proofs.YtmhiipmajlmlgaaGreat
set_option linter.unusedSimpArgs false
set_option linter.unusedVariables false
set_option maxRecDepth 8000
set_option maxHeartbeats 2000000
open Go Go.RowKit AV

end Go.Proofs.YtmhiipmajlmlgaaGreat

namespace Go.Proofs.YtmhiipmajlmlgaaGreat
set_option linter.unusedSimpArgs false
set_option linter.unusedVariables false
set_option maxRecDepth 8000
set_option maxHeartbeats 2000000
open Go Go.RowKit AV

end Go.Proofs.YtmhiipmajlmlgaaGreat

namespace Go.Proofs.YtmhiipmajlmlgaaGreat
set_option linter.unusedSimpArgs false
set_option linter.unusedVariables false
set_option maxRecDepth 8000
set_option maxHeartbeats 2000000
open Go Go.RowKit AV

end Go.Proofs.YtmhiipmajlmlgaaGreat

namespace Go.Proofs.YtmhiipmajlmlgaaGreat
set_option linter.unusedSimpArgs false
set_option linter.unusedVariables false
set_option maxRecDepth 8000
set_option maxHeartbeats 2000000
open Go Go.RowKit AV

end Go.Proofs.YtmhiipmajlmlgaaGreat
