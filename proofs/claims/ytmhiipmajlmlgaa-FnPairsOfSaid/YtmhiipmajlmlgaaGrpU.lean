/- Automata as arguments: from the engine's words to plain predicates. -/
import Derived.Test.YtmhiipmajlmlgaaGrpJ
import Derived.Test.YtmhiipmajlmlgaaTy
import Derived.Test.YtmhiipmajlmlgaaGrpQ
namespace Go.Proofs.Ytmhiipmajlmlgaa
set_option linter.unusedSimpArgs false
set_option linter.unusedVariables false
set_option maxRecDepth 8000
set_option maxHeartbeats 2000000
open Go Go.RowKit AV

def autA (D : AutoD) : AV := agg [ints D.ends, rows D.next]
theorem auto1 {Z : Nat → Option Obj} {w : World} (hz : ∀ b o, Z b = some o → w.heap[b]? = some o) {D : AutoD} {v : Value} (h : PRep Z (autA D) v) : ∃ v0 v1, v = .agg #[v0, v1] ∧ IS w.heap.size w v0 D.ends ∧ ISS w.heap.size w v1 D.next := prep_auto hz h

theorem args4 {vs : Array Value} (h : vs.size = 4) : vs = #[vs.getD 0 undef, vs.getD 1 undef, vs.getD 2 undef, vs.getD 3 undef] := by
  apply Array.ext_getElem?
  intro i
  match i with
  | 0 => simp [Array.getD_eq_getD_getElem?, h]
  | 1 => simp [Array.getD_eq_getD_getElem?, h]
  | 2 => simp [Array.getD_eq_getD_getElem?, h]
  | 3 => simp [Array.getD_eq_getD_getElem?, h]
  | n + 4 => simp [h]

end Go.Proofs.Ytmhiipmajlmlgaa

namespace Go.Proofs.Ytmhiipmajlmlgaa
set_option linter.unusedSimpArgs false
set_option linter.unusedVariables false
set_option maxRecDepth 8000
set_option maxHeartbeats 2000000
open Go Go.RowKit AV

def stepR (args : List AV) (r : AV) : Prop := ∃ (D : AutoD) (set m : Nat), args = [autA D, I set, I m] ∧ AutoOK D ∧ set < 1048576 ∧ m < 12 ∧ r = I ((behF D set m : Nat) : Int)
theorem l5Step_ctr : CtrOK Try.prog 41 (pureC stepR) := ctr_below Try.func41 rfl rfl (by
  rintro _ _ ⟨D, set, m, rfl, hok, hs, hm, rfl⟩ w Z vs hvs hz ha
  obtain ⟨v0, v1, e0, h0, h1⟩ := auto1 hz (ha 0 (by simp))
  rw [args3 hvs, e0, prep_num (ha 1 (by simp)), prep_num (ha 2 (by simp))]
  exact ⟨_, .num _ _, l5Step_any v0 v1 D set m w hok h0 h1 hs hm⟩)
theorem behindSet_ctr : CtrOK Try.prog 54 (pureC stepR) := ctr_below Try.func54 rfl rfl (by
  rintro _ _ ⟨D, set, m, rfl, hok, hs, hm, rfl⟩ w Z vs hvs hz ha
  obtain ⟨v0, v1, e0, h0, h1⟩ := auto1 hz (ha 0 (by simp))
  rw [args3 hvs, e0, prep_num (ha 1 (by simp)), prep_num (ha 2 (by simp))]
  exact ⟨_, .num _ _, behindSet_any v0 v1 D set m w hok h0 h1 hs hm⟩)

end Go.Proofs.Ytmhiipmajlmlgaa

namespace Go.Proofs.Ytmhiipmajlmlgaa
set_option linter.unusedSimpArgs false
set_option linter.unusedVariables false
set_option maxRecDepth 8000
set_option maxHeartbeats 2000000
open Go Go.RowKit AV

end Go.Proofs.Ytmhiipmajlmlgaa

namespace Go.Proofs.Ytmhiipmajlmlgaa
set_option linter.unusedSimpArgs false
set_option linter.unusedVariables false
set_option maxRecDepth 8000
set_option maxHeartbeats 2000000
open Go Go.RowKit AV

end Go.Proofs.Ytmhiipmajlmlgaa

namespace Go.Proofs.Ytmhiipmajlmlgaa
set_option linter.unusedSimpArgs false
set_option linter.unusedVariables false
set_option maxRecDepth 8000
set_option maxHeartbeats 2000000
open Go Go.RowKit AV

end Go.Proofs.Ytmhiipmajlmlgaa

namespace Go.Proofs.Ytmhiipmajlmlgaa
set_option linter.unusedSimpArgs false
set_option linter.unusedVariables false
set_option maxRecDepth 8000
set_option maxHeartbeats 2000000
open Go Go.RowKit AV

end Go.Proofs.Ytmhiipmajlmlgaa
