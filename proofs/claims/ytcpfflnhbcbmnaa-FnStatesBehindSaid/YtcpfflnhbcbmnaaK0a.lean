/- Automata as arguments: from the engine's words to plain predicates. -/
import Derived.Test.YtcpfflnhbcbmnaaEngO
import Derived.Test.YtcpfflnhbcbmnaaTy
namespace Go.Proofs.Ytcpfflnhbcbmnaa
set_option linter.unusedSimpArgs false
set_option linter.unusedVariables false
set_option maxRecDepth 8000
set_option maxHeartbeats 2000000
open Go Go.RowKit AV

def autA (D : AutoD) : AV := agg [ints D.ends, rows D.next]
theorem auto1 {Z : Nat → Option Obj} {w : World} (hz : ∀ b o, Z b = some o → w.heap[b]? = some o) {D : AutoD} {v : Value} (h : PRep Z (autA D) v) : ∃ v0 v1, v = .agg #[v0, v1] ∧ IS w.heap.size w v0 D.ends ∧ ISS w.heap.size w v1 D.next := prep_auto hz h

theorem args4 {vs : Array Value} (h : vs.size = 4) : vs = #[vs.getD 0 undef, vs.getD 1 undef, vs.getD 2 undef, vs.getD 3 undef] := by
  apply Array.ext_getElem?
  intro i
  match i with
  | 0 => simp [Array.getD_eq_getD_getElem?, h]
  | 1 => simp [Array.getD_eq_getD_getElem?, h]
  | 2 => simp [Array.getD_eq_getD_getElem?, h]
  | 3 => simp [Array.getD_eq_getD_getElem?, h]
  | n + 4 => simp [h]

end Go.Proofs.Ytcpfflnhbcbmnaa
