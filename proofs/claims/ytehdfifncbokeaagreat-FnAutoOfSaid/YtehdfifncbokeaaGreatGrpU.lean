/- Automata as arguments: from the engine's words to plain predicates. -/
import Derived.Test.YtehdfifncbokeaaGreatGrpJ
import Derived.Test.YtehdfifncbokeaaGreatTy
import Derived.Test.YtehdfifncbokeaaGreatGrpQ
namespace Go.Proofs.YtehdfifncbokeaaGreat
set_option linter.unusedSimpArgs false
set_option linter.unusedVariables false
set_option maxRecDepth 8000
set_option maxHeartbeats 2000000
open Go Go.RowKit AV

def autA (D : AutoD) : AV := agg [ints D.ends, rows D.next]
theorem auto1 {Z : Nat → Option Obj} {w : World} (hz : ∀ b o, Z b = some o → w.heap[b]? = some o) {D : AutoD} {v : Value} (h : PRep Z (autA D) v) : ∃ v0 v1, v = .agg #[v0, v1] ∧ IS w.heap.size w v0 D.ends ∧ ISS w.heap.size w v1 D.next := prep_auto hz h

end Go.Proofs.YtehdfifncbokeaaGreat

namespace Go.Proofs.YtehdfifncbokeaaGreat
set_option linter.unusedSimpArgs false
set_option linter.unusedVariables false
set_option maxRecDepth 8000
set_option maxHeartbeats 2000000
open Go Go.RowKit AV

end Go.Proofs.YtehdfifncbokeaaGreat

namespace Go.Proofs.YtehdfifncbokeaaGreat
set_option linter.unusedSimpArgs false
set_option linter.unusedVariables false
set_option maxRecDepth 8000
set_option maxHeartbeats 2000000
open Go Go.RowKit AV

end Go.Proofs.YtehdfifncbokeaaGreat

namespace Go.Proofs.YtehdfifncbokeaaGreat
set_option linter.unusedSimpArgs false
set_option linter.unusedVariables false
set_option maxRecDepth 8000
set_option maxHeartbeats 2000000
open Go Go.RowKit AV

end Go.Proofs.YtehdfifncbokeaaGreat

namespace Go.Proofs.YtehdfifncbokeaaGreat
set_option linter.unusedSimpArgs false
set_option linter.unusedVariables false
set_option maxRecDepth 8000
set_option maxHeartbeats 2000000
open Go Go.RowKit AV

end Go.Proofs.YtehdfifncbokeaaGreat

namespace Go.Proofs.YtehdfifncbokeaaGreat
set_option linter.unusedSimpArgs false
set_option linter.unusedVariables false
set_option maxRecDepth 8000
set_option maxHeartbeats 2000000
open Go Go.RowKit AV

def autoRunR (args : List AV) (r : AV) : Prop := ∃ (D : AutoD) (t : List Int), args = [autA D, ints t] ∧ r = .bool (runB D t)
theorem implAutoRun_ctr : CtrOK Tryz.prog 11 (pureC autoRunR) := ctr_below Tryz.func11 rfl rfl (by
  rintro _ _ ⟨D, t, rfl, rfl⟩ w Z vs hvs hz ha
  obtain ⟨v0, v1, e0, h0, h1⟩ := auto1 hz (ha 0 (by simp))
  rw [args2 hvs, e0]
  exact ⟨_, .bool _, implAutoRun v0 v1 _ D t w h0 h1 (prep_is hz (ha 1 (by simp)))⟩)

end Go.Proofs.YtehdfifncbokeaaGreat
