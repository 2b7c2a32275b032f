/- Automata as arguments: from the engine's words to plain predicates. -/
import Derived.Test.YtljoonlcpiagjaaGrpJ
import Derived.Test.YtljoonlcpiagjaaTy
import Derived.Test.YtljoonlcpiagjaaGrpQ
namespace Go.Proofs.Ytljoonlcpiagjaa
set_option linter.unusedSimpArgs false
set_option linter.unusedVariables false
set_option maxRecDepth 8000
set_option maxHeartbeats 2000000
open Go Go.RowKit AV

def autA (D : AutoD) : AV := agg [ints D.ends, rows D.next]
theorem auto1 {Z : Nat → Option Obj} {w : World} (hz : ∀ b o, Z b = some o → w.heap[b]? = some o) {D : AutoD} {v : Value} (h : PRep Z (autA D) v) : ∃ v0 v1, v = .agg #[v0, v1] ∧ IS w.heap.size w v0 D.ends ∧ ISS w.heap.size w v1 D.next := prep_auto hz h

end Go.Proofs.Ytljoonlcpiagjaa

namespace Go.Proofs.Ytljoonlcpiagjaa
set_option linter.unusedSimpArgs false
set_option linter.unusedVariables false
set_option maxRecDepth 8000
set_option maxHeartbeats 2000000
open Go Go.RowKit AV

def autoReachR (args : List AV) (r : AV) : Prop := ∃ D : AutoD, args = [autA D] ∧ r = I (reachI D)
theorem specAutoReach_ctr : CtrOK Try.prog 73 (pureC autoReachR) := ctr_below Try.func73 rfl rfl (by
  rintro _ _ ⟨D, rfl, rfl⟩ w Z vs hvs hz ha
  obtain ⟨v0, v1, e0, h0, h1⟩ := auto1 hz (ha 0 (by simp))
  rw [args1 hvs, e0]
  exact ⟨_, .num _ _, specAutoReach v0 v1 D w h0 h1⟩)

end Go.Proofs.Ytljoonlcpiagjaa

namespace Go.Proofs.Ytljoonlcpiagjaa
set_option linter.unusedSimpArgs false
set_option linter.unusedVariables false
set_option maxRecDepth 8000
set_option maxHeartbeats 2000000
open Go Go.RowKit AV

def reachIR (args : List AV) (r : AV) : Prop := ∃ D : AutoD, args = [autA D] ∧ AutoOK D ∧ r = I ((reachF D : Nat) : Int)
theorem reach_ctr : CtrOK Try.prog 68 (pureC reachIR) := ctr_below Try.func68 rfl rfl (by
  rintro _ _ ⟨D, rfl, hok, rfl⟩ w Z vs hvs hz ha
  obtain ⟨v0, v1, e0, h0, h1⟩ := auto1 hz (ha 0 (by simp))
  rw [args1 hvs, e0]
  exact ⟨_, .num _ _, reach_any v0 v1 D w hok h0 h1⟩)

def liveIR (args : List AV) (r : AV) : Prop := ∃ D : AutoD, args = [autA D] ∧ AutoOK D ∧ r = I ((liveF D : Nat) : Int)
theorem live_ctr : CtrOK Try.prog 69 (pureC liveIR) := ctr_below Try.func69 rfl rfl (by
  rintro _ _ ⟨D, rfl, hok, rfl⟩ w Z vs hvs hz ha
  obtain ⟨v0, v1, e0, h0, h1⟩ := auto1 hz (ha 0 (by simp))
  rw [args1 hvs, e0]
  exact ⟨_, .num _ _, live_any v0 v1 D w hok h0 h1⟩)

def autoLiveR (args : List AV) (r : AV) : Prop := ∃ D : AutoD, args = [autA D] ∧ r = I (liveI D)
theorem specAutoLive_ctr : CtrOK Try.prog 37 (pureC autoLiveR) := ctr_below Try.func37 rfl rfl (by
  rintro _ _ ⟨D, rfl, rfl⟩ w Z vs hvs hz ha
  obtain ⟨v0, v1, e0, h0, h1⟩ := auto1 hz (ha 0 (by simp))
  rw [args1 hvs, e0]
  exact ⟨_, .num _ _, specAutoLive v0 v1 D w h0 h1⟩)

end Go.Proofs.Ytljoonlcpiagjaa

namespace Go.Proofs.Ytljoonlcpiagjaa
set_option linter.unusedSimpArgs false
set_option linter.unusedVariables false
set_option maxRecDepth 8000
set_option maxHeartbeats 2000000
open Go Go.RowKit AV

theorem implAutoLive_ctr : CtrOK Try.prog 24 (pureC autoLiveR) := ctr_below Try.func24 rfl rfl (by
  rintro _ _ ⟨D, rfl, rfl⟩ w Z vs hvs hz ha
  obtain ⟨v0, v1, e0, h0, h1⟩ := auto1 hz (ha 0 (by simp))
  rw [args1 hvs, e0]
  exact ⟨_, .num _ _, implAutoLive v0 v1 D w h0 h1⟩)

end Go.Proofs.Ytljoonlcpiagjaa

namespace Go.Proofs.Ytljoonlcpiagjaa
set_option linter.unusedSimpArgs false
set_option linter.unusedVariables false
set_option maxRecDepth 8000
set_option maxHeartbeats 2000000
open Go Go.RowKit AV

def autoRunR (args : List AV) (r : AV) : Prop := ∃ (D : AutoD) (t : List Int), args = [autA D, ints t] ∧ r = .bool (runB D t)
theorem implAutoRun_ctr : CtrOK Try.prog 23 (pureC autoRunR) := ctr_below Try.func23 rfl rfl (by
  rintro _ _ ⟨D, t, rfl, rfl⟩ w Z vs hvs hz ha
  obtain ⟨v0, v1, e0, h0, h1⟩ := auto1 hz (ha 0 (by simp))
  rw [args2 hvs, e0]
  exact ⟨_, .bool _, implAutoRun v0 v1 _ D t w h0 h1 (prep_is hz (ha 1 (by simp)))⟩)

end Go.Proofs.Ytljoonlcpiagjaa
