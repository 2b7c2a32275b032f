/- Automata as arguments: from the engine's words to plain predicates. -/
import Derived.Test.YtljoonlcpiagjaaGrpJ
import Derived.Test.YtljoonlcpiagjaaTy
import Derived.Test.YtljoonlcpiagjaaGrpQ
namespace Go.Proofs.Ytljoonlcpiagjaa
set_option linter.unusedSimpArgs false
set_option linter.unusedVariables false
set_option maxRecDepth 8000
set_option maxHeartbeats 2000000
open Go Go.RowKit AV

def autA (D : AutoD) : AV := agg [ints D.ends, rows D.next]
theorem auto1 {Z : Nat → Option Obj} {w : World} (hz : ∀ b o, Z b = some o → w.heap[b]? = some o) {D : AutoD} {v : Value} (h : PRep Z (autA D) v) : ∃ v0 v1, v = .agg #[v0, v1] ∧ IS w.heap.size w v0 D.ends ∧ ISS w.heap.size w v1 D.next := prep_auto hz h

theorem args4 {vs : Array Value} (h : vs.size = 4) : vs = #[vs.getD 0 undef, vs.getD 1 undef, vs.getD 2 undef, vs.getD 3 undef] := by
  apply Array.ext_getElem?
  intro i
  match i with
  | 0 => simp [Array.getD_eq_getD_getElem?, h]
  | 1 => simp [Array.getD_eq_getD_getElem?, h]
  | 2 => simp [Array.getD_eq_getD_getElem?, h]
  | 3 => simp [Array.getD_eq_getD_getElem?, h]
  | n + 4 => simp [h]

end Go.Proofs.Ytljoonlcpiagjaa

namespace Go.Proofs.Ytljoonlcpiagjaa
set_option linter.unusedSimpArgs false
set_option linter.unusedVariables false
set_option maxRecDepth 8000
set_option maxHeartbeats 2000000
open Go Go.RowKit AV

end Go.Proofs.Ytljoonlcpiagjaa

namespace Go.Proofs.Ytljoonlcpiagjaa
set_option linter.unusedSimpArgs false
set_option linter.unusedVariables false
set_option maxRecDepth 8000
set_option maxHeartbeats 2000000
open Go Go.RowKit AV

def autoLiveR (args : List AV) (r : AV) : Prop := ∃ D : AutoD, args = [autA D] ∧ r = I (liveI D)
theorem specAutoLive_ctr : CtrOK Try.prog 37 (pureC autoLiveR) := ctr_below Try.func37 rfl rfl (by
  rintro _ _ ⟨D, rfl, rfl⟩ w Z vs hvs hz ha
  obtain ⟨v0, v1, e0, h0, h1⟩ := auto1 hz (ha 0 (by simp))
  rw [args1 hvs, e0]
  exact ⟨_, .num _ _, specAutoLive v0 v1 D w h0 h1⟩)

def stepR (args : List AV) (r : AV) : Prop := ∃ (D : AutoD) (set m : Nat), args = [autA D, I set, I m] ∧ AutoOK D ∧ set < 1048576 ∧ m < 12 ∧ r = I ((behF D set m : Nat) : Int)
theorem l5Step_ctr : CtrOK Try.prog 88 (pureC stepR) := ctr_below Try.func88 rfl rfl (by
  rintro _ _ ⟨D, set, m, rfl, hok, hs, hm, rfl⟩ w Z vs hvs hz ha
  obtain ⟨v0, v1, e0, h0, h1⟩ := auto1 hz (ha 0 (by simp))
  rw [args3 hvs, e0, prep_num (ha 1 (by simp)), prep_num (ha 2 (by simp))]
  exact ⟨_, .num _ _, l5Step_any v0 v1 D set m w hok h0 h1 hs hm⟩)
theorem behindSet_ctr : CtrOK Try.prog 82 (pureC stepR) := ctr_below Try.func82 rfl rfl (by
  rintro _ _ ⟨D, set, m, rfl, hok, hs, hm, rfl⟩ w Z vs hvs hz ha
  obtain ⟨v0, v1, e0, h0, h1⟩ := auto1 hz (ha 0 (by simp))
  rw [args3 hvs, e0, prep_num (ha 1 (by simp)), prep_num (ha 2 (by simp))]
  exact ⟨_, .num _ _, behindSet_any v0 v1 D set m w hok h0 h1 hs hm⟩)

def setEndsR (args : List AV) (r : AV) : Prop := ∃ (D : AutoD) (set : Nat), args = [autA D, I set] ∧ AutoOK D ∧ set < 1048576 ∧ r = I ((endF D set : Nat) : Int)
theorem l5Ends_ctr : CtrOK Try.prog 89 (pureC setEndsR) := ctr_below Try.func89 rfl rfl (by
  rintro _ _ ⟨D, set, rfl, hok, hs, rfl⟩ w Z vs hvs hz ha
  obtain ⟨v0, v1, e0, h0, h1⟩ := auto1 hz (ha 0 (by simp))
  rw [args2 hvs, e0, prep_num (ha 1 (by simp))]
  exact ⟨_, .num _ _, l5Ends_any v0 v1 D set w hok h0 h1 hs⟩)
theorem endsOf_ctr : CtrOK Try.prog 85 (pureC setEndsR) := ctr_below Try.func85 rfl rfl (by
  rintro _ _ ⟨D, set, rfl, hok, hs, rfl⟩ w Z vs hvs hz ha
  obtain ⟨v0, v1, e0, h0, h1⟩ := auto1 hz (ha 0 (by simp))
  rw [args2 hvs, e0, prep_num (ha 1 (by simp))]
  exact ⟨_, .num _ _, endsOf_any v0 v1 D set w hok h0 h1 hs⟩)

end Go.Proofs.Ytljoonlcpiagjaa

namespace Go.Proofs.Ytljoonlcpiagjaa
set_option linter.unusedSimpArgs false
set_option linter.unusedVariables false
set_option maxRecDepth 8000
set_option maxHeartbeats 2000000
open Go Go.RowKit AV

theorem implAutoLive_ctr : CtrOK Try.prog 24 (pureC autoLiveR) := ctr_below Try.func24 rfl rfl (by
  rintro _ _ ⟨D, rfl, rfl⟩ w Z vs hvs hz ha
  obtain ⟨v0, v1, e0, h0, h1⟩ := auto1 hz (ha 0 (by simp))
  rw [args1 hvs, e0]
  exact ⟨_, .num _ _, implAutoLive v0 v1 D w h0 h1⟩)

end Go.Proofs.Ytljoonlcpiagjaa

namespace Go.Proofs.Ytljoonlcpiagjaa
set_option linter.unusedSimpArgs false
set_option linter.unusedVariables false
set_option maxRecDepth 8000
set_option maxHeartbeats 2000000
open Go Go.RowKit AV

def autoRunR (args : List AV) (r : AV) : Prop := ∃ (D : AutoD) (t : List Int), args = [autA D, ints t] ∧ r = .bool (runB D t)
def traceVR (args : List AV) (r : AV) : Prop := ∃ t : List Int, args = [ints t] ∧ r = .bool (traceOKB t)

theorem specAutoRun_ctr : CtrOK Try.prog 31 (pureC autoRunR) := ctr_below Try.func31 rfl rfl (by
  rintro _ _ ⟨D, t, rfl, rfl⟩ w Z vs hvs hz ha
  obtain ⟨v0, v1, e0, h0, h1⟩ := auto1 hz (ha 0 (by simp))
  rw [args2 hvs, e0]
  exact ⟨_, .bool _, specAutoRun v0 v1 _ D t w h0 h1 (prep_is hz (ha 1 (by simp)))⟩)

theorem specTraceV_ctr : CtrOK Try.prog 32 (pureC traceVR) := ctr_below Try.func32 rfl rfl (by
  rintro _ _ ⟨t, rfl, rfl⟩ w Z vs hvs hz ha
  rw [args1 hvs]
  exact ⟨_, .bool _, (specTraceValid _ t w (prep_is hz (ha 0 (by simp)))).mono fun _ _ ⟨h1, h2⟩ => ⟨h1, h2 ▸ Below.refl _ _⟩⟩)

theorem implAutoRun_ctr : CtrOK Try.prog 23 (pureC autoRunR) := ctr_below Try.func23 rfl rfl (by
  rintro _ _ ⟨D, t, rfl, rfl⟩ w Z vs hvs hz ha
  obtain ⟨v0, v1, e0, h0, h1⟩ := auto1 hz (ha 0 (by simp))
  rw [args2 hvs, e0]
  exact ⟨_, .bool _, implAutoRun v0 v1 _ D t w h0 h1 (prep_is hz (ha 1 (by simp)))⟩)

end Go.Proofs.Ytljoonlcpiagjaa
