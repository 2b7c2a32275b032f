/- Elder contracts on automata, as the engine's. -/
import Derived.Test.YtkibemgdncncoaaEngO
import Derived.Test.YtkibemgdncncoaaAutoL
import Derived.Test.YtkibemgdncncoaaTy
namespace Go.Proofs.Ytkibemgdncncoaa
set_option linter.unusedSimpArgs false
set_option linter.unusedVariables false
set_option maxRecDepth 8000
set_option maxHeartbeats 2000000
open Go Go.RowKit AV

def autA (D : AutoD) : AV := agg [ints D.ends, rows D.next]
theorem auto1 {Z : Nat → Option Obj} {w : World} (hz : ∀ b o, Z b = some o → w.heap[b]? = some o) {D : AutoD} {v : Value} (h : PRep Z (autA D) v) : ∃ v0 v1, v = .agg #[v0, v1] ∧ IS w.heap.size w v0 D.ends ∧ ISS w.heap.size w v1 D.next := prep_auto hz h

def reachIR (args : List AV) (r : AV) : Prop := ∃ D : AutoD, args = [autA D] ∧ AutoOK D ∧ r = I ((reachF D : Nat) : Int)
theorem reach_ctr : CtrOK Try.prog 95 (pureC reachIR) := ctr_below Try.func95 rfl rfl (by
  rintro _ _ ⟨D, rfl, hok, rfl⟩ w Z vs hvs hz ha
  obtain ⟨v0, v1, e0, h0, h1⟩ := auto1 hz (ha 0 (by simp))
  rw [args1 hvs, e0]
  exact ⟨_, .num _ _, reach_any v0 v1 D w hok h0 h1⟩)

def liveIR (args : List AV) (r : AV) : Prop := ∃ D : AutoD, args = [autA D] ∧ AutoOK D ∧ r = I ((liveF D : Nat) : Int)
theorem live_ctr : CtrOK Try.prog 96 (pureC liveIR) := ctr_below Try.func96 rfl rfl (by
  rintro _ _ ⟨D, rfl, hok, rfl⟩ w Z vs hvs hz ha
  obtain ⟨v0, v1, e0, h0, h1⟩ := auto1 hz (ha 0 (by simp))
  rw [args1 hvs, e0]
  exact ⟨_, .num _ _, live_any v0 v1 D w hok h0 h1⟩)

def autoReachR (args : List AV) (r : AV) : Prop := ∃ D : AutoD, args = [autA D] ∧ r = I (reachI D)
theorem specAutoReach_ctr : CtrOK Try.prog 92 (pureC autoReachR) := ctr_below Try.func92 rfl rfl (by
  rintro _ _ ⟨D, rfl, rfl⟩ w Z vs hvs hz ha
  obtain ⟨v0, v1, e0, h0, h1⟩ := auto1 hz (ha 0 (by simp))
  rw [args1 hvs, e0]
  exact ⟨_, .num _ _, specAutoReach v0 v1 D w h0 h1⟩)

def autoLiveR (args : List AV) (r : AV) : Prop := ∃ D : AutoD, args = [autA D] ∧ r = I (liveI D)
theorem specAutoLive_ctr : CtrOK Try.prog 93 (pureC autoLiveR) := ctr_below Try.func93 rfl rfl (by
  rintro _ _ ⟨D, rfl, rfl⟩ w Z vs hvs hz ha
  obtain ⟨v0, v1, e0, h0, h1⟩ := auto1 hz (ha 0 (by simp))
  rw [args1 hvs, e0]
  exact ⟨_, .num _ _, specAutoLive v0 v1 D w h0 h1⟩)

def stepR (args : List AV) (r : AV) : Prop := ∃ (D : AutoD) (set m : Nat), args = [autA D, I set, I m] ∧ AutoOK D ∧ set < 1048576 ∧ m < 12 ∧ r = I ((behF D set m : Nat) : Int)
theorem l5Step_ctr : CtrOK Try.prog 99 (pureC stepR) := ctr_below Try.func99 rfl rfl (by
  rintro _ _ ⟨D, set, m, rfl, hok, hs, hm, rfl⟩ w Z vs hvs hz ha
  obtain ⟨v0, v1, e0, h0, h1⟩ := auto1 hz (ha 0 (by simp))
  rw [args3 hvs, e0, prep_num (ha 1 (by simp)), prep_num (ha 2 (by simp))]
  exact ⟨_, .num _ _, l5Step_any v0 v1 D set m w hok h0 h1 hs hm⟩)
theorem behindSet_ctr : CtrOK Try.prog 102 (pureC stepR) := ctr_below Try.func102 rfl rfl (by
  rintro _ _ ⟨D, set, m, rfl, hok, hs, hm, rfl⟩ w Z vs hvs hz ha
  obtain ⟨v0, v1, e0, h0, h1⟩ := auto1 hz (ha 0 (by simp))
  rw [args3 hvs, e0, prep_num (ha 1 (by simp)), prep_num (ha 2 (by simp))]
  exact ⟨_, .num _ _, behindSet_any v0 v1 D set m w hok h0 h1 hs hm⟩)

def setEndsR (args : List AV) (r : AV) : Prop := ∃ (D : AutoD) (set : Nat), args = [autA D, I set] ∧ AutoOK D ∧ set < 1048576 ∧ r = I ((endF D set : Nat) : Int)
theorem l5Ends_ctr : CtrOK Try.prog 97 (pureC setEndsR) := ctr_below Try.func97 rfl rfl (by
  rintro _ _ ⟨D, set, rfl, hok, hs, rfl⟩ w Z vs hvs hz ha
  obtain ⟨v0, v1, e0, h0, h1⟩ := auto1 hz (ha 0 (by simp))
  rw [args2 hvs, e0, prep_num (ha 1 (by simp))]
  exact ⟨_, .num _ _, l5Ends_any v0 v1 D set w hok h0 h1 hs⟩)
theorem endsOf_ctr : CtrOK Try.prog 103 (pureC setEndsR) := ctr_below Try.func103 rfl rfl (by
  rintro _ _ ⟨D, set, rfl, hok, hs, rfl⟩ w Z vs hvs hz ha
  obtain ⟨v0, v1, e0, h0, h1⟩ := auto1 hz (ha 0 (by simp))
  rw [args2 hvs, e0, prep_num (ha 1 (by simp))]
  exact ⟨_, .num _ _, endsOf_any v0 v1 D set w hok h0 h1 hs⟩)

end Go.Proofs.Ytkibemgdncncoaa
