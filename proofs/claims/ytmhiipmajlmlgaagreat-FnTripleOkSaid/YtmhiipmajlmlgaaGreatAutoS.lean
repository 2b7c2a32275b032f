/- What StatesEnd and StatesBehind return, of the program and of the reference: one contract a function, at all arguments. -/
import Derived.Test.YtmhiipmajlmlgaaGreatGrpQ
import Derived.Deep.RegionHeld3
namespace Go.Proofs.YtmhiipmajlmlgaaGreat
set_option linter.unusedSimpArgs false
set_option linter.unusedVariables false
set_option maxRecDepth 8000
set_option maxHeartbeats 2000000
open Go.RowKit

theorem hasSet_any (v0 v1 : Value) (D : AutoD) (set : Int) (w : World) (hok : AutoOK D) (h0 : IS w.heap.size w v0 D.ends) (h1 : ISS w.heap.size w v1 D.next) :
    Calls Tryz.prog 87 #[.agg #[v0, v1], .int .i64 set] w fun e w' => e = .returned (.bool (inB set 0 (2 ^ D.ends.length - 1))) ∧ Below w.heap.size w w' := by
  obtain ⟨b0, o0, c0, b1, o1, c1, L⟩ := Lk.of hok h0 h1
  obtain rfl := L.e0
  obtain rfl := L.e1
  have hlo := hok.lo
  have hhi := hok.hi
  have hpb := pow_bd10 hhi
  have hw1 : IntKind.i64.wrap (2 ^ D.ends.length) = 2 ^ D.ends.length := IntWalk.i64_in _ (by omega)
  clear L h0 h1
  by_cases hs : 0 ≤ set
  · by_cases hs2 : set < 2 ^ D.ends.length
    all_goals
      go_enter Tryz.func87, Tryz.ntmps87
      go_wp2
      go_ret
      exact ⟨ret_bool (by simp [inB]; omega), (Below.refl _ _).alloc (Nat.le_refl _) _⟩
  · go_enter Tryz.func87, Tryz.ntmps87
    go_wp2
    go_ret
    exact ⟨ret_bool (by simp [inB]; omega), (Below.refl _ _).alloc (Nat.le_refl _) _⟩

end Go.Proofs.YtmhiipmajlmlgaaGreat
