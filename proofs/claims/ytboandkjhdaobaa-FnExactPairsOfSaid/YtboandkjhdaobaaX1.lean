/- ShortTrace of the reference, walked by the engine. -/
import Derived.Test.YtboandkjhdaobaaGrpU
import Derived.Test.YtboandkjhdaobaaT1
import Derived.Test.YtboandkjhdaobaaGrpD
import Derived.Test.YtboandkjhdaobaaGrpC
import Derived.Test.YtboandkjhdaobaaGrpN
import Derived.Test.YtboandkjhdaobaaEngMin
namespace Go.Proofs.Ytboandkjhdaobaa
set_option linter.unusedSimpArgs false
set_option linter.unusedVariables false
set_option maxRecDepth 8000
set_option maxHeartbeats 2000000
open Go Go.RowKit AV

theorem bestD_atom {σ : Type} {stp : σ → Nat → σ} {s0 : σ} {fin : σ → Nat} {R : Nat → Prop} {n : Nat} {L : List Nat} {i a : Nat} {best : List Int} (hL : LvW stp s0 R n L) (h : BestW stp s0 fin n L i (a + 1) best) (hi : i < L.length) (ha : a < 4) :
    BestW stp s0 fin n L i a (if (fin (stA stp s0 n L[i])).testBit a = true ∧ (best.length = 0 ∨ lexLt (trcL n (L[i] * 4 + a)) best = true) then trcL n (L[i] * 4 + a) else best) := by
  cases ht : (fin (stA stp s0 n L[i])).testBit a with
  | false => rw [if_neg (fun h => by simp at h)]; exact h.skip hi ht
  | true =>
    have := h.step hL hi ha ht
    by_cases g : best.length = 0 ∨ lexLt (trcL n (L[i] * 4 + a)) best = true
    · rw [if_pos g] at this; rw [if_pos ⟨rfl, g⟩]; exact this
    · rw [if_neg g] at this; rw [if_neg (fun h => g h.2)]; exact this

end Go.Proofs.Ytboandkjhdaobaa
