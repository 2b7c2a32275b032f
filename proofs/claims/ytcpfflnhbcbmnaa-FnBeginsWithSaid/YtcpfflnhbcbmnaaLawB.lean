/- From the engine's contract of a law over codes to the words of its row. -/
import Derived.Test.YtcpfflnhbcbmnaaGrpJ
import Derived.Test.YtcpfflnhbcbmnaaTy
namespace Go.Proofs.Ytcpfflnhbcbmnaa
set_option linter.unusedSimpArgs false
set_option linter.unusedVariables false
set_option maxRecDepth 8000
set_option maxHeartbeats 2000000
open Go Go.RowKit AV

def codeR1 (args : List AV) (r : AV) : Prop := ∃ bs : List Nat, args = [.sh (bs.map fun b : Nat => AV.num .u8 (b : Int))] ∧ bs.length ≤ 9223372036854775807 ∧ (∀ b ∈ bs, b < 256) ∧ r = .bool true
def codeR2 (args : List AV) (r : AV) : Prop := ∃ bs cs : List Nat, args = [.sh (bs.map fun b : Nat => AV.num .u8 (b : Int)), .sh (cs.map fun b : Nat => AV.num .u8 (b : Int))] ∧ (bs.length ≤ 9223372036854775807 ∧ ∀ b ∈ bs, b < 256) ∧ (cs.length ≤ 9223372036854775807 ∧ ∀ b ∈ cs, b < 256) ∧ r = .bool true

theorem code_law {f : Nat} (h : CtrOK Try.prog f (pureC codeR1)) (v0 : Value) (l0 : List Nat) (w : World) (h0 : BS w.heap.size w v0 l0) : Calls Try.prog f #[v0] w fun e w' => e = .returned (.bool true) ∧ Below w.heap.size w w' := by
  have hm : maxLen ≤ 9223372036854775807 := by decide
  refine law_of_ctr h (args := [.sh (l0.map fun b : Nat => AV.num .u8 (b : Int))]) ⟨_, rfl, Nat.le_trans h0.2.1 hm, h0.2.2, rfl⟩ rfl fun i hi => ?_
  obtain rfl : i = 0 := by simp at hi; omega
  exact h0.1
theorem code2_law {f : Nat} (h : CtrOK Try.prog f (pureC codeR2)) (v0 : Value) (l0 : List Nat) (v1 : Value) (l1 : List Nat) (w : World) (h0 : BS w.heap.size w v0 l0) (h1 : BS w.heap.size w v1 l1) : Calls Try.prog f #[v0, v1] w fun e w' => e = .returned (.bool true) ∧ Below w.heap.size w w' := by
  have hm : maxLen ≤ 9223372036854775807 := by decide
  refine law_of_ctr h (args := [.sh (l0.map fun b : Nat => AV.num .u8 (b : Int)), .sh (l1.map fun b : Nat => AV.num .u8 (b : Int))]) ⟨_, _, rfl, ⟨Nat.le_trans h0.2.1 hm, h0.2.2⟩, ⟨Nat.le_trans h1.2.1 hm, h1.2.2⟩, rfl⟩ rfl fun i hi => ?_
  have hi' : i = 0 ∨ i = 1 := by simp at hi; omega
  rcases hi' with rfl | rfl
  · exact h0.1
  · exact h1.1

end Go.Proofs.Ytcpfflnhbcbmnaa
