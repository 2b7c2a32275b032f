/- The reference's TraceBy, walked by the engine. -/
import Derived.Test.YtaniaocanekajaaF1
import Derived.Test.YtaniaocanekajaaEngMin
namespace Go.Proofs.Ytaniaocanekajaa
set_option linter.unusedSimpArgs false
set_option linter.unusedVariables false
set_option maxRecDepth 8000
set_option maxHeartbeats 2000000
open Go Go.RowKit AV

def traceByR (args : List AV) (r : AV) : Prop := ∃ e t : List Int, args = [ints e, ints t] ∧ e.length ≤ 1048576 ∧ t.length ≤ 1048576 ∧ r = .bool (trbB e t)

theorem stepF_bd {x : Ex} (hw : x.wf) (hl : x.steps.length ≤ 40) {s : LL} (hs : ∀ t ∈ s, InLeft x t) (hn : s.length ≤ 41) {atom : Nat} {act : Int} (h16 : 16 ≤ act) (j : Nat) : ((s.take j).flatMap (partsOfL atom act)).length ≤ 32841 ∧ ∀ t ∈ (s.take j).flatMap (partsOfL atom act), t.length ≤ 1601 := by
  have hin : ∀ t ∈ s.take j, InLeft x t := fun t ht => hs t (List.mem_of_mem_take ht)
  refine ⟨?_, fun t ht => (flat_left hw hin h16 t ht).short hl⟩
  have h1 : ((s.take j).flatMap (partsOfL atom act)).length ≤ (s.take j).length * 801 := flatMap_len fun t ht => by
    obtain ⟨p, hp, hps, _⟩ := (hin t ht).tree
    have hsh := (hin t ht).short hl
    rw [← hps, partsOfL_steps hp]
    have h2 := partsL_count (atom := atom) h16 p
    have h3 := actsX_len p
    rw [hps] at h3
    omega
  have h2 : (s.take j).length ≤ 41 := by rw [List.length_take]; omega
  have h3 := Nat.mul_le_mul_right 801 h2
  omega

end Go.Proofs.Ytaniaocanekajaa
