/- The law FnDetermined, walked by the engine. -/
import Derived.Test.YtaniaocanekajaaR20
import Derived.Test.YtaniaocanekajaaG1
import Derived.Test.YtaniaocanekajaaG3
import Derived.Test.YtaniaocanekajaaGrpM
import Derived.Test.YtaniaocanekajaaR7a
import Derived.Test.YtaniaocanekajaaLawsX
import Derived.Test.YtaniaocanekajaaGrpV
import Derived.Test.YtaniaocanekajaaEngMin
namespace Go.Proofs.Ytaniaocanekajaa
set_option linter.unusedSimpArgs false
set_option linter.unusedVariables false
set_option maxRecDepth 8000
set_option maxHeartbeats 2000000
open Go Go.RowKit AV

attribute [local go_sem] List.nil_prefix

theorem poD_bd (e : List Int) (atom act : Int) (h : e.length ≤ 41) : (partsOfD e atom act).length ≤ 1099511627776 ∧ ∀ x ∈ partsOfD e atom act, x.length ≤ 1048576 := by
  by_cases hk : katB e = true ∧ (0 ≤ atom ∧ atom ≤ 3) ∧ (16 ≤ act ∧ act ≤ 18)
  · obtain ⟨x, hw, rfl, h40⟩ := katB_tree hk.1
    rw [partsOfD_yes hw hk.1 hk.2.1 hk.2.2]
    obtain ⟨g1, g2⟩ := partsL_bd (x := x) (by omega) hw (atom := atom.toNat) (act := act) (by omega)
    refine ⟨by omega, fun y hy => ?_⟩
    obtain ⟨p, hp, rfl, hpx⟩ := mem_partsL_wf hw hy
    have := partsX_steps (atom := atom.toNat) (act := act) (by omega) x hpx
    have h3 : x.steps.length * x.steps.length ≤ 40 * 40 := Nat.mul_le_mul h40 h40
    omega
  · rw [partsOfD_no hk]; simp

end Go.Proofs.Ytaniaocanekajaa
