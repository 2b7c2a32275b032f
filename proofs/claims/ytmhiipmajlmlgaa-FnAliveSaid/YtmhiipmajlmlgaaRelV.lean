/- The automaton of an expression accepts words as the expression says of first and last atoms; what that says of triples. No program in sight. -/
import Derived.Test.YtmhiipmajlmlgaaRelW
import Derived.Test.YtmhiipmajlmlgaaGrpN
import Derived.Test.YtmhiipmajlmlgaaPairsP
namespace Go.Proofs.Ytmhiipmajlmlgaa
set_option linter.unusedSimpArgs false
set_option linter.unusedVariables false
set_option maxRecDepth 8000
set_option maxHeartbeats 2000000
open Go.RowKit

section
variable {l : LL} (hcl : ∀ u ∈ l, ∀ m, m < 12 → ∀ v ∈ leftM u m, v ∈ l) (hwf : ∀ u ∈ l, (exOf u).wf)
include hcl hwf
end

section
variable {x : Ex} (hw : x.wf) (hA : (autD x.steps).ends.length ≠ 0)
include hw hA
end

section
variable {X : Ex} (hw : X.wf) (hA : (autD X.steps).ends.length ≠ 0) (hB : (autD [0]).ends.length ≠ 0)
include hw hA hB
end

theorem StarR.snoc {R : Nat → Nat → Prop} {a b c : Nat} (h : StarR R a b) (hb : b < 4) (hc : c < 4) (hr : R b c) : StarR R a c := by
  induction h with
  | refl a => exact .step hr hc (.refl c)
  | step h1 hb1 t ih => exact .step h1 hb1 (ih hb hr)
theorem StarR.flip {R S : Nat → Nat → Prop} (h : ∀ a b, a < 4 → b < 4 → R a b → S b a) {a b : Nat} (ha : a < 4) (hb : b < 4) (t : StarR R a b) : StarR S b a := by
  induction t with
  | refl a => exact .refl a
  | step h1 hb1 t ih => exact StarR.snoc (ih hb1 hb) hb1 ha (h _ _ ha hb1 h1)

end Go.Proofs.Ytmhiipmajlmlgaa
