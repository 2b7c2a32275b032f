/- The law FnExactAutoPlus in the words of its row. -/
import Derived.Test.YtboandkjhdaobaaLawAutoBoth
import Derived.Test.YtboandkjhdaobaaLBP
namespace Go.Proofs.Ytboandkjhdaobaa
set_option linter.unusedSimpArgs false
set_option linter.unusedVariables false
set_option maxRecDepth 8000
set_option maxHeartbeats 2000000
open Go Go.RowKit AV

theorem fnExactAutoPlus (v0 v1 : Value) (D : AutoD) (v2 v3 : Value) (D2 : AutoD) (w : World) (h0 : IS w.heap.size w v0 D.ends) (h1 : ISS w.heap.size w v1 D.next) (h2 : IS w.heap.size w v2 D2.ends) (h3 : ISS w.heap.size w v3 D2.next) :
    Calls Try.prog 4 #[.agg #[v0, v1], .agg #[v2, v3]] w fun e w' => e = .returned (.bool true) ∧ Below w.heap.size w w' :=
  twoAuto_law fnExactAutoPlus_ctr v0 v1 D v2 v3 D2 w h0 h1 h2 h3

end Go.Proofs.Ytboandkjhdaobaa
