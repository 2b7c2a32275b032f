/- What the test that holds behind says, by first and last atoms. -/
import Derived.Test.YtmhiipmajlmlgaaBack
import Derived.Test.YtmhiipmajlmlgaaRelV
namespace Go.Proofs.Ytmhiipmajlmlgaa
set_option linter.unusedSimpArgs false
set_option linter.unusedVariables false
set_option maxRecDepth 8000
set_option maxHeartbeats 2000000
open Go.RowKit

theorem rel_back : ∀ {x : Ex} {a b : Nat}, a < 4 → b < 4 → (RelX (backX x) b a ↔ RelX x a b)
  | .leaf n, a, b, ha, hb => by
    simp only [backX, RelX]
    split
    · constructor
      · rintro ⟨rfl, h⟩; exact ⟨rfl, h⟩
      · rintro ⟨rfl, h⟩; exact ⟨rfl, h⟩
    · exact Iff.rfl
  | .thn x y, a, b, ha, hb => by
    simp only [backX, RelX]
    constructor
    · rintro ⟨c, hc, h1, h2⟩
      exact ⟨c, hc, (rel_back ha hc).1 h2, (rel_back hc hb).1 h1⟩
    · rintro ⟨c, hc, h1, h2⟩
      exact ⟨c, hc, (rel_back hc hb).2 h2, (rel_back ha hc).2 h1⟩
  | .pls x y, a, b, ha, hb => by
    simp only [backX, RelX]
    rw [rel_back ha hb, rel_back ha hb]
  | .str x, a, b, ha, hb => by
    constructor
    · intro h
      have h' : StarR (RelX (backX x)) b a := h
      exact StarR.flip (S := RelX x) (fun c d hc hd h => (rel_back (x := x) hd hc).1 h) hb ha h'
    · intro h
      have h' : StarR (RelX x) a b := h
      exact StarR.flip (S := RelX (backX x)) (fun c d hc hd h => (rel_back (x := x) hc hd).2 h) ha hb h'

end Go.Proofs.Ytmhiipmajlmlgaa
