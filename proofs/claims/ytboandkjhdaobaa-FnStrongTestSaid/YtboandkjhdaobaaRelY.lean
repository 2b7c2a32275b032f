/- What the test that holds behind says, by first and last atoms. -/
import Derived.Test.YtboandkjhdaobaaBack
import Derived.Test.YtboandkjhdaobaaRelV
namespace Go.Proofs.Ytboandkjhdaobaa
set_option linter.unusedSimpArgs false
set_option linter.unusedVariables false
set_option maxRecDepth 8000
set_option maxHeartbeats 2000000
open Go.RowKit

theorem rel_back : ∀ {x : Ex} {a b : Nat}, a < 4 → b < 4 → (RelX (backX x) b a ↔ RelX x a b)
  | .leaf n, a, b, ha, hb => by
    simp only [backX, RelX]
    split
    · constructor
      · rintro ⟨rfl, h⟩; exact ⟨rfl, h⟩
      · rintro ⟨rfl, h⟩; exact ⟨rfl, h⟩
    · exact Iff.rfl
  | .thn x y, a, b, ha, hb => by
    simp only [backX, RelX]
    constructor
    · rintro ⟨c, hc, h1, h2⟩
      exact ⟨c, hc, (rel_back ha hc).1 h2, (rel_back hc hb).1 h1⟩
    · rintro ⟨c, hc, h1, h2⟩
      exact ⟨c, hc, (rel_back hc hb).2 h2, (rel_back ha hc).2 h1⟩
  | .pls x y, a, b, ha, hb => by
    simp only [backX, RelX]
    rw [rel_back ha hb, rel_back ha hb]
  | .str x, a, b, ha, hb => by
    constructor
    · intro h
      have h' : StarR (RelX (backX x)) b a := h
      exact StarR.flip (S := RelX x) (fun c d hc hd h => (rel_back (x := x) hd hc).1 h) hb ha h'
    · intro h
      have h' : StarR (RelX x) a b := h
      exact StarR.flip (S := RelX (backX x)) (fun c d hc hd h => (rel_back (x := x) hc hd).2 h) ha hb h'

theorem strong_bit {x : Ex} (hw : x.wf) {p : Nat} (hp : p ≤ 15) {s : Nat} (hs16 : s < 16) (hs : weakI (autD (backX x).steps) (15 - (p : Int)) = (s : Int)) {b : Nat} (hb : b < 4) : (15 - s).testBit b = true ↔ ∃ a, a < 4 ∧ p.testBit a = true ∧ RelX x a b := by
  obtain ⟨t, s', e0, ht, e, hs', hbit⟩ := weakI_bit (x := backX x) (backX_wf hw) rfl (q := 15 - (p : Int)) (by omega)
  have : s' = s := by omega
  subst this
  have hn : (15 - s').testBit b = !s'.testBit b := by
    have := not_bit (q := s') (by omega) hb
    rwa [show ((15 : Int) - (s' : Int)).toNat = 15 - s' by omega] at this
  have hnp : ∀ a, a < 4 → t.testBit a = !p.testBit a := fun a ha => by
    have := not_bit (q := p) hp ha
    rwa [e0, Int.toNat_natCast] at this
  rw [hn, Bool.not_eq_true', ← Bool.not_eq_true, hbit b hb]
  constructor
  · intro h
    apply Classical.byContradiction
    intro hno
    refine h fun a ha hr => ?_
    rw [hnp a ha]
    cases h3 : p.testBit a with
    | false => rfl
    | true => exact absurd ⟨a, ha, h3, (rel_back ha hb).1 hr⟩ hno
  · rintro ⟨a, ha, h1, h2⟩ h
    have := h a ha ((rel_back ha hb).2 h2)
    rw [hnp a ha, h1] at this
    cases this
theorem strong_law {x : Ex} (hw : x.wf) {p : Nat} (hp : p ≤ 15) {s : Nat} (hs16 : s < 16) (hs : weakI (autD (backX x).steps) (15 - (p : Int)) = (s : Int)) {o w : Nat} (ho : o ≤ 15) (hw2 : weakI (autD x.steps) (o : Int) = (w : Int)) : ((15 - s) &&& o = 15 - s) ↔ (p &&& w = p) := by
  obtain ⟨t, w', e0, ht, e, hw', hbit⟩ := weakI_bit (x := x) hw rfl (q := (o : Int)) (by omega)
  have : t = o := by omega
  subst this
  have : w' = w := by omega
  subst this
  constructor
  · intro h
    refine sub_bits (by omega) fun a ha h1 => (hbit a ha).2 fun b hb hr => ?_
    exact bits_sub h ((strong_bit hw hp hs16 hs hb).2 ⟨a, ha, h1, hr⟩)
  · intro h
    refine sub_bits (by omega) fun b hb h1 => ?_
    obtain ⟨a, ha, h2, h3⟩ := (strong_bit hw hp hs16 hs hb).1 h1
    exact (hbit a ha).1 (bits_sub h h2) b hb h3

end Go.Proofs.Ytboandkjhdaobaa
