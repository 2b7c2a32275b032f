/- Which expressions are alive: those that have a first and a last atom. No program in sight. -/
import Derived.Test.YtmhiipmajlmlgaaLangP
import Derived.Test.YtmhiipmajlmlgaaRelY
import Derived.Test.YtmhiipmajlmlgaaLawsX
namespace Go.Proofs.Ytmhiipmajlmlgaa
set_option linter.unusedSimpArgs false
set_option linter.unusedVariables false
set_option maxRecDepth 8000
set_option maxHeartbeats 2000000
open Go.RowKit

theorem allTo_ind {e : List Int} {p : List Int → Prop} (h0 : p e) (hs : ∀ t, p t → ∀ m, m < 12 → ∀ s ∈ leftM t m, p s) : ∀ k, ∀ t ∈ allTo e k, p t
  | 0, t, ht => by
    have : t = e := by simpa [allTo] using ht
    exact this ▸ h0
  | k + 1, t, ht => by
    have ih := allTo_ind h0 hs k
    by_cases h : k < (allTo e k).length
    · rw [allTo_succ h] at ht
      rcases roundL_mem.1 ht with h1 | ⟨j, hj, h1⟩
      · exact ih t h1
      · exact hs _ (ih _ (List.getElem_mem h)) j hj t h1
    · rw [allTo_stop (by omega)] at ht
      exact ih t ht
theorem bit_of {n : Nat} (h : n ≠ 0) (h16 : n < 16) : ∃ b, b < 4 ∧ n.testBit b = true := by
  have : n = 1 ∨ n = 2 ∨ n = 3 ∨ n = 4 ∨ n = 5 ∨ n = 6 ∨ n = 7 ∨ n = 8 ∨ n = 9 ∨ n = 10 ∨ n = 11 ∨ n = 12 ∨ n = 13 ∨ n = 14 ∨ n = 15 := by omega
  rcases this with rfl | rfl | rfl | rfl | rfl | rfl | rfl | rfl | rfl | rfl | rfl | rfl | rfl | rfl | rfl <;> first | exact ⟨0, by omega, rfl⟩ | exact ⟨1, by omega, rfl⟩ | exact ⟨2, by omega, rfl⟩ | exact ⟨3, by omega, rfl⟩
theorem part_back {x : Ex} (hx : x.wf) : ∀ t ∈ allL x.steps, (exOf t).wf ∧ ∀ a' b, a' < 4 → RelC (exOf t) a' b → ∃ a, a < 4 ∧ RelC x a b :=
  allTo_ind (p := fun t => (exOf t).wf ∧ ∀ a' b, a' < 4 → RelC (exOf t) a' b → ∃ a, a < 4 ∧ RelC x a b)
    ⟨by rw [exOf_steps hx]; exact hx, fun a' b ha h => ⟨a', ha, by rwa [exOf_steps hx] at h⟩⟩
    (fun t ⟨hw, hp⟩ m hm s hs => by
      unfold leftM partsOfL at hs
      obtain ⟨q, hqw, rfl, hq⟩ := mem_partsL_wf hw hs
      refine ⟨by rw [exOf_steps hqw]; exact hqw, fun a' b ha h => ?_⟩
      rw [exOf_steps hqw] at h
      exact hp (m / 3) b (by omega) (.step (by omega) (show m % 3 < 3 by omega) hq ha h)) 41
theorem alv_rel {x : Ex} (hx : x.wf) (hk : katB x.steps = true) : alvB x.steps = true ↔ ∃ a b, a < 4 ∧ b < 4 ∧ RelC x a b := by
  have h40 : x.steps.length ≤ 40 := (katB_true.1 hk).1
  rw [alvB_true]
  constructor
  · rintro ⟨_, t, ht, he⟩
    obtain ⟨hw, hp⟩ := part_back hx t ht
    obtain ⟨b, hb, hbit⟩ := bit_of he (endX_lt hw)
    obtain ⟨a, ha, h⟩ := hp b b hb (.fin hb hbit)
    exact ⟨a, b, ha, hb, h⟩
  · rintro ⟨a, b, _, _, h⟩
    refine ⟨hk, ?_⟩
    have key : ∀ {X : Ex} {a b : Nat}, RelC X a b → X.wf → X.steps ∈ allL x.steps → ∃ t ∈ allL x.steps, endX (exOf t) ≠ 0 := by
      intro X a b h
      induction h with
      | @fin X a ha h =>
        intro hw hm
        refine ⟨_, hm, ?_⟩
        rw [exOf_steps hw]
        intro h0
        rw [h0] at h
        simp at h
      | @step X p a b c a' ha hc hp ha' h ih =>
        intro hw hm
        refine ih (partsX_wf hw p hp) (allL_closed hx h40 hm (m := 3 * a + c) (by omega) ?_)
        rw [show (3 * a + c) / 3 = a by omega, show (3 * a + c) % 3 = c by omega, partsOfL_steps hw]
        exact mem_partsL.2 ⟨p, hp, rfl⟩
    exact key h hx (allL_self _)
theorem alv_relX {x : Ex} (hx : x.wf) (hk : katB x.steps = true) : alvB x.steps = true ↔ ∃ a b, a < 4 ∧ b < 4 ∧ RelX x a b := by
  rw [alv_rel hx hk]
  constructor
  · rintro ⟨a, b, ha, hb, h⟩; exact ⟨a, b, ha, hb, relC_X hx h⟩
  · rintro ⟨a, b, ha, hb, h⟩; exact ⟨a, b, ha, hb, relX_C hx ha hb h⟩
theorem alv_trace {x : Ex} (hx : x.wf) (hk : katB x.steps = true) {t : List Int} (ht : TraceOK t) (h : Lg t x 0 (t.length / 2)) : alvB x.steps = true :=
  (alv_relX hx hk).2 ⟨_, _, ht.trV.bit (Nat.zero_le _), ht.trV.bit (Nat.le_refl _), lg_rel ht.trV (Nat.le_refl _) h⟩
theorem alv_ends {x : Ex} (hx : x.wf) (hk : katB x.steps = true) (h : endX x ≠ 0) : alvB x.steps = true :=
  alvB_true.2 ⟨hk, _, allL_self _, by rw [exOf_steps hx]; exact h⟩
theorem alv_back {x : Ex} (hx : x.wf) (hk : katB x.steps = true) : alvB (backX x).steps = alvB x.steps := by
  have hkb : katB (backX x).steps = true := by rw [← backL_yes hx hk]; exact backL_ok hk
  rw [Bool.eq_iff_iff, alv_relX (backX_wf hx) hkb, alv_relX hx hk]
  constructor
  · rintro ⟨a, b, ha, hb, h⟩; exact ⟨b, a, hb, ha, (rel_back hb ha).1 h⟩
  · rintro ⟨a, b, ha, hb, h⟩; exact ⟨b, a, hb, ha, (rel_back ha hb).2 h⟩

end Go.Proofs.Ytmhiipmajlmlgaa
