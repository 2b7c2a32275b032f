/- How the reference draws, as plain functions of a code and a place in it. No program in sight. -/
import Derived.Test.YtboandkjhdaobaaGrpJ
import Derived.Test.YtboandkjhdaobaaGrpC
namespace Go.Proofs.Ytboandkjhdaobaa
set_option linter.unusedSimpArgs false
set_option linter.unusedVariables false
set_option maxRecDepth 8000
set_option maxHeartbeats 2000000

end Go.Proofs.Ytboandkjhdaobaa

namespace Go.Proofs.Ytboandkjhdaobaa
set_option linter.unusedSimpArgs false
set_option linter.unusedVariables false
set_option maxRecDepth 8000
set_option maxHeartbeats 2000000

theorem KatOK.leaf {n : Int} (h : 0 ≤ n ∧ n ≤ 18) : KatOK [n] := KatOK.of (x := .leaf n) h (by simp [Ex.steps])
theorem KatOK.thn {a b : List Int} (ha : KatOK a) (hb : KatOK b) (h : a.length + b.length + 1 ≤ 40) : KatOK (a ++ (b ++ [19])) := by
  obtain ⟨x, hx, rfl, _⟩ := ha.ex
  obtain ⟨y, hy, rfl, _⟩ := hb.ex
  exact KatOK.of (x := .thn x y) ⟨hx, hy⟩ (by simp [Ex.steps]; omega)
theorem KatOK.pls {a b : List Int} (ha : KatOK a) (hb : KatOK b) (h : a.length + b.length + 1 ≤ 40) : KatOK (a ++ (b ++ [20])) := by
  obtain ⟨x, hx, rfl, _⟩ := ha.ex
  obtain ⟨y, hy, rfl, _⟩ := hb.ex
  exact KatOK.of (x := .pls x y) ⟨hx, hy⟩ (by simp [Ex.steps]; omega)
theorem KatOK.str {a : List Int} (ha : KatOK a) (h : a.length + 1 ≤ 40) : KatOK (a ++ [21]) := by
  obtain ⟨x, hx, rfl, _⟩ := ha.ex
  exact KatOK.of (x := .str x) hx (by simp [Ex.steps]; omega)

end Go.Proofs.Ytboandkjhdaobaa

namespace Go.Proofs.Ytboandkjhdaobaa
set_option linter.unusedSimpArgs false
set_option linter.unusedVariables false
set_option maxRecDepth 8000
set_option maxHeartbeats 2000000

theorem autoOK_of {D : AutoD} {n : Nat} (h0 : 1 ≤ n) (h1 : n ≤ 10) (h2 : D.ends.length = n) (h3 : D.next.length = n) (h4 : ∀ x ∈ D.ends, 0 ≤ x ∧ x ≤ 15) (h5 : ∀ r ∈ D.next, r.length = 12 ∧ ∀ x ∈ r, 0 ≤ x ∧ x ≤ 2 ^ n - 1) : AutoOK D := by
  have hn : ∀ k, k < D.ends.length → nthL D.next k ∈ D.next := fun k hk => by
    have : k < D.next.length := by omega
    simp [nthL, List.getD, List.getElem?_eq_getElem this]
  refine ⟨by omega, by omega, by omega, fun k hk => ?_, fun k hk => (h5 _ (hn k hk)).1, fun k hk j hj => ?_⟩
  · have : nth D.ends k ∈ D.ends := by simp [nth, List.getD, List.getElem?_eq_getElem hk]
    exact h4 _ this
  · have h6 := h5 _ (hn k hk)
    have hj' : j < (nthL D.next k).length := by omega
    have : nth (nthL D.next k) j ∈ nthL D.next k := by simp [nth, List.getD, List.getElem?_eq_getElem hj']
    rw [h2]
    exact h6.2 _ this

theorem autD_ok {e : List Int} (he : KatOK e) (h : (autD e).ends.length ≠ 0) : AutoOK (autD e) := by
  by_cases hc : katB e = true ∧ (allL e).length ≤ 10
  · rw [autD_yes hc.1 hc.2] at h ⊢
    obtain ⟨x, hx, rfl, hl⟩ := he.ex
    have hel : (autoL (allL x.steps)).ends.length = (allL x.steps).length := by simp [autoL, endsM]
    refine autoOK_of (n := (allL x.steps).length) (by omega) hc.2 hel (by simp [autoL]) (fun y hy => ?_) (fun r hr => ?_)
    · simp only [autoL, endsM, List.mem_map] at hy
      obtain ⟨t, ht, rfl⟩ := hy
      obtain ⟨y, hy, rfl, _⟩ := allL_left hx t ht
      rw [exOf_steps hy]
      have := endX_lt hy
      omega
    · simp only [autoL, List.mem_map] at hr
      obtain ⟨t, ht, rfl⟩ := hr
      refine ⟨rowM_len _ _ _, fun z hz => ?_⟩
      simp only [rowM, List.mem_map] at hz
      obtain ⟨m, _, rfl⟩ := hz
      have h1 : setN (allL x.steps) (leftM t m) < 2 ^ (allL x.steps).length := sumB_lt _ _
      have h5 : ((2 ^ (allL x.steps).length : Nat) : Int) = 2 ^ (allL x.steps).length := by push_cast; rfl
      generalize 2 ^ (allL x.steps).length = z at h1 h5
      rw [← h5]
      omega
  · rw [autD_no hc] at h
    exact absurd rfl h

end Go.Proofs.Ytboandkjhdaobaa

namespace Go.Proofs.Ytboandkjhdaobaa
set_option linter.unusedSimpArgs false
set_option linter.unusedVariables false
set_option maxRecDepth 8000
set_option maxHeartbeats 2000000

structure SmallA (D : AutoD) : Prop where
  e : D.ends.length ≤ 10
  n : D.next.length ≤ 10
  r : ∀ x ∈ D.next, x.length ≤ 12

theorem mem_nthL {l : List (List Int)} {x : List Int} (h : x ∈ l) : ∃ k, k < l.length ∧ nthL l k = x := by
  obtain ⟨k, hk, rfl⟩ := List.getElem_of_mem h
  exact ⟨k, hk, by simp [nthL, List.getD, List.getElem?_eq_getElem hk]⟩
theorem mem_nth {l : List Int} {x : Int} (h : x ∈ l) : ∃ k, k < l.length ∧ nth l k = x := by
  obtain ⟨k, hk, rfl⟩ := List.getElem_of_mem h
  exact ⟨k, hk, by simp [nth, List.getD, List.getElem?_eq_getElem hk]⟩

theorem AutoOK.small {D : AutoD} (h : AutoOK D) : SmallA D := by
  have h1 := h.len
  have h2 := h.hi
  refine ⟨h2, by omega, fun x hx => ?_⟩
  obtain ⟨k, hk, rfl⟩ := mem_nthL hx
  have := h.rows k (by omega)
  omega
theorem AutoOK.le {D : AutoD} (h : AutoOK D) : ∀ x ∈ D.next, ∀ y ∈ x, y ≤ 2 ^ D.ends.length := by
  intro x hx y hy
  obtain ⟨k, hk, rfl⟩ := mem_nthL hx
  obtain ⟨j, hj, rfl⟩ := mem_nth hy
  have h1 := h.len
  have h2 := h.rows k (by omega)
  have := (h.sets k (by omega) j (by omega)).2
  omega

end Go.Proofs.Ytboandkjhdaobaa
