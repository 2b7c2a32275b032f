/- What the laws on parts say, plainly. No program in sight. -/
import Derived.Test.YtaniaocanekajaaGrpC
namespace Go.Proofs.Ytaniaocanekajaa
set_option linter.unusedSimpArgs false
set_option linter.unusedVariables false
set_option maxRecDepth 8000
set_option maxHeartbeats 2000000
open Go.RowKit

theorem allTo_sub {l : LL} (hc : ∀ t ∈ l, ∀ m, m < 12 → ∀ s ∈ leftM t m, s ∈ l) {p : List Int} (hp : p ∈ l) : ∀ k, ∀ t ∈ allTo p k, t ∈ l
  | 0, t, ht => by
    have : t = p := by simpa [allTo] using ht
    exact this ▸ hp
  | k + 1, t, ht => by
    have ih := allTo_sub hc hp k
    by_cases h : k < (allTo p k).length
    · rw [allTo_succ h] at ht
      rcases roundL_mem.1 ht with h1 | ⟨j, hj, h1⟩
      · exact ih t h1
      · exact hc _ (ih _ (List.getElem_mem h)) j hj t h1
    · rw [allTo_stop (by omega)] at ht
      exact ih t ht
theorem allL_sub {x : Ex} (hx : x.wf) (hl : x.steps.length ≤ 40) {p : List Int} (hp : p ∈ allL x.steps) : ∀ t ∈ allL p, t ∈ allL x.steps :=
  allTo_sub (l := allL x.steps) (fun t ht m hm s hs => allL_closed hx hl ht hm hs) hp 41
theorem allL_self (e : List Int) : e ∈ allL e := List.mem_of_getElem? (allL_head e)

theorem detTo_leX (atom : Nat) (t : List Int) {c : Nat} (h : c < 3) : (partsOfL atom (16 + (c : Int)) t).length ≤ detTo atom t 3 := by
  have : c = 0 ∨ c = 1 ∨ c = 2 := by omega
  rcases this with rfl | rfl | rfl <;> simp only [detTo] <;> omega
theorem det_parts {e : List Int} (h : detB e = true) {atom c : Nat} (ha : atom < 4) (hc : c < 3) : (partsOfD e (atom : Int) ((16 + c : Nat) : Int)).length ≤ 1 ∧ ∀ p ∈ partsOfD e (atom : Int) ((16 + c : Nat) : Int), katB p = true → detB p = true := by
  obtain ⟨hk, hd⟩ := detB_true.1 h
  obtain ⟨x, hw, rfl, h40⟩ := katB_tree hk
  rw [partsOfD_yes hw hk ⟨by omega, by omega⟩ ⟨by omega, by omega⟩]
  have e1 : ((atom : Int)).toNat = atom := by omega
  have e2 : ((16 + c : Nat) : Int) = 16 + (c : Int) := by omega
  rw [e1, e2, ← partsOfL_steps hw]
  refine ⟨?_, fun p hp hkp => ?_⟩
  · have h1 := hd _ (allL_self _) atom ha
    unfold detP at h1
    have := detTo_leX atom x.steps hc
    omega
  · refine detB_true.2 ⟨hkp, fun t ht => hd t ?_⟩
    have hm : p ∈ allL x.steps := allL_closed hw h40 (allL_self _) (m := 3 * atom + c) (by omega) (by
      rw [show (3 * atom + c) / 3 = atom by omega, show (3 * atom + c) % 3 = c by omega]
      exact hp)
    exact allL_sub hw h40 hm t ht

theorem mem_stepS {s : LL} {atom : Nat} {act : Int} {q : List Int} : q ∈ stepS s atom act ↔ ∃ p ∈ s, q ∈ partsOfL atom act p := by
  unfold stepS
  rw [mem_ordL, List.mem_flatMap]
theorem setTo_tail {e t : List Int} {atom : Nat} {act : Int} (t0 : List Int) : ∀ k, 2 * k < t.length → ∀ q, q ∈ setTo e ((atom : Int) :: act :: t) (k + 1) ↔ ∃ p ∈ partsOfL atom act e, q ∈ setTo p t k
  | 0, _, q => by
    simp only [setTo]
    rw [mem_stepS]
    simp [nth]
  | k + 1, hk, q => by
    have ih := setTo_tail (e := e) (t := t) (atom := atom) (act := act) t0 k (by omega)
    rw [setTo, mem_stepS]
    have e1 : nth ((atom : Int) :: act :: t) (2 * (k + 1)) = nth t (2 * k) := by simp [nth, Nat.mul_add]
    have e2 : nth ((atom : Int) :: act :: t) (2 * (k + 1) + 1) = nth t (2 * k + 1) := by simp [nth, Nat.mul_add]
    rw [e1, e2]
    constructor
    · rintro ⟨p, hp, hq⟩
      obtain ⟨p0, hp0, hp1⟩ := (ih p).1 hp
      refine ⟨p0, hp0, ?_⟩
      rw [setTo, mem_stepS]
      exact ⟨p, hp1, hq⟩
    · rintro ⟨p0, hp0, hq⟩
      rw [setTo, mem_stepS] at hq
      obtain ⟨p, hp, hq⟩ := hq
      exact ⟨p, (ih p).2 ⟨p0, hp0, hp⟩, hq⟩

theorem TraceOK.cons {t : List Int} (h : TraceOK t) {atom : Nat} {act : Int} (ha : atom < 4) (hc : 16 ≤ act ∧ act ≤ 18) (hl : t.length ≤ 39) : TraceOK ((atom : Int) :: act :: t) := by
  have h0 : ∀ i, nth ((atom : Int) :: act :: t) (i + 2) = nth t i := fun i => by simp [nth]
  refine ⟨by have := h.odd; simp only [List.length_cons]; omega, by simp only [List.length_cons]; omega, fun k hk => ?_, fun k hk => ?_⟩
  · simp only [List.length_cons] at hk
    cases k with
    | zero => show 0 ≤ (atom : Int) ∧ (atom : Int) ≤ 3; omega
    | succ k => rw [show 2 * (k + 1) = 2 * k + 2 by omega, h0]; exact h.atoms k (by omega)
  · simp only [List.length_cons] at hk
    cases k with
    | zero => exact hc
    | succ k => rw [show 2 * (k + 1) + 1 = 2 * k + 1 + 2 by omega, h0]; exact h.acts k (by omega)
theorem trb_parts {e t : List Int} {atom : Nat} {act : Int} (hk : katB e = true) (ht : TraceOK t) (hl : t.length ≤ 39) (ha : atom < 4) (hc : 16 ≤ act ∧ act ≤ 18) (hp : ∀ p ∈ partsOfD e atom act, p.length ≤ 40) :
    trbB e ((atom : Int) :: act :: t) = true ↔ ∃ p ∈ partsOfD e atom act, trbB p t = true := by
  obtain ⟨x, hw, rfl, h40⟩ := katB_tree hk
  have hpd := partsOfD_yes hw hk (atom := (atom : Int)) (act := act) ⟨by omega, by omega⟩ hc
  rw [show ((atom : Int)).toNat = atom by omega] at hpd
  rw [hpd] at hp ⊢
  rw [trbB_true]
  have ho := ht.odd
  have h1 : ((atom : Int) :: act :: t).length / 2 = t.length / 2 + 1 := by simp only [List.length_cons]; omega
  have h2 : nth ((atom : Int) :: act :: t) (((atom : Int) :: act :: t).length - 1) = nth t (t.length - 1) := by
    simp only [List.length_cons]
    rw [show t.length + 1 + 1 - 1 = (t.length - 1) + 2 by omega]
    simp [nth]
  rw [h1, h2]
  have hs := setTo_tail (e := x.steps) (t := t) (atom := atom) (act := act) t (t.length / 2) (by omega)
  rw [partsOfL_steps hw] at hs
  constructor
  · rintro ⟨_, _, q, hq, hb⟩
    obtain ⟨p, hpm, hqp⟩ := (hs q).1 hq
    refine ⟨p, hpm, trbB_true.2 ⟨?_, ht, q, hqp, hb⟩⟩
    obtain ⟨y, hy, rfl, _⟩ := mem_partsL_wf hw hpm
    exact katB_true.2 (KatOK.of hy (hp _ hpm))
  · rintro ⟨p, hpm, hpt⟩
    obtain ⟨_, _, q, hq, hb⟩ := trbB_true.1 hpt
    exact ⟨hk, ht.cons ha hc hl, q, (hs q).2 ⟨p, hpm, hq⟩, hb⟩

end Go.Proofs.Ytaniaocanekajaa
