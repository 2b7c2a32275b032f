/- All short traces, as they are listed: which they are; each comes once. No program in sight. -/
import Derived.Test.YtehdfifncbokeaaGrpT
import Derived.Test.YtehdfifncbokeaaGrpC
namespace Go.Proofs.Ytehdfifncbokeaa
set_option linter.unusedSimpArgs false
set_option linter.unusedVariables false
set_option maxRecDepth 8000
set_option maxHeartbeats 2000000
open Go.RowKit

inductive TailW : List Int → Prop where
  | nil : TailW []
  | cons {c a : Int} {w : List Int} (hc : 16 ≤ c ∧ c ≤ 18) (ha : 0 ≤ a ∧ a ≤ 3) (h : TailW w) : TailW (c :: a :: w)
theorem TailW.even {w : List Int} (h : TailW w) : w.length % 2 = 0 := by
  induction h with
  | nil => rfl
  | cons hc ha h ih => simp only [List.length_cons]; omega
theorem TailW.at {w : List Int} (h : TailW w) : ∀ i, 2 * i < w.length → (16 ≤ nth w (2 * i) ∧ nth w (2 * i) ≤ 18) ∧ 0 ≤ nth w (2 * i + 1) ∧ nth w (2 * i + 1) ≤ 3 := by
  induction h with
  | nil => intro i hi; simp at hi
  | @cons c a w hc ha h ih =>
    intro i hi
    cases i with
    | zero => exact ⟨hc, ha⟩
    | succ i =>
      simp only [List.length_cons] at hi
      have := ih i (by omega)
      rw [show 2 * (i + 1) = 2 * i + 2 by omega, show 2 * i + 2 + 1 = 2 * i + 1 + 2 by omega]
      have e : ∀ j, nth (c :: a :: w) (j + 2) = nth w j := fun j => by simp [nth]
      rw [e, e]; exact this
theorem tailW_of : ∀ (n : Nat) (w : List Int), w.length = 2 * n → (∀ i, i < n → (16 ≤ nth w (2 * i) ∧ nth w (2 * i) ≤ 18) ∧ 0 ≤ nth w (2 * i + 1) ∧ nth w (2 * i + 1) ≤ 3) → TailW w
  | 0, w, h, _ => by
    have : w = [] := List.eq_nil_of_length_eq_zero (by omega)
    subst this; exact .nil
  | n + 1, c :: a :: w, h, hw => by
    have h0 := hw 0 (by omega)
    refine .cons h0.1 h0.2 (tailW_of n w (by simp only [List.length_cons] at h; omega) fun i hi => ?_)
    have := hw (i + 1) (by omega)
    rw [show 2 * (i + 1) = 2 * i + 2 by omega, show 2 * i + 2 + 1 = 2 * i + 1 + 2 by omega] at this
    have e : ∀ j, nth (c :: a :: w) (j + 2) = nth w j := fun j => by simp [nth]
    rw [e, e] at this; exact this
  | n + 1, [], h, _ => by simp at h
  | n + 1, [a], h, _ => by simp at h; omega
theorem trace_tail {t : List Int} : TraceOK t ↔ ∃ (a : Int) (w : List Int), t = a :: w ∧ (0 ≤ a ∧ a ≤ 3) ∧ TailW w ∧ w.length ≤ 40 := by
  constructor
  · intro h
    have ho := h.odd
    cases t with
    | nil => simp at ho
    | cons a w =>
      refine ⟨a, w, rfl, h.atoms 0 (by simp), ?_, by have := h.len; simp only [List.length_cons] at this; omega⟩
      simp only [List.length_cons] at ho
      refine tailW_of (w.length / 2) w (by omega) fun i hi => ⟨?_, ?_⟩
      · have := h.acts i (by simp only [List.length_cons]; omega)
        simpa [nth] using this
      · have := h.atoms (i + 1) (by simp only [List.length_cons]; omega)
        rw [show 2 * (i + 1) = (2 * i + 1) + 1 by omega] at this
        simpa [nth] using this
  · rintro ⟨a, w, rfl, ha, hw, hl⟩
    have he := hw.even
    refine ⟨by simp only [List.length_cons]; omega, by simp only [List.length_cons]; omega, fun k hk => ?_, fun k hk => ?_⟩
    · simp only [List.length_cons] at hk
      cases k with
      | zero => exact ha
      | succ k =>
        have := (hw.at k (by omega)).2
        rw [show 2 * (k + 1) = (2 * k + 1) + 1 by omega]
        simpa [nth] using this
    · simp only [List.length_cons] at hk
      have := (hw.at k (by omega)).1
      simpa [nth] using this

theorem trFrom_mem : ∀ (m : Nat) (t u : List Int), u ∈ trFrom m t ↔ ∃ w, TailW w ∧ w.length ≤ 2 * m ∧ u = t ++ w
  | 0, t, u => by
    simp only [trFrom, List.mem_singleton]
    constructor
    · rintro rfl; exact ⟨[], .nil, by simp, by simp⟩
    · rintro ⟨w, _, hl, rfl⟩
      have : w = [] := List.eq_nil_of_length_eq_zero (by omega)
      subst this; simp
  | m + 1, t, u => by
    simp only [trFrom, List.mem_append, List.mem_singleton, List.mem_flatMap, List.mem_range]
    constructor
    · rintro (rfl | ⟨k, hk, h⟩)
      · exact ⟨[], .nil, by simp, by simp⟩
      · obtain ⟨w, hw, hl, rfl⟩ := (trFrom_mem m _ u).1 h
        refine ⟨_ :: _ :: w, .cons ?_ ?_ hw, ?_, by simp; exact ⟨rfl, rfl⟩⟩
        · omega
        · omega
        · simp only [List.length_cons]; omega
    · rintro ⟨w, hw, hl, rfl⟩
      cases hw with
      | nil => left; simp
      | @cons c a w hc ha hw =>
        right
        refine ⟨(4 * (c - 16) + a).toNat, by omega, (trFrom_mem m _ _).2 ⟨w, hw, by simp only [List.length_cons] at hl; omega, ?_⟩⟩
        have e1 : (16 : Int) + (((4 * (c - 16) + a).toNat / 4 : Nat) : Int) = c := by omega
        have e2 : ((((4 * (c - 16) + a).toNat) % 4 : Nat) : Int) = a := by omega
        rw [e1, e2]
        simp
theorem allTr_mem {m : Nat} {u : List Int} : u ∈ allTr m 4 ↔ ∃ (a : Int) (w : List Int), u = a :: w ∧ (0 ≤ a ∧ a ≤ 3) ∧ TailW w ∧ w.length ≤ 2 * m := by
  unfold allTr
  rw [List.mem_flatMap]
  constructor
  · rintro ⟨k, hk, h⟩
    rw [List.mem_range] at hk
    obtain ⟨w, hw, hl, rfl⟩ := (trFrom_mem m _ u).1 h
    exact ⟨(k : Int), w, rfl, by omega, hw, hl⟩
  · rintro ⟨a, w, rfl, ha, hw, hl⟩
    refine ⟨a.toNat, by rw [List.mem_range]; omega, (trFrom_mem m _ _).2 ⟨w, hw, hl, ?_⟩⟩
    have : ((a.toNat : Nat) : Int) = a := by omega
    rw [this]; rfl
theorem allTr_ok {m : Nat} (hm : m ≤ 2) {u : List Int} (h : u ∈ allTr m 4) : TraceOK u ∧ u.length ≤ 2 * m + 1 := by
  obtain ⟨a, w, rfl, ha, hw, hl⟩ := allTr_mem.1 h
  exact ⟨trace_tail.2 ⟨a, w, rfl, ha, hw, by omega⟩, by simp only [List.length_cons]; omega⟩
theorem allTr_all {m : Nat} {u : List Int} (h : TraceOK u) (hl : u.length ≤ 2 * m + 1) : u ∈ allTr m 4 := by
  obtain ⟨a, w, rfl, ha, hw, _⟩ := trace_tail.1 h
  exact allTr_mem.2 ⟨a, w, rfl, ha, hw, by simp only [List.length_cons] at hl; omega⟩

theorem nodup_flat {α : Type} {f : Nat → List α} (n : Nat) (h1 : ∀ k, k < n → (f k).Nodup) (h2 : ∀ i j, i < j → j < n → ∀ x, x ∈ f i → x ∉ f j) : ((List.range n).flatMap f).Nodup := by
  induction n with
  | zero => simp
  | succ n ih =>
    rw [List.range_succ, List.flatMap_append]
    simp only [List.flatMap_cons, List.flatMap_nil, List.append_nil]
    rw [List.nodup_append]
    refine ⟨ih (fun k hk => h1 k (by omega)) fun i j hij hj => h2 i j hij (by omega), h1 n (by omega), fun x hx y hy e => ?_⟩
    subst e
    obtain ⟨k, hk, hx⟩ := List.mem_flatMap.1 hx
    rw [List.mem_range] at hk
    exact h2 k n hk (by omega) x hx hy
theorem trFrom_nodup : ∀ (m : Nat) (t : List Int), (trFrom m t).Nodup
  | 0, t => by simp [trFrom]
  | m + 1, t => by
    simp only [trFrom]
    rw [List.nodup_append]
    refine ⟨by simp, nodup_flat 12 (fun k _ => trFrom_nodup m _) fun i j hij hj x hx hy => ?_, fun x hx y hy e => ?_⟩
    · obtain ⟨w, _, _, rfl⟩ := (trFrom_mem m _ x).1 hx
      obtain ⟨w2, _, _, e⟩ := (trFrom_mem m _ _).1 hy
      rw [List.append_assoc, List.append_assoc, List.append_cancel_left_eq] at e
      simp at e
      omega
    · rw [List.mem_singleton] at hx
      subst hx; subst e
      obtain ⟨k, _, h⟩ := List.mem_flatMap.1 hy
      obtain ⟨w, _, _, e⟩ := (trFrom_mem m _ _).1 h
      have := congrArg List.length e
      simp at this
theorem allTr_nodup (m : Nat) : (allTr m 4).Nodup := nodup_flat 4 (fun k _ => trFrom_nodup m _) fun i j hij hj x hx hy => by
  obtain ⟨w, _, _, rfl⟩ := (trFrom_mem m _ x).1 hx
  obtain ⟨w2, _, _, e⟩ := (trFrom_mem m _ _).1 hy
  simp at e
  omega

end Go.Proofs.Ytehdfifncbokeaa
