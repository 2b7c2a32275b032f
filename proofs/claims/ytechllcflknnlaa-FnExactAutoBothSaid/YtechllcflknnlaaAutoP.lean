/- Plain facts on automata as data: the sets of states behind a set, and where a set may end. No program in sight. -/
import Derived.Test.YtechllcflknnlaaBits
namespace Go.Proofs.Ytechllcflknnlaa
set_option linter.unusedSimpArgs false
set_option linter.unusedVariables false
set_option maxRecDepth 8000
open Go.RowKit

def endsN (D : AutoD) (k : Nat) : Nat := (nth D.ends k).toNat
def nextN (D : AutoD) (k m : Nat) : Nat := (nth (nthL D.next k) m).toNat

/-- What is behind the first k states, as far as they are in the set. -/
def behT (D : AutoD) (set m : Nat) : Nat → Nat
  | 0 => 0
  | k + 1 => if set.testBit k then behT D set m k ||| nextN D k m else behT D set m k
def behF (D : AutoD) (set m : Nat) : Nat := behT D set m D.ends.length
def endT (D : AutoD) (set : Nat) : Nat → Nat
  | 0 => 0
  | k + 1 => if set.testBit k then endT D set k ||| endsN D k else endT D set k
def endF (D : AutoD) (set : Nat) : Nat := endT D set D.ends.length

theorem AutoOK.endsN_eq {D : AutoD} (h : AutoOK D) {k : Nat} (hk : k < D.ends.length) : nth D.ends k = (endsN D k : Int) := by
  have := h.ends k hk; unfold endsN; omega
theorem AutoOK.endsN_lt {D : AutoD} (h : AutoOK D) {k : Nat} (hk : k < D.ends.length) : endsN D k < 16 := by
  have := h.ends k hk; unfold endsN; omega
theorem AutoOK.nextN_eq {D : AutoD} (h : AutoOK D) {k m : Nat} (hk : k < D.ends.length) (hm : m < 12) : nth (nthL D.next k) m = (nextN D k m : Int) := by
  have := h.sets k hk m hm; unfold nextN; omega
theorem AutoOK.nextN_lt {D : AutoD} (h : AutoOK D) {k m : Nat} (hk : k < D.ends.length) (hm : m < 12) : nextN D k m < 2 ^ D.ends.length := by
  have h1 := h.sets k hk m hm
  have h2 : ((2 ^ D.ends.length : Nat) : Int) = 2 ^ D.ends.length := by simp
  unfold nextN; omega
theorem AutoOK.pow_le {D : AutoD} (h : AutoOK D) : 2 ^ D.ends.length ≤ 1024 := Nat.pow_le_pow_right (n := 2) (by omega) h.hi

theorem AutoOK.behT_lt {D : AutoD} (h : AutoOK D) (set : Nat) {m : Nat} (hm : m < 12) : ∀ k, k ≤ D.ends.length → behT D set m k < 2 ^ D.ends.length
  | 0, _ => Nat.two_pow_pos _
  | k + 1, hk => by
    unfold behT
    split
    · exact Nat.or_lt_two_pow (h.behT_lt set hm k (by omega)) (h.nextN_lt (by omega) hm)
    · exact h.behT_lt set hm k (by omega)
theorem AutoOK.behF_lt {D : AutoD} (h : AutoOK D) (set : Nat) {m : Nat} (hm : m < 12) : behF D set m < 2 ^ D.ends.length := h.behT_lt set hm _ (Nat.le_refl _)
theorem AutoOK.endT_lt {D : AutoD} (h : AutoOK D) (set : Nat) : ∀ k, k ≤ D.ends.length → endT D set k < 2 ^ 4
  | 0, _ => by simp [endT]
  | k + 1, hk => by
    unfold endT
    split
    · exact Nat.or_lt_two_pow (h.endT_lt set k (by omega)) (by have := h.endsN_lt (k := k) (by omega); omega)
    · exact h.endT_lt set k (by omega)
theorem AutoOK.endF_lt {D : AutoD} (h : AutoOK D) (set : Nat) : endF D set < 16 := h.endT_lt set _ (Nat.le_refl _)

theorem behT_testBit (D : AutoD) (set m j : Nat) : ∀ k, (behT D set m k).testBit j = true ↔ ∃ i, i < k ∧ set.testBit i = true ∧ (nextN D i m).testBit j = true
  | 0 => by simp [behT]
  | k + 1 => by
    have ih := behT_testBit D set m j k
    unfold behT
    by_cases hk : set.testBit k = true
    · rw [if_pos hk, Nat.testBit_or, Bool.or_eq_true, ih]
      constructor
      · rintro (⟨i, hi, h⟩ | h)
        · exact ⟨i, by omega, h⟩
        · exact ⟨k, by omega, hk, h⟩
      · rintro ⟨i, hi, h1, h2⟩
        by_cases e : i = k
        · subst e; exact .inr h2
        · exact .inl ⟨i, by omega, h1, h2⟩
    · rw [if_neg hk, ih]
      constructor
      · rintro ⟨i, hi, h⟩; exact ⟨i, by omega, h⟩
      · rintro ⟨i, hi, h1, h2⟩
        by_cases e : i = k
        · subst e; exact absurd h1 hk
        · exact ⟨i, by omega, h1, h2⟩
theorem endT_testBit (D : AutoD) (set j : Nat) : ∀ k, (endT D set k).testBit j = true ↔ ∃ i, i < k ∧ set.testBit i = true ∧ (endsN D i).testBit j = true
  | 0 => by simp [endT]
  | k + 1 => by
    have ih := endT_testBit D set j k
    unfold endT
    by_cases hk : set.testBit k = true
    · rw [if_pos hk, Nat.testBit_or, Bool.or_eq_true, ih]
      constructor
      · rintro (⟨i, hi, h⟩ | h)
        · exact ⟨i, by omega, h⟩
        · exact ⟨k, by omega, hk, h⟩
      · rintro ⟨i, hi, h1, h2⟩
        by_cases e : i = k
        · subst e; exact .inr h2
        · exact .inl ⟨i, by omega, h1, h2⟩
    · rw [if_neg hk, ih]
      constructor
      · rintro ⟨i, hi, h⟩; exact ⟨i, by omega, h⟩
      · rintro ⟨i, hi, h1, h2⟩
        by_cases e : i = k
        · subst e; exact absurd h1 hk
        · exact ⟨i, by omega, h1, h2⟩

/-- A valid automaton in memory: what each read of it gives, in blocks below B. -/
structure Lk (B : Nat) (w : World) (v0 v1 : Value) (D : AutoD) (b0 o0 c0 b1 o1 c1 : Nat) : Prop where
  ok : AutoOK D
  e0 : v0 = .slice (some ⟨b0, o0, none⟩) D.ends.length c0
  e1 : v1 = .slice (some ⟨b1, o1, none⟩) D.ends.length c1
  l0 : b0 < B
  l1 : b1 < B
  c0 : ∀ k, k < D.ends.length → w.cell? ⟨b0, o0 + k, none⟩ = some (.int .i64 (endsN D k))
  c1 : ∀ k, k < D.ends.length → ∃ br or cr, br < B ∧ w.cell? ⟨b1, o1 + k, none⟩ = some (.slice (some ⟨br, or, none⟩) 12 cr) ∧
    ∀ m, m < 12 → w.cell? ⟨br, or + m, none⟩ = some (.int .i64 (nextN D k m))
  c2 : ∀ k, k < D.ends.length → ∀ u, w.cell? ⟨b1, o1 + k, none⟩ = some u → IS B w u (nthL D.next k)

theorem Lk.of {B : Nat} {w : World} {v0 v1 : Value} {D : AutoD} (h : AutoOK D) (h0 : IS B w v0 D.ends) (h1 : ISS B w v1 D.next) :
    ∃ b0 o0 c0 b1 o1 c1, Lk B w v0 v1 D b0 o0 c0 b1 o1 c1 := by
  obtain ⟨A0, c0, rfl, hl0, hm0, hA0⟩ := h0
  obtain ⟨A1, c1, rfl, hl1, hm1, hA1⟩ := h1
  have hlo := h.lo
  have hlen := h.len
  obtain ⟨b0, o0, rfl, hb0, hc0⟩ := hA0 (by omega)
  obtain ⟨b1, o1, rfl, hb1, hc1⟩ := hA1 (by omega)
  refine ⟨b0, o0, c0, b1, o1, c1, h, rfl, by rw [hlen], hb0, hb1, fun k hk => by rw [hc0 k hk, h.endsN_eq hk], fun k hk => ?_, fun k hk u hu => ?_⟩
  rotate_left
  · obtain ⟨u', hu', hi⟩ := hc1 k (by omega)
    rw [hu'] at hu
    injection hu with hu
    subst hu
    exact hi
  obtain ⟨u, hu, A, c, rfl, hl, hm, hA⟩ := hc1 k (by omega)
  have h12 := h.rows k hk
  obtain ⟨br, or, rfl, hbr, hcr⟩ := hA (by omega)
  exact ⟨br, or, c, hbr, by rw [hu, h12], fun m hm => by rw [hcr m (by omega), h.nextN_eq hk hm]⟩
theorem Lk.below {B : Nat} {w w' : World} {v0 v1 : Value} {D : AutoD} {b0 o0 c0 b1 o1 c1 : Nat} (h : Lk B w v0 v1 D b0 o0 c0 b1 o1 c1) (hb : Below B w w') : Lk B w' v0 v1 D b0 o0 c0 b1 o1 c1 :=
  ⟨h.ok, h.e0, h.e1, h.l0, h.l1, fun k hk => below_at hb h.l0 (h.c0 k hk), fun k hk => by
    obtain ⟨br, or, cr, h1, h2, h3⟩ := h.c1 k hk
    exact ⟨br, or, cr, h1, below_at hb h.l1 h2, fun m hm => below_at hb h1 (h3 m hm)⟩, fun k hk u hu => by
    obtain ⟨br, or, cr, h1, h2, h3⟩ := h.c1 k hk
    have h4 := below_at hb h.l1 h2
    rw [h4] at hu
    injection hu with hu
    subst hu
    exact (h.c2 k hk _ h2).below hb⟩

end Go.Proofs.Ytechllcflknnlaa
