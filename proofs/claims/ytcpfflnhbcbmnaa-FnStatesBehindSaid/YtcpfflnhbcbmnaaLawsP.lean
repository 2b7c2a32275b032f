/- What the laws on automata say, plainly. No program in sight. -/
import Derived.Test.YtcpfflnhbcbmnaaGrpC
namespace Go.Proofs.Ytcpfflnhbcbmnaa
set_option linter.unusedSimpArgs false
set_option linter.unusedVariables false
set_option maxRecDepth 8000
set_option maxHeartbeats 2000000

/-- With no end at all it is valid; without one of its states it is not. -/
theorem AutoOK.zeros {D : AutoD} (h : AutoOK D) : AutoOK ⟨List.replicate D.ends.length 0, D.next⟩ := by
  refine ⟨by simpa using h.lo, by simpa using h.hi, by simpa using h.len, fun k hk => ?_, fun k hk => h.rows k (by simpa using hk), fun k hk j hj => by simpa using h.sets k (by simpa using hk) j hj⟩
  have : k < D.ends.length := by simpa using hk
  simp [nth, List.getD, List.getElem?_replicate, this]
theorem AutoOK.short {D : AutoD} (h : AutoOK D) : ¬ AutoOK ⟨D.ends.drop 1, D.next⟩ := fun h2 => by
  have h3 := h2.len
  have h4 := h.len
  have h5 := h.lo
  simp only [List.length_drop] at h3
  omega
theorem autoOK_none : ¬ AutoOK ⟨[], []⟩ := fun h => by have := h.lo; simp at this

/-! sets as bits -/
theorem and_of_sub {a b : Nat} (h : ∀ i, a.testBit i = true → b.testBit i = true) : a &&& b = a := by
  refine Nat.eq_of_testBit_eq fun i => ?_
  rw [Nat.testBit_and]
  cases ha : a.testBit i with
  | false => rfl
  | true => rw [h i ha]; rfl
theorem endF_sub {D : AutoD} {set k : Nat} (hk : k < D.ends.length) (hs : set.testBit k = true) : endsN D k &&& endF D set = endsN D k :=
  and_of_sub fun i hi => (endT_testBit D set i _).2 ⟨k, hk, hs, hi⟩
theorem endF_zero (D : AutoD) : endF D 0 = 0 := by
  refine Nat.eq_of_testBit_eq fun i => ?_
  rw [Nat.zero_testBit]
  cases h : (endF D 0).testBit i with
  | false => rfl
  | true =>
    obtain ⟨k, _, hs, _⟩ := (endT_testBit D 0 i _).1 h
    simp at hs
theorem behF_zero (D : AutoD) (m : Nat) : behF D 0 m = 0 := by
  refine Nat.eq_of_testBit_eq fun i => ?_
  rw [Nat.zero_testBit]
  cases h : (behF D 0 m).testBit i with
  | false => rfl
  | true =>
    obtain ⟨k, _, hs, _⟩ := (behT_testBit D 0 m i _).1 h
    simp at hs
theorem behF_or (D : AutoD) (a b m : Nat) : behF D (a ||| b) m = behF D a m ||| behF D b m := by
  refine Nat.eq_of_testBit_eq fun i => ?_
  rw [Nat.testBit_or, Bool.eq_iff_iff, Bool.or_eq_true]
  show (behT D (a ||| b) m D.ends.length).testBit i = true ↔ (behT D a m D.ends.length).testBit i = true ∨ (behT D b m D.ends.length).testBit i = true
  rw [behT_testBit, behT_testBit, behT_testBit]
  constructor
  · rintro ⟨k, h1, h2, h3⟩
    rw [Nat.testBit_or, Bool.or_eq_true] at h2
    rcases h2 with h2 | h2
    · exact .inl ⟨k, h1, h2, h3⟩
    · exact .inr ⟨k, h1, h2, h3⟩
  · rintro (⟨k, h1, h2, h3⟩ | ⟨k, h1, h2, h3⟩)
    · exact ⟨k, h1, by rw [Nat.testBit_or, h2]; rfl, h3⟩
    · exact ⟨k, h1, by rw [Nat.testBit_or, h2, Bool.or_true], h3⟩

/-- What is in both, and what is in one of both. -/
theorem and_add_or : ∀ (n a b : Nat), a < 2 ^ n → (a &&& b) + (a ||| b) = a + b
  | 0, a, b, h => by
    have : a = 0 := by simpa using h
    subst this; simp
  | n + 1, a, b, h => by
    have ih := and_add_or n (a / 2) (b / 2) (by rw [Nat.pow_succ] at h; omega)
    have h1 : (a &&& b) / 2 = a / 2 &&& b / 2 := Nat.and_div_two
    have h2 : (a ||| b) / 2 = a / 2 ||| b / 2 := Nat.or_div_two
    have h3 : (a &&& b) % 2 + (a ||| b) % 2 = a % 2 + b % 2 := by
      have e1 : (a &&& b) % 2 = (a % 2) &&& (b % 2) := Nat.and_mod_two_pow (n := 1)
      have e2 : (a ||| b) % 2 = (a % 2) ||| (b % 2) := Nat.or_mod_two_pow (n := 1)
      have g1 : a % 2 = 0 ∨ a % 2 = 1 := by omega
      have g2 : b % 2 = 0 ∨ b % 2 = 1 := by omega
      rw [e1, e2]
      rcases g1 with g1 | g1 <;> rcases g2 with g2 | g2 <;> rw [g1, g2] <;> rfl
    omega
theorem or_sub (a b : Nat) : a + b - (a &&& b) = a ||| b := by
  have := and_add_or a a b Nat.lt_two_pow_self
  omega

theorem reachF_behind {D : AutoD} (h : AutoOK D) {m : Nat} (hm : m < 12) : behF D (reachF D) m &&& reachF D = behF D (reachF D) m := by
  refine and_of_sub fun i hi => ?_
  have h1 := rT_has D (reachF D) 12 hm i hi
  rwa [reachF_closed h] at h1
theorem reachF_odd {D : AutoD} (h : AutoOK D) : reachF D % 2 = 1 := by
  have h1 := reachF_one h 0 (by decide)
  simpa [Nat.testBit_zero] using h1

end Go.Proofs.Ytcpfflnhbcbmnaa
