/- Plain facts on a trimmed automaton. No program in sight. -/
import Derived.Test.YtehdfifncbokeaaGrpC
namespace Go.Proofs.Ytehdfifncbokeaa
set_option linter.unusedSimpArgs false
set_option linter.unusedVariables false
set_option maxRecDepth 8000
set_option maxHeartbeats 2000000

def ktL (keep k : Nat) : List Nat := (List.range k).filter fun s => keep.testBit s
noncomputable def keepOf (D : AutoD) : Nat := 1 ||| (reachF D &&& liveF D)
end Go.Proofs.Ytehdfifncbokeaa

namespace Go.Proofs.Ytehdfifncbokeaa
set_option linter.unusedSimpArgs false
set_option linter.unusedVariables false
set_option maxRecDepth 8000
set_option maxHeartbeats 2000000

theorem AutoOK.short {D : AutoD} (h : AutoOK D) : ¬ AutoOK ⟨D.ends.drop 1, D.next⟩ := fun h2 => by
  have h3 := h2.len
  have h4 := h.len
  have h5 := h.lo
  simp only [List.length_drop] at h3
  omega
end Go.Proofs.Ytehdfifncbokeaa

namespace Go.Proofs.Ytehdfifncbokeaa
set_option linter.unusedSimpArgs false
set_option linter.unusedVariables false
set_option maxRecDepth 8000
set_option maxHeartbeats 2000000

section
variable {X Y : AutoD}

end

end Go.Proofs.Ytehdfifncbokeaa

namespace Go.Proofs.Ytehdfifncbokeaa
set_option linter.unusedSimpArgs false
set_option linter.unusedVariables false
set_option maxRecDepth 8000
set_option maxHeartbeats 2000000

structure IsSum (D X Y : AutoD) : Prop where
  len : D.ends.length = 1 + X.ends.length + Y.ends.length
  e0 : endsN D 0 = endsN X 0 ||| endsN Y 0
  eX : ∀ i, i < X.ends.length → endsN D (1 + i) = endsN X i
  eY : ∀ j, j < Y.ends.length → endsN D (1 + X.ends.length + j) = endsN Y j
  n0 : ∀ m, m < 12 → nextN D 0 m = nextN X 0 m * 2 ^ 1 ||| nextN Y 0 m * 2 ^ (1 + X.ends.length)
  nX : ∀ i, i < X.ends.length → ∀ m, m < 12 → nextN D (1 + i) m = nextN X i m * 2 ^ 1
  nY : ∀ j, j < Y.ends.length → ∀ m, m < 12 → nextN D (1 + X.ends.length + j) m = nextN Y j m * 2 ^ (1 + X.ends.length)

section
variable {D X Y : AutoD}

structure SumS (X Y : AutoD) (S A B : Nat) : Prop where
  z : S.testBit 0 = false
  x : ∀ i, i < X.ends.length → S.testBit (1 + i) = A.testBit i
  y : ∀ j, j < Y.ends.length → S.testBit (1 + X.ends.length + j) = B.testBit j

end

end Go.Proofs.Ytehdfifncbokeaa

namespace Go.Proofs.Ytehdfifncbokeaa
set_option linter.unusedSimpArgs false
set_option linter.unusedVariables false
set_option maxRecDepth 8000
set_option maxHeartbeats 2000000

section
variable {D : AutoD}

noncomputable def keptL (D : AutoD) : List Nat := ktL (keepOf D) D.ends.length
noncomputable def kp (D : AutoD) (i : Nat) : Nat := (keptL D).getD i 0
structure TrimS (D : AutoD) (T S : Nat) : Prop where
  sub : ∀ i, i < (keptL D).length → T.testBit i = true → S.testBit (kp D i) = true
  sup : ∀ i, i < (keptL D).length → (liveF D).testBit (kp D i) = true → S.testBit (kp D i) = true → T.testBit i = true
  reach : Sub S (reachF D)

end

end Go.Proofs.Ytehdfifncbokeaa

namespace Go.Proofs.Ytehdfifncbokeaa
set_option linter.unusedSimpArgs false
set_option linter.unusedVariables false
set_option maxRecDepth 8000
set_option maxHeartbeats 2000000

def wkD (D : AutoD) (t : Nat) : AutoD := ⟨D.ends.map fun x => ((x.toNat &&& (15 - t) : Nat) : Int), D.next⟩
theorem wkD_ends {D : AutoD} {t k : Nat} (h : k < D.ends.length) : endsN (wkD D t) k = endsN D k &&& (15 - t) := by
  simp [endsN, wkD, nth, List.getD, h]
theorem wkD_len (D : AutoD) (t : Nat) : (wkD D t).ends.length = D.ends.length := by simp [wkD]
theorem not_testBit {t : Nat} (ht : t ≤ 15) (i : Nat) : (15 - t).testBit i = (decide (i < 4) && !t.testBit i) := by
  have : 15 - t = 2 ^ 4 - (t + 1) := by omega
  rw [this]
  exact Nat.testBit_two_pow_sub_succ (by omega) i

def badP (D : AutoD) (t s a S : Nat) : Prop := ((endsN D s).testBit a = true ∧ ¬ t.testBit a = true) ∨ ∃ c, c < 3 ∧ 0 < nextN D s (3 * a + c) &&& S
theorem badP_mono {D : AutoD} {t s a S S' : Nat} (h : Sub S S') (hb : badP D t s a S) : badP D t s a S' := by
  refine hb.imp id ?_
  rintro ⟨c, hc, hp⟩
  obtain ⟨j, h1, h2⟩ := and_pos.1 hp
  exact ⟨c, hc, and_pos.2 ⟨j, h1, h j h2⟩⟩
theorem bad_live {D : AutoD} {t s a S : Nat} (ht : t ≤ 15) (hs : s < D.ends.length) (ha : a < 4) (h : badP D t s a S) : liveC (wkD D t) s S = true := by
  unfold liveC
  rw [Bool.or_eq_true]
  rcases h with ⟨h1, h2⟩ | ⟨c, hc, h⟩
  · left
    rw [decide_eq_true_eq, wkD_ends hs]
    refine and_pos.2 ⟨a, h1, ?_⟩
    rw [not_testBit ht]
    simp [ha]
    simpa using h2
  · right
    rw [anyM_iff]
    exact ⟨3 * a + c, by omega, h⟩
def stN (P : List (Nat × Nat)) : Nat := P.foldl (fun acc p => acc ||| 2 ^ p.1) 0
theorem foldS_testBit (k : Nat) : ∀ (P : List (Nat × Nat)) (acc : Nat), (P.foldl (fun acc p => acc ||| 2 ^ p.1) acc).testBit k = true ↔ acc.testBit k = true ∨ ∃ a, (k, a) ∈ P
  | [], acc => by simp
  | p :: P, acc => by
    rw [List.foldl_cons, foldS_testBit k P, Nat.testBit_or, Bool.or_eq_true, Nat.testBit_two_pow, decide_eq_true_eq]
    constructor
    · rintro ((h | h) | ⟨a, h⟩)
      · exact .inl h
      · exact .inr ⟨p.2, by rw [← h]; simp⟩
      · exact .inr ⟨a, by simp [h]⟩
    · rintro (h | ⟨a, h⟩)
      · exact .inl (.inl h)
      · rcases List.mem_cons.1 h with h | h
        · exact .inl (.inr (by rw [← h]))
        · exact .inr ⟨a, h⟩
theorem stN_testBit {P : List (Nat × Nat)} {k : Nat} : (stN P).testBit k = true ↔ ∃ a, (k, a) ∈ P := by
  rw [stN, foldS_testBit]; simp

def ForcedP (D : AutoD) (t : Nat) (P : List (Nat × Nat)) : Prop := ∀ p ∈ P, p.1 < D.ends.length ∧ p.2 < 4 ∧ badP D t p.1 p.2 (liveF (wkD D t))
theorem ForcedP.sub {D : AutoD} {t : Nat} {P : List (Nat × Nat)} (ht : t ≤ 15) (h : ForcedP D t P) : Sub (stN P) (liveF (wkD D t)) := by
  intro k hk
  obtain ⟨a, ha⟩ := stN_testBit.1 hk
  obtain ⟨h1, h2, h3⟩ := h _ ha
  exact liveF_closed (wkD D t) k (by rw [wkD_len]; exact h1) (bad_live ht h1 h2 h3)
theorem ForcedP.add {D : AutoD} {t s a : Nat} {P : List (Nat × Nat)} (ht : t ≤ 15) (h : ForcedP D t P) (hs : s < D.ends.length) (ha : a < 4) (hb : badP D t s a (stN P)) : ForcedP D t (P ++ [(s, a)]) := by
  intro p hp
  rcases List.mem_append.1 hp with hp | hp
  · exact h p hp
  · simp only [List.mem_cons, List.not_mem_nil, or_false] at hp
    subst hp
    exact ⟨hs, ha, badP_mono (h.sub ht) hb⟩
def ClosedP (D : AutoD) (t : Nat) (P : List (Nat × Nat)) : Prop := ∀ s, s < D.ends.length → ∀ a, a < 4 → badP D t s a (stN P) → (s, a) ∈ P
end Go.Proofs.Ytehdfifncbokeaa

namespace Go.Proofs.Ytehdfifncbokeaa
set_option linter.unusedSimpArgs false
set_option linter.unusedVariables false
set_option maxRecDepth 8000
set_option maxHeartbeats 2000000

structure Rnd (D : AutoD) (t : Nat) (P0 P : List (Nat × Nat)) (ch : Bool) (s a : Nat) : Prop where
  f : ForcedP D t P
  nd : P.Nodup
  le : P0.length ≤ P.length
  grow : ch = true → P0.length < P.length
  same : ch = false → P = P0 ∧ (∀ s', s' < s → ∀ a', a' < 4 → badP D t s' a' (stN P) → (s', a') ∈ P) ∧ ∀ a', a' < a → badP D t s a' (stN P) → (s, a') ∈ P

theorem Rnd.skip {D : AutoD} {t : Nat} {P0 P : List (Nat × Nat)} {ch : Bool} {s a : Nat} (h : Rnd D t P0 P ch s a) (hs : badP D t s a (stN P) → (s, a) ∈ P) : Rnd D t P0 P ch s (a + 1) :=
  ⟨h.f, h.nd, h.le, h.grow, fun hc => by
    obtain ⟨h1, h2, h3⟩ := h.same hc
    refine ⟨h1, h2, fun a' ha' => ?_⟩
    by_cases e : a' = a
    · subst e; exact hs
    · exact h3 a' (by omega)⟩
theorem Rnd.add {D : AutoD} {t : Nat} {P0 P : List (Nat × Nat)} {ch : Bool} {s a : Nat} (h : Rnd D t P0 P ch s a) (ht : t ≤ 15) (hs : s < D.ends.length) (ha : a < 4) (hb : badP D t s a (stN P)) (hn : (s, a) ∉ P) (a' : Nat) : Rnd D t P0 (P ++ [(s, a)]) true s a' :=
  ⟨h.f.add ht hs ha hb, by
    rw [List.nodup_append]
    refine ⟨h.nd, by simp, fun x hx y hy => ?_⟩
    simp only [List.mem_cons, List.not_mem_nil, or_false] at hy
    subst hy
    exact fun e => hn (e ▸ hx), by have := h.le; simp; omega, fun _ => by have := h.le; simp; omega, fun h => (by cases h)⟩
theorem Rnd.next {D : AutoD} {t : Nat} {P0 P : List (Nat × Nat)} {ch : Bool} {s : Nat} (h : Rnd D t P0 P ch s 4) : Rnd D t P0 P ch (s + 1) 0 :=
  ⟨h.f, h.nd, h.le, h.grow, fun hc => by
    obtain ⟨h1, h2, h3⟩ := h.same hc
    refine ⟨h1, fun s' hs' => ?_, fun _ h => absurd h (Nat.not_lt_zero _)⟩
    by_cases e : s' = s
    · subst e; exact h3
    · exact h2 s' (by omega)⟩
theorem Rnd.closed {D : AutoD} {t : Nat} {P0 P : List (Nat × Nat)} {a : Nat} (h : Rnd D t P0 P false D.ends.length a) : ClosedP D t P := (h.same rfl).2.1

end Go.Proofs.Ytehdfifncbokeaa
