/- Plain facts on a trimmed automaton. No program in sight. -/
import Derived.Test.YtboandkjhdaobaaGrpC
namespace Go.Proofs.Ytboandkjhdaobaa
set_option linter.unusedSimpArgs false
set_option linter.unusedVariables false
set_option maxRecDepth 8000
set_option maxHeartbeats 2000000

def ktL (keep k : Nat) : List Nat := (List.range k).filter fun s => keep.testBit s
noncomputable def keepOf (D : AutoD) : Nat := 1 ||| (reachF D &&& liveF D)
end Go.Proofs.Ytboandkjhdaobaa

namespace Go.Proofs.Ytboandkjhdaobaa
set_option linter.unusedSimpArgs false
set_option linter.unusedVariables false
set_option maxRecDepth 8000
set_option maxHeartbeats 2000000

theorem AutoOK.short {D : AutoD} (h : AutoOK D) : ¬ AutoOK ⟨D.ends.drop 1, D.next⟩ := fun h2 => by
  have h3 := h2.len
  have h4 := h.len
  have h5 := h.lo
  simp only [List.length_drop] at h3
  omega
end Go.Proofs.Ytboandkjhdaobaa

namespace Go.Proofs.Ytboandkjhdaobaa
set_option linter.unusedSimpArgs false
set_option linter.unusedVariables false
set_option maxRecDepth 8000
set_option maxHeartbeats 2000000

section
variable {X Y : AutoD}

end

end Go.Proofs.Ytboandkjhdaobaa

namespace Go.Proofs.Ytboandkjhdaobaa
set_option linter.unusedSimpArgs false
set_option linter.unusedVariables false
set_option maxRecDepth 8000
set_option maxHeartbeats 2000000

structure IsSum (D X Y : AutoD) : Prop where
  len : D.ends.length = 1 + X.ends.length + Y.ends.length
  e0 : endsN D 0 = endsN X 0 ||| endsN Y 0
  eX : ∀ i, i < X.ends.length → endsN D (1 + i) = endsN X i
  eY : ∀ j, j < Y.ends.length → endsN D (1 + X.ends.length + j) = endsN Y j
  n0 : ∀ m, m < 12 → nextN D 0 m = nextN X 0 m * 2 ^ 1 ||| nextN Y 0 m * 2 ^ (1 + X.ends.length)
  nX : ∀ i, i < X.ends.length → ∀ m, m < 12 → nextN D (1 + i) m = nextN X i m * 2 ^ 1
  nY : ∀ j, j < Y.ends.length → ∀ m, m < 12 → nextN D (1 + X.ends.length + j) m = nextN Y j m * 2 ^ (1 + X.ends.length)

theorem shl_bit (a s k : Nat) : (a * 2 ^ s).testBit k = (decide (s ≤ k) && a.testBit (k - s)) := by rw [Nat.mul_comm, Nat.testBit_two_pow_mul]

section
variable {D X Y : AutoD}

structure SumS (X Y : AutoD) (S A B : Nat) : Prop where
  z : S.testBit 0 = false
  x : ∀ i, i < X.ends.length → S.testBit (1 + i) = A.testBit i
  y : ∀ j, j < Y.ends.length → S.testBit (1 + X.ends.length + j) = B.testBit j

theorem hi_false {a n k : Nat} (h : a < 2 ^ n) (hk : n ≤ k) : a.testBit k = false := Nat.testBit_lt_two_pow (Nat.lt_of_lt_of_le h (Nat.pow_le_pow_right (by omega) hk))

theorem state_cases (h : IsSum D X Y) {k : Nat} (hk : k < D.ends.length) : k = 0 ∨ (∃ i, i < X.ends.length ∧ k = 1 + i) ∨ ∃ j, j < Y.ends.length ∧ k = 1 + X.ends.length + j := by
  have := h.len
  by_cases h0 : k = 0
  · exact .inl h0
  · by_cases h1 : k < 1 + X.ends.length
    · exact .inr (.inl ⟨k - 1, by omega, by omega⟩)
    · exact .inr (.inr ⟨k - (1 + X.ends.length), by omega, by omega⟩)

theorem behF_bit (D : AutoD) (S m k : Nat) : (behF D S m).testBit k = true ↔ ∃ i, i < D.ends.length ∧ S.testBit i = true ∧ (nextN D i m).testBit k = true := behT_testBit D S m k _
theorem endF_bit (D : AutoD) (S k : Nat) : (endF D S).testBit k = true ↔ ∃ i, i < D.ends.length ∧ S.testBit i = true ∧ (endsN D i).testBit k = true := endT_testBit D S k _

theorem one_bit (i : Nat) : (1 : Nat).testBit i = true ↔ i = 0 := by
  cases i with
  | zero => simp
  | succ j => simp [Nat.testBit_succ]

theorem sum_step (h : IsSum D X Y) (hx : AutoOK X) (hy : AutoOK Y) {S A B m : Nat} (hm : m < 12) (hS : SumS X Y S A B ∨ (S = 1 ∧ A = 1 ∧ B = 1)) : SumS X Y (behF D S m) (behF X A m) (behF Y B m) := by
  have hlen := h.len
  have hx0 : 0 < X.ends.length := hx.lo
  have hy0 : 0 < Y.ends.length := hy.lo
  refine ⟨?_, fun i hi => ?_, fun j hj => ?_⟩
  · rw [Bool.eq_false_iff]
    intro hb
    obtain ⟨k, hk, _, h2⟩ := (behF_bit D S m 0).1 hb
    rcases state_cases h hk with rfl | ⟨i, hi, rfl⟩ | ⟨j, hj, rfl⟩
    · rw [h.n0 m hm, Nat.testBit_or, shl_bit, shl_bit] at h2; simp at h2
    · rw [h.nX i hi m hm, shl_bit] at h2; simp at h2
    · rw [h.nY j hj m hm, shl_bit] at h2; simp at h2
  · rw [Bool.eq_iff_iff, behF_bit, behF_bit]
    constructor
    · rintro ⟨k, hk, h1, h2⟩
      rcases state_cases h hk with rfl | ⟨i', hi', rfl⟩ | ⟨j', hj', rfl⟩
      · rcases hS with hS | ⟨rfl, rfl, rfl⟩
        · rw [hS.z] at h1; cases h1
        · rw [h.n0 m hm, Nat.testBit_or, shl_bit, shl_bit] at h2
          have e1 : decide (1 + X.ends.length ≤ 1 + i) = false := by rw [decide_eq_false_iff_not]; omega
          rw [e1, Bool.false_and, Bool.or_false, Bool.and_eq_true] at h2
          exact ⟨0, hx0, by decide, by simpa using h2.2⟩
      · rw [h.nX i' hi' m hm, shl_bit, Bool.and_eq_true] at h2
        rcases hS with hS | ⟨rfl, rfl, rfl⟩
        · rw [hS.x i' hi'] at h1
          exact ⟨i', hi', h1, by simpa using h2.2⟩
        · have := (one_bit _).1 h1; omega
      · rw [h.nY j' hj' m hm, shl_bit, Bool.and_eq_true, decide_eq_true_eq] at h2
        have := h2.1; omega
    · rintro ⟨k, hk, h1, h2⟩
      rcases hS with hS | ⟨rfl, rfl, rfl⟩
      · refine ⟨1 + k, by omega, by rw [hS.x k hk]; exact h1, ?_⟩
        rw [h.nX k hk m hm, shl_bit, Bool.and_eq_true, decide_eq_true_eq]
        exact ⟨by omega, by simpa using h2⟩
      · have hk0 := (one_bit _).1 h1
        subst hk0
        refine ⟨0, by omega, by decide, ?_⟩
        rw [h.n0 m hm, Nat.testBit_or, Bool.or_eq_true, shl_bit, Bool.and_eq_true, decide_eq_true_eq]
        exact .inl ⟨by omega, by simpa using h2⟩
  · rw [Bool.eq_iff_iff, behF_bit, behF_bit]
    constructor
    · rintro ⟨k, hk, h1, h2⟩
      rcases state_cases h hk with rfl | ⟨i', hi', rfl⟩ | ⟨j', hj', rfl⟩
      · rcases hS with hS | ⟨rfl, rfl, rfl⟩
        · rw [hS.z] at h1; cases h1
        · rw [h.n0 m hm, Nat.testBit_or, shl_bit, shl_bit] at h2
          have e1 : (nextN X 0 m).testBit (1 + X.ends.length + j - 1) = false := hi_false (hx.nextN_lt hx0 hm) (by omega)
          rw [e1, Bool.and_false, Bool.false_or, Bool.and_eq_true] at h2
          exact ⟨0, hy0, by decide, by simpa using h2.2⟩
      · rw [h.nX i' hi' m hm, shl_bit] at h2
        have e1 : (nextN X i' m).testBit (1 + X.ends.length + j - 1) = false := hi_false (hx.nextN_lt hi' hm) (by omega)
        rw [e1, Bool.and_false] at h2; cases h2
      · rw [h.nY j' hj' m hm, shl_bit, Bool.and_eq_true] at h2
        rcases hS with hS | ⟨rfl, rfl, rfl⟩
        · rw [hS.y j' hj'] at h1
          exact ⟨j', hj', h1, by simpa using h2.2⟩
        · have := (one_bit _).1 h1; omega
    · rintro ⟨k, hk, h1, h2⟩
      rcases hS with hS | ⟨rfl, rfl, rfl⟩
      · refine ⟨1 + X.ends.length + k, by omega, by rw [hS.y k hk]; exact h1, ?_⟩
        rw [h.nY k hk m hm, shl_bit, Bool.and_eq_true, decide_eq_true_eq]
        exact ⟨by omega, by simpa using h2⟩
      · have hk0 := (one_bit _).1 h1
        subst hk0
        refine ⟨0, by omega, by decide, ?_⟩
        rw [h.n0 m hm, Nat.testBit_or, Bool.or_eq_true, shl_bit, shl_bit, Bool.and_eq_true, Bool.and_eq_true, decide_eq_true_eq, decide_eq_true_eq]
        exact .inr ⟨by omega, by simpa using h2⟩

theorem sum_end (h : IsSum D X Y) (hx : AutoOK X) (hy : AutoOK Y) {S A B k : Nat} (hS : SumS X Y S A B ∨ (S = 1 ∧ A = 1 ∧ B = 1)) : (endF D S).testBit k = ((endF X A).testBit k || (endF Y B).testBit k) := by
  have hlen := h.len
  have hx0 : 0 < X.ends.length := hx.lo
  have hy0 : 0 < Y.ends.length := hy.lo
  rw [Bool.eq_iff_iff, Bool.or_eq_true, endF_bit, endF_bit, endF_bit]
  constructor
  · rintro ⟨i, hi, h1, h2⟩
    rcases state_cases h hi with rfl | ⟨i', hi', rfl⟩ | ⟨j', hj', rfl⟩
    · rcases hS with hS | ⟨rfl, rfl, rfl⟩
      · rw [hS.z] at h1; cases h1
      · rw [h.e0, Nat.testBit_or, Bool.or_eq_true] at h2
        rcases h2 with h2 | h2
        · exact .inl ⟨0, hx0, by decide, h2⟩
        · exact .inr ⟨0, hy0, by decide, h2⟩
    · rw [h.eX i' hi'] at h2
      rcases hS with hS | ⟨rfl, rfl, rfl⟩
      · rw [hS.x i' hi'] at h1; exact .inl ⟨i', hi', h1, h2⟩
      · have := (one_bit _).1 h1; omega
    · rw [h.eY j' hj'] at h2
      rcases hS with hS | ⟨rfl, rfl, rfl⟩
      · rw [hS.y j' hj'] at h1; exact .inr ⟨j', hj', h1, h2⟩
      · have := (one_bit _).1 h1; omega
  · rintro (⟨i, hi, h1, h2⟩ | ⟨j, hj, h1, h2⟩)
    · rcases hS with hS | ⟨rfl, rfl, rfl⟩
      · exact ⟨1 + i, by omega, by rw [hS.x i hi]; exact h1, by rw [h.eX i hi]; exact h2⟩
      · have hk0 := (one_bit _).1 h1
        subst hk0
        exact ⟨0, by omega, by decide, by rw [h.e0, Nat.testBit_or, h2]; rfl⟩
    · rcases hS with hS | ⟨rfl, rfl, rfl⟩
      · exact ⟨1 + X.ends.length + j, by omega, by rw [hS.y j hj]; exact h1, by rw [h.eY j hj]; exact h2⟩
      · have hk0 := (one_bit _).1 h1
        subst hk0
        exact ⟨0, by omega, by decide, by rw [h.e0, Nat.testBit_or, h2, Bool.or_true]⟩

theorem sum_run (h : IsSum D X Y) (hx : AutoOK X) (hy : AutoOK Y) {t : List Int} (ht : TraceOK t) : ∀ j, 2 * j < t.length → (SumS X Y (runT D t j) (runT X t j) (runT Y t j) ∨ (runT D t j = 1 ∧ runT X t j = 1 ∧ runT Y t j = 1))
  | 0, _ => .inr ⟨rfl, rfl, rfl⟩
  | j + 1, hj => .inl (sum_step h hx hy (ht.mv (by omega)).2 (sum_run h hx hy ht j (by omega)))

theorem sum_runF (h : IsSum D X Y) (hx : AutoOK X) (hy : AutoOK Y) {t : List Int} (ht : TraceOK t) (hl : 2 * (t.length / 2) < t.length) : runF D t = (runF X t || runF Y t) :=
  sum_end h hx hy (sum_run h hx hy ht _ hl)
end

end Go.Proofs.Ytboandkjhdaobaa

namespace Go.Proofs.Ytboandkjhdaobaa
set_option linter.unusedSimpArgs false
set_option linter.unusedVariables false
set_option maxRecDepth 8000
set_option maxHeartbeats 2000000

section
variable {D : AutoD}

noncomputable def keptL (D : AutoD) : List Nat := ktL (keepOf D) D.ends.length
noncomputable def kp (D : AutoD) (i : Nat) : Nat := (keptL D).getD i 0
structure TrimS (D : AutoD) (T S : Nat) : Prop where
  sub : ∀ i, i < (keptL D).length → T.testBit i = true → S.testBit (kp D i) = true
  sup : ∀ i, i < (keptL D).length → (liveF D).testBit (kp D i) = true → S.testBit (kp D i) = true → T.testBit i = true
  reach : Sub S (reachF D)

end

end Go.Proofs.Ytboandkjhdaobaa

namespace Go.Proofs.Ytboandkjhdaobaa
set_option linter.unusedSimpArgs false
set_option linter.unusedVariables false
set_option maxRecDepth 8000
set_option maxHeartbeats 2000000

def wkD (D : AutoD) (t : Nat) : AutoD := ⟨D.ends.map fun x => ((x.toNat &&& (15 - t) : Nat) : Int), D.next⟩
theorem wkD_ends {D : AutoD} {t k : Nat} (h : k < D.ends.length) : endsN (wkD D t) k = endsN D k &&& (15 - t) := by
  simp [endsN, wkD, nth, List.getD, h]
theorem wkD_len (D : AutoD) (t : Nat) : (wkD D t).ends.length = D.ends.length := by simp [wkD]
theorem not_testBit {t : Nat} (ht : t ≤ 15) (i : Nat) : (15 - t).testBit i = (decide (i < 4) && !t.testBit i) := by
  have : 15 - t = 2 ^ 4 - (t + 1) := by omega
  rw [this]
  exact Nat.testBit_two_pow_sub_succ (by omega) i

def badP (D : AutoD) (t s a S : Nat) : Prop := ((endsN D s).testBit a = true ∧ ¬ t.testBit a = true) ∨ ∃ c, c < 3 ∧ 0 < nextN D s (3 * a + c) &&& S
theorem badP_mono {D : AutoD} {t s a S S' : Nat} (h : Sub S S') (hb : badP D t s a S) : badP D t s a S' := by
  refine hb.imp id ?_
  rintro ⟨c, hc, hp⟩
  obtain ⟨j, h1, h2⟩ := and_pos.1 hp
  exact ⟨c, hc, and_pos.2 ⟨j, h1, h j h2⟩⟩
theorem bad_live {D : AutoD} {t s a S : Nat} (ht : t ≤ 15) (hs : s < D.ends.length) (ha : a < 4) (h : badP D t s a S) : liveC (wkD D t) s S = true := by
  unfold liveC
  rw [Bool.or_eq_true]
  rcases h with ⟨h1, h2⟩ | ⟨c, hc, h⟩
  · left
    rw [decide_eq_true_eq, wkD_ends hs]
    refine and_pos.2 ⟨a, h1, ?_⟩
    rw [not_testBit ht]
    simp [ha]
    simpa using h2
  · right
    rw [anyM_iff]
    exact ⟨3 * a + c, by omega, h⟩
def stN (P : List (Nat × Nat)) : Nat := P.foldl (fun acc p => acc ||| 2 ^ p.1) 0
theorem foldS_testBit (k : Nat) : ∀ (P : List (Nat × Nat)) (acc : Nat), (P.foldl (fun acc p => acc ||| 2 ^ p.1) acc).testBit k = true ↔ acc.testBit k = true ∨ ∃ a, (k, a) ∈ P
  | [], acc => by simp
  | p :: P, acc => by
    rw [List.foldl_cons, foldS_testBit k P, Nat.testBit_or, Bool.or_eq_true, Nat.testBit_two_pow, decide_eq_true_eq]
    constructor
    · rintro ((h | h) | ⟨a, h⟩)
      · exact .inl h
      · exact .inr ⟨p.2, by rw [← h]; simp⟩
      · exact .inr ⟨a, by simp [h]⟩
    · rintro (h | ⟨a, h⟩)
      · exact .inl (.inl h)
      · rcases List.mem_cons.1 h with h | h
        · exact .inl (.inr (by rw [← h]))
        · exact .inr ⟨a, h⟩
theorem stN_testBit {P : List (Nat × Nat)} {k : Nat} : (stN P).testBit k = true ↔ ∃ a, (k, a) ∈ P := by
  rw [stN, foldS_testBit]; simp

def ForcedP (D : AutoD) (t : Nat) (P : List (Nat × Nat)) : Prop := ∀ p ∈ P, p.1 < D.ends.length ∧ p.2 < 4 ∧ badP D t p.1 p.2 (liveF (wkD D t))
theorem ForcedP.sub {D : AutoD} {t : Nat} {P : List (Nat × Nat)} (ht : t ≤ 15) (h : ForcedP D t P) : Sub (stN P) (liveF (wkD D t)) := by
  intro k hk
  obtain ⟨a, ha⟩ := stN_testBit.1 hk
  obtain ⟨h1, h2, h3⟩ := h _ ha
  exact liveF_closed (wkD D t) k (by rw [wkD_len]; exact h1) (bad_live ht h1 h2 h3)
theorem ForcedP.add {D : AutoD} {t s a : Nat} {P : List (Nat × Nat)} (ht : t ≤ 15) (h : ForcedP D t P) (hs : s < D.ends.length) (ha : a < 4) (hb : badP D t s a (stN P)) : ForcedP D t (P ++ [(s, a)]) := by
  intro p hp
  rcases List.mem_append.1 hp with hp | hp
  · exact h p hp
  · simp only [List.mem_cons, List.not_mem_nil, or_false] at hp
    subst hp
    exact ⟨hs, ha, badP_mono (h.sub ht) hb⟩
end Go.Proofs.Ytboandkjhdaobaa

namespace Go.Proofs.Ytboandkjhdaobaa
set_option linter.unusedSimpArgs false
set_option linter.unusedVariables false
set_option maxRecDepth 8000
set_option maxHeartbeats 2000000

structure Rnd (D : AutoD) (t : Nat) (P0 P : List (Nat × Nat)) (ch : Bool) (s a : Nat) : Prop where
  f : ForcedP D t P
  nd : P.Nodup
  le : P0.length ≤ P.length
  grow : ch = true → P0.length < P.length
  same : ch = false → P = P0 ∧ (∀ s', s' < s → ∀ a', a' < 4 → badP D t s' a' (stN P) → (s', a') ∈ P) ∧ ∀ a', a' < a → badP D t s a' (stN P) → (s, a') ∈ P

theorem Rnd.skip {D : AutoD} {t : Nat} {P0 P : List (Nat × Nat)} {ch : Bool} {s a : Nat} (h : Rnd D t P0 P ch s a) (hs : badP D t s a (stN P) → (s, a) ∈ P) : Rnd D t P0 P ch s (a + 1) :=
  ⟨h.f, h.nd, h.le, h.grow, fun hc => by
    obtain ⟨h1, h2, h3⟩ := h.same hc
    refine ⟨h1, h2, fun a' ha' => ?_⟩
    by_cases e : a' = a
    · subst e; exact hs
    · exact h3 a' (by omega)⟩
theorem Rnd.add {D : AutoD} {t : Nat} {P0 P : List (Nat × Nat)} {ch : Bool} {s a : Nat} (h : Rnd D t P0 P ch s a) (ht : t ≤ 15) (hs : s < D.ends.length) (ha : a < 4) (hb : badP D t s a (stN P)) (hn : (s, a) ∉ P) (a' : Nat) : Rnd D t P0 (P ++ [(s, a)]) true s a' :=
  ⟨h.f.add ht hs ha hb, by
    rw [List.nodup_append]
    refine ⟨h.nd, by simp, fun x hx y hy => ?_⟩
    simp only [List.mem_cons, List.not_mem_nil, or_false] at hy
    subst hy
    exact fun e => hn (e ▸ hx), by have := h.le; simp; omega, fun _ => by have := h.le; simp; omega, fun h => (by cases h)⟩
theorem Rnd.next {D : AutoD} {t : Nat} {P0 P : List (Nat × Nat)} {ch : Bool} {s : Nat} (h : Rnd D t P0 P ch s 4) : Rnd D t P0 P ch (s + 1) 0 :=
  ⟨h.f, h.nd, h.le, h.grow, fun hc => by
    obtain ⟨h1, h2, h3⟩ := h.same hc
    refine ⟨h1, fun s' hs' => ?_, fun _ h => absurd h (Nat.not_lt_zero _)⟩
    by_cases e : s' = s
    · subst e; exact h3
    · exact h2 s' (by omega)⟩
end Go.Proofs.Ytboandkjhdaobaa
