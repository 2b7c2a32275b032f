/- Plain facts on automata as data: which states are reached, which live, which traces are run. No program in sight. -/
import Derived.Test.YtoaelngalnojiaaAutoP
namespace Go.Proofs.Ytoaelngalnojiaa
open Go.RowKit

/-! sets below sets -/
def Sub (s t : Nat) : Prop := ∀ k, s.testBit k = true → t.testBit k = true
theorem Sub.refl (s : Nat) : Sub s s := fun _ h => h
theorem Sub.trans {a b c : Nat} (h : Sub a b) (k : Sub b c) : Sub a c := fun i hi => k i (h i hi)
theorem Sub.or_left (a b : Nat) : Sub a (a ||| b) := fun k h => by simp [Nat.testBit_or, h]
theorem Sub.or_right (a b : Nat) : Sub b (a ||| b) := fun k h => by simp [Nat.testBit_or, h]
theorem Sub.or {a b c : Nat} (h : Sub a c) (k : Sub b c) : Sub (a ||| b) c := fun i hi => by
  rw [Nat.testBit_or, Bool.or_eq_true] at hi
  rcases hi with hi | hi
  · exact h i hi
  · exact k i hi
theorem Sub.antisymm {a b : Nat} (h : Sub a b) (k : Sub b a) : a = b := Nat.eq_of_testBit_eq fun i => by
  cases ha : a.testBit i <;> cases hb : b.testBit i <;> first | rfl | (have := h i ha; rw [hb] at this; cases this) | (have := k i hb; rw [ha] at this; cases this)
theorem Sub.or_eq {a b : Nat} (h : Sub a b) : a ||| b = b := (Sub.or h (Sub.refl b)).antisymm (Sub.or_right a b)
theorem Sub.le {a b : Nat} (h : Sub a b) : a ≤ b := by
  have h1 := h.or_eq
  have h2 : a ≤ a ||| b := Nat.left_le_or
  omega

/-- How many of the first k. -/
def cnt (s : Nat) : Nat → Nat
  | 0 => 0
  | k + 1 => cnt s k + bitN s k
theorem cnt_le (s : Nat) : ∀ k, cnt s k ≤ k
  | 0 => by simp [cnt]
  | k + 1 => by have := cnt_le s k; have := bitN_le s k; simp only [cnt]; omega
theorem bitN_mono {s t : Nat} (h : Sub s t) (k : Nat) : bitN s k ≤ bitN t k := by
  cases hs : s.testBit k
  · rw [bitN_f hs]; omega
  · rw [bitN_t hs, bitN_t (h k hs)]; omega
theorem cnt_mono {s t : Nat} (h : Sub s t) : ∀ k, cnt s k ≤ cnt t k
  | 0 => by simp [cnt]
  | k + 1 => by have := cnt_mono h k; have := bitN_mono h k; simp only [cnt]; omega
theorem cnt_lt {s t : Nat} (h : Sub s t) {i : Nat} (hs : s.testBit i = false) (ht : t.testBit i = true) : ∀ k, i < k → cnt s k < cnt t k
  | 0, hk => absurd hk (by omega)
  | k + 1, hk => by
    have h1 := bitN_mono h k
    simp only [cnt]
    by_cases e : i = k
    · subst e
      have := cnt_mono h i
      rw [bitN_f hs, bitN_t ht]; omega
    · have := cnt_lt h hs ht k (by omega); omega

/-! what is reached -/
def rT (D : AutoD) (set : Nat) : Nat → Nat
  | 0 => set
  | m + 1 => rT D set m ||| behF D set m
theorem rT_sub (D : AutoD) (set : Nat) : ∀ m, Sub set (rT D set m)
  | 0 => Sub.refl _
  | m + 1 => (rT_sub D set m).trans (Sub.or_left _ _)
theorem rT_lt {D : AutoD} (h : AutoOK D) {set : Nat} (hs : set < 2 ^ D.ends.length) : ∀ m, m ≤ 12 → rT D set m < 2 ^ D.ends.length
  | 0, _ => hs
  | m + 1, hm => Nat.or_lt_two_pow (rT_lt h hs m (by omega)) (h.behF_lt set (by omega))
theorem rT_has (D : AutoD) (set : Nat) {i : Nat} : ∀ m, i < m → Sub (behF D set i) (rT D set m)
  | 0, h => absurd h (by omega)
  | m + 1, h => by
    by_cases e : i = m
    · subst e; exact Sub.or_right _ _
    · exact (rT_has D set m (by omega)).trans (Sub.or_left _ _)
def rIter (D : AutoD) : Nat → Nat → Nat
  | 0, s => s
  | f + 1, s => if rT D s 12 = s then s else rIter D f (rT D s 12)
def reachF (D : AutoD) : Nat := rIter D 1024 1
theorem rIter_closed {D : AutoD} (h : AutoOK D) : ∀ f s, s < 2 ^ D.ends.length → 1024 ≤ f + s → rT D (rIter D f s) 12 = rIter D f s ∧ rIter D f s < 2 ^ D.ends.length ∧ Sub s (rIter D f s)
  | 0, s, hs, hf => absurd hs (by have := h.pow_le; omega)
  | f + 1, s, hs, hf => by
    unfold rIter
    by_cases e : rT D s 12 = s
    · rw [if_pos e]; exact ⟨e, hs, Sub.refl _⟩
    · rw [if_neg e]
      have h1 := (rT_sub D s 12).le
      have h2 := rIter_closed h f (rT D s 12) (rT_lt h hs 12 (Nat.le_refl _)) (by omega)
      exact ⟨h2.1, h2.2.1, (rT_sub D s 12).trans h2.2.2⟩
theorem two_le {D : AutoD} (h : AutoOK D) : 1 < 2 ^ D.ends.length := Nat.one_lt_two_pow (by have := h.lo; omega)
theorem reachF_closed {D : AutoD} (h : AutoOK D) : rT D (reachF D) 12 = reachF D := (rIter_closed h 1024 1 (two_le h) (by omega)).1
theorem reachF_lt {D : AutoD} (h : AutoOK D) : reachF D < 2 ^ D.ends.length := (rIter_closed h 1024 1 (two_le h) (by omega)).2.1
theorem reachF_one {D : AutoD} (h : AutoOK D) : Sub 1 (reachF D) := (rIter_closed h 1024 1 (two_le h) (by omega)).2.2

/-! what lives -/
def anyM (D : AutoD) (k s : Nat) : Nat → Bool
  | 0 => false
  | m + 1 => anyM D k s m || decide (0 < nextN D k m &&& s)
theorem anyM_iff (D : AutoD) (k s : Nat) : ∀ m, anyM D k s m = true ↔ ∃ i, i < m ∧ 0 < nextN D k i &&& s
  | 0 => by simp [anyM]
  | m + 1 => by
    rw [anyM, Bool.or_eq_true, anyM_iff D k s m, decide_eq_true_eq]
    constructor
    · rintro (⟨i, hi, h⟩ | h)
      · exact ⟨i, by omega, h⟩
      · exact ⟨m, by omega, h⟩
    · rintro ⟨i, hi, h⟩
      by_cases e : i = m
      · subst e; exact .inr h
      · exact .inl ⟨i, by omega, h⟩
/-- State k may end somewhere, or something behind it is in s. -/
def liveC (D : AutoD) (k s : Nat) : Bool := decide (0 < endsN D k) || anyM D k s 12
theorem and_pos {a b : Nat} : 0 < a &&& b ↔ ∃ j, a.testBit j = true ∧ b.testBit j = true := by
  constructor
  · intro h
    obtain ⟨j, hj⟩ := Nat.exists_testBit_of_ne_zero (x := a &&& b) (by omega)
    rw [Nat.testBit_and, Bool.and_eq_true] at hj
    exact ⟨j, hj⟩
  · rintro ⟨j, h1, h2⟩
    rcases Nat.eq_zero_or_pos (a &&& b) with h0 | h0
    · have : (a &&& b).testBit j = true := by rw [Nat.testBit_and, h1, h2]; rfl
      rw [h0, Nat.zero_testBit] at this
      cases this
    · exact h0
theorem liveC_mono {D : AutoD} {k s t : Nat} (h : Sub s t) (hc : liveC D k s = true) : liveC D k t = true := by
  unfold liveC at hc ⊢
  rw [Bool.or_eq_true] at hc ⊢
  refine hc.imp id fun hc => ?_
  rw [anyM_iff] at hc ⊢
  obtain ⟨i, hi, hp⟩ := hc
  obtain ⟨j, h1, h2⟩ := and_pos.1 hp
  exact ⟨i, hi, and_pos.2 ⟨j, h1, h j h2⟩⟩
def lvT (D : AutoD) (set : Nat) : Nat → Nat
  | 0 => set
  | k + 1 => if liveC D k (lvT D set k) then lvT D set k ||| 2 ^ k else lvT D set k
def lvI (D : AutoD) : Nat → Nat
  | 0 => 0
  | j + 1 => lvT D (lvI D j) D.ends.length
def liveF (D : AutoD) : Nat := lvI D (D.ends.length + 1)
theorem lvT_sub1 (D : AutoD) (set k : Nat) : Sub (lvT D set k) (lvT D set (k + 1)) := by
  show Sub _ (if liveC D k (lvT D set k) then lvT D set k ||| 2 ^ k else lvT D set k)
  split
  · exact Sub.or_left _ _
  · exact Sub.refl _
theorem lvT_sub (D : AutoD) (set : Nat) (i : Nat) : ∀ k, i ≤ k → Sub (lvT D set i) (lvT D set k)
  | 0, h => by obtain rfl : i = 0 := by omega
               exact Sub.refl _
  | k + 1, h => by
    by_cases e : i = k + 1
    · subst e; exact Sub.refl _
    · exact (lvT_sub D set i k (by omega)).trans (lvT_sub1 D set k)
theorem lvT_lt (D : AutoD) {set n : Nat} (hs : set < 2 ^ n) : ∀ k, k ≤ n → lvT D set k < 2 ^ n
  | 0, _ => hs
  | k + 1, hk => by
    show (if liveC D k (lvT D set k) then lvT D set k ||| 2 ^ k else lvT D set k) < _
    split
    · exact Nat.or_lt_two_pow (lvT_lt D hs k (by omega)) (Nat.pow_lt_pow_right (by omega) (by omega))
    · exact lvT_lt D hs k (by omega)
theorem lvI_lt (D : AutoD) : ∀ j, lvI D j < 2 ^ D.ends.length
  | 0 => Nat.two_pow_pos _
  | j + 1 => lvT_lt D (lvI_lt D j) _ (Nat.le_refl _)
def ClosedL (D : AutoD) (s : Nat) : Prop := ∀ k, k < D.ends.length → liveC D k s = true → s.testBit k = true
theorem closed_of_eq {D : AutoD} {s : Nat} (h : lvT D s D.ends.length = s) : ClosedL D s := fun k hk hc => by
  have h1 : lvT D s k = s := ((lvT_sub D s k D.ends.length (by omega)).trans (by rw [h]; exact Sub.refl _)).antisymm (lvT_sub D s 0 k (by omega))
  have h2 := lvT_sub D s (k + 1) D.ends.length (by omega)
  rw [h] at h2
  apply h2
  show (if liveC D k (lvT D s k) then lvT D s k ||| 2 ^ k else lvT D s k).testBit k = true
  rw [h1, if_pos hc, Nat.testBit_or, Nat.testBit_two_pow_self, Bool.or_true]
theorem eq_of_closed {D : AutoD} {s : Nat} (h : ClosedL D s) : ∀ k, k ≤ D.ends.length → lvT D s k = s
  | 0, _ => rfl
  | k + 1, hk => by
    show (if liveC D k (lvT D s k) then lvT D s k ||| 2 ^ k else lvT D s k) = s
    rw [eq_of_closed h k (by omega)]
    split
    · rename_i hc
      have := h k (by omega) hc
      refine (Sub.or (Sub.refl s) fun i hi => ?_).antisymm (Sub.or_left _ _)
      rw [Nat.testBit_two_pow, decide_eq_true_eq] at hi
      subst hi; exact this
    · rfl
theorem lvI_count (D : AutoD) : ∀ j, ClosedL D (lvI D j) ∨ j ≤ cnt (lvI D j) D.ends.length
  | 0 => .inr (by omega)
  | j + 1 => by
    rcases lvI_count D j with h | h
    · left
      show ClosedL D (lvT D (lvI D j) D.ends.length)
      rw [eq_of_closed h _ (Nat.le_refl _)]; exact h
    · by_cases e : lvT D (lvI D j) D.ends.length = lvI D j
      · left
        show ClosedL D (lvT D (lvI D j) D.ends.length)
        rw [e]; exact closed_of_eq e
      · right
        have hs : Sub (lvI D j) (lvT D (lvI D j) D.ends.length) := lvT_sub D (lvI D j) 0 D.ends.length (by omega)
        have : ∃ i, (lvI D j).testBit i = false ∧ (lvT D (lvI D j) D.ends.length).testBit i = true := by
          refine Classical.byContradiction fun hno => e ?_
          refine Sub.antisymm (fun i hi => ?_) hs
          cases hb : (lvI D j).testBit i
          · exact absurd ⟨i, hb, hi⟩ hno
          · rfl
        obtain ⟨i, h1, h2⟩ := this
        have hi : i < D.ends.length := by
          rcases Nat.lt_or_ge i D.ends.length with h | h
          · exact h
          · have := lt_of_testBit_zero (lvT_lt D (lvI_lt D j) D.ends.length (Nat.le_refl _)) h
            rw [this] at h2; cases h2
        have := cnt_lt hs h1 h2 D.ends.length hi
        show j + 1 ≤ cnt (lvT D (lvI D j) D.ends.length) D.ends.length
        omega
theorem liveF_closed (D : AutoD) : ClosedL D (liveF D) := by
  rcases lvI_count D (D.ends.length + 1) with h | h
  · exact h
  · have := cnt_le (lvI D (D.ends.length + 1)) D.ends.length; omega
theorem liveF_lt (D : AutoD) : liveF D < 2 ^ D.ends.length := lvI_lt D _
/-- What is below every closed set. -/
def Forced (D : AutoD) (s : Nat) : Prop := ∀ t, ClosedL D t → Sub s t
theorem lvT_forced {D : AutoD} {s : Nat} (h : Forced D s) : ∀ k, k ≤ D.ends.length → Forced D (lvT D s k)
  | 0, _ => h
  | k + 1, hk => fun t ht => by
    have ih := lvT_forced h k (by omega) t ht
    show Sub (if liveC D k (lvT D s k) then lvT D s k ||| 2 ^ k else lvT D s k) t
    split
    · rename_i hc
      refine Sub.or ih fun i hi => ?_
      rw [Nat.testBit_two_pow, decide_eq_true_eq] at hi
      subst hi
      exact ht k (by omega) (liveC_mono ih hc)
    · exact ih
theorem forced_zero (D : AutoD) : Forced D 0 := fun _ _ k h => by rw [Nat.zero_testBit] at h; cases h
theorem lvI_forced (D : AutoD) : ∀ j, Forced D (lvI D j)
  | 0 => forced_zero D
  | j + 1 => lvT_forced (lvI_forced D j) _ (Nat.le_refl _)
theorem liveF_forced (D : AutoD) : Forced D (liveF D) := lvI_forced D _
theorem liveF_unique {D : AutoD} {s : Nat} (h : Forced D s) (hc : ClosedL D s) : s = liveF D := (h _ (liveF_closed D)).antisymm (liveF_forced D s hc)

/-- One round of the program: the set of before is asked. -/
def nvT (D : AutoD) (set : Nat) : Nat → Nat
  | 0 => set
  | k + 1 => if liveC D k set then nvT D set k ||| 2 ^ k else nvT D set k
theorem nvT_sub (D : AutoD) (set : Nat) : ∀ k, Sub set (nvT D set k)
  | 0 => Sub.refl _
  | k + 1 => by
    show Sub set (if liveC D k set then nvT D set k ||| 2 ^ k else nvT D set k)
    split
    · exact (nvT_sub D set k).trans (Sub.or_left _ _)
    · exact nvT_sub D set k
theorem nvT_lt (D : AutoD) {set n : Nat} (hs : set < 2 ^ n) : ∀ k, k ≤ n → nvT D set k < 2 ^ n
  | 0, _ => hs
  | k + 1, hk => by
    show (if liveC D k set then nvT D set k ||| 2 ^ k else nvT D set k) < _
    split
    · exact Nat.or_lt_two_pow (nvT_lt D hs k (by omega)) (Nat.pow_lt_pow_right (by omega) (by omega))
    · exact nvT_lt D hs k (by omega)
theorem nvT_has (D : AutoD) (set : Nat) {i : Nat} (hc : liveC D i set = true) : ∀ k, i < k → (nvT D set k).testBit i = true
  | 0, h => absurd h (by omega)
  | k + 1, h => by
    show (if liveC D k set then nvT D set k ||| 2 ^ k else nvT D set k).testBit i = true
    by_cases e : i = k
    · subst e; rw [if_pos hc, Nat.testBit_or, Nat.testBit_two_pow_self, Bool.or_true]
    · have := nvT_has D set hc k (by omega)
      split
      · rw [Nat.testBit_or, this, Bool.true_or]
      · exact this
theorem nvT_forced {D : AutoD} {s : Nat} (h : Forced D s) : ∀ k, k ≤ D.ends.length → Forced D (nvT D s k)
  | 0, _ => h
  | k + 1, hk => fun t ht => by
    have ih := nvT_forced h k (by omega) t ht
    show Sub (if liveC D k s then nvT D s k ||| 2 ^ k else nvT D s k) t
    split
    · rename_i hc
      refine Sub.or ih fun i hi => ?_
      rw [Nat.testBit_two_pow, decide_eq_true_eq] at hi
      subst hi
      exact ht k (by omega) (liveC_mono (h t ht) hc)
    · exact ih
theorem nvT_done {D : AutoD} {s : Nat} (h : Forced D s) (e : nvT D s D.ends.length = s) : s = liveF D :=
  liveF_unique h fun k hk hc => by have := nvT_has D s hc D.ends.length hk; rwa [e] at this

/-! traces -/
structure TraceOK (t : List Int) : Prop where
  odd : t.length % 2 = 1
  len : t.length ≤ 41
  atoms : ∀ k, 2 * k < t.length → 0 ≤ nth t (2 * k) ∧ nth t (2 * k) ≤ 3
  acts : ∀ k, 2 * k + 1 < t.length → 16 ≤ nth t (2 * k + 1) ∧ nth t (2 * k + 1) ≤ 18
open Classical in
noncomputable def traceOKB (t : List Int) : Bool := decide (TraceOK t)
theorem traceOKB_true {t : List Int} : traceOKB t = true ↔ TraceOK t := by simp [traceOKB]
theorem traceOKB_false {t : List Int} : traceOKB t = false ↔ ¬ TraceOK t := by simp [traceOKB]
/-- The first k numbers are as those of a trace. -/
def trTo (t : List Int) (k : Nat) : Prop := ∀ i, i < k → (i % 2 = 0 → 0 ≤ nth t i ∧ nth t i ≤ 3) ∧ (i % 2 = 1 → 16 ≤ nth t i ∧ nth t i ≤ 18)
theorem trTo_zero (t : List Int) : trTo t 0 := fun _ h => absurd h (by omega)
theorem trTo_succ {t : List Int} {k : Nat} (h : trTo t k) (h1 : (k % 2 = 0 → 0 ≤ nth t k ∧ nth t k ≤ 3) ∧ (k % 2 = 1 → 16 ≤ nth t k ∧ nth t k ≤ 18)) : trTo t (k + 1) := fun i hi => by
  by_cases e : i = k
  · subst e; exact h1
  · exact h i (by omega)
theorem TraceOK.of {t : List Int} (h1 : t.length % 2 = 1) (h2 : t.length ≤ 41) (h : trTo t t.length) : TraceOK t :=
  ⟨h1, h2, fun k hk => (h _ hk).1 (by omega), fun k hk => (h _ hk).2 (by omega)⟩
theorem TraceOK.to {t : List Int} (h : TraceOK t) : trTo t t.length := fun i hi =>
  ⟨fun e => by have := h.atoms (i / 2); rw [show 2 * (i / 2) = i by omega] at this; exact this hi, fun e => by have := h.acts (i / 2); rw [show 2 * (i / 2) + 1 = i by omega] at this; exact this hi⟩

def mvN (t : List Int) (j : Nat) : Nat := (3 * nth t (2 * j) + nth t (2 * j + 1) - 16).toNat
theorem TraceOK.mv {t : List Int} (h : TraceOK t) {j : Nat} (hj : 2 * j + 1 < t.length) : 3 * nth t (2 * j) + nth t (2 * j + 1) - 16 = (mvN t j : Int) ∧ mvN t j < 12 := by
  have h1 := h.atoms j (by omega)
  have h2 := h.acts j hj
  unfold mvN; omega
def runT (D : AutoD) (t : List Int) : Nat → Nat
  | 0 => 1
  | j + 1 => behF D (runT D t j) (mvN t j)
def runF (D : AutoD) (t : List Int) : Bool := (endF D (runT D t (t.length / 2))).testBit (nth t (t.length - 1)).toNat
theorem runT_lt {D : AutoD} (h : AutoOK D) {t : List Int} (ht : TraceOK t) : ∀ j, 2 * j < t.length → runT D t j < 2 ^ D.ends.length
  | 0, _ => two_le h
  | j + 1, hj => h.behF_lt _ (ht.mv (by omega)).2
open Classical in
noncomputable def runB (D : AutoD) (t : List Int) : Bool := if AutoOK D ∧ TraceOK t then runF D t else false

end Go.Proofs.Ytoaelngalnojiaa
