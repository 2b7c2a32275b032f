/- Plain facts on automata as data: the sets of states behind a set, and where a set may end. No program in sight. -/
import Derived.Test.YtehdfifncbokeaaGrpA
namespace Go.Proofs.Ytehdfifncbokeaa
set_option linter.unusedSimpArgs false
set_option linter.unusedVariables false
set_option maxRecDepth 8000
set_option maxHeartbeats 2000000
open Go.RowKit

def endsN (D : AutoD) (k : Nat) : Nat := (nth D.ends k).toNat
def nextN (D : AutoD) (k m : Nat) : Nat := (nth (nthL D.next k) m).toNat

def behT (D : AutoD) (set m : Nat) : Nat → Nat
  | 0 => 0
  | k + 1 => if set.testBit k then behT D set m k ||| nextN D k m else behT D set m k
def behF (D : AutoD) (set m : Nat) : Nat := behT D set m D.ends.length
def endT (D : AutoD) (set : Nat) : Nat → Nat
  | 0 => 0
  | k + 1 => if set.testBit k then endT D set k ||| endsN D k else endT D set k
def endF (D : AutoD) (set : Nat) : Nat := endT D set D.ends.length

theorem AutoOK.endsN_eq {D : AutoD} (h : AutoOK D) {k : Nat} (hk : k < D.ends.length) : nth D.ends k = (endsN D k : Int) := by
  have := h.ends k hk; unfold endsN; omega
theorem AutoOK.nextN_eq {D : AutoD} (h : AutoOK D) {k m : Nat} (hk : k < D.ends.length) (hm : m < 12) : nth (nthL D.next k) m = (nextN D k m : Int) := by
  have := h.sets k hk m hm; unfold nextN; omega
structure Lk (B : Nat) (w : World) (v0 v1 : Value) (D : AutoD) (b0 o0 c0 b1 o1 c1 : Nat) : Prop where
  ok : AutoOK D
  e0 : v0 = .slice (some ⟨b0, o0, none⟩) D.ends.length c0
  e1 : v1 = .slice (some ⟨b1, o1, none⟩) D.ends.length c1
  l0 : b0 < B
  l1 : b1 < B
  c0 : ∀ k, k < D.ends.length → w.cell? ⟨b0, o0 + k, none⟩ = some (.int .i64 (endsN D k))
  c1 : ∀ k, k < D.ends.length → ∃ br or cr, br < B ∧ w.cell? ⟨b1, o1 + k, none⟩ = some (.slice (some ⟨br, or, none⟩) 12 cr) ∧
    ∀ m, m < 12 → w.cell? ⟨br, or + m, none⟩ = some (.int .i64 (nextN D k m))
  c2 : ∀ k, k < D.ends.length → ∀ u, w.cell? ⟨b1, o1 + k, none⟩ = some u → IS B w u (nthL D.next k)

theorem Lk.of {B : Nat} {w : World} {v0 v1 : Value} {D : AutoD} (h : AutoOK D) (h0 : IS B w v0 D.ends) (h1 : ISS B w v1 D.next) :
    ∃ b0 o0 c0 b1 o1 c1, Lk B w v0 v1 D b0 o0 c0 b1 o1 c1 := by
  obtain ⟨A0, c0, rfl, hl0, hm0, hA0⟩ := h0
  obtain ⟨A1, c1, rfl, hl1, hm1, hA1⟩ := h1
  have hlo := h.lo
  have hlen := h.len
  obtain ⟨b0, o0, rfl, hb0, hc0⟩ := hA0 (by omega)
  obtain ⟨b1, o1, rfl, hb1, hc1⟩ := hA1 (by omega)
  refine ⟨b0, o0, c0, b1, o1, c1, h, rfl, by rw [hlen], hb0, hb1, fun k hk => by rw [hc0 k hk, h.endsN_eq hk], fun k hk => ?_, fun k hk u hu => ?_⟩
  rotate_left
  · obtain ⟨u', hu', hi⟩ := hc1 k (by omega)
    rw [hu'] at hu
    injection hu with hu
    subst hu
    exact hi
  obtain ⟨u, hu, A, c, rfl, hl, hm, hA⟩ := hc1 k (by omega)
  have h12 := h.rows k hk
  obtain ⟨br, or, rfl, hbr, hcr⟩ := hA (by omega)
  exact ⟨br, or, c, hbr, by rw [hu, h12], fun m hm => by rw [hcr m (by omega), h.nextN_eq hk hm]⟩
end Go.Proofs.Ytehdfifncbokeaa

namespace Go.Proofs.Ytehdfifncbokeaa
set_option linter.unusedSimpArgs false
set_option linter.unusedVariables false
set_option maxRecDepth 8000
set_option maxHeartbeats 2000000
open Go.RowKit

def Sub (s t : Nat) : Prop := ∀ k, s.testBit k = true → t.testBit k = true
theorem Sub.refl (s : Nat) : Sub s s := fun _ h => h
theorem Sub.trans {a b c : Nat} (h : Sub a b) (k : Sub b c) : Sub a c := fun i hi => k i (h i hi)
theorem Sub.or_left (a b : Nat) : Sub a (a ||| b) := fun k h => by simp [Nat.testBit_or, h]
theorem Sub.or_right (a b : Nat) : Sub b (a ||| b) := fun k h => by simp [Nat.testBit_or, h]
theorem Sub.or {a b c : Nat} (h : Sub a c) (k : Sub b c) : Sub (a ||| b) c := fun i hi => by
  rw [Nat.testBit_or, Bool.or_eq_true] at hi
  rcases hi with hi | hi
  · exact h i hi
  · exact k i hi
theorem Sub.antisymm {a b : Nat} (h : Sub a b) (k : Sub b a) : a = b := Nat.eq_of_testBit_eq fun i => by
  cases ha : a.testBit i <;> cases hb : b.testBit i <;> first | rfl | (have := h i ha; rw [hb] at this; cases this) | (have := k i hb; rw [ha] at this; cases this)
theorem Sub.or_eq {a b : Nat} (h : Sub a b) : a ||| b = b := (Sub.or h (Sub.refl b)).antisymm (Sub.or_right a b)
theorem Sub.le {a b : Nat} (h : Sub a b) : a ≤ b := by
  have h1 := h.or_eq
  have h2 : a ≤ a ||| b := Nat.left_le_or
  omega

def cnt (s : Nat) : Nat → Nat
  | 0 => 0
  | k + 1 => cnt s k + bitN s k
theorem cnt_le (s : Nat) : ∀ k, cnt s k ≤ k
  | 0 => by simp [cnt]
  | k + 1 => by have := cnt_le s k; have := bitN_le s k; simp only [cnt]; omega
theorem bitN_mono {s t : Nat} (h : Sub s t) (k : Nat) : bitN s k ≤ bitN t k := by
  cases hs : s.testBit k
  · rw [bitN_f hs]; omega
  · rw [bitN_t hs, bitN_t (h k hs)]; omega
theorem cnt_mono {s t : Nat} (h : Sub s t) : ∀ k, cnt s k ≤ cnt t k
  | 0 => by simp [cnt]
  | k + 1 => by have := cnt_mono h k; have := bitN_mono h k; simp only [cnt]; omega
theorem cnt_lt {s t : Nat} (h : Sub s t) {i : Nat} (hs : s.testBit i = false) (ht : t.testBit i = true) : ∀ k, i < k → cnt s k < cnt t k
  | 0, hk => absurd hk (by omega)
  | k + 1, hk => by
    have h1 := bitN_mono h k
    simp only [cnt]
    by_cases e : i = k
    · subst e
      have := cnt_mono h i
      rw [bitN_f hs, bitN_t ht]; omega
    · have := cnt_lt h hs ht k (by omega); omega

def rT (D : AutoD) (set : Nat) : Nat → Nat
  | 0 => set
  | m + 1 => rT D set m ||| behF D set m
def rIter (D : AutoD) : Nat → Nat → Nat
  | 0, s => s
  | f + 1, s => if rT D s 12 = s then s else rIter D f (rT D s 12)
def reachF (D : AutoD) : Nat := rIter D 1024 1
def anyM (D : AutoD) (k s : Nat) : Nat → Bool
  | 0 => false
  | m + 1 => anyM D k s m || decide (0 < nextN D k m &&& s)
theorem anyM_iff (D : AutoD) (k s : Nat) : ∀ m, anyM D k s m = true ↔ ∃ i, i < m ∧ 0 < nextN D k i &&& s
  | 0 => by simp [anyM]
  | m + 1 => by
    rw [anyM, Bool.or_eq_true, anyM_iff D k s m, decide_eq_true_eq]
    constructor
    · rintro (⟨i, hi, h⟩ | h)
      · exact ⟨i, by omega, h⟩
      · exact ⟨m, by omega, h⟩
    · rintro ⟨i, hi, h⟩
      by_cases e : i = m
      · subst e; exact .inr h
      · exact .inl ⟨i, by omega, h⟩
def liveC (D : AutoD) (k s : Nat) : Bool := decide (0 < endsN D k) || anyM D k s 12
theorem and_pos {a b : Nat} : 0 < a &&& b ↔ ∃ j, a.testBit j = true ∧ b.testBit j = true := by
  constructor
  · intro h
    obtain ⟨j, hj⟩ := Nat.exists_testBit_of_ne_zero (x := a &&& b) (by omega)
    rw [Nat.testBit_and, Bool.and_eq_true] at hj
    exact ⟨j, hj⟩
  · rintro ⟨j, h1, h2⟩
    rcases Nat.eq_zero_or_pos (a &&& b) with h0 | h0
    · have : (a &&& b).testBit j = true := by rw [Nat.testBit_and, h1, h2]; rfl
      rw [h0, Nat.zero_testBit] at this
      cases this
    · exact h0
def lvT (D : AutoD) (set : Nat) : Nat → Nat
  | 0 => set
  | k + 1 => if liveC D k (lvT D set k) then lvT D set k ||| 2 ^ k else lvT D set k
def lvI (D : AutoD) : Nat → Nat
  | 0 => 0
  | j + 1 => lvT D (lvI D j) D.ends.length
def liveF (D : AutoD) : Nat := lvI D (D.ends.length + 1)
theorem lvT_sub1 (D : AutoD) (set k : Nat) : Sub (lvT D set k) (lvT D set (k + 1)) := by
  show Sub _ (if liveC D k (lvT D set k) then lvT D set k ||| 2 ^ k else lvT D set k)
  split
  · exact Sub.or_left _ _
  · exact Sub.refl _
theorem lvT_sub (D : AutoD) (set : Nat) (i : Nat) : ∀ k, i ≤ k → Sub (lvT D set i) (lvT D set k)
  | 0, h => by obtain rfl : i = 0 := by omega
               exact Sub.refl _
  | k + 1, h => by
    by_cases e : i = k + 1
    · subst e; exact Sub.refl _
    · exact (lvT_sub D set i k (by omega)).trans (lvT_sub1 D set k)
theorem lvT_lt (D : AutoD) {set n : Nat} (hs : set < 2 ^ n) : ∀ k, k ≤ n → lvT D set k < 2 ^ n
  | 0, _ => hs
  | k + 1, hk => by
    show (if liveC D k (lvT D set k) then lvT D set k ||| 2 ^ k else lvT D set k) < _
    split
    · exact Nat.or_lt_two_pow (lvT_lt D hs k (by omega)) (Nat.pow_lt_pow_right (by omega) (by omega))
    · exact lvT_lt D hs k (by omega)
theorem lvI_lt (D : AutoD) : ∀ j, lvI D j < 2 ^ D.ends.length
  | 0 => Nat.two_pow_pos _
  | j + 1 => lvT_lt D (lvI_lt D j) _ (Nat.le_refl _)
def ClosedL (D : AutoD) (s : Nat) : Prop := ∀ k, k < D.ends.length → liveC D k s = true → s.testBit k = true
theorem closed_of_eq {D : AutoD} {s : Nat} (h : lvT D s D.ends.length = s) : ClosedL D s := fun k hk hc => by
  have h1 : lvT D s k = s := ((lvT_sub D s k D.ends.length (by omega)).trans (by rw [h]; exact Sub.refl _)).antisymm (lvT_sub D s 0 k (by omega))
  have h2 := lvT_sub D s (k + 1) D.ends.length (by omega)
  rw [h] at h2
  apply h2
  show (if liveC D k (lvT D s k) then lvT D s k ||| 2 ^ k else lvT D s k).testBit k = true
  rw [h1, if_pos hc, Nat.testBit_or, Nat.testBit_two_pow_self, Bool.or_true]
theorem eq_of_closed {D : AutoD} {s : Nat} (h : ClosedL D s) : ∀ k, k ≤ D.ends.length → lvT D s k = s
  | 0, _ => rfl
  | k + 1, hk => by
    show (if liveC D k (lvT D s k) then lvT D s k ||| 2 ^ k else lvT D s k) = s
    rw [eq_of_closed h k (by omega)]
    split
    · rename_i hc
      have := h k (by omega) hc
      refine (Sub.or (Sub.refl s) fun i hi => ?_).antisymm (Sub.or_left _ _)
      rw [Nat.testBit_two_pow, decide_eq_true_eq] at hi
      subst hi; exact this
    · rfl
theorem lvI_count (D : AutoD) : ∀ j, ClosedL D (lvI D j) ∨ j ≤ cnt (lvI D j) D.ends.length
  | 0 => .inr (by omega)
  | j + 1 => by
    rcases lvI_count D j with h | h
    · left
      show ClosedL D (lvT D (lvI D j) D.ends.length)
      rw [eq_of_closed h _ (Nat.le_refl _)]; exact h
    · by_cases e : lvT D (lvI D j) D.ends.length = lvI D j
      · left
        show ClosedL D (lvT D (lvI D j) D.ends.length)
        rw [e]; exact closed_of_eq e
      · right
        have hs : Sub (lvI D j) (lvT D (lvI D j) D.ends.length) := lvT_sub D (lvI D j) 0 D.ends.length (by omega)
        have : ∃ i, (lvI D j).testBit i = false ∧ (lvT D (lvI D j) D.ends.length).testBit i = true := by
          refine Classical.byContradiction fun hno => e ?_
          refine Sub.antisymm (fun i hi => ?_) hs
          cases hb : (lvI D j).testBit i
          · exact absurd ⟨i, hb, hi⟩ hno
          · rfl
        obtain ⟨i, h1, h2⟩ := this
        have hi : i < D.ends.length := by
          rcases Nat.lt_or_ge i D.ends.length with h | h
          · exact h
          · have := lt_of_testBit_zero (lvT_lt D (lvI_lt D j) D.ends.length (Nat.le_refl _)) h
            rw [this] at h2; cases h2
        have := cnt_lt hs h1 h2 D.ends.length hi
        show j + 1 ≤ cnt (lvT D (lvI D j) D.ends.length) D.ends.length
        omega
theorem liveF_closed (D : AutoD) : ClosedL D (liveF D) := by
  rcases lvI_count D (D.ends.length + 1) with h | h
  · exact h
  · have := cnt_le (lvI D (D.ends.length + 1)) D.ends.length; omega
structure TraceOK (t : List Int) : Prop where
  odd : t.length % 2 = 1
  len : t.length ≤ 41
  atoms : ∀ k, 2 * k < t.length → 0 ≤ nth t (2 * k) ∧ nth t (2 * k) ≤ 3
  acts : ∀ k, 2 * k + 1 < t.length → 16 ≤ nth t (2 * k + 1) ∧ nth t (2 * k + 1) ≤ 18
open Classical in
noncomputable def traceOKB (t : List Int) : Bool := decide (TraceOK t)
theorem traceOKB_true {t : List Int} : traceOKB t = true ↔ TraceOK t := by simp [traceOKB]
theorem traceOKB_false {t : List Int} : traceOKB t = false ↔ ¬ TraceOK t := by simp [traceOKB]
def trTo (t : List Int) (k : Nat) : Prop := ∀ i, i < k → (i % 2 = 0 → 0 ≤ nth t i ∧ nth t i ≤ 3) ∧ (i % 2 = 1 → 16 ≤ nth t i ∧ nth t i ≤ 18)
theorem trTo_zero (t : List Int) : trTo t 0 := fun _ h => absurd h (by omega)
theorem trTo_succ {t : List Int} {k : Nat} (h : trTo t k) (h1 : (k % 2 = 0 → 0 ≤ nth t k ∧ nth t k ≤ 3) ∧ (k % 2 = 1 → 16 ≤ nth t k ∧ nth t k ≤ 18)) : trTo t (k + 1) := fun i hi => by
  by_cases e : i = k
  · subst e; exact h1
  · exact h i (by omega)
theorem TraceOK.of {t : List Int} (h1 : t.length % 2 = 1) (h2 : t.length ≤ 41) (h : trTo t t.length) : TraceOK t :=
  ⟨h1, h2, fun k hk => (h _ hk).1 (by omega), fun k hk => (h _ hk).2 (by omega)⟩
theorem TraceOK.to {t : List Int} (h : TraceOK t) : trTo t t.length := fun i hi =>
  ⟨fun e => by have := h.atoms (i / 2); rw [show 2 * (i / 2) = i by omega] at this; exact this hi, fun e => by have := h.acts (i / 2); rw [show 2 * (i / 2) + 1 = i by omega] at this; exact this hi⟩

end Go.Proofs.Ytehdfifncbokeaa

namespace Go.Proofs.Ytehdfifncbokeaa
set_option linter.unusedSimpArgs false
set_option linter.unusedVariables false
set_option maxRecDepth 8000
set_option maxHeartbeats 2000000
open Go.RowKit

inductive Ex where
  | leaf (n : Int)
  | thn (a b : Ex)
  | pls (a b : Ex)
  | str (a : Ex)

def Ex.steps : Ex → List Int
  | .leaf n => [n]
  | .thn a b => a.steps ++ (b.steps ++ [19])
  | .pls a b => a.steps ++ (b.steps ++ [20])
  | .str a => a.steps ++ [21]
def Ex.wf : Ex → Prop
  | .leaf n => 0 ≤ n ∧ n ≤ 18
  | .thn a b => a.wf ∧ b.wf
  | .pls a b => a.wf ∧ b.wf
  | .str a => a.wf
theorem Ex.steps_pos (x : Ex) : 0 < x.steps.length := by cases x <;> simp [Ex.steps] <;> omega

def takesN (n : Int) : Nat := if n = 19 ∨ n = 20 then 2 else if n = 21 then 1 else 0
theorem takesN_leaf {n : Int} (h : n ≤ 18) : takesN n = 0 := by unfold takesN; rw [if_neg (by omega), if_neg (by omega)]
theorem takesN_le (n : Int) : takesN n ≤ 2 := by
  unfold takesN
  split
  · omega
  · split <;> omega

def push (n : Int) (st : List Ex) : Option (List Ex) :=
  if 0 ≤ n ∧ n ≤ 18 then some (.leaf n :: st)
  else match st with
    | [] => none
    | b :: r => if n = 21 then some (.str b :: r)
      else match r with
        | [] => none
        | a :: r' => if n = 19 then some (.thn a b :: r') else if n = 20 then some (.pls a b :: r') else none
theorem push_leaf {n : Int} {st : List Ex} (h0 : 0 ≤ n) (h : n ≤ 18) : push n st = some (.leaf n :: st) := by unfold push; rw [if_pos ⟨h0, h⟩]
theorem push_thn (a b : Ex) (r : List Ex) : push 19 (b :: a :: r) = some (.thn a b :: r) := by simp [push]
theorem push_pls (a b : Ex) (r : List Ex) : push 20 (b :: a :: r) = some (.pls a b :: r) := by simp [push]
theorem push_str (a : Ex) (r : List Ex) : push 21 (a :: r) = some (.str a :: r) := by simp [push]
theorem push_some {n : Int} {st : List Ex} (h0 : 0 ≤ n) (h1 : n ≤ 21) (h : takesN n ≤ st.length) : ∃ st', push n st = some st' ∧ st'.length + takesN n = st.length + 1 := by
  by_cases h18 : n ≤ 18
  · exact ⟨_, push_leaf h0 h18, by rw [takesN_leaf h18]; rfl⟩
  · have h3 : n = 19 ∨ n = 20 ∨ n = 21 := by omega
    rcases h3 with rfl | rfl | rfl
    · match st, h with
      | b :: a :: r, _ => exact ⟨_, push_thn a b r, rfl⟩
      | [_], h => simp [takesN] at h
      | [], h => simp [takesN] at h
    · match st, h with
      | b :: a :: r, _ => exact ⟨_, push_pls a b r, rfl⟩
      | [_], h => simp [takesN] at h
      | [], h => simp [takesN] at h
    · match st, h with
      | a :: r, _ => exact ⟨_, push_str a r, rfl⟩
      | [], h => simp [takesN] at h
theorem push_out {n : Int} {st : List Ex} (h : ¬ (0 ≤ n ∧ n ≤ 21)) : push n st = none := by
  unfold push
  rw [if_neg (by omega)]
  match st with
  | [] => rfl
  | [b] => simp only; rw [if_neg (by omega)]
  | b :: a :: r => simp only; rw [if_neg (by omega), if_neg (by omega), if_neg (by omega)]
theorem push_few {n : Int} {st : List Ex} (h : st.length < takesN n) : push n st = none := by
  have h18 : ¬ n ≤ 18 := fun h' => by rw [takesN_leaf h'] at h; omega
  unfold push
  rw [if_neg (by omega)]
  match st, h with
  | [], _ => rfl
  | [b], h =>
    simp only
    rw [if_neg]
    rintro rfl
    simp [takesN] at h
  | b :: a :: r, h => have := takesN_le n; simp only [List.length_cons] at h; omega

def runS : List Int → List Ex → Option (List Ex)
  | [], st => some st
  | n :: l, st => (push n st).bind (runS l)
theorem runS_append (l m : List Int) : ∀ st, runS (l ++ m) st = (runS l st).bind (runS m) := by
  induction l with
  | nil => intro st; rfl
  | cons n l ih =>
    intro st
    show (push n st).bind (runS (l ++ m)) = ((push n st).bind (runS l)).bind (runS m)
    cases push n st with
    | none => rfl
    | some st' => exact ih st'
theorem runS_one (n : Int) (st : List Ex) : runS [n] st = push n st := by
  show (push n st).bind (runS []) = _
  cases push n st <;> rfl
theorem runS_steps : ∀ (x : Ex), x.wf → ∀ st, runS x.steps st = some (x :: st)
  | .leaf n, h, st => by rw [Ex.steps, runS_one, push_leaf h.1 h.2]
  | .thn a b, h, st => by rw [Ex.steps, runS_append, runS_steps a h.1, Option.bind_some, runS_append, runS_steps b h.2, Option.bind_some, runS_one, push_thn]
  | .pls a b, h, st => by rw [Ex.steps, runS_append, runS_steps a h.1, Option.bind_some, runS_append, runS_steps b h.2, Option.bind_some, runS_one, push_pls]
  | .str a, h, st => by rw [Ex.steps, runS_append, runS_steps a h, Option.bind_some, runS_one, push_str]
def flat : List Ex → List Int
  | [] => []
  | x :: r => flat r ++ x.steps
def allWf : List Ex → Prop
  | [] => True
  | x :: r => x.wf ∧ allWf r
theorem push_flat {n : Int} {st st' : List Ex} (h : push n st = some st') : flat st' = flat st ++ [n] ∧ (allWf st → allWf st') := by
  by_cases h0 : 0 ≤ n ∧ n ≤ 18
  · rw [push_leaf h0.1 h0.2] at h
    injection h with h; subst h
    exact ⟨rfl, fun hw => ⟨h0, hw⟩⟩
  · by_cases h1 : 0 ≤ n ∧ n ≤ 21
    · have h3 : n = 19 ∨ n = 20 ∨ n = 21 := by omega
      rcases h3 with rfl | rfl | rfl
      · match st, h with
        | [], h => simp [push] at h
        | [_], h => simp [push] at h
        | b :: a :: r, h =>
          rw [push_thn] at h
          injection h with h; subst h
          exact ⟨by simp [flat, Ex.steps], fun hw => ⟨⟨hw.2.1, hw.1⟩, hw.2.2⟩⟩
      · match st, h with
        | [], h => simp [push] at h
        | [_], h => simp [push] at h
        | b :: a :: r, h =>
          rw [push_pls] at h
          injection h with h; subst h
          exact ⟨by simp [flat, Ex.steps], fun hw => ⟨⟨hw.2.1, hw.1⟩, hw.2.2⟩⟩
      · match st, h with
        | [], h => simp [push] at h
        | b :: r, h =>
          rw [push_str] at h
          injection h with h; subst h
          exact ⟨by simp [flat, Ex.steps], fun hw => ⟨hw.1, hw.2⟩⟩
    · rw [push_out h1] at h; cases h
theorem runS_flat : ∀ (l : List Int) (st st' : List Ex), runS l st = some st' → flat st' = flat st ++ l ∧ (allWf st → allWf st')
  | [], st, st', h => by injection h with h; subst h; exact ⟨by simp, id⟩
  | n :: l, st, st', h => by
    unfold runS at h
    cases hp : push n st with
    | none => rw [hp] at h; cases h
    | some s1 =>
      rw [hp, Option.bind_some] at h
      have h1 := push_flat hp
      have h2 := runS_flat l s1 st' h
      exact ⟨by rw [h2.1, h1.1]; simp, fun hw => h2.2 (h1.2 hw)⟩

def KatOK (e : List Int) : Prop := e.length ≤ 40 ∧ ∃ x, runS e [] = some [x]
open Classical in
noncomputable def katB (e : List Int) : Bool := decide (KatOK e)
theorem katB_true {e : List Int} : katB e = true ↔ KatOK e := by simp [katB]
theorem katB_false {e : List Int} : katB e = false ↔ ¬ KatOK e := by simp [katB]
theorem KatOK.ex {e : List Int} (h : KatOK e) : ∃ x : Ex, x.wf ∧ e = x.steps ∧ e.length ≤ 40 := by
  obtain ⟨h1, x, h2⟩ := h
  have h3 := runS_flat e [] [x] h2
  exact ⟨x, (h3.2 trivial).1, by have := h3.1; simpa [flat] using this.symm, h1⟩
theorem KatOK.of {x : Ex} (h : x.wf) (hl : x.steps.length ≤ 40) : KatOK x.steps := ⟨hl, x, runS_steps x h []⟩
theorem take_succ_nth (l : List Int) {k : Nat} (h : k < l.length) : l.take (k + 1) = l.take k ++ [nth l k] := by
  rw [List.take_succ_eq_append_getElem h]; simp [nth, List.getD, h]
def depthAt (e : List Int) (k d : Nat) : Prop := ∃ st, runS (e.take k) [] = some st ∧ st.length = d
theorem depthAt_zero (e : List Int) : depthAt e 0 0 := ⟨[], rfl, rfl⟩
theorem depthAt_step {e : List Int} {k d : Nat} (h : depthAt e k d) (hk : k < e.length) (h0 : 0 ≤ nth e k) (h1 : nth e k ≤ 21) (ht : takesN (nth e k) ≤ d) : depthAt e (k + 1) (d + 1 - takesN (nth e k)) := by
  obtain ⟨st, hs, rfl⟩ := h
  obtain ⟨st', hp, hl⟩ := push_some (st := st) h0 h1 ht
  exact ⟨st', by rw [take_succ_nth e hk, runS_append, hs, Option.bind_some, runS_one, hp], by omega⟩
theorem depthAt_fail {e : List Int} {k d : Nat} (h : depthAt e k d) (hk : k < e.length) (hn : ¬ (0 ≤ nth e k ∧ nth e k ≤ 21) ∨ d < takesN (nth e k)) : ¬ KatOK e := by
  obtain ⟨st, hs, rfl⟩ := h
  rintro ⟨_, x, hx⟩
  have hp : push (nth e k) st = none := by
    rcases hn with hn | hn
    · exact push_out hn
    · exact push_few hn
  rw [← List.take_append_drop (k + 1) e, runS_append, take_succ_nth e hk, runS_append, hs, Option.bind_some, runS_one, hp] at hx
  cases hx
theorem depthAt_end {e : List Int} {d : Nat} (h : depthAt e e.length d) (hl : e.length ≤ 40) : katB e = decide (d = 1) := by
  obtain ⟨st, hs, rfl⟩ := h
  rw [List.take_length] at hs
  by_cases hd : st.length = 1
  · obtain ⟨x, rfl⟩ := List.length_eq_one_iff.1 hd
    rw [katB_true.2 ⟨hl, x, hs⟩]; simp
  · rw [katB_false.2]
    · simp [hd]
    · rintro ⟨_, x, hx⟩
      rw [hs] at hx
      injection hx with hx
      subst hx
      exact hd rfl
theorem depthAt_le {e : List Int} : ∀ {k d : Nat}, depthAt e k d → k ≤ e.length → d ≤ k
  | 0, d, ⟨st, hs, hd⟩, _ => by injection hs with hs; subst hs; subst hd; simp
  | k + 1, d, ⟨st, hs, hd⟩, hk => by
    rw [take_succ_nth e (by omega), runS_append] at hs
    cases h1 : runS (e.take k) [] with
    | none => rw [h1] at hs; cases hs
    | some s1 =>
      rw [h1, Option.bind_some, runS_one] at hs
      have := depthAt_le ⟨s1, h1, rfl⟩ (by omega : k ≤ e.length)
      have hl : st.length ≤ s1.length + 1 := by
        by_cases hr : 0 ≤ nth e k ∧ nth e k ≤ 21
        · by_cases ht : takesN (nth e k) ≤ s1.length
          · obtain ⟨st', hp, hl⟩ := push_some (st := s1) hr.1 hr.2 ht
            rw [hp] at hs; injection hs with hs; subst hs; omega
          · rw [push_few (by omega)] at hs; cases hs
        · rw [push_out hr] at hs; cases hs
      omega

end Go.Proofs.Ytehdfifncbokeaa

namespace Go.Proofs.Ytehdfifncbokeaa
set_option linter.unusedSimpArgs false
set_option linter.unusedVariables false
set_option maxRecDepth 8000
set_option maxHeartbeats 2000000
open Go.RowKit

def Ex.op : Ex → Int
  | .leaf n => n
  | .thn _ _ => 19
  | .pls _ _ => 20
  | .str _ => 21
def Ex.kids : Ex → List Ex
  | .leaf _ => []
  | .thn a b => [b, a]
  | .pls a b => [b, a]
  | .str a => [a]
theorem flat_kids (x : Ex) (r : List Ex) : flat (x :: r) = flat (x.kids ++ r) ++ [x.op] := by
  cases x <;> simp [flat, Ex.kids, Ex.op, Ex.steps]
theorem takes_op {x : Ex} (h : x.wf) : takesN x.op = x.kids.length := by
  cases x with
  | leaf n => exact takesN_leaf h.2
  | thn a b => simp [takesN, Ex.op, Ex.kids]
  | pls a b => simp [takesN, Ex.op, Ex.kids]
  | str a => simp [takesN, Ex.op, Ex.kids]
theorem kids_wf {x : Ex} {r : List Ex} (h : x.wf) (hr : allWf r) : allWf (x.kids ++ r) := by
  cases x with
  | leaf n => exact hr
  | thn a b => exact ⟨h.2, h.1, hr⟩
  | pls a b => exact ⟨h.2, h.1, hr⟩
  | str a => exact ⟨h, hr⟩
theorem flat_len (r : List Ex) : r.length ≤ (flat r).length := by
  induction r with
  | nil => simp
  | cons x r ih => have := x.steps_pos; simp only [flat, List.length_append, List.length_cons]; omega

def endX : Ex → Nat
  | .leaf n => if n ≤ 15 then n.toNat else 0
  | .thn a b => endX a &&& endX b
  | .pls a b => endX a ||| endX b
  | .str _ => 15
structure SpanAt (e L : List Int) (k : Nat) (ys : List Ex) : Prop where
  le : k ≤ e.length
  eq : e.take k = L ++ flat ys
  wf : allWf ys
theorem SpanAt.nil {e L : List Int} {k : Nat} (h : SpanAt e L k []) : k = L.length := by
  have := congrArg List.length h.eq
  simp only [List.length_take, flat, List.append_nil] at this
  have := h.le
  omega
theorem SpanAt.cons {e L : List Int} {k : Nat} {y : Ex} {r : List Ex} (h : SpanAt e L k (y :: r)) :
    ∃ j, k = j + 1 ∧ nth e j = y.op ∧ takesN y.op = y.kids.length ∧ SpanAt e L j (y.kids ++ r) := by
  have hl := congrArg List.length h.eq
  rw [flat_kids] at hl
  simp only [List.length_take, List.length_append, List.length_cons, List.length_nil] at hl
  have hle := h.le
  obtain ⟨j, rfl⟩ : ∃ j, k = j + 1 := ⟨k - 1, by omega⟩
  have he := h.eq
  rw [take_succ_nth e (by omega), flat_kids, ← List.append_assoc] at he
  have h2 := List.append_inj' he rfl
  refine ⟨j, rfl, by have := h2.2; injection this, takes_op h.wf.1, ⟨by omega, h2.1, kids_wf h.wf.1 h.wf.2⟩⟩
theorem SpanAt.len {e L : List Int} {k : Nat} {ys : List Ex} (h : SpanAt e L k ys) : ys.length ≤ k := by
  have hl := congrArg List.length h.eq
  simp only [List.length_take, List.length_append] at hl
  have := flat_len ys
  have := h.le
  omega

theorem runS_take {e : List Int} {k : Nat} {st : List Ex} {x : Ex} (hk : k < e.length) (h : runS (e.take k) [] = some st) (hx : runS e [] = some [x]) :
    ∃ st', push (nth e k) st = some st' ∧ runS (e.take (k + 1)) [] = some st' := by
  have h1 := hx
  rw [← List.take_append_drop (k + 1) e, runS_append, take_succ_nth e hk, runS_append, h, Option.bind_some, runS_one] at h1
  cases hp : push (nth e k) st with
  | none => rw [hp] at h1; cases h1
  | some st' => exact ⟨st', rfl, by rw [take_succ_nth e hk, runS_append, h, Option.bind_some, runS_one, hp]⟩
theorem push_inv {n : Int} {st st' : List Ex} (h : push n st = some st') :
    (0 ≤ n ∧ n ≤ 18 ∧ st' = .leaf n :: st) ∨ (n = 19 ∧ ∃ a b r, st = b :: a :: r ∧ st' = .thn a b :: r) ∨ (n = 20 ∧ ∃ a b r, st = b :: a :: r ∧ st' = .pls a b :: r) ∨ (n = 21 ∧ ∃ a r, st = a :: r ∧ st' = .str a :: r) := by
  by_cases h0 : 0 ≤ n ∧ n ≤ 18
  · rw [push_leaf h0.1 h0.2] at h
    injection h with h
    exact .inl ⟨h0.1, h0.2, h.symm⟩
  by_cases h1 : 0 ≤ n ∧ n ≤ 21
  case neg => rw [push_out h1] at h; cases h
  have h3 : n = 19 ∨ n = 20 ∨ n = 21 := by omega
  rcases h3 with rfl | rfl | rfl
  · match st, h with
    | b :: a :: r, h => rw [push_thn] at h; injection h with h; exact .inr (.inl ⟨rfl, a, b, r, rfl, h.symm⟩)
    | [_], h => simp [push] at h
    | [], h => simp [push] at h
  · match st, h with
    | b :: a :: r, h => rw [push_pls] at h; injection h with h; exact .inr (.inr (.inl ⟨rfl, a, b, r, rfl, h.symm⟩))
    | [_], h => simp [push] at h
    | [], h => simp [push] at h
  · match st, h with
    | a :: r, h => rw [push_str] at h; injection h with h; exact .inr (.inr (.inr ⟨rfl, a, r, rfl, h.symm⟩))
    | [], h => simp [push] at h

end Go.Proofs.Ytehdfifncbokeaa

namespace Go.Proofs.Ytehdfifncbokeaa
set_option linter.unusedSimpArgs false
set_option linter.unusedVariables false
set_option maxRecDepth 8000
set_option maxHeartbeats 2000000
open Go.RowKit

def lexLt : List Int → List Int → Bool
  | _, [] => false
  | [], _ :: _ => true
  | a :: l, b :: m => if a = b then lexLt l m else decide (a < b)
theorem lexLt_nil (l : List Int) : lexLt l [] = false := by cases l <;> rfl
theorem lexLt_cons (a b : Int) (l m : List Int) : lexLt (a :: l) (b :: m) = if a = b then lexLt l m else decide (a < b) := rfl
theorem lexLt_irrefl : ∀ l : List Int, lexLt l l = false
  | [] => rfl
  | a :: l => by rw [lexLt_cons, if_pos rfl]; exact lexLt_irrefl l
theorem lexLt_trans : ∀ {l m n : List Int}, lexLt l m = true → lexLt m n = true → lexLt l n = true
  | _, [], _, h, _ => by rw [lexLt_nil] at h; cases h
  | _, _ :: _, [], _, h => by rw [lexLt_nil] at h; cases h
  | [], _ :: _, _ :: _, _, _ => rfl
  | a :: l, b :: m, c :: n, h1, h2 => by
    rw [lexLt_cons] at h1 h2 ⊢
    by_cases hab : a = b
    · subst hab
      rw [if_pos rfl] at h1
      by_cases hac : a = c
      · subst hac
        rw [if_pos rfl] at h2 ⊢
        exact lexLt_trans h1 h2
      · rw [if_neg hac] at h2 ⊢; exact h2
    · rw [if_neg hab] at h1
      have h1 := of_decide_eq_true h1
      by_cases hbc : b = c
      · subst hbc
        rw [if_neg hab]; exact decide_eq_true h1
      · rw [if_neg hbc] at h2
        have h2 := of_decide_eq_true h2
        rw [if_neg (by omega)]; exact decide_eq_true (by omega)
theorem lexLt_tri : ∀ (l m : List Int), lexLt l m = false → lexLt m l = false → l = m
  | [], [], _, _ => rfl
  | [], _ :: _, h, _ => by cases h
  | _ :: _, [], _, h => by cases h
  | a :: l, b :: m, h1, h2 => by
    rw [lexLt_cons] at h1 h2
    by_cases hab : a = b
    · subst hab
      rw [if_pos rfl] at h1 h2
      rw [lexLt_tri l m h1 h2]
    · rw [if_neg hab] at h1
      rw [if_neg (Ne.symm hab)] at h2
      have h1 := of_decide_eq_false h1
      have h2 := of_decide_eq_false h2
      omega
theorem lexLt_asymm {l m : List Int} (h : lexLt l m = true) : lexLt m l = false := by
  cases h2 : lexLt m l with
  | false => rfl
  | true => have := lexLt_trans h h2; rw [lexLt_irrefl] at this; cases this

abbrev LL := List (List Int)
def Srt (l : LL) : Prop := l.Pairwise fun a b => lexLt a b = true
def addL (t : List Int) : LL → LL
  | [] => [t]
  | x :: r => if lexLt x t then x :: addL t r else if x = t then x :: r else t :: x :: r
theorem mem_addL (t y : List Int) : ∀ l : LL, y ∈ addL t l ↔ y = t ∨ y ∈ l
  | [] => by simp [addL]
  | x :: r => by
    unfold addL
    split
    · rw [List.mem_cons, mem_addL t y r, List.mem_cons]
      constructor
      · rintro (h | h | h)
        · exact .inr (.inl h)
        · exact .inl h
        · exact .inr (.inr h)
      · rintro (h | h | h)
        · exact .inr (.inl h)
        · exact .inl h
        · exact .inr (.inr h)
    · split
      · rename_i h; subst h
        simp only [List.mem_cons]
        constructor
        · intro h; exact .inr h
        · rintro (h | h)
          · exact .inl h
          · exact h
      · simp only [List.mem_cons]
theorem srt_addL {t : List Int} : ∀ {l : LL}, Srt l → Srt (addL t l)
  | [], _ => by simp [addL, Srt]
  | x :: r, h => by
    have h' := List.pairwise_cons.1 h
    unfold addL
    split
    · rename_i hx
      refine List.pairwise_cons.2 ⟨fun y hy => ?_, srt_addL h'.2⟩
      rcases (mem_addL t y r).1 hy with rfl | hy
      · exact hx
      · exact h'.1 y hy
    · rename_i hx
      have hx : lexLt x t = false := by simpa using hx
      split
      · exact h
      · rename_i hne
        have htx : lexLt t x = true := by
          cases h2 : lexLt t x with
          | true => rfl
          | false => exact absurd (lexLt_tri x t hx h2) hne
        refine List.pairwise_cons.2 ⟨fun y hy => ?_, h⟩
        rcases List.mem_cons.1 hy with rfl | hy
        · exact htx
        · exact lexLt_trans htx (h'.1 y hy)
theorem srt_eq : ∀ {l m : LL}, Srt l → Srt m → (∀ x, x ∈ l ↔ x ∈ m) → l = m
  | [], [], _, _, _ => rfl
  | [], b :: m, _, _, h => by have := (h b).2 (by simp); cases this
  | a :: l, [], _, _, h => by have := (h a).1 (by simp); cases this
  | a :: l, b :: m, hl, hm, h => by
    have hl' := List.pairwise_cons.1 hl
    have hm' := List.pairwise_cons.1 hm
    have hab : a = b := by
      rcases List.mem_cons.1 ((h a).1 (by simp)) with e | ha
      · exact e
      · rcases List.mem_cons.1 ((h b).2 (by simp)) with e | hb
        · exact e.symm
        · have h1 := hm'.1 a ha
          have h2 := hl'.1 b hb
          rw [lexLt_asymm h1] at h2; cases h2
    subst hab
    rw [srt_eq hl'.2 hm'.2 fun x => ?_]
    constructor
    · intro hx
      rcases List.mem_cons.1 ((h x).1 (List.mem_cons_of_mem _ hx)) with rfl | hx'
      · have := hl'.1 x hx; rw [lexLt_irrefl] at this; cases this
      · exact hx'
    · intro hx
      rcases List.mem_cons.1 ((h x).2 (List.mem_cons_of_mem _ hx)) with rfl | hx'
      · have := hm'.1 x hx; rw [lexLt_irrefl] at this; cases this
      · exact hx'
def addsL (l m : LL) : LL := m.foldl (fun acc t => addL t acc) l
theorem addsL_nil (l : LL) : addsL l [] = l := rfl
theorem addsL_cons (l : LL) (t : List Int) (m : LL) : addsL l (t :: m) = addsL (addL t l) m := rfl
theorem addsL_snoc (l : LL) (t : List Int) (m : LL) : addsL l (m ++ [t]) = addL t (addsL l m) := by simp [addsL]
theorem mem_addsL (y : List Int) : ∀ (m l : LL), y ∈ addsL l m ↔ y ∈ l ∨ y ∈ m
  | [], l => by simp [addsL]
  | t :: m, l => by
    rw [addsL_cons, mem_addsL y m, mem_addL, List.mem_cons]
    constructor
    · rintro ((h | h) | h)
      · exact .inr (.inl h)
      · exact .inl h
      · exact .inr (.inr h)
    · rintro (h | h | h)
      · exact .inl (.inr h)
      · exact .inl (.inl h)
      · exact .inr h
theorem srt_addsL : ∀ {m l : LL}, Srt l → Srt (addsL l m)
  | [], _, h => h
  | t :: m, l, h => by rw [addsL_cons]; exact srt_addsL (srt_addL h)
def ordL (l : LL) : LL := addsL [] l
theorem mem_ordL (y : List Int) (l : LL) : y ∈ ordL l ↔ y ∈ l := by rw [ordL, mem_addsL]; simp
theorem srt_ordL (l : LL) : Srt (ordL l) := srt_addsL List.Pairwise.nil
theorem addL_length (t : List Int) : ∀ l : LL, (addL t l).length ≤ l.length + 1
  | [] => by simp [addL]
  | x :: r => by
    have := addL_length t r
    unfold addL
    split
    · simp only [List.length_cons]; omega
    · split <;> simp
theorem addsL_length : ∀ (m l : LL), (addsL l m).length ≤ l.length + m.length
  | [], l => by simp [addsL]
  | t :: m, l => by
    rw [addsL_cons]
    have h1 := addsL_length m (addL t l)
    have h2 := addL_length t l
    simp only [List.length_cons]; omega
theorem ordL_length (l : LL) : (ordL l).length ≤ l.length := by have := addsL_length l []; simpa [ordL] using this
theorem srt_nodup {l : LL} (h : Srt l) : l.Nodup := h.imp fun {a b} hab e => by subst e; rw [lexLt_irrefl] at hab; cases hab

def behX (p b : Ex) : Ex := match p with
  | .leaf n => if n = 15 then b else .thn (.leaf n) b
  | p => .thn p b
def behL (a b : List Int) : List Int := if a = [15] then b else a ++ (b ++ [19])
theorem steps_len2 {x : Ex} (h : ∀ n, x ≠ .leaf n) : 2 ≤ x.steps.length := by
  cases x with
  | leaf n => exact absurd rfl (h n)
  | thn a b => have := a.steps_pos; simp only [Ex.steps, List.length_append, List.length_cons]; omega
  | pls a b => have := a.steps_pos; simp only [Ex.steps, List.length_append, List.length_cons]; omega
  | str a => have := a.steps_pos; simp only [Ex.steps, List.length_append, List.length_cons]; omega
theorem behX_steps (p b : Ex) : (behX p b).steps = behL p.steps b.steps := by
  cases p with
  | leaf n =>
    unfold behX behL
    by_cases h : n = 15
    · subst h; simp [Ex.steps]
    · simp [Ex.steps, h]
  | thn x y =>
    have := steps_len2 (x := .thn x y) (by simp)
    unfold behX behL
    rw [if_neg (fun h => by rw [h] at this; simp at this)]; rfl
  | pls x y =>
    have := steps_len2 (x := .pls x y) (by simp)
    unfold behX behL
    rw [if_neg (fun h => by rw [h] at this; simp at this)]; rfl
  | str x =>
    have := steps_len2 (x := .str x) (by simp)
    unfold behX behL
    rw [if_neg (fun h => by rw [h] at this; simp at this)]; rfl
theorem behX_wf {p b : Ex} (hp : p.wf) (hb : b.wf) : (behX p b).wf := by
  cases p with
  | leaf n =>
    unfold behX
    dsimp only
    split
    · exact hb
    · exact ⟨hp, hb⟩
  | thn x y => exact ⟨hp, hb⟩
  | pls x y => exact ⟨hp, hb⟩
  | str x => exact ⟨hp, hb⟩
theorem behX_cases (p b : Ex) : (p = .leaf 15 ∧ behX p b = b) ∨ behX p b = .thn p b := by
  cases p with
  | leaf n =>
    by_cases h : n = 15
    · subst h; exact .inl ⟨rfl, rfl⟩
    · right; simp [behX, h]
  | thn x y => exact .inr rfl
  | pls x y => exact .inr rfl
  | str x => exact .inr rfl
theorem behL_len (a b : List Int) : (behL a b).length ≤ a.length + b.length + 1 := by
  unfold behL
  split
  · omega
  · simp only [List.length_append, List.length_cons, List.length_nil]; omega

def partsX (atom : Nat) (act : Int) : Ex → List Ex
  | .leaf n => if n = act then [.leaf 15] else []
  | .pls a b => partsX atom act a ++ partsX atom act b
  | .thn a b => (partsX atom act a).map (fun p => behX p b) ++ if (endX a).testBit atom then partsX atom act b else []
  | .str a => (partsX atom act a).map (fun p => behX p (.str a))
def partsL (atom : Nat) (act : Int) (x : Ex) : LL := ordL ((partsX atom act x).map Ex.steps)
theorem mem_partsL {atom : Nat} {act : Int} {x : Ex} {t : List Int} : t ∈ partsL atom act x ↔ ∃ p ∈ partsX atom act x, p.steps = t := by
  rw [partsL, mem_ordL, List.mem_map]
theorem partsX_wf {atom : Nat} {act : Int} : ∀ {x : Ex}, x.wf → ∀ p ∈ partsX atom act x, p.wf
  | .leaf n, _, p, h => by
    unfold partsX at h
    split at h
    · obtain rfl := List.mem_singleton.1 h; exact ⟨by omega, by omega⟩
    · cases h
  | .pls a b, hw, p, h => by
    rcases List.mem_append.1 h with h | h
    · exact partsX_wf hw.1 p h
    · exact partsX_wf hw.2 p h
  | .thn a b, hw, p, h => by
    rcases List.mem_append.1 h with h | h
    · obtain ⟨q, hq, rfl⟩ := List.mem_map.1 h
      exact behX_wf (partsX_wf hw.1 q hq) hw.2
    · split at h
      · exact partsX_wf hw.2 p h
      · cases h
  | .str a, hw, p, h => by
    obtain ⟨q, hq, rfl⟩ := List.mem_map.1 h
    exact behX_wf (partsX_wf (x := a) hw q hq) hw
theorem mem_partsL_wf {atom : Nat} {act : Int} {x : Ex} (hw : x.wf) {t : List Int} (h : t ∈ partsL atom act x) : ∃ p : Ex, p.wf ∧ p.steps = t ∧ p ∈ partsX atom act x := by
  obtain ⟨p, hp, rfl⟩ := mem_partsL.1 h
  exact ⟨p, partsX_wf hw p hp, rfl, hp⟩
def leftX : Ex → List Ex
  | .leaf n => if 16 ≤ n then [.leaf 15] else []
  | .pls a b => leftX a ++ leftX b
  | .thn a b => (leftX a).map (fun p => behX p b) ++ leftX b
  | .str a => (leftX a).map (fun p => behX p (.str a))
theorem parts_left {atom : Nat} {act : Int} (h16 : 16 ≤ act) : ∀ (x p : Ex), p ∈ partsX atom act x → p ∈ leftX x
  | .leaf n, p, h => by
    unfold partsX at h
    unfold leftX
    split at h
    · rw [if_pos (by omega)]; exact h
    · cases h
  | .pls a b, p, h => by
    rcases List.mem_append.1 h with h | h
    · exact List.mem_append.2 (.inl (parts_left h16 a p h))
    · exact List.mem_append.2 (.inr (parts_left h16 b p h))
  | .thn a b, p, h => by
    rcases List.mem_append.1 h with h | h
    · obtain ⟨q, hq, rfl⟩ := List.mem_map.1 h
      exact List.mem_append.2 (.inl (List.mem_map.2 ⟨q, parts_left h16 a q hq, rfl⟩))
    · split at h
      · exact List.mem_append.2 (.inr (parts_left h16 b p h))
      · cases h
  | .str a, p, h => by
    obtain ⟨q, hq, rfl⟩ := List.mem_map.1 h
    exact List.mem_map.2 ⟨q, parts_left h16 a q hq, rfl⟩
theorem left_left {atom : Nat} {act : Int} (h16 : 16 ≤ act) : ∀ (x p : Ex), p ∈ leftX x → ∀ q ∈ partsX atom act p, q ∈ leftX x
  | .leaf n, p, h, q, hq => by
    unfold leftX at h
    split at h
    · obtain rfl := List.mem_singleton.1 h
      unfold partsX at hq
      rw [if_neg (by omega)] at hq
      cases hq
    · cases h
  | .pls a b, p, h, q, hq => by
    rcases List.mem_append.1 h with h | h
    · exact List.mem_append.2 (.inl (left_left h16 a p h q hq))
    · exact List.mem_append.2 (.inr (left_left h16 b p h q hq))
  | .thn a b, p, h, q, hq => by
    rcases List.mem_append.1 h with h | h
    · obtain ⟨r, hr, rfl⟩ := List.mem_map.1 h
      rcases behX_cases r b with ⟨rfl, e⟩ | e
      · rw [e] at hq
        exact List.mem_append.2 (.inr (parts_left h16 b q hq))
      · rw [e] at hq
        rcases List.mem_append.1 hq with hq | hq
        · obtain ⟨s, hs, rfl⟩ := List.mem_map.1 hq
          exact List.mem_append.2 (.inl (List.mem_map.2 ⟨s, left_left h16 a r hr s hs, rfl⟩))
        · split at hq
          · exact List.mem_append.2 (.inr (parts_left h16 b q hq))
          · cases hq
    · exact List.mem_append.2 (.inr (left_left h16 b p h q hq))
  | .str a, p, h, q, hq => by
    obtain ⟨r, hr, rfl⟩ := List.mem_map.1 h
    have hs : ∀ q ∈ partsX atom act (.str a), q ∈ leftX (.str a) := fun q hq => parts_left h16 (.str a) q hq
    rcases behX_cases r (.str a) with ⟨rfl, e⟩ | e
    · rw [e] at hq; exact hs q hq
    · rw [e] at hq
      rcases List.mem_append.1 hq with hq | hq
      · obtain ⟨s, hs', rfl⟩ := List.mem_map.1 hq
        exact List.mem_map.2 ⟨s, left_left h16 a r hr s hs', rfl⟩
      · split at hq
        · exact hs q hq
        · cases hq
theorem steps_behX_len (p b : Ex) : (behX p b).steps.length ≤ p.steps.length + b.steps.length + 1 := by rw [behX_steps]; exact behL_len _ _
theorem sq_add (a b : Nat) : (a + b + 1) * (a + b + 1) = a * a + b * b + 2 * (a * b) + 2 * a + 2 * b + 1 := by
  simp only [Nat.add_mul, Nat.mul_add, Nat.mul_comm b a]
  omega
theorem leftX_steps : ∀ (x p : Ex), p ∈ leftX x → p.steps.length ≤ x.steps.length * x.steps.length + 1
  | .leaf n, p, h => by
    unfold leftX at h
    split at h
    · obtain rfl := List.mem_singleton.1 h; simp [Ex.steps]
    · cases h
  | .pls a b, p, h => by
    have e : (Ex.pls a b).steps.length = a.steps.length + b.steps.length + 1 := by simp only [Ex.steps, List.length_append, List.length_cons, List.length_nil]; omega
    rw [e, sq_add]
    rcases List.mem_append.1 h with h | h
    · have := leftX_steps a p h; omega
    · have := leftX_steps b p h; omega
  | .thn a b, p, h => by
    have e : (Ex.thn a b).steps.length = a.steps.length + b.steps.length + 1 := by simp only [Ex.steps, List.length_append, List.length_cons, List.length_nil]; omega
    have hb := Nat.mul_self_le_mul_self (Nat.zero_le b.steps.length)
    rw [e, sq_add]
    rcases List.mem_append.1 h with h | h
    · obtain ⟨q, hq, rfl⟩ := List.mem_map.1 h
      have h1 := leftX_steps a q hq
      have h2 := steps_behX_len q b
      omega
    · have := leftX_steps b p h; omega
  | .str a, p, h => by
    have e : (Ex.str a).steps.length = a.steps.length + 0 + 1 := by simp only [Ex.steps, List.length_append, List.length_cons, List.length_nil]
    obtain ⟨q, hq, rfl⟩ := List.mem_map.1 h
    have h1 := leftX_steps a q hq
    have h2 := steps_behX_len q (.str a)
    have h3 := a.steps_pos
    have h4 := sq_add a.steps.length 0
    rw [e] at h2 ⊢
    omega
end Go.Proofs.Ytehdfifncbokeaa

namespace Go.Proofs.Ytehdfifncbokeaa
set_option linter.unusedSimpArgs false
set_option linter.unusedVariables false
set_option maxRecDepth 8000
set_option maxHeartbeats 2000000
open Go.RowKit

def exOf (t : List Int) : Ex := match runS t [] with
  | some [x] => x
  | _ => .leaf 0
theorem exOf_steps {x : Ex} (h : x.wf) : exOf x.steps = x := by simp [exOf, runS_steps x h]
def partsOfL (atom : Nat) (act : Int) (t : List Int) : LL := partsL atom act (exOf t)
theorem partsOfL_steps {x : Ex} (h : x.wf) (atom : Nat) (act : Int) : partsOfL atom act x.steps = partsL atom act x := by rw [partsOfL, exOf_steps h]

def add1 (out : LL) (p : List Int) : LL := if p ∈ out then out else out ++ [p]
def addNew (out ps : LL) : LL := ps.foldl add1 out
def roundL (out : LL) (t : List Int) : Nat → LL
  | 0 => out
  | m + 1 => addNew (roundL out t m) (partsOfL (m / 3) (16 + ((m % 3 : Nat) : Int)) t)
def allTo (e : List Int) : Nat → LL
  | 0 => [e]
  | k + 1 => match (allTo e k)[k]? with
    | some t => roundL (allTo e k) t 12
    | none => allTo e k
def allL (e : List Int) : LL := allTo e 41
def InLeft (x : Ex) (t : List Int) : Prop := ∃ p : Ex, p.wf ∧ p.steps = t ∧ (p = x ∨ p ∈ leftX x)
theorem InLeft.parts {x : Ex} (hx : x.wf) {t s : List Int} (h : InLeft x t) {atom : Nat} {act : Int} (h16 : 16 ≤ act) (hs : s ∈ partsOfL atom act t) : InLeft x s := by
  obtain ⟨p, hp, rfl, hl⟩ := h
  rw [partsOfL_steps hp] at hs
  obtain ⟨q, hq, rfl, hq2⟩ := mem_partsL_wf hp hs
  refine ⟨q, hq, rfl, .inr ?_⟩
  rcases hl with rfl | hl
  · exact parts_left h16 _ q hq2
  · exact left_left h16 x p hl q hq2
theorem nodup_len {α : Type} [BEq α] [LawfulBEq α] : ∀ {l m : List α}, l.Nodup → (∀ x ∈ l, x ∈ m) → l.length ≤ m.length
  | [], _, _, _ => by simp
  | a :: l, m, h, hs => by
    have h' := List.nodup_cons.1 h
    have ha := hs a (by simp)
    have h1 : l.length ≤ (m.erase a).length := nodup_len h'.2 fun x hx => (List.mem_erase_of_ne (fun e => by subst e; exact h'.1 hx)).2 (hs x (by simp [hx]))
    rw [List.length_erase_of_mem ha] at h1
    have := List.length_pos_of_mem ha
    simp only [List.length_cons]; omega
theorem InLeft.len {x : Ex} {t : List Int} (h : InLeft x t) : t.length ≤ x.steps.length * x.steps.length + 1 := by
  obtain ⟨p, _, rfl, hp⟩ := h
  rcases hp with rfl | hp
  · have := Nat.mul_le_mul_left p.steps.length p.steps_pos
    omega
  · exact leftX_steps x p hp
end Go.Proofs.Ytehdfifncbokeaa

namespace Go.Proofs.Ytehdfifncbokeaa
set_option linter.unusedSimpArgs false
set_option linter.unusedVariables false
set_option maxRecDepth 8000
set_option maxHeartbeats 2000000
open Go.RowKit

end Go.Proofs.Ytehdfifncbokeaa

namespace Go.Proofs.Ytehdfifncbokeaa
set_option linter.unusedSimpArgs false
set_option linter.unusedVariables false
set_option maxRecDepth 8000
set_option maxHeartbeats 2000000
open Go.RowKit

def sumB (p : Nat → Bool) : Nat → Nat
  | 0 => 0
  | J + 1 => sumB p J + (p J).toNat * 2 ^ J
end Go.Proofs.Ytehdfifncbokeaa

namespace Go.Proofs.Ytehdfifncbokeaa
set_option linter.unusedSimpArgs false
set_option linter.unusedVariables false
set_option maxRecDepth 8000
set_option maxHeartbeats 2000000

theorem katB_tree {e : List Int} (hk : katB e = true) : ∃ x : Ex, x.wf ∧ x.steps = e ∧ e.length ≤ 40 := by
  obtain ⟨h40, x, hs⟩ := katB_true.1 hk
  have hfl := runS_flat _ _ _ hs
  exact ⟨x, (hfl.2 trivial).1, by simpa [flat] using hfl.1, by simpa using h40⟩

theorem InLeft.tree {x : Ex} {t : List Int} (h : InLeft x t) : ∃ p : Ex, p.wf ∧ p.steps = t ∧ exOf t = p := by
  obtain ⟨p, hp, rfl, _⟩ := h
  exact ⟨p, hp, rfl, exOf_steps hp⟩
theorem InLeft.short {x : Ex} (hl : x.steps.length ≤ 40) {t : List Int} (h : InLeft x t) : t.length ≤ 1601 := by
  have h3 := h.len
  have h4 := Nat.mul_le_mul hl hl
  omega
theorem flatMap_take {s : LL} {f : List Int → LL} {k : Nat} (h : k < s.length) : (s.take (k + 1)).flatMap f = (s.take k).flatMap f ++ f s[k] := by
  rw [List.take_succ_eq_append_getElem h, List.flatMap_append]; simp
theorem flatMap_len {s : LL} {f : List Int → LL} {C : Nat} (h : ∀ t ∈ s, (f t).length ≤ C) : (s.flatMap f).length ≤ s.length * C := by
  induction s with
  | nil => simp
  | cons a l ih =>
    have h1 := h a (by simp)
    have h2 := ih fun t ht => h t (by simp [ht])
    simp only [List.flatMap_cons, List.length_append, List.length_cons, Nat.add_mul, Nat.one_mul]
    omega

def hasP (l left : LL) (j : Nat) : Bool := decide (l.getD j [] ∈ left)
def setN (l left : LL) : Nat := sumB (hasP l left) l.length
def leftM (t : List Int) (m : Nat) : LL := partsOfL (m / 3) (16 + ((m % 3 : Nat) : Int)) t
def rowM (l : LL) (t : List Int) (k : Nat) : List Int := (List.range k).map fun m => ((setN l (leftM t m) : Nat) : Int)
def endsM (l : LL) : List Int := l.map fun t => ((endX (exOf t) : Nat) : Int)
def autoL (l : LL) : AutoD := ⟨endsM l, l.map fun t => rowM l t 12⟩
noncomputable def autD (e : List Int) : AutoD := if katB e = true ∧ (allL e).length ≤ 10 then autoL (allL e) else ⟨[], []⟩
end Go.Proofs.Ytehdfifncbokeaa

namespace Go.Proofs.Ytehdfifncbokeaa
set_option linter.unusedSimpArgs false
set_option linter.unusedVariables false
set_option maxRecDepth 8000
set_option maxHeartbeats 2000000
open Go.RowKit

theorem lexLt_app : ∀ (a b x y : List Int), a.length = b.length → lexLt (a ++ x) (b ++ y) = (lexLt a b || (decide (a = b) && lexLt x y))
  | [], [], x, y, _ => by simp [lexLt]
  | a :: l, b :: m, x, y, h => by
    have h' : l.length = m.length := by simpa using h
    rw [List.cons_append, List.cons_append, lexLt_cons, lexLt_cons, lexLt_app l m x y h']
    by_cases e : a = b
    · subst e; simp
    · simp [e]

def wdL : Nat → Nat → List Int
  | 0, _ => []
  | n + 1, c => wdL n (c / 12) ++ [((c % 12 / 3 : Nat) : Int), ((16 + c % 12 % 3 : Nat) : Int)]
theorem wdL_len : ∀ n c, (wdL n c).length = 2 * n
  | 0, _ => rfl
  | n + 1, c => by rw [wdL, List.length_append, wdL_len n]; simp; omega
theorem wdL_inj : ∀ n {c d : Nat}, c < 12 ^ n → d < 12 ^ n → wdL n c = wdL n d → c = d
  | 0, c, d, hc, hd, _ => by simp at hc hd; omega
  | n + 1, c, d, hc, hd, h => by
    rw [Nat.pow_succ] at hc hd
    rw [wdL, wdL] at h
    obtain ⟨h1, h2⟩ := List.append_inj h (by rw [wdL_len, wdL_len])
    have := wdL_inj n (c := c / 12) (d := d / 12) (by omega) (by omega) h1
    simp only [List.cons.injEq, and_true] at h2
    omega
theorem wdL_lt : ∀ n {c d : Nat}, c < 12 ^ n → d < 12 ^ n → lexLt (wdL n c) (wdL n d) = decide (c < d)
  | 0, c, d, hc, hd => by simp at hc hd; subst hc hd; rfl
  | n + 1, c, d, hc, hd => by
    rw [Nat.pow_succ] at hc hd
    rw [wdL, wdL, lexLt_app _ _ _ _ (by rw [wdL_len, wdL_len]), wdL_lt n (by omega) (by omega)]
    by_cases e : c / 12 = d / 12
    · rw [e]
      simp only [lexLt_cons, decide_true, Bool.true_and, Nat.lt_irrefl, decide_false, Bool.false_or]
      by_cases e1 : c % 12 / 3 = d % 12 / 3
      · rw [if_pos (by rw [e1])]
        by_cases e2 : c % 12 % 3 = d % 12 % 3
        · rw [if_pos (by rw [e2])]
          rw [lexLt_irrefl]; symm; rw [decide_eq_false_iff_not]; omega
        · rw [if_neg (by omega)]
          rw [decide_eq_decide]; omega
      · rw [if_neg (by omega)]
        rw [decide_eq_decide]; omega
    · have hne : ¬ wdL n (c / 12) = wdL n (d / 12) := fun h => e (wdL_inj n (by omega) (by omega) h)
      rw [decide_eq_false hne, Bool.false_and, Bool.or_false, decide_eq_decide]
      omega

def trcL (n c : Nat) : List Int := wdL n (c / 4) ++ [((c % 4 : Nat) : Int)]
theorem trcL_len (n c : Nat) : (trcL n c).length = 2 * n + 1 := by rw [trcL, List.length_append, wdL_len]; rfl
theorem trcL_lt (n : Nat) {c d : Nat} (hc : c < 12 ^ n * 4) (hd : d < 12 ^ n * 4) : lexLt (trcL n c) (trcL n d) = decide (c < d) := by
  rw [trcL, trcL, lexLt_app _ _ _ _ (by rw [wdL_len, wdL_len]), wdL_lt n (by omega) (by omega)]
  by_cases e : c / 4 = d / 4
  · rw [e]
    simp only [lexLt_cons, decide_true, Bool.true_and, Nat.lt_irrefl, decide_false, Bool.false_or]
    by_cases e2 : c % 4 = d % 4
    · rw [if_pos (by rw [e2]), lexLt_irrefl]; symm; rw [decide_eq_false_iff_not]; omega
    · rw [if_neg (by omega), decide_eq_decide]; omega
  · have hne : ¬ wdL n (c / 4) = wdL n (d / 4) := fun h => e (wdL_inj n (by omega) (by omega) h)
    rw [decide_eq_false hne, Bool.false_and, Bool.or_false, decide_eq_decide]
    omega

section
variable {σ : Type} (stp : σ → Nat → σ) (s0 : σ) (fin : σ → Nat)

def stA : Nat → Nat → σ
  | 0, _ => s0
  | n + 1, c => stp (stA n (c / 12)) (c % 12)
def AccW (n c : Nat) : Prop := c < 12 ^ n * 4 ∧ (fin (stA stp s0 n (c / 4))).testBit (c % 4) = true
def NoneW (n : Nat) : Prop := ∀ n', n' < n → ∀ c, ¬ AccW stp s0 fin n' c
def ShW (n c : Nat) : Prop := AccW stp s0 fin n c ∧ NoneW stp s0 fin n ∧ ∀ c', AccW stp s0 fin n c' → c ≤ c'
theorem NoneW.zero : NoneW stp s0 fin 0 := fun _ h => absurd h (by omega)
variable {stp s0 fin}
theorem ShW.unique {n c n' c' : Nat} (h : ShW stp s0 fin n c) (h' : ShW stp s0 fin n' c') : n = n' ∧ c = c' := by
  have e : n = n' := by
    by_cases h1 : n < n'
    · exact absurd h.1 (h'.2.1 n h1 c)
    · by_cases h2 : n' < n
      · exact absurd h'.1 (h.2.1 n' h2 c')
      · omega
  subst e
  have := h.2.2 _ h'.1
  have := h'.2.2 _ h.1
  exact ⟨rfl, by omega⟩
theorem least {p : Nat → Prop} : ∀ k, p k → ∃ m, m ≤ k ∧ p m ∧ ∀ j, j < m → ¬ p j := by
  intro k
  induction k using Nat.strongRecOn with
  | ind k ih =>
    intro h
    by_cases g : ∃ j, j < k ∧ p j
    · obtain ⟨j, hj, hp⟩ := g
      obtain ⟨m, h1, h2⟩ := ih j hj hp
      exact ⟨m, by omega, h2⟩
    · exact ⟨k, Nat.le_refl _, h, fun j hj hp => g ⟨j, hj, hp⟩⟩
theorem ShW.exists {n c : Nat} (h : AccW stp s0 fin n c) : ∃ n' c', n' ≤ n ∧ ShW stp s0 fin n' c' := by
  obtain ⟨m, hm, ⟨d, hd⟩, hl⟩ := least (p := fun n => ∃ c, AccW stp s0 fin n c) n ⟨c, h⟩
  obtain ⟨d', _, hd', hl'⟩ := least (p := fun c => AccW stp s0 fin m c) d hd
  refine ⟨m, d', hm, hd', fun n' hn' c' hc' => hl n' hn' ⟨c', hc'⟩, fun c' hc' => ?_⟩
  by_cases g : c' < d'
  · exact absurd hc' (hl' c' g)
  · omega
end

def ShR {σ : Type} (stp : σ → Nat → σ) (s0 : σ) (fin : σ → Nat) (t : List Int) (ok : Bool) : Prop :=
  (ok = true ∧ ∃ n c, n ≤ 20 ∧ ShW stp s0 fin n c ∧ t = trcL n c) ∨ (ok = false ∧ t = [] ∧ NoneW stp s0 fin 21)
section
variable {σ : Type} {stp : σ → Nat → σ} {s0 : σ} {fin : σ → Nat}
theorem ShR.unique {t t' : List Int} {ok ok' : Bool} (h : ShR stp s0 fin t ok) (h' : ShR stp s0 fin t' ok') : t = t' ∧ ok = ok' := by
  rcases h with ⟨rfl, n, c, h20, h, rfl⟩ | ⟨rfl, rfl, h⟩
  · rcases h' with ⟨rfl, n', c', h20', h', rfl⟩ | ⟨rfl, rfl, h'⟩
    · obtain ⟨rfl, rfl⟩ := h.unique h'
      exact ⟨rfl, rfl⟩
    · exact absurd h.1 (h' n (by omega) c)
  · rcases h' with ⟨rfl, n', c', h20', h', rfl⟩ | ⟨rfl, rfl, h'⟩
    · exact absurd h'.1 (h n' (by omega) c')
    · exact ⟨rfl, rfl⟩
variable (stp s0 fin)
theorem ShR.exists : ∃ t ok, ShR stp s0 fin t ok := by
  by_cases g : NoneW stp s0 fin 21
  · exact ⟨_, _, .inr ⟨rfl, rfl, g⟩⟩
  · have : ∃ n c, n < 21 ∧ AccW stp s0 fin n c := by
      apply Classical.byContradiction
      intro h
      exact g fun n hn c hc => h ⟨n, c, hn, hc⟩
    obtain ⟨n, c, hn, hc⟩ := this
    obtain ⟨n', c', h1, h2⟩ := ShW.exists hc
    exact ⟨_, _, .inl ⟨rfl, n', c', by omega, h2, rfl⟩⟩
noncomputable def shT : List Int := (ShR.exists stp s0 fin).choose
noncomputable def shB : Bool := (ShR.exists stp s0 fin).choose_spec.choose
theorem sh_spec : ShR stp s0 fin (shT stp s0 fin) (shB stp s0 fin) := (ShR.exists stp s0 fin).choose_spec.choose_spec
variable {stp s0 fin}
theorem ShR.eq {t : List Int} {ok : Bool} (h : ShR stp s0 fin t ok) : t = shT stp s0 fin ∧ ok = shB stp s0 fin := h.unique (sh_spec stp s0 fin)
theorem ShR.len {t : List Int} {ok : Bool} (h : ShR stp s0 fin t ok) : t.length ≤ 41 := by
  rcases h with ⟨rfl, n, c, h20, h, rfl⟩ | ⟨rfl, rfl, h⟩
  · rw [trcL_len]; omega
  · simp

structure LvW (stp : σ → Nat → σ) (s0 : σ) (R : Nat → Prop) (n : Nat) (L : List Nat) : Prop where
  lt : ∀ c ∈ L, c < 12 ^ n
  ord : L.Pairwise (· < ·)
  inj : (L.map (stA stp s0 n)).Nodup
  all : ∀ c, c < 12 ^ n → R c → ∃ c' ∈ L, c' ≤ c ∧ stA stp s0 n c' = stA stp s0 n c
theorem LvW.get_lt {R : Nat → Prop} {n : Nat} {L : List Nat} (h : LvW stp s0 R n L) {i j : Nat} (hj : j < L.length) (hij : i < j) : L[i]'(by omega) < L[j] :=
  List.pairwise_iff_getElem.1 h.ord i j (by omega) hj hij
def SeekW (stp : σ → Nat → σ) (s0 : σ) (fin : σ → Nat) (n : Nat) (L : List Nat) (i a : Nat) : Prop :=
  ∀ j (hj : j < L.length) b, b < 4 → (j < i ∨ j = i ∧ b < a) → (fin (stA stp s0 n L[j])).testBit b = false
theorem SeekW.atom {n : Nat} {L : List Nat} {i a : Nat} (h : SeekW stp s0 fin n L i a) (hi : i < L.length) (hf : (fin (stA stp s0 n L[i])).testBit a = false) : SeekW stp s0 fin n L i (a + 1) := by
  intro j hj b hb hc
  by_cases e : j = i ∧ b = a
  · obtain ⟨rfl, rfl⟩ := e; exact hf
  · exact h j hj b hb (by omega)
theorem SeekW.none {R : Nat → Prop} {n : Nat} {L : List Nat} {i : Nat} (hL : LvW stp s0 R n L) (h : SeekW stp s0 fin n L i 0) (hn : NoneW stp s0 fin n) (hR : ∀ c, AccW stp s0 fin n c → R (c / 4)) (hi : i = L.length) : NoneW stp s0 fin (n + 1) := by
  intro n' hn' c hc
  by_cases e : n' = n
  · subst e
    obtain ⟨d, hd, hdc, hs⟩ := hL.all (c / 4) (by have := hc.1; omega) (hR _ hc)
    obtain ⟨j, hj, rfl⟩ := List.getElem_of_mem hd
    have hc2 := hc.2
    rw [← hs, h j hj (c % 4) (by omega) (.inl (by omega))] at hc2; cases hc2
  · exact hn n' (by omega) c hc

def BestW (stp : σ → Nat → σ) (s0 : σ) (fin : σ → Nat) (n : Nat) (L : List Nat) (i a : Nat) (best : List Int) : Prop :=
  (best = [] ∧ ∀ j (hj : j < L.length) b, b < 4 → (j < i ∨ j = i ∧ a ≤ b) → (fin (stA stp s0 n L[j])).testBit b = false) ∨
  ∃ k, ∃ hk : k < L.length, ∃ d, d < 4 ∧ (k < i ∨ k = i ∧ a ≤ d) ∧ (fin (stA stp s0 n L[k])).testBit d = true ∧ best = trcL n (L[k] * 4 + d) ∧
    ∀ j (hj : j < L.length) b, b < 4 → (j < i ∨ j = i ∧ a ≤ b) → (fin (stA stp s0 n L[j])).testBit b = true → L[k] * 4 + d ≤ L[j] * 4 + b
theorem BestW.skip {n : Nat} {L : List Nat} {i a : Nat} {best : List Int} (h : BestW stp s0 fin n L i (a + 1) best) (hi : i < L.length) (hf : (fin (stA stp s0 n L[i])).testBit a = false) : BestW stp s0 fin n L i a best := by
  rcases h with ⟨rfl, h⟩ | ⟨k, hk, d, hd, hp, ht, rfl, h⟩
  · refine .inl ⟨rfl, fun j hj b hb hc => ?_⟩
    by_cases e : j = i ∧ b = a
    · obtain ⟨rfl, rfl⟩ := e; exact hf
    · exact h j hj b hb (by omega)
  · refine .inr ⟨k, hk, d, hd, by omega, ht, rfl, fun j hj b hb hc hb2 => ?_⟩
    by_cases e : j = i ∧ b = a
    · obtain ⟨rfl, rfl⟩ := e; rw [hf] at hb2; cases hb2
    · exact h j hj b hb (by omega) hb2
theorem BestW.step {R : Nat → Prop} {n : Nat} {L : List Nat} {i a : Nat} {best : List Int} (hL : LvW stp s0 R n L) (h : BestW stp s0 fin n L i (a + 1) best) (hi : i < L.length) (ha : a < 4) (ht : (fin (stA stp s0 n L[i])).testBit a = true) :
    BestW stp s0 fin n L i a (if best.length = 0 ∨ lexLt (trcL n (L[i] * 4 + a)) best = true then trcL n (L[i] * 4 + a) else best) := by
  have hli := hL.lt _ (List.getElem_mem hi)
  rcases h with ⟨rfl, h⟩ | ⟨k, hk, d, hd, hp, hkt, rfl, h⟩
  · rw [if_pos (.inl rfl)]
    refine .inr ⟨i, hi, a, ha, by omega, ht, rfl, fun j hj b hb hc hb2 => ?_⟩
    by_cases e : j = i ∧ b = a
    · obtain ⟨rfl, rfl⟩ := e; omega
    · rw [h j hj b hb (by omega)] at hb2; cases hb2
  · have hlk := hL.lt _ (List.getElem_mem hk)
    rw [trcL_lt n (by omega) (by omega), trcL_len]
    by_cases e : L[i] * 4 + a < L[k] * 4 + d
    · rw [if_pos (.inr (by simpa using e))]
      refine .inr ⟨i, hi, a, ha, by omega, ht, rfl, fun j hj b hb hc hb2 => ?_⟩
      by_cases e2 : j = i ∧ b = a
      · obtain ⟨rfl, rfl⟩ := e2; omega
      · have := h j hj b hb (by omega) hb2
        omega
    · rw [if_neg (by simp; omega)]
      refine .inr ⟨k, hk, d, hd, by omega, hkt, rfl, fun j hj b hb hc hb2 => ?_⟩
      by_cases e2 : j = i ∧ b = a
      · obtain ⟨rfl, rfl⟩ := e2; omega
      · exact h j hj b hb (by omega) hb2
theorem BestW.len {n : Nat} {L : List Nat} {i a : Nat} {best : List Int} (h : BestW stp s0 fin n L i a best) : best.length ≤ 2 * n + 1 := by
  rcases h with ⟨rfl, h⟩ | ⟨k, hk, d, hd, hp, hkt, rfl, h⟩
  · simp
  · rw [trcL_len]; omega
theorem BestW.none {R : Nat → Prop} {n : Nat} {L : List Nat} {i : Nat} {best : List Int} (hL : LvW stp s0 R n L) (h : BestW stp s0 fin n L i 4 best) (hn : NoneW stp s0 fin n) (hR : ∀ c, AccW stp s0 fin n c → R (c / 4)) (hi : i = L.length) (h0 : best.length = 0) : NoneW stp s0 fin (n + 1) := by
  rcases h with ⟨rfl, h⟩ | ⟨k, hk, d, hd, hp, hkt, rfl, h⟩
  · intro n' hn' c hc
    by_cases e : n' = n
    · subst e
      obtain ⟨x, hx, hxc, hs⟩ := hL.all (c / 4) (by have := hc.1; omega) (hR _ hc)
      obtain ⟨j, hj, rfl⟩ := List.getElem_of_mem hx
      have hc2 := hc.2
      rw [← hs, h j hj (c % 4) (by omega) (.inl (by omega))] at hc2; cases hc2
    · exact hn n' (by omega) c hc
  · rw [trcL_len] at h0; omega

structure NextW (stp : σ → Nat → σ) (s0 : σ) (Z : σ → Prop) (n : Nat) (L : List Nat) (i m : Nat) (F : List Nat) : Prop where
  ord : F.Pairwise (· < ·)
  inj : (F.map (stA stp s0 (n + 1))).Nodup
  src : ∀ f ∈ F, ¬ Z (stA stp s0 (n + 1) f) ∧ ∃ j, ∃ hj : j < L.length, ∃ b, b < 12 ∧ (j < i ∨ j = i ∧ b < m) ∧ f = L[j] * 12 + b
  all : ∀ j (hj : j < L.length) b, b < 12 → (j < i ∨ j = i ∧ b < m) → Z (stA stp s0 (n + 1) (L[j] * 12 + b)) ∨ ∃ f ∈ F, f ≤ L[j] * 12 + b ∧ stA stp s0 (n + 1) f = stA stp s0 (n + 1) (L[j] * 12 + b)
theorem NextW.skip {Z : σ → Prop} {n : Nat} {L : List Nat} {i m : Nat} {F : List Nat} {R : Nat → Prop} (hL : LvW stp s0 R n L) (h : NextW stp s0 Z n L i m F) (hi : i < L.length) (hz : Z (stA stp s0 (n + 1) (L[i] * 12 + m)) ∨ ∃ f ∈ F, stA stp s0 (n + 1) f = stA stp s0 (n + 1) (L[i] * 12 + m)) : NextW stp s0 Z n L i (m + 1) F :=
  ⟨h.ord, h.inj, fun f hf => by
    obtain ⟨h1, j, hj, b, hb, hc, e⟩ := h.src f hf
    exact ⟨h1, j, hj, b, hb, by omega, e⟩, fun j hj b hb hc => by
      by_cases e : j = i ∧ b = m
      · obtain ⟨rfl, rfl⟩ := e
        rcases hz with hz | ⟨f, hf, hz⟩
        · exact .inl hz
        · refine .inr ⟨f, hf, ?_, hz⟩
          obtain ⟨h1, j', hj', b', hb', hc', rfl⟩ := h.src f hf
          by_cases e2 : j' = j
          · subst e2; omega
          · have := hL.get_lt hj (show j' < j by omega)
            omega
      · exact h.all j hj b hb (by omega)⟩
theorem NextW.add {Z : σ → Prop} {n : Nat} {L : List Nat} {i m : Nat} {F : List Nat} {R : Nat → Prop} (hL : LvW stp s0 R n L) (h : NextW stp s0 Z n L i m F) (hi : i < L.length) (hm : m < 12) (hz : ¬ Z (stA stp s0 (n + 1) (L[i] * 12 + m))) (hf : ∀ f ∈ F, stA stp s0 (n + 1) f ≠ stA stp s0 (n + 1) (L[i] * 12 + m)) : NextW stp s0 Z n L i (m + 1) (F ++ [L[i] * 12 + m]) :=
  ⟨by
    rw [List.pairwise_append]
    refine ⟨h.ord, by simp, fun f hf y hy => ?_⟩
    simp only [List.mem_cons, List.not_mem_nil, or_false] at hy
    subst hy
    obtain ⟨h1, j', hj', b', hb', hc', rfl⟩ := h.src f hf
    by_cases e2 : j' = i
    · subst e2; omega
    · have := hL.get_lt hi (show j' < i by omega)
      omega, by
    rw [List.map_append, List.nodup_append]
    refine ⟨h.inj, by simp, fun x hx y hy => ?_⟩
    simp only [List.map_cons, List.map_nil, List.mem_cons, List.not_mem_nil, or_false] at hy
    subst hy
    obtain ⟨f, hf1, rfl⟩ := List.mem_map.1 hx
    exact hf f hf1, fun f hf => by
    rcases List.mem_append.1 hf with hf | hf
    · obtain ⟨h1, j, hj, b, hb, hc, e⟩ := h.src f hf
      exact ⟨h1, j, hj, b, hb, by omega, e⟩
    · simp only [List.mem_cons, List.not_mem_nil, or_false] at hf
      subst hf
      exact ⟨hz, i, hi, m, hm, by omega, rfl⟩, fun j hj b hb hc => by
      by_cases e : j = i ∧ b = m
      · obtain ⟨rfl, rfl⟩ := e
        exact .inr ⟨_, by simp, Nat.le_refl _, rfl⟩
      · rcases h.all j hj b hb (by omega) with hz | ⟨f, hf, h1⟩
        · exact .inl hz
        · exact .inr ⟨f, by simp [hf], h1⟩⟩
theorem NextW.lt {Z : σ → Prop} {n : Nat} {L : List Nat} {i m : Nat} {F : List Nat} {R : Nat → Prop} (hL : LvW stp s0 R n L) (h : NextW stp s0 Z n L i m F) : ∀ f ∈ F, f < 12 ^ (n + 1) := fun f hf => by
  obtain ⟨h1, j', hj', b', hb', hc', rfl⟩ := h.src f hf
  have := hL.lt _ (List.getElem_mem hj')
  rw [Nat.pow_succ]; omega

def SeenW (stp : σ → Nat → σ) (s0 : σ) (n : Nat) (x : σ) : Prop := ∃ n', n' ≤ n ∧ ∃ c, c < 12 ^ n' ∧ stA stp s0 n' c = x
def NewW (stp : σ → Nat → σ) (s0 : σ) (n c : Nat) : Prop := ∀ n', n' < n → ∀ c', c' < 12 ^ n' → stA stp s0 n' c' ≠ stA stp s0 n c
theorem NewW.acc {n c : Nat} (hn : NoneW stp s0 fin n) (h : AccW stp s0 fin n c) : NewW stp s0 n (c / 4) := by
  intro n' hn' c' hc' e
  refine hn n' hn' (c' * 4 + c % 4) ⟨by omega, ?_⟩
  have h1 : (c' * 4 + c % 4) / 4 = c' := by omega
  have h2 : (c' * 4 + c % 4) % 4 = c % 4 := by omega
  rw [h1, h2, e]; exact h.2
theorem SeenW.next {n : Nat} {L F : List Nat} (hL : LvW stp s0 (NewW stp s0 n) n L) (hF : LvW stp s0 (NewW stp s0 (n + 1)) (n + 1) F) (x : σ) : SeenW stp s0 (n + 1) x ↔ SeenW stp s0 n x ∨ ∃ f ∈ F, stA stp s0 (n + 1) f = x := by
  constructor
  · rintro ⟨n', hn', c, hc, rfl⟩
    by_cases e : n' ≤ n
    · exact .inl ⟨n', e, c, hc, rfl⟩
    · obtain rfl : n' = n + 1 := by omega
      by_cases g : NewW stp s0 (n + 1) c
      · obtain ⟨f, hf, _, h2⟩ := hF.all c hc g
        exact .inr ⟨f, hf, h2⟩
      · left
        apply Classical.byContradiction
        intro hs
        exact g fun n' hn' c' hc' e => hs ⟨n', by omega, c', hc', e⟩
  · rintro (⟨n', hn', c, hc, rfl⟩ | ⟨f, hf, rfl⟩)
    · exact ⟨n', by omega, c, hc, rfl⟩
    · exact ⟨n + 1, Nat.le_refl _, f, hF.lt f hf, rfl⟩
theorem SeenW.zero (x : σ) : SeenW stp s0 0 x ↔ x = s0 := by
  constructor
  · rintro ⟨n', hn', c, hc, rfl⟩
    obtain rfl : n' = 0 := by omega
    rfl
  · rintro rfl; exact ⟨0, Nat.le_refl _, 0, by simp, rfl⟩
end
end Go.Proofs.Ytehdfifncbokeaa
