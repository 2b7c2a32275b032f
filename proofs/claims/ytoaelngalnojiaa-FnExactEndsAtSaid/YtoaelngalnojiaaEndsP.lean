/- Plain facts on where an expression may end, and on the parts that its last step takes. No program in sight. -/
import Derived.Test.YtoaelngalnojiaaKatP
namespace Go.Proofs.Ytoaelngalnojiaa
open Go.RowKit

def Ex.op : Ex → Int
  | .leaf n => n
  | .thn _ _ => 19
  | .pls _ _ => 20
  | .str _ => 21
/-- The expressions that the last step takes, the last one first. -/
def Ex.kids : Ex → List Ex
  | .leaf _ => []
  | .thn a b => [b, a]
  | .pls a b => [b, a]
  | .str a => [a]
theorem flat_kids (x : Ex) (r : List Ex) : flat (x :: r) = flat (x.kids ++ r) ++ [x.op] := by
  cases x <;> simp [flat, Ex.kids, Ex.op, Ex.steps]
theorem takes_op {x : Ex} (h : x.wf) : takesN x.op = x.kids.length := by
  cases x with
  | leaf n => exact takesN_leaf h.2
  | thn a b => simp [takesN, Ex.op, Ex.kids]
  | pls a b => simp [takesN, Ex.op, Ex.kids]
  | str a => simp [takesN, Ex.op, Ex.kids]
theorem kids_wf {x : Ex} {r : List Ex} (h : x.wf) (hr : allWf r) : allWf (x.kids ++ r) := by
  cases x with
  | leaf n => exact hr
  | thn a b => exact ⟨h.2, h.1, hr⟩
  | pls a b => exact ⟨h.2, h.1, hr⟩
  | str a => exact ⟨h, hr⟩
theorem flat_len (r : List Ex) : r.length ≤ (flat r).length := by
  induction r with
  | nil => simp
  | cons x r ih => have := x.steps_pos; simp only [flat, List.length_append, List.length_cons]; omega

def endX : Ex → Nat
  | .leaf n => if n ≤ 15 then n.toNat else 0
  | .thn a b => endX a &&& endX b
  | .pls a b => endX a ||| endX b
  | .str _ => 15
theorem endX_lt : ∀ {x : Ex}, x.wf → endX x < 16
  | .leaf n, h => by
    unfold endX
    have := h.1; have := h.2
    split <;> omega
  | .thn a b, h => Nat.lt_of_le_of_lt Nat.and_le_left (endX_lt h.1)
  | .pls a b, h => by
    have := Nat.or_lt_two_pow (n := 4) (by simpa using endX_lt h.1) (by simpa using endX_lt h.2)
    simpa [endX] using this
  | .str a, _ => by simp [endX]

/-- In the list e the first k steps are the list L, and behind it all of these expressions. -/
structure SpanAt (e L : List Int) (k : Nat) (ys : List Ex) : Prop where
  le : k ≤ e.length
  eq : e.take k = L ++ flat ys
  wf : allWf ys
theorem SpanAt.nil {e L : List Int} {k : Nat} (h : SpanAt e L k []) : k = L.length := by
  have := congrArg List.length h.eq
  simp only [List.length_take, flat, List.append_nil] at this
  have := h.le
  omega
theorem SpanAt.cons {e L : List Int} {k : Nat} {y : Ex} {r : List Ex} (h : SpanAt e L k (y :: r)) :
    ∃ j, k = j + 1 ∧ nth e j = y.op ∧ takesN y.op = y.kids.length ∧ SpanAt e L j (y.kids ++ r) := by
  have hl := congrArg List.length h.eq
  rw [flat_kids] at hl
  simp only [List.length_take, List.length_append, List.length_cons, List.length_nil] at hl
  have hle := h.le
  obtain ⟨j, rfl⟩ : ∃ j, k = j + 1 := ⟨k - 1, by omega⟩
  have he := h.eq
  rw [take_succ_nth e (by omega), flat_kids, ← List.append_assoc] at he
  have h2 := List.append_inj' he rfl
  refine ⟨j, rfl, by have := h2.2; injection this, takes_op h.wf.1, ⟨by omega, h2.1, kids_wf h.wf.1 h.wf.2⟩⟩
theorem SpanAt.len {e L : List Int} {k : Nat} {ys : List Ex} (h : SpanAt e L k ys) : ys.length ≤ k := by
  have hl := congrArg List.length h.eq
  simp only [List.length_take, List.length_append] at hl
  have := flat_len ys
  have := h.le
  omega

theorem nth_left {l m : List Int} {k : Nat} (h : k < l.length) : nth (l ++ m) k = nth l k := by simp only [nth, List.getD, List.getElem?_append_left h]
theorem nth_right (l m : List Int) (k : Nat) : nth (l ++ m) (l.length + k) = nth m k := by simp only [nth, List.getD, List.getElem?_append_right (Nat.le_add_right _ _), Nat.add_sub_cancel_left]

theorem runS_take {e : List Int} {k : Nat} {st : List Ex} {x : Ex} (hk : k < e.length) (h : runS (e.take k) [] = some st) (hx : runS e [] = some [x]) :
    ∃ st', push (nth e k) st = some st' ∧ runS (e.take (k + 1)) [] = some st' := by
  have h1 := hx
  rw [← List.take_append_drop (k + 1) e, runS_append, take_succ_nth e hk, runS_append, h, Option.bind_some, runS_one] at h1
  cases hp : push (nth e k) st with
  | none => rw [hp] at h1; cases h1
  | some st' => exact ⟨st', rfl, by rw [take_succ_nth e hk, runS_append, h, Option.bind_some, runS_one, hp]⟩
theorem push_inv {n : Int} {st st' : List Ex} (h : push n st = some st') :
    (0 ≤ n ∧ n ≤ 18 ∧ st' = .leaf n :: st) ∨ (n = 19 ∧ ∃ a b r, st = b :: a :: r ∧ st' = .thn a b :: r) ∨ (n = 20 ∧ ∃ a b r, st = b :: a :: r ∧ st' = .pls a b :: r) ∨ (n = 21 ∧ ∃ a r, st = a :: r ∧ st' = .str a :: r) := by
  by_cases h0 : 0 ≤ n ∧ n ≤ 18
  · rw [push_leaf h0.1 h0.2] at h
    injection h with h
    exact .inl ⟨h0.1, h0.2, h.symm⟩
  by_cases h1 : 0 ≤ n ∧ n ≤ 21
  case neg => rw [push_out h1] at h; cases h
  have h3 : n = 19 ∨ n = 20 ∨ n = 21 := by omega
  rcases h3 with rfl | rfl | rfl
  · match st, h with
    | b :: a :: r, h => rw [push_thn] at h; injection h with h; exact .inr (.inl ⟨rfl, a, b, r, rfl, h.symm⟩)
    | [_], h => simp [push] at h
    | [], h => simp [push] at h
  · match st, h with
    | b :: a :: r, h => rw [push_pls] at h; injection h with h; exact .inr (.inr (.inl ⟨rfl, a, b, r, rfl, h.symm⟩))
    | [_], h => simp [push] at h
    | [], h => simp [push] at h
  · match st, h with
    | a :: r, h => rw [push_str] at h; injection h with h; exact .inr (.inr (.inr ⟨rfl, a, r, rfl, h.symm⟩))
    | [], h => simp [push] at h

/-- What the program keeps of a stack: where each expression on it may end, the lowest first. -/
def vals : List Ex → List Value
  | [] => []
  | x :: r => vals r ++ [.int .i64 ((endX x : Nat) : Int)]
theorem vals_len (r : List Ex) : (vals r).length = r.length := by
  induction r with
  | nil => rfl
  | cons x r ih => simp [vals, ih]
theorem vals_top (x : Ex) (r : List Ex) : (vals (x :: r))[r.length]? = some (.int .i64 ((endX x : Nat) : Int)) := by
  rw [← vals_len r]; simp [vals]
theorem vals_next (x y : Ex) (r : List Ex) : (vals (x :: y :: r))[r.length]? = some (.int .i64 ((endX y : Nat) : Int)) := by
  rw [← vals_len r]; simp [vals]

end Go.Proofs.Ytoaelngalnojiaa
