/- Plain facts on expressions: the steps of an expression, and the stack on which steps are read. No program in sight. -/
import Derived.Test.YtoaelngalnojiaaBits
namespace Go.Proofs.Ytoaelngalnojiaa
open Go.RowKit

inductive Ex where
  | leaf (n : Int)
  | thn (a b : Ex)
  | pls (a b : Ex)
  | str (a : Ex)

def Ex.steps : Ex → List Int
  | .leaf n => [n]
  | .thn a b => a.steps ++ (b.steps ++ [19])
  | .pls a b => a.steps ++ (b.steps ++ [20])
  | .str a => a.steps ++ [21]
def Ex.wf : Ex → Prop
  | .leaf n => 0 ≤ n ∧ n ≤ 18
  | .thn a b => a.wf ∧ b.wf
  | .pls a b => a.wf ∧ b.wf
  | .str a => a.wf
theorem Ex.steps_pos (x : Ex) : 0 < x.steps.length := by cases x <;> simp [Ex.steps] <;> omega

def takesN (n : Int) : Nat := if n = 19 ∨ n = 20 then 2 else if n = 21 then 1 else 0
theorem takesN_leaf {n : Int} (h : n ≤ 18) : takesN n = 0 := by unfold takesN; rw [if_neg (by omega), if_neg (by omega)]
theorem takesN_le (n : Int) : takesN n ≤ 2 := by
  unfold takesN
  split
  · omega
  · split <;> omega

def push (n : Int) (st : List Ex) : Option (List Ex) :=
  if 0 ≤ n ∧ n ≤ 18 then some (.leaf n :: st)
  else match st with
    | [] => none
    | b :: r => if n = 21 then some (.str b :: r)
      else match r with
        | [] => none
        | a :: r' => if n = 19 then some (.thn a b :: r') else if n = 20 then some (.pls a b :: r') else none
theorem push_leaf {n : Int} {st : List Ex} (h0 : 0 ≤ n) (h : n ≤ 18) : push n st = some (.leaf n :: st) := by unfold push; rw [if_pos ⟨h0, h⟩]
theorem push_thn (a b : Ex) (r : List Ex) : push 19 (b :: a :: r) = some (.thn a b :: r) := by simp [push]
theorem push_pls (a b : Ex) (r : List Ex) : push 20 (b :: a :: r) = some (.pls a b :: r) := by simp [push]
theorem push_str (a : Ex) (r : List Ex) : push 21 (a :: r) = some (.str a :: r) := by simp [push]
theorem push_some {n : Int} {st : List Ex} (h0 : 0 ≤ n) (h1 : n ≤ 21) (h : takesN n ≤ st.length) : ∃ st', push n st = some st' ∧ st'.length + takesN n = st.length + 1 := by
  by_cases h18 : n ≤ 18
  · exact ⟨_, push_leaf h0 h18, by rw [takesN_leaf h18]; rfl⟩
  · have h3 : n = 19 ∨ n = 20 ∨ n = 21 := by omega
    rcases h3 with rfl | rfl | rfl
    · match st, h with
      | b :: a :: r, _ => exact ⟨_, push_thn a b r, rfl⟩
      | [_], h => simp [takesN] at h
      | [], h => simp [takesN] at h
    · match st, h with
      | b :: a :: r, _ => exact ⟨_, push_pls a b r, rfl⟩
      | [_], h => simp [takesN] at h
      | [], h => simp [takesN] at h
    · match st, h with
      | a :: r, _ => exact ⟨_, push_str a r, rfl⟩
      | [], h => simp [takesN] at h
theorem push_out {n : Int} {st : List Ex} (h : ¬ (0 ≤ n ∧ n ≤ 21)) : push n st = none := by
  unfold push
  rw [if_neg (by omega)]
  match st with
  | [] => rfl
  | [b] => simp only; rw [if_neg (by omega)]
  | b :: a :: r => simp only; rw [if_neg (by omega), if_neg (by omega), if_neg (by omega)]
theorem push_few {n : Int} {st : List Ex} (h : st.length < takesN n) : push n st = none := by
  have h18 : ¬ n ≤ 18 := fun h' => by rw [takesN_leaf h'] at h; omega
  unfold push
  rw [if_neg (by omega)]
  match st, h with
  | [], _ => rfl
  | [b], h =>
    simp only
    rw [if_neg]
    rintro rfl
    simp [takesN] at h
  | b :: a :: r, h => have := takesN_le n; simp only [List.length_cons] at h; omega

def runS : List Int → List Ex → Option (List Ex)
  | [], st => some st
  | n :: l, st => (push n st).bind (runS l)
theorem runS_append (l m : List Int) : ∀ st, runS (l ++ m) st = (runS l st).bind (runS m) := by
  induction l with
  | nil => intro st; rfl
  | cons n l ih =>
    intro st
    show (push n st).bind (runS (l ++ m)) = ((push n st).bind (runS l)).bind (runS m)
    cases push n st with
    | none => rfl
    | some st' => exact ih st'
theorem runS_one (n : Int) (st : List Ex) : runS [n] st = push n st := by
  show (push n st).bind (runS []) = _
  cases push n st <;> rfl
theorem runS_steps : ∀ (x : Ex), x.wf → ∀ st, runS x.steps st = some (x :: st)
  | .leaf n, h, st => by rw [Ex.steps, runS_one, push_leaf h.1 h.2]
  | .thn a b, h, st => by rw [Ex.steps, runS_append, runS_steps a h.1, Option.bind_some, runS_append, runS_steps b h.2, Option.bind_some, runS_one, push_thn]
  | .pls a b, h, st => by rw [Ex.steps, runS_append, runS_steps a h.1, Option.bind_some, runS_append, runS_steps b h.2, Option.bind_some, runS_one, push_pls]
  | .str a, h, st => by rw [Ex.steps, runS_append, runS_steps a h, Option.bind_some, runS_one, push_str]
/-- The steps of all that is on the stack, the lowest first. -/
def flat : List Ex → List Int
  | [] => []
  | x :: r => flat r ++ x.steps
def allWf : List Ex → Prop
  | [] => True
  | x :: r => x.wf ∧ allWf r
theorem push_flat {n : Int} {st st' : List Ex} (h : push n st = some st') : flat st' = flat st ++ [n] ∧ (allWf st → allWf st') := by
  by_cases h0 : 0 ≤ n ∧ n ≤ 18
  · rw [push_leaf h0.1 h0.2] at h
    injection h with h; subst h
    exact ⟨rfl, fun hw => ⟨h0, hw⟩⟩
  · by_cases h1 : 0 ≤ n ∧ n ≤ 21
    · have h3 : n = 19 ∨ n = 20 ∨ n = 21 := by omega
      rcases h3 with rfl | rfl | rfl
      · match st, h with
        | [], h => simp [push] at h
        | [_], h => simp [push] at h
        | b :: a :: r, h =>
          rw [push_thn] at h
          injection h with h; subst h
          exact ⟨by simp [flat, Ex.steps], fun hw => ⟨⟨hw.2.1, hw.1⟩, hw.2.2⟩⟩
      · match st, h with
        | [], h => simp [push] at h
        | [_], h => simp [push] at h
        | b :: a :: r, h =>
          rw [push_pls] at h
          injection h with h; subst h
          exact ⟨by simp [flat, Ex.steps], fun hw => ⟨⟨hw.2.1, hw.1⟩, hw.2.2⟩⟩
      · match st, h with
        | [], h => simp [push] at h
        | b :: r, h =>
          rw [push_str] at h
          injection h with h; subst h
          exact ⟨by simp [flat, Ex.steps], fun hw => ⟨hw.1, hw.2⟩⟩
    · rw [push_out h1] at h; cases h
theorem runS_flat : ∀ (l : List Int) (st st' : List Ex), runS l st = some st' → flat st' = flat st ++ l ∧ (allWf st → allWf st')
  | [], st, st', h => by injection h with h; subst h; exact ⟨by simp, id⟩
  | n :: l, st, st', h => by
    unfold runS at h
    cases hp : push n st with
    | none => rw [hp] at h; cases h
    | some s1 =>
      rw [hp, Option.bind_some] at h
      have h1 := push_flat hp
      have h2 := runS_flat l s1 st' h
      exact ⟨by rw [h2.1, h1.1]; simp, fun hw => h2.2 (h1.2 hw)⟩

def KatOK (e : List Int) : Prop := e.length ≤ 40 ∧ ∃ x, runS e [] = some [x]
open Classical in
noncomputable def katB (e : List Int) : Bool := decide (KatOK e)
theorem katB_true {e : List Int} : katB e = true ↔ KatOK e := by simp [katB]
theorem katB_false {e : List Int} : katB e = false ↔ ¬ KatOK e := by simp [katB]
theorem KatOK.ex {e : List Int} (h : KatOK e) : ∃ x : Ex, x.wf ∧ e = x.steps ∧ e.length ≤ 40 := by
  obtain ⟨h1, x, h2⟩ := h
  have h3 := runS_flat e [] [x] h2
  exact ⟨x, (h3.2 trivial).1, by have := h3.1; simpa [flat] using this.symm, h1⟩
theorem KatOK.of {x : Ex} (h : x.wf) (hl : x.steps.length ≤ 40) : KatOK x.steps := ⟨hl, x, runS_steps x h []⟩
theorem steps_inj {x y : Ex} (hx : x.wf) (hy : y.wf) (h : x.steps = y.steps) : x = y := by
  have h1 := runS_steps x hx []
  rw [h, runS_steps y hy []] at h1
  injection h1 with h1
  injection h1 with h1
  exact h1.symm

theorem take_succ_nth (l : List Int) {k : Nat} (h : k < l.length) : l.take (k + 1) = l.take k ++ [nth l k] := by
  rw [List.take_succ_eq_append_getElem h]; simp [nth, List.getD, h]
/-- The first k steps leave this many expressions. -/
def depthAt (e : List Int) (k d : Nat) : Prop := ∃ st, runS (e.take k) [] = some st ∧ st.length = d
theorem depthAt_zero (e : List Int) : depthAt e 0 0 := ⟨[], rfl, rfl⟩
theorem depthAt_step {e : List Int} {k d : Nat} (h : depthAt e k d) (hk : k < e.length) (h0 : 0 ≤ nth e k) (h1 : nth e k ≤ 21) (ht : takesN (nth e k) ≤ d) : depthAt e (k + 1) (d + 1 - takesN (nth e k)) := by
  obtain ⟨st, hs, rfl⟩ := h
  obtain ⟨st', hp, hl⟩ := push_some (st := st) h0 h1 ht
  exact ⟨st', by rw [take_succ_nth e hk, runS_append, hs, Option.bind_some, runS_one, hp], by omega⟩
theorem depthAt_fail {e : List Int} {k d : Nat} (h : depthAt e k d) (hk : k < e.length) (hn : ¬ (0 ≤ nth e k ∧ nth e k ≤ 21) ∨ d < takesN (nth e k)) : ¬ KatOK e := by
  obtain ⟨st, hs, rfl⟩ := h
  rintro ⟨_, x, hx⟩
  have hp : push (nth e k) st = none := by
    rcases hn with hn | hn
    · exact push_out hn
    · exact push_few hn
  rw [← List.take_append_drop (k + 1) e, runS_append, take_succ_nth e hk, runS_append, hs, Option.bind_some, runS_one, hp] at hx
  cases hx
theorem depthAt_end {e : List Int} {d : Nat} (h : depthAt e e.length d) (hl : e.length ≤ 40) : katB e = decide (d = 1) := by
  obtain ⟨st, hs, rfl⟩ := h
  rw [List.take_length] at hs
  by_cases hd : st.length = 1
  · obtain ⟨x, rfl⟩ := List.length_eq_one_iff.1 hd
    rw [katB_true.2 ⟨hl, x, hs⟩]; simp
  · rw [katB_false.2]
    · simp [hd]
    · rintro ⟨_, x, hx⟩
      rw [hs] at hx
      injection hx with hx
      subst hx
      exact hd rfl
theorem depthAt_le {e : List Int} : ∀ {k d : Nat}, depthAt e k d → k ≤ e.length → d ≤ k
  | 0, d, ⟨st, hs, hd⟩, _ => by injection hs with hs; subst hs; subst hd; simp
  | k + 1, d, ⟨st, hs, hd⟩, hk => by
    rw [take_succ_nth e (by omega), runS_append] at hs
    cases h1 : runS (e.take k) [] with
    | none => rw [h1] at hs; cases hs
    | some s1 =>
      rw [h1, Option.bind_some, runS_one] at hs
      have := depthAt_le ⟨s1, h1, rfl⟩ (by omega : k ≤ e.length)
      have hl : st.length ≤ s1.length + 1 := by
        by_cases hr : 0 ≤ nth e k ∧ nth e k ≤ 21
        · by_cases ht : takesN (nth e k) ≤ s1.length
          · obtain ⟨st', hp, hl⟩ := push_some (st := s1) hr.1 hr.2 ht
            rw [hp] at hs; injection hs with hs; subst hs; omega
          · rw [push_few (by omega)] at hs; cases hs
        · rw [push_out hr] at hs; cases hs
      omega

end Go.Proofs.Ytoaelngalnojiaa
