/- How the reference draws, as plain functions of a code and a place in it. No program in sight. -/
import Derived.Test.YtehdfifncbokeaaGrpJ
import Derived.Test.YtehdfifncbokeaaGrpC
namespace Go.Proofs.Ytehdfifncbokeaa
set_option linter.unusedSimpArgs false
set_option linter.unusedVariables false
set_option maxRecDepth 8000
set_option maxHeartbeats 2000000

def pickX (bs : List Nat) (p n : Nat) : Nat :=
  if n < 1 ∨ bs.length = 0 then 0
  else if p < bs.length then bs.getD p 0 % n
  else
    let x := bs.getD (p % bs.length) 0 * 131 + bs.getD ((p * 7 + 3) % bs.length) 0 * 1117 + p * 29 + p / bs.length * 53
    (x ^^^ x / 64) % n

theorem pickX_lt {bs : List Nat} {p n : Nat} (h : 0 < n) : pickX bs p n < n := by
  unfold pickX
  split
  · exact h
  · split
    · exact Nat.mod_lt _ h
    · exact Nat.mod_lt _ h

def CodeOK (bs : List Nat) : Prop := bs.length ≤ 2000 ∧ ∀ b ∈ bs, b < 256

def oddX (bs : List Nat) (p n : Nat) : Bool × Nat := if 0 < n then (decide (pickX bs p n = n - 1), p + 1) else (false, p)

theorem oddX_p (bs : List Nat) (p n : Nat) : (oddX bs p n).2 ≤ p + 1 := by unfold oddX; split <;> simp

def testX (bs : List Nat) (p n : Nat) : Int × Nat :=
  let o := oddX bs p n
  if o.1 then (if pickX bs o.2 2 = 0 then -1 else 16, o.2 + 1)
  else
    let a := pickX bs o.2 16
    let b := pickX bs (o.2 + 1) 16
    (([10, 12, 5, 3, (a : Int), (b : Int), 15, 0] : List Int).getD (pickX bs (o.2 + 2) 8) 0, o.2 + 3)

theorem testX_p (bs : List Nat) (p n : Nat) : (testX bs p n).2 ≤ p + 4 := by
  have := oddX_p bs p n
  unfold testX
  dsimp only
  split <;> dsimp only <;> omega

def leafX (bs : List Nat) (p : Nat) : List Int × Nat :=
  if pickX bs p 3 = 0 then ([(testX bs (p + 1) 0).1], (testX bs (p + 1) 0).2) else ([16 + (pickX bs (p + 1) 3 : Int)], p + 2)

theorem leafX_p (bs : List Nat) (p : Nat) : (leafX bs p).2 ≤ p + 5 := by
  have := testX_p bs (p + 1) 0
  unfold leafX
  split <;> dsimp only <;> omega

theorem leafX_len (bs : List Nat) (p : Nat) : (leafX bs p).1.length = 1 := by
  unfold leafX
  split <;> rfl

def katStep (bs : List Nat) (out : List Int) (p : Nat) : List Int × Nat :=
  if pickX bs p 6 = 0 then (out ++ [21], p + 1)
  else if pickX bs p 6 = 1 then ((leafX bs (p + 1)).1 ++ out ++ [19], (leafX bs (p + 1)).2)
  else if pickX bs p 6 = 2 then ((leafX bs (p + 1)).1 ++ out ++ [20], (leafX bs (p + 1)).2)
  else if pickX bs p 6 = 3 then (out ++ (leafX bs (p + 1)).1 ++ [20], (leafX bs (p + 1)).2)
  else (out ++ (leafX bs (p + 1)).1 ++ [19], (leafX bs (p + 1)).2)

theorem katStep_p (bs : List Nat) (out : List Int) (p : Nat) : (katStep bs out p).2 ≤ p + 6 := by
  have := leafX_p bs (p + 1)
  unfold katStep
  repeat' split
  all_goals (dsimp only; omega)

theorem katStep_len (bs : List Nat) (out : List Int) (p : Nat) : out.length < (katStep bs out p).1.length ∧ (katStep bs out p).1.length ≤ out.length + 2 := by
  have := leafX_len bs (p + 1)
  unfold katStep
  repeat' split
  all_goals (simp only [List.length_append, List.length_cons, List.length_nil]; omega)

def katLoop (bs : List Nat) : Nat → List Int → Nat → List Int × Nat
  | 0, out, p => (out, p)
  | k + 1, out, p => if out.length < 38 then katLoop bs k (katStep bs out p).1 (katStep bs out p).2 else (out, p)

theorem katLoop_p (bs : List Nat) : ∀ (k : Nat) (out : List Int) (p : Nat), (katLoop bs k out p).2 ≤ p + 6 * k
  | 0, out, p => by simp [katLoop]
  | k + 1, out, p => by
    have h1 := katLoop_p bs k (katStep bs out p).1 (katStep bs out p).2
    have h2 := katStep_p bs out p
    unfold katLoop
    split <;> (try dsimp only) <;> omega

theorem katLoop_len (bs : List Nat) : ∀ (k : Nat) (out : List Int) (p : Nat), out.length ≤ 39 → (katLoop bs k out p).1.length ≤ 39
  | 0, out, p, h => h
  | k + 1, out, p, h => by
    have h2 := katStep_len bs out p
    unfold katLoop
    split
    · exact katLoop_len bs k _ _ (by omega)
    · exact h

def katX (bs : List Nat) (p parts n : Nat) : List Int × Nat :=
  let l := leafX bs p
  let s := katLoop bs (pickX bs l.2 (parts + 1)) l.1 (l.2 + 1)
  let o := oddX bs s.2 n
  if o.1 then
    if pickX bs o.2 5 = 0 then ([], o.2 + 1)
    else if pickX bs o.2 5 = 1 then (s.1 ++ [16], o.2 + 1)
    else if pickX bs o.2 5 = 2 then ([20] ++ s.1, o.2 + 1)
    else if pickX bs o.2 5 = 3 then (s.1 ++ [if pickX bs (o.2 + 1) 2 = 0 then -1 else 22], o.2 + 2)
    else (s.1 ++ List.replicate (41 - s.1.length) 21, o.2 + 1)
  else (s.1, o.2)

theorem katX_p (bs : List Nat) (p parts n : Nat) : (katX bs p parts n).2 ≤ p + 6 * parts + 20 := by
  have h1 := leafX_p bs p
  have h2 := katLoop_p bs (pickX bs (leafX bs p).2 (parts + 1)) (leafX bs p).1 ((leafX bs p).2 + 1)
  have h3 := pickX_lt (bs := bs) (p := (leafX bs p).2) (n := parts + 1) (by omega)
  have h4 := oddX_p bs (katLoop bs (pickX bs (leafX bs p).2 (parts + 1)) (leafX bs p).1 ((leafX bs p).2 + 1)).2 n
  unfold katX
  dsimp only
  repeat' split
  all_goals (dsimp only; omega)

theorem katX_len (bs : List Nat) (p parts n : Nat) : (katX bs p parts n).1.length ≤ 41 := by
  have h1 := leafX_len bs p
  have h2 := katLoop_len bs (pickX bs (leafX bs p).2 (parts + 1)) (leafX bs p).1 ((leafX bs p).2 + 1) (by omega)
  unfold katX
  dsimp only
  repeat' split
  all_goals (simp only [List.length_append, List.length_cons, List.length_nil, List.length_replicate]; omega)

end Go.Proofs.Ytehdfifncbokeaa

namespace Go.Proofs.Ytehdfifncbokeaa
set_option linter.unusedSimpArgs false
set_option linter.unusedVariables false
set_option maxRecDepth 8000
set_option maxHeartbeats 2000000

theorem KatOK.leaf {n : Int} (h : 0 ≤ n ∧ n ≤ 18) : KatOK [n] := KatOK.of (x := .leaf n) h (by simp [Ex.steps])
theorem KatOK.thn {a b : List Int} (ha : KatOK a) (hb : KatOK b) (h : a.length + b.length + 1 ≤ 40) : KatOK (a ++ (b ++ [19])) := by
  obtain ⟨x, hx, rfl, _⟩ := ha.ex
  obtain ⟨y, hy, rfl, _⟩ := hb.ex
  exact KatOK.of (x := .thn x y) ⟨hx, hy⟩ (by simp [Ex.steps]; omega)
theorem KatOK.pls {a b : List Int} (ha : KatOK a) (hb : KatOK b) (h : a.length + b.length + 1 ≤ 40) : KatOK (a ++ (b ++ [20])) := by
  obtain ⟨x, hx, rfl, _⟩ := ha.ex
  obtain ⟨y, hy, rfl, _⟩ := hb.ex
  exact KatOK.of (x := .pls x y) ⟨hx, hy⟩ (by simp [Ex.steps]; omega)
theorem KatOK.str {a : List Int} (ha : KatOK a) (h : a.length + 1 ≤ 40) : KatOK (a ++ [21]) := by
  obtain ⟨x, hx, rfl, _⟩ := ha.ex
  exact KatOK.of (x := .str x) hx (by simp [Ex.steps]; omega)

end Go.Proofs.Ytehdfifncbokeaa

namespace Go.Proofs.Ytehdfifncbokeaa
set_option linter.unusedSimpArgs false
set_option linter.unusedVariables false
set_option maxRecDepth 8000
set_option maxHeartbeats 2000000

end Go.Proofs.Ytehdfifncbokeaa

namespace Go.Proofs.Ytehdfifncbokeaa
set_option linter.unusedSimpArgs false
set_option linter.unusedVariables false
set_option maxRecDepth 8000
set_option maxHeartbeats 2000000

structure SmallA (D : AutoD) : Prop where
  e : D.ends.length ≤ 10
  n : D.next.length ≤ 10
  r : ∀ x ∈ D.next, x.length ≤ 12

theorem mem_nthL {l : List (List Int)} {x : List Int} (h : x ∈ l) : ∃ k, k < l.length ∧ nthL l k = x := by
  obtain ⟨k, hk, rfl⟩ := List.getElem_of_mem h
  exact ⟨k, hk, by simp [nthL, List.getD, List.getElem?_eq_getElem hk]⟩
theorem mem_nth {l : List Int} {x : Int} (h : x ∈ l) : ∃ k, k < l.length ∧ nth l k = x := by
  obtain ⟨k, hk, rfl⟩ := List.getElem_of_mem h
  exact ⟨k, hk, by simp [nth, List.getD, List.getElem?_eq_getElem hk]⟩

theorem AutoOK.small {D : AutoD} (h : AutoOK D) : SmallA D := by
  have h1 := h.len
  have h2 := h.hi
  refine ⟨h2, by omega, fun x hx => ?_⟩
  obtain ⟨k, hk, rfl⟩ := mem_nthL hx
  have := h.rows k (by omega)
  omega
theorem AutoOK.le {D : AutoD} (h : AutoOK D) : ∀ x ∈ D.next, ∀ y ∈ x, y ≤ 2 ^ D.ends.length := by
  intro x hx y hy
  obtain ⟨k, hk, rfl⟩ := mem_nthL hx
  obtain ⟨j, hj, rfl⟩ := mem_nth hy
  have h1 := h.len
  have h2 := h.rows k (by omega)
  have := (h.sets k (by omega) j (by omega)).2
  omega

end Go.Proofs.Ytehdfifncbokeaa
