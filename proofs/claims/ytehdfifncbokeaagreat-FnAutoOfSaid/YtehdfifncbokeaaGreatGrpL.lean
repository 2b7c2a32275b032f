/- How the reference draws, as plain functions of a code and a place in it. No program in sight. -/
import Derived.Test.YtehdfifncbokeaaGreatGrpJ
import Derived.Test.YtehdfifncbokeaaGreatGrpC
namespace Go.Proofs.YtehdfifncbokeaaGreat
set_option linter.unusedSimpArgs false
set_option linter.unusedVariables false
set_option maxRecDepth 8000
set_option maxHeartbeats 2000000

def pickX (bs : List Nat) (p n : Nat) : Nat :=
  if n < 1 ∨ bs.length = 0 then 0
  else if p < bs.length then bs.getD p 0 % n
  else
    let x := bs.getD (p % bs.length) 0 * 131 + bs.getD ((p * 7 + 3) % bs.length) 0 * 1117 + p * 29 + p / bs.length * 53
    (x ^^^ x / 64) % n

theorem pickX_lt {bs : List Nat} {p n : Nat} (h : 0 < n) : pickX bs p n < n := by
  unfold pickX
  split
  · exact h
  · split
    · exact Nat.mod_lt _ h
    · exact Nat.mod_lt _ h

def CodeOK (bs : List Nat) : Prop := bs.length ≤ 2000 ∧ ∀ b ∈ bs, b < 256

def oddX (bs : List Nat) (p n : Nat) : Bool × Nat := if 0 < n then (decide (pickX bs p n = n - 1), p + 1) else (false, p)

theorem oddX_p (bs : List Nat) (p n : Nat) : (oddX bs p n).2 ≤ p + 1 := by unfold oddX; split <;> simp

def testX (bs : List Nat) (p n : Nat) : Int × Nat :=
  let o := oddX bs p n
  if o.1 then (if pickX bs o.2 2 = 0 then -1 else 16, o.2 + 1)
  else
    let a := pickX bs o.2 16
    let b := pickX bs (o.2 + 1) 16
    (([10, 12, 5, 3, (a : Int), (b : Int), 15, 0] : List Int).getD (pickX bs (o.2 + 2) 8) 0, o.2 + 3)

theorem testX_p (bs : List Nat) (p n : Nat) : (testX bs p n).2 ≤ p + 4 := by
  have := oddX_p bs p n
  unfold testX
  dsimp only
  split <;> dsimp only <;> omega

def leafX (bs : List Nat) (p : Nat) : List Int × Nat :=
  if pickX bs p 3 = 0 then ([(testX bs (p + 1) 0).1], (testX bs (p + 1) 0).2) else ([16 + (pickX bs (p + 1) 3 : Int)], p + 2)

theorem leafX_p (bs : List Nat) (p : Nat) : (leafX bs p).2 ≤ p + 5 := by
  have := testX_p bs (p + 1) 0
  unfold leafX
  split <;> dsimp only <;> omega

theorem leafX_len (bs : List Nat) (p : Nat) : (leafX bs p).1.length = 1 := by
  unfold leafX
  split <;> rfl

def katStep (bs : List Nat) (out : List Int) (p : Nat) : List Int × Nat :=
  if pickX bs p 6 = 0 then (out ++ [21], p + 1)
  else if pickX bs p 6 = 1 then ((leafX bs (p + 1)).1 ++ out ++ [19], (leafX bs (p + 1)).2)
  else if pickX bs p 6 = 2 then ((leafX bs (p + 1)).1 ++ out ++ [20], (leafX bs (p + 1)).2)
  else if pickX bs p 6 = 3 then (out ++ (leafX bs (p + 1)).1 ++ [20], (leafX bs (p + 1)).2)
  else (out ++ (leafX bs (p + 1)).1 ++ [19], (leafX bs (p + 1)).2)

theorem katStep_p (bs : List Nat) (out : List Int) (p : Nat) : (katStep bs out p).2 ≤ p + 6 := by
  have := leafX_p bs (p + 1)
  unfold katStep
  repeat' split
  all_goals (dsimp only; omega)

theorem katStep_len (bs : List Nat) (out : List Int) (p : Nat) : out.length < (katStep bs out p).1.length ∧ (katStep bs out p).1.length ≤ out.length + 2 := by
  have := leafX_len bs (p + 1)
  unfold katStep
  repeat' split
  all_goals (simp only [List.length_append, List.length_cons, List.length_nil]; omega)

def katLoop (bs : List Nat) : Nat → List Int → Nat → List Int × Nat
  | 0, out, p => (out, p)
  | k + 1, out, p => if out.length < 38 then katLoop bs k (katStep bs out p).1 (katStep bs out p).2 else (out, p)

theorem katLoop_p (bs : List Nat) : ∀ (k : Nat) (out : List Int) (p : Nat), (katLoop bs k out p).2 ≤ p + 6 * k
  | 0, out, p => by simp [katLoop]
  | k + 1, out, p => by
    have h1 := katLoop_p bs k (katStep bs out p).1 (katStep bs out p).2
    have h2 := katStep_p bs out p
    unfold katLoop
    split <;> (try dsimp only) <;> omega

theorem katLoop_len (bs : List Nat) : ∀ (k : Nat) (out : List Int) (p : Nat), out.length ≤ 39 → (katLoop bs k out p).1.length ≤ 39
  | 0, out, p, h => h
  | k + 1, out, p, h => by
    have h2 := katStep_len bs out p
    unfold katLoop
    split
    · exact katLoop_len bs k _ _ (by omega)
    · exact h

def katX (bs : List Nat) (p parts n : Nat) : List Int × Nat :=
  let l := leafX bs p
  let s := katLoop bs (pickX bs l.2 (parts + 1)) l.1 (l.2 + 1)
  let o := oddX bs s.2 n
  if o.1 then
    if pickX bs o.2 5 = 0 then ([], o.2 + 1)
    else if pickX bs o.2 5 = 1 then (s.1 ++ [16], o.2 + 1)
    else if pickX bs o.2 5 = 2 then ([20] ++ s.1, o.2 + 1)
    else if pickX bs o.2 5 = 3 then (s.1 ++ [if pickX bs (o.2 + 1) 2 = 0 then -1 else 22], o.2 + 2)
    else (s.1 ++ List.replicate (41 - s.1.length) 21, o.2 + 1)
  else (s.1, o.2)

theorem katX_p (bs : List Nat) (p parts n : Nat) : (katX bs p parts n).2 ≤ p + 6 * parts + 20 := by
  have h1 := leafX_p bs p
  have h2 := katLoop_p bs (pickX bs (leafX bs p).2 (parts + 1)) (leafX bs p).1 ((leafX bs p).2 + 1)
  have h3 := pickX_lt (bs := bs) (p := (leafX bs p).2) (n := parts + 1) (by omega)
  have h4 := oddX_p bs (katLoop bs (pickX bs (leafX bs p).2 (parts + 1)) (leafX bs p).1 ((leafX bs p).2 + 1)).2 n
  unfold katX
  dsimp only
  repeat' split
  all_goals (dsimp only; omega)

theorem katX_len (bs : List Nat) (p parts n : Nat) : (katX bs p parts n).1.length ≤ 41 := by
  have h1 := leafX_len bs p
  have h2 := katLoop_len bs (pickX bs (leafX bs p).2 (parts + 1)) (leafX bs p).1 ((leafX bs p).2 + 1) (by omega)
  unfold katX
  dsimp only
  repeat' split
  all_goals (simp only [List.length_append, List.length_cons, List.length_nil, List.length_replicate]; omega)

end Go.Proofs.YtehdfifncbokeaaGreat

namespace Go.Proofs.YtehdfifncbokeaaGreat
set_option linter.unusedSimpArgs false
set_option linter.unusedVariables false
set_option maxRecDepth 8000
set_option maxHeartbeats 2000000

theorem KatOK.leaf {n : Int} (h : 0 ≤ n ∧ n ≤ 18) : KatOK [n] := KatOK.of (x := .leaf n) h (by simp [Ex.steps])
theorem KatOK.thn {a b : List Int} (ha : KatOK a) (hb : KatOK b) (h : a.length + b.length + 1 ≤ 40) : KatOK (a ++ (b ++ [19])) := by
  obtain ⟨x, hx, rfl, _⟩ := ha.ex
  obtain ⟨y, hy, rfl, _⟩ := hb.ex
  exact KatOK.of (x := .thn x y) ⟨hx, hy⟩ (by simp [Ex.steps]; omega)
theorem KatOK.pls {a b : List Int} (ha : KatOK a) (hb : KatOK b) (h : a.length + b.length + 1 ≤ 40) : KatOK (a ++ (b ++ [20])) := by
  obtain ⟨x, hx, rfl, _⟩ := ha.ex
  obtain ⟨y, hy, rfl, _⟩ := hb.ex
  exact KatOK.of (x := .pls x y) ⟨hx, hy⟩ (by simp [Ex.steps]; omega)
theorem KatOK.str {a : List Int} (ha : KatOK a) (h : a.length + 1 ≤ 40) : KatOK (a ++ [21]) := by
  obtain ⟨x, hx, rfl, _⟩ := ha.ex
  exact KatOK.of (x := .str x) hx (by simp [Ex.steps]; omega)

def ifL (t : Int) (a b : List Int) : List Int := ([t] ++ (a ++ [19])) ++ (([15 - t] ++ (b ++ [19])) ++ [20])
noncomputable def ifB (t : Int) (a b : List Int) : Bool := decide (0 ≤ t ∧ t ≤ 15) && katB a && katB b && katB (ifL t a b)
def whL (t : Int) (a : List Int) : List Int := (([t] ++ (a ++ [19])) ++ [21]) ++ ([15 - t] ++ [19])
noncomputable def whB (t : Int) (a : List Int) : Bool := decide (0 ≤ t ∧ t ≤ 15) && katB a && katB (whL t a)
noncomputable def thB (a b : List Int) : Bool := katB a && katB b && katB (a ++ (b ++ [19]))

noncomputable def nextX (bs : List Nat) (rec : Nat → List Int × Nat) (d : Bool) (p : Nat) : List Int × Nat :=
  let nx := [16 + (pickX bs p 3 : Int)]
  let p2 := if d then p + 2 else p + 1
  if d ∧ pickX bs (p + 1) 3 = 0 then
    let t := testX bs p2 0
    let a := rec t.2
    let b := rec a.2
    (if ifB t.1 a.1 b.1 then ifL t.1 a.1 b.1 else nx, b.2)
  else
    let p3 := if d then p2 + 1 else p2
    if d ∧ pickX bs p2 2 = 0 then
      let t := testX bs p3 0
      let a := rec t.2
      (if whB t.1 a.1 then whL t.1 a.1 else nx, a.2)
    else (if pickX bs p3 4 = 0 then [15] else nx, p3 + 1)

noncomputable def wstepX (bs : List Nat) (rec : Nat → List Int × Nat) (d : Bool) (out : List Int) (p : Nat) : List Int × Nat :=
  let s := nextX bs rec d p
  (if pickX bs s.2 4 = 0 then s.1 else if thB out s.1 then out ++ (s.1 ++ [19]) else out, s.2 + 1)

noncomputable def wloopX (bs : List Nat) (rec : Nat → List Int × Nat) (d : Bool) : Nat → List Int → Nat → List Int × Nat
  | 0, out, p => (out, p)
  | k + 1, out, p => wloopX bs rec d k (wstepX bs rec d out p).1 (wstepX bs rec d out p).2

noncomputable def whileX (bs : List Nat) : Nat → Nat → List Int × Nat
  | 0, p => wloopX bs (fun q => ([], q)) false (1 + pickX bs (p + 1) 2) [16 + (pickX bs p 3 : Int)] (p + 2)
  | d + 1, p => wloopX bs (whileX bs d) true (1 + pickX bs (p + 1) 2) [16 + (pickX bs p 3 : Int)] (p + 2)

noncomputable def progX (bs : List Nat) (p parts n : Nat) : List Int × Nat := if pickX bs p 2 = 0 then whileX bs 1 (p + 1) else katX bs (p + 1) parts n

theorem nextX_ok {bs : List Nat} {rec : Nat → List Int × Nat} {d : Bool} {p : Nat} : KatOK (nextX bs rec d p).1 := by
  have h2 := pickX_lt (bs := bs) (p := p) (n := 3) (by decide)
  have h3 : KatOK [16 + (pickX bs p 3 : Int)] := KatOK.leaf (by omega)
  have h4 : KatOK [15] := KatOK.leaf (by omega)
  have c1 : ∀ (t : Int) (a b : List Int), KatOK (if ifB t a b = true then ifL t a b else [16 + (pickX bs p 3 : Int)]) := fun t a b => by
    split
    · rename_i h; simp only [ifB, Bool.and_eq_true] at h; exact katB_true.1 h.2
    · exact h3
  have c2 : ∀ (t : Int) (a : List Int), KatOK (if whB t a = true then whL t a else [16 + (pickX bs p 3 : Int)]) := fun t a => by
    split
    · rename_i h; simp only [whB, Bool.and_eq_true] at h; exact katB_true.1 h.2
    · exact h3
  have c3 : ∀ k : Nat, KatOK (if k = 0 then [15] else [16 + (pickX bs p 3 : Int)]) := fun k => by
    split
    · exact h4
    · exact h3
  unfold nextX
  dsimp only
  cases d
  · simp only [Bool.false_eq_true, false_and, if_false]
    exact c3 _
  · simp only [true_and, if_true]
    by_cases hA : pickX bs (p + 1) 3 = 0
    · rw [if_pos hA]; exact c1 _ _ _
    · rw [if_neg hA]
      by_cases hB : pickX bs (p + 2) 2 = 0
      · rw [if_pos hB]; exact c2 _ _
      · rw [if_neg hB]; exact c3 _

theorem wstepX_ok {bs : List Nat} {rec : Nat → List Int × Nat} {d : Bool} {p : Nat} {out : List Int} (h : KatOK out) : KatOK (wstepX bs rec d out p).1 := by
  have h1 : KatOK (nextX bs rec d p).1 := nextX_ok
  unfold wstepX
  dsimp only
  split
  · exact h1
  · split
    · rename_i h; simp only [thB, Bool.and_eq_true] at h; exact katB_true.1 h.2
    · exact h

theorem wloopX_ok {bs : List Nat} {rec : Nat → List Int × Nat} {d : Bool} : ∀ (k : Nat) (out : List Int) (p : Nat), KatOK out → KatOK (wloopX bs rec d k out p).1
  | 0, out, p, h => h
  | k + 1, out, p, h => wloopX_ok k _ _ (wstepX_ok h)

theorem whileX_ok (bs : List Nat) (d p : Nat) : KatOK (whileX bs d p).1 := by
  have h2 := pickX_lt (bs := bs) (p := p) (n := 3) (by decide)
  have h3 : KatOK [16 + (pickX bs p 3 : Int)] := KatOK.leaf (by omega)
  cases d <;> exact wloopX_ok _ _ _ h3

theorem nextX_p {bs : List Nat} {rec : Nat → List Int × Nat} {d : Bool} {p C : Nat} (h : ∀ q, (rec q).2 ≤ q + C) : (nextX bs rec d p).2 ≤ p + 10 + 2 * C := by
  have h1 := testX_p bs (if d then p + 2 else p + 1) 0
  have h2 := testX_p bs (if d then (if d then p + 2 else p + 1) + 1 else (if d then p + 2 else p + 1)) 0
  have h3 := h (testX bs (if d then p + 2 else p + 1) 0).2
  have h4 := h (rec (testX bs (if d then p + 2 else p + 1) 0).2).2
  have h5 := h (testX bs (if d then (if d then p + 2 else p + 1) + 1 else (if d then p + 2 else p + 1)) 0).2
  unfold nextX
  dsimp only
  cases d
  · simp only [Bool.false_eq_true, false_and, if_false] at *
    omega
  · simp only [if_true, true_and] at *
    repeat' split
    all_goals (dsimp only; omega)

theorem wloopX_p {bs : List Nat} {rec : Nat → List Int × Nat} {d : Bool} {C : Nat} (h : ∀ q, (rec q).2 ≤ q + C) : ∀ (k : Nat) (out : List Int) (p : Nat), (wloopX bs rec d k out p).2 ≤ p + (11 + 2 * C) * k
  | 0, out, p => by simp [wloopX]
  | k + 1, out, p => by
    have h1 : (wloopX bs rec d k (wstepX bs rec d out p).1 (wstepX bs rec d out p).2).2 ≤ (wstepX bs rec d out p).2 + (11 + 2 * C) * k := wloopX_p h k _ _
    have h2 := nextX_p (bs := bs) (d := d) (p := p) h
    have h3 : (wstepX bs rec d out p).2 = (nextX bs rec d p).2 + 1 := rfl
    have h4 : (11 + 2 * C) * (k + 1) = (11 + 2 * C) * k + (11 + 2 * C) := Nat.mul_succ _ _
    unfold wloopX
    omega

theorem whileX_p0 (bs : List Nat) (p : Nat) : (whileX bs 0 p).2 ≤ p + 24 := by
  have h1 : (whileX bs 0 p).2 ≤ (p + 2) + (11 + 2 * 0) * (1 + pickX bs (p + 1) 2) := wloopX_p (fun q => Nat.le_refl q) _ _ _
  have h2 := pickX_lt (bs := bs) (p := p + 1) (n := 2) (by decide)
  have h3 : (11 + 2 * 0) * (1 + pickX bs (p + 1) 2) ≤ (11 + 2 * 0) * 2 := Nat.mul_le_mul_left _ (by omega)
  omega

theorem progX_len (bs : List Nat) (p parts n : Nat) : (progX bs p parts n).1.length ≤ 41 := by
  have h2 := katX_len bs (p + 1) parts n
  unfold progX
  split
  · have := (whileX_ok bs 1 (p + 1)).1; omega
  · exact h2

end Go.Proofs.YtehdfifncbokeaaGreat

namespace Go.Proofs.YtehdfifncbokeaaGreat
set_option linter.unusedSimpArgs false
set_option linter.unusedVariables false
set_option maxRecDepth 8000
set_option maxHeartbeats 2000000

theorem autoOK_of {D : AutoD} {n : Nat} (h0 : 1 ≤ n) (h1 : n ≤ 10) (h2 : D.ends.length = n) (h3 : D.next.length = n) (h4 : ∀ x ∈ D.ends, 0 ≤ x ∧ x ≤ 15) (h5 : ∀ r ∈ D.next, r.length = 12 ∧ ∀ x ∈ r, 0 ≤ x ∧ x ≤ 2 ^ n - 1) : AutoOK D := by
  have hn : ∀ k, k < D.ends.length → nthL D.next k ∈ D.next := fun k hk => by
    have : k < D.next.length := by omega
    simp [nthL, List.getD, List.getElem?_eq_getElem this]
  refine ⟨by omega, by omega, by omega, fun k hk => ?_, fun k hk => (h5 _ (hn k hk)).1, fun k hk j hj => ?_⟩
  · have : nth D.ends k ∈ D.ends := by simp [nth, List.getD, List.getElem?_eq_getElem hk]
    exact h4 _ this
  · have h6 := h5 _ (hn k hk)
    have hj' : j < (nthL D.next k).length := by omega
    have : nth (nthL D.next k) j ∈ nthL D.next k := by simp [nth, List.getD, List.getElem?_eq_getElem hj']
    rw [h2]
    exact h6.2 _ this

theorem autD_ok {e : List Int} (he : KatOK e) (h : (autD e).ends.length ≠ 0) : AutoOK (autD e) := by
  by_cases hc : katB e = true ∧ (allL e).length ≤ 10
  · rw [autD_yes hc.1 hc.2] at h ⊢
    obtain ⟨x, hx, rfl, hl⟩ := he.ex
    have hel : (autoL (allL x.steps)).ends.length = (allL x.steps).length := by simp [autoL, endsM]
    refine autoOK_of (n := (allL x.steps).length) (by omega) hc.2 hel (by simp [autoL]) (fun y hy => ?_) (fun r hr => ?_)
    · simp only [autoL, endsM, List.mem_map] at hy
      obtain ⟨t, ht, rfl⟩ := hy
      obtain ⟨y, hy, rfl, _⟩ := allL_left hx t ht
      rw [exOf_steps hy]
      have := endX_lt hy
      omega
    · simp only [autoL, List.mem_map] at hr
      obtain ⟨t, ht, rfl⟩ := hr
      refine ⟨rowM_len _ _ _, fun z hz => ?_⟩
      simp only [rowM, List.mem_map] at hz
      obtain ⟨m, _, rfl⟩ := hz
      have h1 : setN (allL x.steps) (leftM t m) < 2 ^ (allL x.steps).length := sumB_lt _ _
      have h5 : ((2 ^ (allL x.steps).length : Nat) : Int) = 2 ^ (allL x.steps).length := by push_cast; rfl
      generalize 2 ^ (allL x.steps).length = z at h1 h5
      rw [← h5]
      omega
  · rw [autD_no hc] at h
    exact absurd rfl h

end Go.Proofs.YtehdfifncbokeaaGreat

namespace Go.Proofs.YtehdfifncbokeaaGreat
set_option linter.unusedSimpArgs false
set_option linter.unusedVariables false
set_option maxRecDepth 8000
set_option maxHeartbeats 2000000

structure SmallA (D : AutoD) : Prop where
  e : D.ends.length ≤ 10
  n : D.next.length ≤ 10
  r : ∀ x ∈ D.next, x.length ≤ 12

theorem mem_nthL {l : List (List Int)} {x : List Int} (h : x ∈ l) : ∃ k, k < l.length ∧ nthL l k = x := by
  obtain ⟨k, hk, rfl⟩ := List.getElem_of_mem h
  exact ⟨k, hk, by simp [nthL, List.getD, List.getElem?_eq_getElem hk]⟩
theorem mem_nth {l : List Int} {x : Int} (h : x ∈ l) : ∃ k, k < l.length ∧ nth l k = x := by
  obtain ⟨k, hk, rfl⟩ := List.getElem_of_mem h
  exact ⟨k, hk, by simp [nth, List.getD, List.getElem?_eq_getElem hk]⟩

theorem AutoOK.small {D : AutoD} (h : AutoOK D) : SmallA D := by
  have h1 := h.len
  have h2 := h.hi
  refine ⟨h2, by omega, fun x hx => ?_⟩
  obtain ⟨k, hk, rfl⟩ := mem_nthL hx
  have := h.rows k (by omega)
  omega
theorem AutoOK.le {D : AutoD} (h : AutoOK D) : ∀ x ∈ D.next, ∀ y ∈ x, y ≤ 2 ^ D.ends.length := by
  intro x hx y hy
  obtain ⟨k, hk, rfl⟩ := mem_nthL hx
  obtain ⟨j, hj, rfl⟩ := mem_nth hy
  have h1 := h.len
  have h2 := h.rows k (by omega)
  have := (h.sets k (by omega) j (by omega)).2
  omega

end Go.Proofs.YtehdfifncbokeaaGreat
