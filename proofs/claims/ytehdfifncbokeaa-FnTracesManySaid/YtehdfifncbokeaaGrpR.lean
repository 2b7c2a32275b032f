/- What an expression says of the first and the last atom of its traces; and that its parts, one after the other, say the same. No program in sight. -/
import Derived.Test.YtehdfifncbokeaaGrpC
import Derived.Test.YtehdfifncbokeaaGrpN
import Derived.Test.YtehdfifncbokeaaGrpL
namespace Go.Proofs.Ytehdfifncbokeaa
set_option linter.unusedSimpArgs false
set_option linter.unusedVariables false
set_option maxRecDepth 8000
set_option maxHeartbeats 2000000
open Go.RowKit

inductive StarR (R : Nat → Nat → Prop) : Nat → Nat → Prop where
  | refl (a : Nat) : StarR R a a
  | step {a b c : Nat} (h : R a b) (hb : b < 4) (t : StarR R b c) : StarR R a c
inductive RelC : Ex → Nat → Nat → Prop where
  | fin {x : Ex} {a : Nat} (ha : a < 4) (h : (endX x).testBit a = true) : RelC x a a
  | step {x p : Ex} {a b c a' : Nat} (ha : a < 4) (hc : c < 3) (hp : p ∈ partsX a (16 + (c : Int)) x) (ha' : a' < 4) (h : RelC p a' b) : RelC x a b
theorem RelC.lt {x : Ex} {a b : Nat} (h : RelC x a b) : a < 4 ∧ b < 4 := by
  induction h with
  | fin ha h => exact ⟨ha, ha⟩
  | step ha hc hp ha' h ih => exact ⟨ha, ih.2⟩
theorem relC_leaf15 {a b : Nat} (h : RelC (.leaf 15) a b) : a = b := by
  cases h with
  | fin ha h => rfl
  | step ha hc hp ha' h =>
    simp only [partsX] at hp
    rw [if_neg (by omega)] at hp
    simp at hp
theorem RelC.left {x y : Ex} {a b : Nat} (h : RelC x a b) : RelC (.pls x y) a b := by
  cases h with
  | fin ha h => exact .fin ha (by simp only [endX, Nat.testBit_or, h, Bool.true_or])
  | step ha hc hp ha' h => exact .step ha hc (by simp only [partsX]; exact List.mem_append_left _ hp) ha' h
theorem RelC.right {x y : Ex} {a b : Nat} (h : RelC y a b) : RelC (.pls x y) a b := by
  cases h with
  | fin ha h => exact .fin ha (by simp only [endX, Nat.testBit_or, h, Bool.or_true])
  | step ha hc hp ha' h => exact .step ha hc (by simp only [partsX]; exact List.mem_append_right _ hp) ha' h
theorem RelC.beh {p y : Ex} {a b c : Nat} (h1 : RelC p a c) (h2 : RelC y c b) (ht : RelC (.thn p y) a b) : RelC (behX p y) a b := by
  rcases behX_cases p y with ⟨rfl, e⟩ | e
  · rw [e]
    have := relC_leaf15 h1
    subst this; exact h2
  · rw [e]; exact ht
theorem RelC.thn {x y : Ex} {a b c : Nat} (h1 : RelC x a c) (h2 : RelC y c b) : RelC (.thn x y) a b := by
  induction h1 with
  | fin ha h =>
    cases h2 with
    | fin hb g => exact .fin ha (by simp only [endX, Nat.testBit_and, h, g, Bool.true_and])
    | step hb hc hp ha' g => exact .step ha hc (by simp only [partsX]; rw [if_pos h]; exact List.mem_append_right _ hp) ha' g
  | step ha hc hp ha' h ih => exact .step ha hc (by simp only [partsX]; exact List.mem_append_left _ (List.mem_map.2 ⟨_, hp, rfl⟩)) ha' (RelC.beh h h2 (ih h2))
theorem RelC.str {x : Ex} {a b c : Nat} (h1 : RelC x a c) (h2 : RelC (.str x) c b) : RelC (.str x) a b := by
  cases h1 with
  | fin ha h => exact h2
  | step ha hc hp ha' h => exact .step ha hc (by simp only [partsX]; exact List.mem_map.2 ⟨_, hp, rfl⟩) ha' (RelC.beh h h2 (RelC.thn h h2))
end Go.Proofs.Ytehdfifncbokeaa

namespace Go.Proofs.Ytehdfifncbokeaa
set_option linter.unusedSimpArgs false
set_option linter.unusedVariables false
set_option maxRecDepth 8000
set_option maxHeartbeats 2000000
open Go.RowKit

section
variable {l : LL}
end

section
variable {l : LL} (hcl : ∀ u ∈ l, ∀ m, m < 12 → ∀ v ∈ leftM u m, v ∈ l) (hwf : ∀ u ∈ l, (exOf u).wf) {t : Nat} (ht : t ≤ 15)
include hcl hwf ht
end
section
variable {x : Ex} (hw : x.wf) (hl : x.steps.length ≤ 40) {t : Nat} (ht : t ≤ 15)
include hw hl ht
end

end Go.Proofs.Ytehdfifncbokeaa

namespace Go.Proofs.Ytehdfifncbokeaa
set_option linter.unusedSimpArgs false
set_option linter.unusedVariables false
set_option maxRecDepth 8000
set_option maxHeartbeats 2000000
open Go.RowKit

section
variable {σ : Type} [DecidableEq σ] (stp : σ → Nat → σ)
def addP (l : List σ) (x : σ) : List σ := if x ∈ l then l else l ++ [x]
def prM (l : List σ) (x : σ) : Nat → List σ
  | 0 => l
  | m + 1 => addP (prM l x m) (stp x m)
def prI : Nat → List σ → Nat → Option (List σ)
  | 0, l, _ => some l
  | f + 1, l, k => match l[k]? with
    | none => some l
    | some x => if 100 < (prM stp l x 12).length then none else prI f (prM stp l x 12) (k + 1)
def prF (s0 : σ) : Option (List σ) := prI stp 101 [s0] 0
variable {stp}
theorem addP_mem {l : List σ} {x y : σ} : y ∈ addP l x ↔ y ∈ l ∨ y = x := by
  unfold addP
  split
  · exact ⟨.inl, fun h => by rcases h with h | rfl; exact h; assumption⟩
  · simp
theorem addP_nodup {l : List σ} {x : σ} (h : l.Nodup) : (addP l x).Nodup := by
  unfold addP
  split
  · exact h
  · rename_i hx
    rw [List.nodup_append]
    exact ⟨h, by simp, fun a ha b hb => by simp at hb; subst hb; exact fun e => hx (e ▸ ha)⟩
theorem addP_pre (l : List σ) (x : σ) : l <+: addP l x := by
  unfold addP
  split
  · exact List.prefix_rfl
  · exact ⟨[x], rfl⟩
theorem prM_mem {l : List σ} {x y : σ} : ∀ {m : Nat}, y ∈ prM stp l x m ↔ y ∈ l ∨ ∃ j, j < m ∧ y = stp x j
  | 0 => by simp [prM]
  | m + 1 => by
    rw [prM, addP_mem, prM_mem]
    constructor
    · rintro ((h | ⟨j, hj, h⟩) | h)
      · exact .inl h
      · exact .inr ⟨j, by omega, h⟩
      · exact .inr ⟨m, by omega, h⟩
    · rintro (h | ⟨j, hj, h⟩)
      · exact .inl (.inl h)
      · by_cases e : j = m
        · subst e; exact .inr h
        · exact .inl (.inr ⟨j, by omega, h⟩)
theorem prM_nodup {l : List σ} {x : σ} (h : l.Nodup) : ∀ m, (prM stp l x m).Nodup
  | 0 => h
  | m + 1 => addP_nodup (prM_nodup h m)
theorem prM_pre (l : List σ) (x : σ) : ∀ m, l <+: prM stp l x m
  | 0 => List.prefix_rfl
  | m + 1 => (prM_pre l x m).trans (addP_pre _ _)
structure AtP (stp : σ → Nat → σ) (s0 : σ) (k : Nat) (l : List σ) : Prop where
  run : prI stp (101 - k) l k = prF stp s0
  le : k ≤ l.length
  hi : l.length ≤ 100
  nd : l.Nodup
  st : l[0]? = some s0
  cl : ∀ i (h : i < l.length), i < k → ∀ m, m < 12 → stp l[i] m ∈ l
theorem AtP.many {s0 : σ} {k : Nat} {l : List σ} (h : AtP stp s0 k l) (hk : k < l.length) (hm : 100 < (prM stp l l[k] 12).length) : prF stp s0 = none := by
  have hi := h.hi
  rw [← h.run, show 101 - k = (100 - k) + 1 by omega, prI, List.getElem?_eq_getElem hk]
  simp only
  rw [if_pos hm]
theorem AtP.next {s0 : σ} {k : Nat} {l : List σ} (h : AtP stp s0 k l) (hk : k < l.length) (hm : ¬ 100 < (prM stp l l[k] 12).length) : AtP stp s0 (k + 1) (prM stp l l[k] 12) := by
  have hi := h.hi
  obtain ⟨r, hr⟩ := prM_pre (stp := stp) l l[k] 12
  have hmem := fun y => prM_mem (stp := stp) (l := l) (x := l[k]) (y := y) (m := 12)
  have hnd := prM_nodup (stp := stp) (x := l[k]) h.nd 12
  have hrun : prI stp (100 - k) (prM stp l l[k] 12) (k + 1) = prF stp s0 := by
    rw [← h.run, show 101 - k = (100 - k) + 1 by omega, prI, List.getElem?_eq_getElem hk]
    simp only
    rw [if_neg hm]
  generalize prM stp l l[k] 12 = R at hr hmem hnd hrun hm ⊢
  have hpre : ∀ i (hi : i < l.length), R[i]? = some l[i] := fun i hi => by rw [← hr, List.getElem?_append_left hi, List.getElem?_eq_getElem hi]
  have hle : l.length ≤ R.length := by rw [← hr]; simp
  refine ⟨?_, by omega, by omega, hnd, ?_, fun i hi2 hik m hm12 => ?_⟩
  · rw [show 101 - (k + 1) = 100 - k by omega]; exact hrun
  · have h0 := h.st
    have : 0 < l.length := by omega
    rw [hpre 0 this]
    rw [List.getElem?_eq_getElem this] at h0
    exact h0
  · have e : R[i] = l[i]'(by omega) := by
      have := hpre i (by omega)
      rw [List.getElem?_eq_getElem hi2] at this
      exact Option.some.inj this
    rw [e, hmem]
    by_cases g : i = k
    · subst g
      exact .inr ⟨m, hm12, rfl⟩
    · exact .inl (h.cl i (by omega) (by omega) m hm12)
theorem AtP.done {s0 : σ} {k : Nat} {l : List σ} (h : AtP stp s0 k l) (hk : ¬ k < l.length) : prF stp s0 = some l := by
  have hi := h.hi
  have hle := h.le
  rw [← h.run, show 101 - k = (100 - k) + 1 by omega, prI, List.getElem?_eq_none (by omega)]
theorem AtP.ends {s0 : σ} : ∀ (f k : Nat) (l : List σ), 101 - k = f → AtP stp s0 k l → ∀ r, prF stp s0 = some r → AtP stp s0 r.length r
  | 0, k, l, hf, h, r, hr => by have := h.le; have := h.hi; omega
  | f + 1, k, l, hf, h, r, hr => by
    by_cases hk : k < l.length
    · by_cases hm : 100 < (prM stp l l[k] 12).length
      · rw [h.many hk hm] at hr; cases hr
      · exact AtP.ends f (k + 1) _ (by omega) (h.next hk hm) r hr
    · have hd := h.done hk
      rw [hd] at hr
      injection hr with hr
      subst hr
      have hle := h.le
      have : k = l.length := by omega
      rw [← this]; exact this ▸ h
end

def stepP (A B : AutoD) (p : Nat × Nat) (m : Nat) : Nat × Nat := (behF A p.1 m, behF B p.2 m)
def rowP2 (p : Nat × Nat) : List Int := [(p.1 : Int), (p.2 : Int)]
theorem rowP2_inj {p q : Nat × Nat} (h : rowP2 p = rowP2 q) : p = q := by
  simp only [rowP2, List.cons.injEq, and_true] at h
  exact Prod.ext (by omega) (by omega)
end Go.Proofs.Ytehdfifncbokeaa

namespace Go.Proofs.Ytehdfifncbokeaa
set_option linter.unusedSimpArgs false
set_option linter.unusedVariables false
set_option maxRecDepth 8000
set_option maxHeartbeats 2000000
open Go.RowKit

structure HasP (A B : AutoD) (L : List (List Int)) (k : Nat) (K : List (Nat × Nat)) : Prop where
  row : ∀ i (h : i < L.length), i < k → ∃ p ∈ K, L[i] = rowP2 p
  mem : ∀ p ∈ K, rowP2 p ∈ L ∧ p.1 < 2 ^ A.ends.length ∧ p.2 < 2 ^ B.ends.length
  len : K.length ≤ k
section
variable {A B : AutoD} {L : List (List Int)} {k : Nat} {K : List (Nat × Nat)}
theorem HasP.zero : HasP A B L 0 [] := ⟨fun i _ h => by omega, fun p hp => by simp at hp, Nat.le_refl _⟩
theorem HasP.new (h : HasP A B L k K) (hk : k < L.length) {p : Nat × Nat} (e : L[k] = rowP2 p) (b1 : p.1 < 2 ^ A.ends.length) (b2 : p.2 < 2 ^ B.ends.length) : HasP A B L (k + 1) (K ++ [p]) := by
  refine ⟨fun i hi hik => ?_, fun q hq => ?_, by have := h.len; simp; omega⟩
  · rcases Nat.lt_or_ge i k with g | g
    · obtain ⟨q, hq, e2⟩ := h.row i hi g
      exact ⟨q, List.mem_append_left _ hq, e2⟩
    · obtain rfl : i = k := by omega
      exact ⟨p, by simp, e⟩
  · rcases List.mem_append.1 hq with g | g
    · exact h.mem q g
    · rw [List.mem_singleton] at g
      subst g
      exact ⟨e ▸ List.getElem_mem hk, b1, b2⟩
theorem HasP.all (h : HasP A B L L.length K) {p : Nat × Nat} : rowP2 p ∈ L ↔ p ∈ K := by
  constructor
  · intro hp
    obtain ⟨i, hi, e⟩ := List.getElem_of_mem hp
    obtain ⟨q, hq, e2⟩ := h.row i hi hi
    rw [e] at e2
    exact rowP2_inj e2 ▸ hq
  · exact fun hp => (h.mem p hp).1
def GoodR (A B : AutoD) (L : List (List Int)) (k : Nat) : Prop := ∀ i (h : i < L.length), i < k → ∃ p : Nat × Nat, L[i] = rowP2 p ∧ p.1 < 2 ^ A.ends.length ∧ p.2 < 2 ^ B.ends.length ∧ endF A p.1 = endF B p.2 ∧ ∀ m, m < 12 → rowP2 (stepP A B p m) ∈ L
theorem GoodR.zero : GoodR A B L 0 := fun i _ h => by omega
theorem GoodR.next (h : GoodR A B L k) (hk : k < L.length) {p : Nat × Nat} (e : L[k] = rowP2 p) (b1 : p.1 < 2 ^ A.ends.length) (b2 : p.2 < 2 ^ B.ends.length) (hf : endF A p.1 = endF B p.2) (hs : ∀ m, m < 12 → rowP2 (stepP A B p m) ∈ L) : GoodR A B L (k + 1) := fun i hi hik => by
  rcases Nat.lt_or_ge i k with g | g
  · exact h i hi g
  · obtain rfl : i = k := by omega
    exact ⟨p, e, b1, b2, hf, hs⟩
end

end Go.Proofs.Ytehdfifncbokeaa

namespace Go.Proofs.Ytehdfifncbokeaa
set_option linter.unusedSimpArgs false
set_option linter.unusedVariables false
set_option maxRecDepth 8000
set_option maxHeartbeats 2000000
open Go.RowKit

section
variable {l : LL} (hcl : ∀ u ∈ l, ∀ m, m < 12 → ∀ v ∈ leftM u m, v ∈ l) (hwf : ∀ u ∈ l, (exOf u).wf)
include hcl hwf
end

section
variable {x : Ex} (hw : x.wf) (hA : (autD x.steps).ends.length ≠ 0)
include hw hA
end

section
variable {X : Ex} (hw : X.wf) (hA : (autD X.steps).ends.length ≠ 0) (hB : (autD [0]).ends.length ≠ 0)
include hw hA hB
end

theorem StarR.snoc {R : Nat → Nat → Prop} {a b c : Nat} (h : StarR R a b) (hb : b < 4) (hc : c < 4) (hr : R b c) : StarR R a c := by
  induction h with
  | refl a => exact .step hr hc (.refl c)
  | step h1 hb1 t ih => exact .step h1 hb1 (ih hb hr)
end Go.Proofs.Ytehdfifncbokeaa

namespace Go.Proofs.Ytehdfifncbokeaa
set_option linter.unusedSimpArgs false
set_option linter.unusedVariables false
set_option maxRecDepth 8000
set_option maxHeartbeats 2000000
open Go.RowKit

end Go.Proofs.Ytehdfifncbokeaa
