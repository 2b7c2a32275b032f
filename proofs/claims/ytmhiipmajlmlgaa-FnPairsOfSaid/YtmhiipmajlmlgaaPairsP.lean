/- Plain facts on pairs of sets of states that are reached together. No program in sight. -/
import Derived.Test.YtmhiipmajlmlgaaGrpC
namespace Go.Proofs.Ytmhiipmajlmlgaa
set_option linter.unusedSimpArgs false
set_option linter.unusedVariables false
set_option maxRecDepth 8000
set_option maxHeartbeats 2000000
open Go.RowKit

section
variable {σ : Type} [DecidableEq σ] (stp : σ → Nat → σ)
def addP (l : List σ) (x : σ) : List σ := if x ∈ l then l else l ++ [x]
def prM (l : List σ) (x : σ) : Nat → List σ
  | 0 => l
  | m + 1 => addP (prM l x m) (stp x m)
def prI : Nat → List σ → Nat → Option (List σ)
  | 0, l, _ => some l
  | f + 1, l, k => match l[k]? with
    | none => some l
    | some x => if 100 < (prM stp l x 12).length then none else prI f (prM stp l x 12) (k + 1)
def prF (s0 : σ) : Option (List σ) := prI stp 101 [s0] 0
variable {stp}
theorem addP_mem {l : List σ} {x y : σ} : y ∈ addP l x ↔ y ∈ l ∨ y = x := by
  unfold addP
  split
  · exact ⟨.inl, fun h => by rcases h with h | rfl; exact h; assumption⟩
  · simp
theorem addP_nodup {l : List σ} {x : σ} (h : l.Nodup) : (addP l x).Nodup := by
  unfold addP
  split
  · exact h
  · rename_i hx
    rw [List.nodup_append]
    exact ⟨h, by simp, fun a ha b hb => by simp at hb; subst hb; exact fun e => hx (e ▸ ha)⟩
theorem addP_pre (l : List σ) (x : σ) : l <+: addP l x := by
  unfold addP
  split
  · exact List.prefix_rfl
  · exact ⟨[x], rfl⟩
theorem addP_len (l : List σ) (x : σ) : (addP l x).length ≤ l.length + 1 := by
  unfold addP; split <;> simp
theorem prM_mem {l : List σ} {x y : σ} : ∀ {m : Nat}, y ∈ prM stp l x m ↔ y ∈ l ∨ ∃ j, j < m ∧ y = stp x j
  | 0 => by simp [prM]
  | m + 1 => by
    rw [prM, addP_mem, prM_mem]
    constructor
    · rintro ((h | ⟨j, hj, h⟩) | h)
      · exact .inl h
      · exact .inr ⟨j, by omega, h⟩
      · exact .inr ⟨m, by omega, h⟩
    · rintro (h | ⟨j, hj, h⟩)
      · exact .inl (.inl h)
      · by_cases e : j = m
        · subst e; exact .inr h
        · exact .inl (.inr ⟨j, by omega, h⟩)
theorem prM_nodup {l : List σ} {x : σ} (h : l.Nodup) : ∀ m, (prM stp l x m).Nodup
  | 0 => h
  | m + 1 => addP_nodup (prM_nodup h m)
theorem prM_pre (l : List σ) (x : σ) : ∀ m, l <+: prM stp l x m
  | 0 => List.prefix_rfl
  | m + 1 => (prM_pre l x m).trans (addP_pre _ _)
theorem prM_len (l : List σ) (x : σ) : ∀ m, (prM stp l x m).length ≤ l.length + m
  | 0 => Nat.le_refl _
  | m + 1 => by have := prM_len l x m; have := addP_len (prM stp l x m) (stp x m); rw [prM]; omega
theorem prM_all {p : σ → Prop} (hs : ∀ x m, m < 12 → p x → p (stp x m)) {l : List σ} {x : σ} (hl : ∀ y ∈ l, p y) (hx : p x) {m : Nat} (hm : m ≤ 12) : ∀ y ∈ prM stp l x m, p y := by
  intro y hy
  rcases prM_mem.1 hy with h | ⟨j, hj, rfl⟩
  · exact hl y h
  · exact hs x j (by omega) hx
structure AtP (stp : σ → Nat → σ) (s0 : σ) (k : Nat) (l : List σ) : Prop where
  run : prI stp (101 - k) l k = prF stp s0
  le : k ≤ l.length
  hi : l.length ≤ 100
  nd : l.Nodup
  st : l[0]? = some s0
  cl : ∀ i (h : i < l.length), i < k → ∀ m, m < 12 → stp l[i] m ∈ l
theorem AtP.start (stp : σ → Nat → σ) (s0 : σ) : AtP stp s0 0 [s0] := ⟨by rw [prF], by simp, by simp, by simp, rfl, fun i _ h => by omega⟩
theorem AtP.many {s0 : σ} {k : Nat} {l : List σ} (h : AtP stp s0 k l) (hk : k < l.length) (hm : 100 < (prM stp l l[k] 12).length) : prF stp s0 = none := by
  have hi := h.hi
  rw [← h.run, show 101 - k = (100 - k) + 1 by omega, prI, List.getElem?_eq_getElem hk]
  simp only
  rw [if_pos hm]
theorem AtP.next {s0 : σ} {k : Nat} {l : List σ} (h : AtP stp s0 k l) (hk : k < l.length) (hm : ¬ 100 < (prM stp l l[k] 12).length) : AtP stp s0 (k + 1) (prM stp l l[k] 12) := by
  have hi := h.hi
  obtain ⟨r, hr⟩ := prM_pre (stp := stp) l l[k] 12
  have hmem := fun y => prM_mem (stp := stp) (l := l) (x := l[k]) (y := y) (m := 12)
  have hnd := prM_nodup (stp := stp) (x := l[k]) h.nd 12
  have hrun : prI stp (100 - k) (prM stp l l[k] 12) (k + 1) = prF stp s0 := by
    rw [← h.run, show 101 - k = (100 - k) + 1 by omega, prI, List.getElem?_eq_getElem hk]
    simp only
    rw [if_neg hm]
  generalize prM stp l l[k] 12 = R at hr hmem hnd hrun hm ⊢
  have hpre : ∀ i (hi : i < l.length), R[i]? = some l[i] := fun i hi => by rw [← hr, List.getElem?_append_left hi, List.getElem?_eq_getElem hi]
  have hle : l.length ≤ R.length := by rw [← hr]; simp
  refine ⟨?_, by omega, by omega, hnd, ?_, fun i hi2 hik m hm12 => ?_⟩
  · rw [show 101 - (k + 1) = 100 - k by omega]; exact hrun
  · have h0 := h.st
    have : 0 < l.length := by omega
    rw [hpre 0 this]
    rw [List.getElem?_eq_getElem this] at h0
    exact h0
  · have e : R[i] = l[i]'(by omega) := by
      have := hpre i (by omega)
      rw [List.getElem?_eq_getElem hi2] at this
      exact Option.some.inj this
    rw [e, hmem]
    by_cases g : i = k
    · subst g
      exact .inr ⟨m, hm12, rfl⟩
    · exact .inl (h.cl i (by omega) (by omega) m hm12)
theorem AtP.done {s0 : σ} {k : Nat} {l : List σ} (h : AtP stp s0 k l) (hk : ¬ k < l.length) : prF stp s0 = some l := by
  have hi := h.hi
  have hle := h.le
  rw [← h.run, show 101 - k = (100 - k) + 1 by omega, prI, List.getElem?_eq_none (by omega)]
theorem AtP.ends {s0 : σ} : ∀ (f k : Nat) (l : List σ), 101 - k = f → AtP stp s0 k l → ∀ r, prF stp s0 = some r → AtP stp s0 r.length r
  | 0, k, l, hf, h, r, hr => by have := h.le; have := h.hi; omega
  | f + 1, k, l, hf, h, r, hr => by
    by_cases hk : k < l.length
    · by_cases hm : 100 < (prM stp l l[k] 12).length
      · rw [h.many hk hm] at hr; cases hr
      · exact AtP.ends f (k + 1) _ (by omega) (h.next hk hm) r hr
    · have hd := h.done hk
      rw [hd] at hr
      injection hr with hr
      subst hr
      have hle := h.le
      have : k = l.length := by omega
      rw [← this]; exact this ▸ h
theorem prF_at {s0 : σ} {r : List σ} (h : prF stp s0 = some r) : AtP stp s0 r.length r := AtP.ends 101 0 [s0] (by omega) (AtP.start stp s0) r h
theorem prF_mem {s0 : σ} {r : List σ} (h : prF stp s0 = some r) : s0 ∈ r := List.mem_of_getElem? (prF_at h).st
theorem prF_closed {s0 : σ} {r : List σ} (h : prF stp s0 = some r) {x : σ} (hx : x ∈ r) {m : Nat} (hm : m < 12) : stp x m ∈ r := by
  obtain ⟨i, hi, rfl⟩ := List.getElem_of_mem hx
  exact (prF_at h).cl i hi hi m hm
theorem prI_all {p : σ → Prop} (hs : ∀ x m, m < 12 → p x → p (stp x m)) : ∀ (f : Nat) (l : List σ) (k : Nat), (∀ y ∈ l, p y) → ∀ r, prI stp f l k = some r → ∀ y ∈ r, p y
  | 0, l, k, hl, r, h, y, hy => by rw [prI] at h; injection h with h; subst h; exact hl y hy
  | f + 1, l, k, hl, r, h, y, hy => by
    rw [prI] at h
    split at h
    · injection h with h; subst h; exact hl y hy
    · rename_i x hx
      split at h
      · cases h
      · exact prI_all hs f _ _ (prM_all hs hl (hl x (List.mem_of_getElem? hx)) (Nat.le_refl _)) r h y hy
theorem prF_all {p : σ → Prop} (hs : ∀ x m, m < 12 → p x → p (stp x m)) {s0 : σ} (h0 : p s0) {r : List σ} (h : prF stp s0 = some r) : ∀ y ∈ r, p y :=
  prI_all hs 101 [s0] 0 (by simpa using h0) r h
theorem prM_map {τ : Type} [DecidableEq τ] {stq : τ → Nat → τ} {g : σ → τ} (hg : ∀ x y, g x = g y → x = y) (hs : ∀ x m, g (stp x m) = stq (g x) m) (l : List σ) (x : σ) : ∀ m, prM stq (l.map g) (g x) m = (prM stp l x m).map g
  | 0 => rfl
  | m + 1 => by
    rw [prM, prM, prM_map hg hs l x m, ← hs, addP, addP]
    have e : (g (stp x m) ∈ (prM stp l x m).map g) = (stp x m ∈ prM stp l x m) := by
      rw [List.mem_map]
      exact propext ⟨fun ⟨y, hy, e⟩ => hg _ _ e ▸ hy, fun h => ⟨_, h, rfl⟩⟩
    by_cases h : stp x m ∈ prM stp l x m
    · rw [if_pos h, if_pos (e ▸ h)]
    · rw [if_neg h, if_neg (e ▸ h)]; simp
theorem prI_map {τ : Type} [DecidableEq τ] {stq : τ → Nat → τ} {g : σ → τ} (hg : ∀ x y, g x = g y → x = y) (hs : ∀ x m, g (stp x m) = stq (g x) m) : ∀ (f : Nat) (l : List σ) (k : Nat), prI stq f (l.map g) k = (prI stp f l k).map fun r => r.map g
  | 0, l, k => rfl
  | f + 1, l, k => by
    rw [prI, prI, List.getElem?_map]
    cases h : l[k]? with
    | none => rfl
    | some x =>
      simp only [Option.map_some]
      rw [prM_map hg hs, List.length_map]
      by_cases g2 : 100 < (prM stp l x 12).length
      · rw [if_pos g2, if_pos g2]; rfl
      · rw [if_neg g2, if_neg g2]
        exact prI_map hg hs f _ _
end

def stepP (A B : AutoD) (p : Nat × Nat) (m : Nat) : Nat × Nat := (behF A p.1 m, behF B p.2 m)
def rowP2 (p : Nat × Nat) : List Int := [(p.1 : Int), (p.2 : Int)]
theorem rowP2_inj {p q : Nat × Nat} (h : rowP2 p = rowP2 q) : p = q := by
  simp only [rowP2, List.cons.injEq, and_true] at h
  exact Prod.ext (by omega) (by omega)
def reachP (A B : AutoD) : Option (List (Nat × Nat)) := prF (stepP A B) (1, 1)
def pairsL (A B : AutoD) : List (List Int) := if A.ends.length = 0 ∨ B.ends.length = 0 then [] else match reachP A B with
  | some l => l.map rowP2
  | none => []
theorem pairsL_no {A B : AutoD} (h : A.ends.length = 0 ∨ B.ends.length = 0) : pairsL A B = [] := if_pos h
theorem pairsL_yes {A B : AutoD} (h : ¬ (A.ends.length = 0 ∨ B.ends.length = 0)) {l : List (Nat × Nat)} (hr : reachP A B = some l) : pairsL A B = l.map rowP2 := by unfold pairsL; rw [if_neg h, hr]
theorem pairsL_many {A B : AutoD} (hr : reachP A B = none) : pairsL A B = [] := by unfold pairsL; rw [hr]; split <;> rfl
theorem stepP_lt {A B : AutoD} (hA : AutoOK A) (hB : AutoOK B) {p : Nat × Nat} {m : Nat} (hm : m < 12) : (stepP A B p m).1 < 2 ^ A.ends.length ∧ (stepP A B p m).2 < 2 ^ B.ends.length := ⟨hA.behF_lt _ hm, hB.behF_lt _ hm⟩
end Go.Proofs.Ytmhiipmajlmlgaa
