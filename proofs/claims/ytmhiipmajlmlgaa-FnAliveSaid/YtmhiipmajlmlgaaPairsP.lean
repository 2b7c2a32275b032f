/- Plain facts on pairs of sets of states that are reached together. No program in sight. -/
import Derived.Test.YtmhiipmajlmlgaaGrpC
namespace Go.Proofs.Ytmhiipmajlmlgaa
set_option linter.unusedSimpArgs false
set_option linter.unusedVariables false
set_option maxRecDepth 8000
set_option maxHeartbeats 2000000
open Go.RowKit

section
variable {σ : Type} [DecidableEq σ] (stp : σ → Nat → σ)
def addP (l : List σ) (x : σ) : List σ := if x ∈ l then l else l ++ [x]
def prM (l : List σ) (x : σ) : Nat → List σ
  | 0 => l
  | m + 1 => addP (prM l x m) (stp x m)
def prI : Nat → List σ → Nat → Option (List σ)
  | 0, l, _ => some l
  | f + 1, l, k => match l[k]? with
    | none => some l
    | some x => if 100 < (prM stp l x 12).length then none else prI f (prM stp l x 12) (k + 1)
def prF (s0 : σ) : Option (List σ) := prI stp 101 [s0] 0
variable {stp}
theorem addP_mem {l : List σ} {x y : σ} : y ∈ addP l x ↔ y ∈ l ∨ y = x := by
  unfold addP
  split
  · exact ⟨.inl, fun h => by rcases h with h | rfl; exact h; assumption⟩
  · simp
theorem addP_nodup {l : List σ} {x : σ} (h : l.Nodup) : (addP l x).Nodup := by
  unfold addP
  split
  · exact h
  · rename_i hx
    rw [List.nodup_append]
    exact ⟨h, by simp, fun a ha b hb => by simp at hb; subst hb; exact fun e => hx (e ▸ ha)⟩
theorem addP_pre (l : List σ) (x : σ) : l <+: addP l x := by
  unfold addP
  split
  · exact List.prefix_rfl
  · exact ⟨[x], rfl⟩
theorem prM_mem {l : List σ} {x y : σ} : ∀ {m : Nat}, y ∈ prM stp l x m ↔ y ∈ l ∨ ∃ j, j < m ∧ y = stp x j
  | 0 => by simp [prM]
  | m + 1 => by
    rw [prM, addP_mem, prM_mem]
    constructor
    · rintro ((h | ⟨j, hj, h⟩) | h)
      · exact .inl h
      · exact .inr ⟨j, by omega, h⟩
      · exact .inr ⟨m, by omega, h⟩
    · rintro (h | ⟨j, hj, h⟩)
      · exact .inl (.inl h)
      · by_cases e : j = m
        · subst e; exact .inr h
        · exact .inl (.inr ⟨j, by omega, h⟩)
theorem prM_nodup {l : List σ} {x : σ} (h : l.Nodup) : ∀ m, (prM stp l x m).Nodup
  | 0 => h
  | m + 1 => addP_nodup (prM_nodup h m)
theorem prM_pre (l : List σ) (x : σ) : ∀ m, l <+: prM stp l x m
  | 0 => List.prefix_rfl
  | m + 1 => (prM_pre l x m).trans (addP_pre _ _)
structure AtP (stp : σ → Nat → σ) (s0 : σ) (k : Nat) (l : List σ) : Prop where
  run : prI stp (101 - k) l k = prF stp s0
  le : k ≤ l.length
  hi : l.length ≤ 100
  nd : l.Nodup
  st : l[0]? = some s0
  cl : ∀ i (h : i < l.length), i < k → ∀ m, m < 12 → stp l[i] m ∈ l
theorem AtP.many {s0 : σ} {k : Nat} {l : List σ} (h : AtP stp s0 k l) (hk : k < l.length) (hm : 100 < (prM stp l l[k] 12).length) : prF stp s0 = none := by
  have hi := h.hi
  rw [← h.run, show 101 - k = (100 - k) + 1 by omega, prI, List.getElem?_eq_getElem hk]
  simp only
  rw [if_pos hm]
theorem AtP.next {s0 : σ} {k : Nat} {l : List σ} (h : AtP stp s0 k l) (hk : k < l.length) (hm : ¬ 100 < (prM stp l l[k] 12).length) : AtP stp s0 (k + 1) (prM stp l l[k] 12) := by
  have hi := h.hi
  obtain ⟨r, hr⟩ := prM_pre (stp := stp) l l[k] 12
  have hmem := fun y => prM_mem (stp := stp) (l := l) (x := l[k]) (y := y) (m := 12)
  have hnd := prM_nodup (stp := stp) (x := l[k]) h.nd 12
  have hrun : prI stp (100 - k) (prM stp l l[k] 12) (k + 1) = prF stp s0 := by
    rw [← h.run, show 101 - k = (100 - k) + 1 by omega, prI, List.getElem?_eq_getElem hk]
    simp only
    rw [if_neg hm]
  generalize prM stp l l[k] 12 = R at hr hmem hnd hrun hm ⊢
  have hpre : ∀ i (hi : i < l.length), R[i]? = some l[i] := fun i hi => by rw [← hr, List.getElem?_append_left hi, List.getElem?_eq_getElem hi]
  have hle : l.length ≤ R.length := by rw [← hr]; simp
  refine ⟨?_, by omega, by omega, hnd, ?_, fun i hi2 hik m hm12 => ?_⟩
  · rw [show 101 - (k + 1) = 100 - k by omega]; exact hrun
  · have h0 := h.st
    have : 0 < l.length := by omega
    rw [hpre 0 this]
    rw [List.getElem?_eq_getElem this] at h0
    exact h0
  · have e : R[i] = l[i]'(by omega) := by
      have := hpre i (by omega)
      rw [List.getElem?_eq_getElem hi2] at this
      exact Option.some.inj this
    rw [e, hmem]
    by_cases g : i = k
    · subst g
      exact .inr ⟨m, hm12, rfl⟩
    · exact .inl (h.cl i (by omega) (by omega) m hm12)
theorem AtP.done {s0 : σ} {k : Nat} {l : List σ} (h : AtP stp s0 k l) (hk : ¬ k < l.length) : prF stp s0 = some l := by
  have hi := h.hi
  have hle := h.le
  rw [← h.run, show 101 - k = (100 - k) + 1 by omega, prI, List.getElem?_eq_none (by omega)]
theorem AtP.ends {s0 : σ} : ∀ (f k : Nat) (l : List σ), 101 - k = f → AtP stp s0 k l → ∀ r, prF stp s0 = some r → AtP stp s0 r.length r
  | 0, k, l, hf, h, r, hr => by have := h.le; have := h.hi; omega
  | f + 1, k, l, hf, h, r, hr => by
    by_cases hk : k < l.length
    · by_cases hm : 100 < (prM stp l l[k] 12).length
      · rw [h.many hk hm] at hr; cases hr
      · exact AtP.ends f (k + 1) _ (by omega) (h.next hk hm) r hr
    · have hd := h.done hk
      rw [hd] at hr
      injection hr with hr
      subst hr
      have hle := h.le
      have : k = l.length := by omega
      rw [← this]; exact this ▸ h
end

end Go.Proofs.Ytmhiipmajlmlgaa
