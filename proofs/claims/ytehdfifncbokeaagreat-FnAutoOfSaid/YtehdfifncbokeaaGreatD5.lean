/- Rows that are held alone: neighbours alike are struck, and what is left is put in order, each once. -/
import Derived.Test.YtehdfifncbokeaaGreatGrpH
import Derived.Test.YtehdfifncbokeaaGreatD2
import Derived.Test.YtehdfifncbokeaaGreatGrpJ
namespace Go.Proofs.YtehdfifncbokeaaGreat
set_option linter.unusedSimpArgs false
set_option linter.unusedVariables false
set_option maxRecDepth 8000
set_option maxHeartbeats 2000000
open Go Go.RowKit AV

theorem dedP_idx (P : List PV) : ∀ k, k ≤ P.length → ∃ σ : Nat → Nat, (∀ i, i < (dedP P k).length → σ i < k ∧ (dedP P k)[i]? = P[σ i]?) ∧ ∀ i j, i < j → j < (dedP P k).length → σ i < σ j
  | 0, _ => ⟨id, by simp [dedP], by simp [dedP]⟩
  | k + 1, hk => by
    have hkl : k < P.length := by omega
    obtain ⟨σ, h1, h2⟩ := dedP_idx P k (by omega)
    by_cases he : 0 < k ∧ ∃ h : k - 1 < P.length, P[k].1 = (P[k - 1]'h).1
    · obtain ⟨h0, hkm, he⟩ := he
      rw [dedP_skip h0 hkl he]
      exact ⟨σ, fun i hi => ⟨by have := (h1 i hi).1; omega, (h1 i hi).2⟩, h2⟩
    · rw [dedP_take hkl (fun h0 hkm e => he ⟨h0, hkm, e⟩)]
      refine ⟨fun i => if i < (dedP P k).length then σ i else k, fun i hi => ?_, fun i j hij hj => ?_⟩
      · simp only [List.length_append, List.length_cons, List.length_nil] at hi
        by_cases hil : i < (dedP P k).length
        · simp only [hil, if_true]
          rw [List.getElem?_append_left hil]
          exact ⟨by have := (h1 i hil).1; omega, (h1 i hil).2⟩
        · have : i = (dedP P k).length := by omega
          subst this
          simp [hkl]
      · simp only [List.length_append, List.length_cons, List.length_nil] at hj
        have hil : i < (dedP P k).length := by omega
        simp only [hil, if_true]
        by_cases hjl : j < (dedP P k).length
        · simp only [hjl, if_true]; exact h2 i j hij hjl
        · simp only [hjl, if_false]; exact (h1 i hil).1

def compactOR (args : List AV) (r : AV) : Prop := ∃ l : LL, args = [.own (l.map oints), .fn 50 []] ∧ Ord l ∧ l.length ≤ 1048576 ∧ (∀ x ∈ l, x.length ≤ 1099511627776) ∧ r = .own ((ordL l).map oints)

theorem view_oi (x : List Int) : view (oints x) = ints x := by
  simp only [view, viewL_map, List.map_map, view_I]

theorem compactO_ctr : CtrOK Tryz.prog 74 (takeC compactOR) := by
  obtain ⟨hcan, hctr⟩ := compact_ctr
  refine ⟨hcan, ?_⟩
  rintro args r args' ⟨rfl, l, rfl, hord, hl, hx, rfl⟩ w Z β vals hvs hwf hargs
  rw [takeC_eff] at hargs
  simp only [if_true] at hargs
  obtain ⟨v0, v1, rfl⟩ : ∃ v0 v1, vals = #[v0, v1] := by
    obtain ⟨L⟩ := vals
    match L, hvs with
    | [a, b], _ => exact ⟨a, b, rfl⟩
  have h0 := hargs 0 (by simp)
  have h1 := hargs 1 (by simp)
  simp only [List.getElem_cons_zero, List.getElem_cons_succ] at h0 h1
  replace h0 : ORep Z w.heap β [0] (.own (l.map oints)) v0 := h0
  replace h1 : ORep Z w.heap β [1] (.fn 50 []) v1 := h1
  obtain ⟨us, _, hk, hrow⟩ := ORep.row h0
  replace hk : ∀ k (h : k < l.length), ORep Z w.heap β [0, k] (oints l[k]) (us k) := fun k h => by
    have := hk k (by simpa using h)
    simpa using this
  let P : List PV := (List.range l.length).map fun k => (l.getD k [], us k)
  have hPl : P.length = l.length := by simp [P]
  have hPg : ∀ k (h : k < l.length), P[k]'(by omega) = (l[k], us k) := fun k h => by simp [P, List.getD, h]
  have hPr : P.map (·.1) = l := by
    refine List.ext_getElem (by simp [hPl]) fun k h1 h2 => ?_
    simp only [List.getElem_map]
    rw [hPg k h2]
  let rowB : Nat → Prop := fun x => ∃ k r, β (0 :: k :: r) = some x
  classical
  let Z1 : Nat → Option Obj := fun x => if rowB x then w.heap[x]? else Z x
  let β1 : List Nat → Option Nat := fun q => if q = [0] then β [0] else none
  have hrowZ : ∀ x, rowB x → Z x = none ∧ x < w.heap.size := fun x ⟨k, r, h⟩ => hwf.bo _ _ h
  have hZ1 : ∀ x o, Z x = some o → Z1 x = some o := fun x o h => by
    show (if rowB x then w.heap[x]? else Z x) = some o
    rw [if_neg (fun hr => by rw [(hrowZ x hr).1] at h; cases h)]; exact h
  have hZr : ∀ x, rowB x → Z1 x = w.heap[x]? := fun x hr => if_pos hr
  have hβ1 : ∀ q x, β1 q = some x → q = [0] ∧ β [0] = some x := fun q x h => by
    simp only [β1] at h
    split at h
    · rename_i e; exact ⟨e, h⟩
    · cases h
  have hnr : ∀ x, β [0] = some x → ¬ rowB x := fun x hb ⟨k, r, h⟩ => by
    have := hwf.inj _ _ _ hb h
    simp at this
  have hwf1 : Wf Z1 β1 w := by
    refine ⟨fun x o h => ?_, fun p q x h1 h2 => by rw [(hβ1 p x h1).1, (hβ1 q x h2).1], fun p x h => ?_⟩
    · by_cases hr : rowB x
      · rw [hZr x hr] at h; exact h
      · have : Z1 x = Z x := if_neg hr
        rw [this] at h; exact hwf.zh x o h
    · obtain ⟨_, hb⟩ := hβ1 p x h
      have : Z1 x = Z x := if_neg (hnr x hb)
      rw [this]; exact hwf.bo _ _ hb
  have hpin : ∀ k (h : k < l.length), PRep Z1 (ints l[k]) (us k) := fun k h => by
    have := (hk k h).toView' (Z' := Z1) hZ1 fun r x hr => hZr x ⟨k, r, by simpa using hr⟩
    rwa [view_oi] at this
  have ha0 : ORep Z1 w.heap β1 [0] (.own (P.map pinA)) v0 := by
    rcases hrow with ⟨hl0, hv⟩ | ⟨b, c, cs, T, hv, hb, hz, g1, g2, g3, gu⟩
    · have : P = [] := List.eq_nil_of_length_eq_zero (by rw [hPl]; simpa using congrArg List.length hl0)
      rw [this, hv]; exact .nil
    · rw [hv]
      have h4 : ∀ k, k < l.length → (us k).oneCell' = true := fun k h => (hk k h).one rfl
      have := ORep.own (Z := Z1) (H := w.heap) (β := β1) (p := [0]) (P.map pinA) b c cs T us (by simp [β1, hb]) hz (by simpa [hPl] using g1) g2 g3 (fun k h => gu k (by simpa [hPl] using h)) (fun k h => h4 k (by simpa [hPl] using h)) (fun k h => by
        have hkl : k < l.length := by simpa [hPl] using h
        simp only [List.getElem_map]
        rw [hPg k hkl]
        exact .pers (.pin _ _ (hpin k hkl)))
      simp only [List.length_map, hPl] at this ⊢
      exact this
  have ha1 : ORep Z1 w.heap β1 [1] (.fn 50 []) v1 := .pers ((ORep.toP h1 rfl).mono hZ1)
  refine (hctr [.own (P.map pinA), .fn 50 []] (.own ((dedP P P.length).map pinA)) [] ⟨rfl, P, rfl, by omega, fun p hp => ?_, rfl⟩ w Z1 β1 #[v0, v1] rfl hwf1 (by
    rw [takeC_eff]
    simp only [if_true]
    intro i hi
    have hi' : i = 0 ∨ i = 1 := by simp at hi; omega
    rcases hi' with rfl | rfl
    · exact ha0
    · exact ha1)).mono ?_
  · have : p.1 ∈ P.map (·.1) := List.mem_map.2 ⟨p, hp, rfl⟩
    rw [hPr] at this
    exact hx _ this
  rintro en w' ⟨v, Z', β', rfl, hL, hr, _⟩
  obtain ⟨σ, hσ1, hσ2⟩ := dedP_idx P P.length (Nat.le_refl _)
  have hrows : (dedP P P.length).map (·.1) = ordL l := by rw [dedP_ord (by rw [hPr]; exact hord), hPr]
  generalize hQ : dedP P P.length = Q at *
  have hσl : ∀ i, i < Q.length → σ i < l.length := fun i hi => by have := (hσ1 i hi).1; omega
  have hQg : ∀ i (h : i < Q.length), Q[i] = (l[σ i]'(hσl i h), us (σ i)) := fun i h => by
    have h5 := (hσ1 i h).2
    have h6 := hσl i h
    rw [List.getElem?_eq_getElem h, List.getElem?_eq_getElem (by omega), hPg _ h6] at h5
    injection h5
  have hσi : ∀ i j, i < Q.length → j < Q.length → σ i = σ j → i = j := fun i j hi hj e => by
    rcases Nat.lt_trichotomy i j with h | h | h
    · have := hσ2 i j h hj; omega
    · exact h
    · have := hσ2 j i h hi; omega
  let Z2 : Nat → Option Obj := fun x => if rowB x then none else Z' x
  let β2 : List Nat → Option Nat := fun q => match q with
    | [0] => β' [0]
    | 0 :: k :: r => if k < Q.length then β (0 :: σ k :: r) else none
    | _ => none
  have hsp : ∀ q x, β2 q = some x → (q = [0] ∧ β' [0] = some x) ∨ ∃ k r, q = 0 :: k :: r ∧ k < Q.length ∧ β (0 :: σ k :: r) = some x := by
    intro q x hq
    simp only [β2] at hq
    split at hq
    · exact .inl ⟨rfl, hq⟩
    · rename_i k r
      split at hq
      · rename_i hkl; exact .inr ⟨k, r, rfl, hkl, hq⟩
      · cases hq
    · cases hq
  have hZ'r : ∀ x, rowB x → ∃ o, Z' x = some o ∧ w.heap[x]? = some o := fun x hr => by
    have hlt := (hrowZ x hr).2
    have : w.heap[x]? = some w.heap[x] := Array.getElem?_eq_getElem hlt
    exact ⟨_, hL.z0 x _ ((hZr x hr).trans this), this⟩
  have hheap : ∀ x, rowB x → w'.heap[x]? = w.heap[x]? := fun x hr => by
    obtain ⟨o, h1, h2⟩ := hZ'r x hr
    rw [hL.zh x o h1, h2]
  have hne : ∀ x, β' [0] = some x → ¬ rowB x := fun x hb hr => by
    obtain ⟨o, h1, _⟩ := hZ'r x hr
    rw [(hL.bo _ _ hb).2.1] at h1; cases h1
  have hz0 : ∀ x o, Z x = some o → Z2 x = some o := fun x o h => by
    show (if rowB x then none else Z' x) = some o
    rw [if_neg (fun hr => by rw [(hrowZ x hr).1] at h; cases h)]
    exact hL.z0 x o (hZ1 x o h)
  refine ⟨v, Z2, β2, rfl, ⟨hL.os, hL.tape, hL.output, hL.size, fun x hx hn => hL.frame x hx fun p hp => hn [0] (hβ1 p x hp).2, hz0, fun x o h => ?_, fun x o h => ?_, fun p q x g1 g2 => ?_, fun p x h => ?_⟩, ?_, fun i hi => absurd hi (by simp)⟩
  · have hnr2 : ¬ rowB x := fun hr => by
      have : Z2 x = none := if_pos hr
      rw [this] at h; cases h
    have : Z2 x = Z' x := if_neg hnr2
    rw [this] at h
    rcases hL.zo x o h with h3 | ⟨p, hp⟩ | h3
    · have : Z1 x = Z x := if_neg hnr2
      rw [this] at h3; exact .inl h3
    · exact .inr (.inl ⟨[0], (hβ1 p x hp).2⟩)
    · exact .inr (.inr h3)
  · have hnr2 : ¬ rowB x := fun hr => by
      have : Z2 x = none := if_pos hr
      rw [this] at h; cases h
    have : Z2 x = Z' x := if_neg hnr2
    rw [this] at h
    exact hL.zh x o h
  · rcases hsp p x g1 with ⟨rfl, e1⟩ | ⟨k1, r1, rfl, hk1, e1⟩ <;> rcases hsp q x g2 with ⟨rfl, e2⟩ | ⟨k2, r2, rfl, hk2, e2⟩
    · rfl
    · exact absurd ⟨_, _, e2⟩ (hne x e1)
    · exact absurd ⟨_, _, e1⟩ (hne x e2)
    · have := hwf.inj _ _ _ e1 e2
      simp only [List.cons.injEq, true_and] at this
      rw [hσi k1 k2 hk1 hk2 this.1, this.2]
  · rcases hsp p x h with ⟨rfl, e1⟩ | ⟨k1, r1, rfl, hk1, e1⟩
    · have hb := hL.bo _ _ e1
      refine ⟨?_, ?_, hb.2.2⟩
      · rcases hb.1 with ⟨q, hq⟩ | h3
        · exact .inl ⟨[0], (hβ1 q x hq).2⟩
        · exact .inr h3
      · have : Z2 x = Z' x := if_neg (hne x e1)
        rw [this]; exact hb.2.1
    · refine ⟨.inl ⟨_, e1⟩, if_pos ⟨_, _, e1⟩, Nat.lt_of_lt_of_le (hwf.bo _ _ e1).2 hL.size⟩
  · rw [← hrows, List.map_map]
    obtain ⟨us', h4', hk', hrow'⟩ := ORep.row hr
    have hus : ∀ k (h : k < Q.length), us' k = us (σ k) := fun k h => by
      have h5 := hk' k (by simpa using h)
      simp only [List.getElem_map] at h5
      rw [hQg k h] at h5
      have h6 := ORep.toP h5 rfl
      simp only [pinA] at h6
      generalize us' k = u at h6
      cases h6; rfl
    rcases hrow' with ⟨hl0, hv⟩ | ⟨b, c, cs, T, hv, hb, hz, g1, g2, g3, gu⟩
    · have : Q = [] := List.eq_nil_of_length_eq_zero (by simpa using congrArg List.length hl0)
      rw [this, hv]; exact .nil
    · rw [hv]
      have := ORep.own (Z := Z2) (H := w'.heap) (β := β2) (p := [0]) (Q.map (oints ∘ (·.1))) b c cs T us' (by simp only [β2]; exact hb) hz (by simpa using g1) g2 g3 (fun k h => gu k (by simpa using h)) (fun k h => h4' k (by simpa using h)) (fun k h => by
        have hkl : k < Q.length := by simpa using h
        simp only [List.getElem_map, Function.comp]
        rw [hus k hkl, hQg k hkl]
        refine (hk _ (hσl k hkl)).move hz0 fun r x hr => ⟨?_, hheap x ⟨_, r, hr⟩⟩
        show β2 (0 :: k :: r) = some x
        simp only [β2]
        rw [if_pos hkl]; exact hr)
      simp only [List.length_map] at this ⊢
      exact this

end Go.Proofs.YtehdfifncbokeaaGreat
