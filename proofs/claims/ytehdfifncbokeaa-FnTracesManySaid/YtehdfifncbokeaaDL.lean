/- Rows are struck from a list: slices.DeleteFunc, walked by the engine. -/
import Derived.Test.YtehdfifncbokeaaG2
import Derived.Test.YtehdfifncbokeaaGrpJ
import Derived.Test.YtehdfifncbokeaaEngMin
namespace Go.Proofs.Ytehdfifncbokeaa
set_option linter.unusedSimpArgs false
set_option linter.unusedVariables false
set_option maxRecDepth 8000
set_option maxHeartbeats 2000000
open Go Go.RowKit AV

theorem view_oi2 (x : List Int) : view (oints x) = ints x := by
  simp only [view, viewL_map, List.map_map, view_I]

def settR (rel : List AV → AV → Prop) (args : List AV) (r : AV) : Prop := ∃ (l : LL) (rest : List AV), args = .own (l.map oints) :: rest ∧ allP rest = true ∧ rel (.own (l.map ints) :: rest) r
theorem settle_ctr {P : Program} {f : Nat} {rel : List AV → AV → Prop} (h : CtrOK P f (takeC rel)) : CtrOK P f (takeC (settR rel)) := by
  obtain ⟨hcan, hctr⟩ := h
  refine ⟨hcan, ?_⟩
  rintro args r args' ⟨rfl, l, rest, rfl, hrest, hrel⟩ w Z β vals hvs hwf hargs
  rw [takeC_eff] at hargs
  simp only [if_true] at hargs
  have h0 := hargs 0 (by simp)
  simp only [List.getElem_cons_zero] at h0
  obtain ⟨v0, hv0⟩ : ∃ v, vals.getD 0 undef = v := ⟨_, rfl⟩
  rw [hv0] at h0
  obtain ⟨us, _, hk, hrow⟩ := ORep.row h0
  replace hk : ∀ k (h : k < l.length), ORep Z w.heap β [0, k] (oints l[k]) (us k) := fun k h => by
    have := hk k (by simpa using h)
    simpa using this
  let rowB : Nat → Prop := fun x => ∃ k r, β (0 :: k :: r) = some x
  classical
  let Z1 : Nat → Option Obj := fun x => if rowB x then w.heap[x]? else Z x
  let β1 : List Nat → Option Nat := fun q => if q = [0] then β [0] else none
  have hrowZ : ∀ x, rowB x → Z x = none ∧ x < w.heap.size := fun x ⟨k, r, h⟩ => hwf.bo _ _ h
  have hZ1 : ∀ x o, Z x = some o → Z1 x = some o := fun x o h => by
    show (if rowB x then w.heap[x]? else Z x) = some o
    rw [if_neg (fun hr => by rw [(hrowZ x hr).1] at h; cases h)]; exact h
  have hZr : ∀ x, rowB x → Z1 x = w.heap[x]? := fun x hr => if_pos hr
  have hZn : ∀ x, ¬ rowB x → Z1 x = Z x := fun x hr => if_neg hr
  have hβ1 : ∀ q x, β1 q = some x → q = [0] ∧ β [0] = some x := fun q x h => by
    simp only [β1] at h
    split at h
    · rename_i e; exact ⟨e, h⟩
    · cases h
  have hnr : ∀ x, β [0] = some x → ¬ rowB x := fun x hb ⟨k, r, h⟩ => by
    have := hwf.inj _ _ _ hb h
    simp at this
  have hwf1 : Wf Z1 β1 w := by
    refine ⟨fun x o h => ?_, fun p q x h1 h2 => by rw [(hβ1 p x h1).1, (hβ1 q x h2).1], fun p x h => ?_⟩
    · by_cases hr : rowB x
      · rw [hZr x hr] at h; exact h
      · rw [hZn x hr] at h; exact hwf.zh x o h
    · obtain ⟨_, hb⟩ := hβ1 p x h
      rw [hZn x (hnr x hb)]; exact hwf.bo _ _ hb
  have hpin : ∀ k (h : k < l.length), PRep Z1 (ints l[k]) (us k) := fun k h => by
    have := (hk k h).toView' (Z' := Z1) hZ1 fun r x hr => hZr x ⟨k, r, by simpa using hr⟩
    rwa [view_oi2] at this
  have ha0 : ORep Z1 w.heap β1 [0] (.own (l.map ints)) v0 := by
    rcases hrow with ⟨hl0, hv⟩ | ⟨b, c, cs, T, hv, hb, hz, g1, g2, g3, gu⟩
    · have : l = [] := List.eq_nil_of_length_eq_zero (by simpa using congrArg List.length hl0)
      rw [this, hv]; exact .nil
    · rw [hv]
      have h4 : ∀ k, k < l.length → (us k).oneCell' = true := fun k h => (hk k h).one rfl
      have := ORep.own (Z := Z1) (H := w.heap) (β := β1) (p := [0]) (l.map ints) b c cs T us (by simp [β1, hb]) hz (by simpa using g1) g2 g3 (fun k h => gu k (by simpa using h)) (fun k h => h4 k (by simpa using h)) (fun k h => by
        simp only [List.getElem_map]
        exact .pers (hpin k (by simpa using h)))
      simp only [List.length_map] at this ⊢
      exact this
  refine (hctr (.own (l.map ints) :: rest) r [] ⟨rfl, hrel⟩ w Z1 β1 vals (by simpa using hvs) hwf1 (by
    rw [takeC_eff]
    simp only [if_true]
    intro i hi
    cases i with
    | zero => rw [hv0]; exact ha0
    | succ i =>
      have hi1 : i < rest.length := by simpa using hi
      have h5 := hargs (i + 1) (by simpa using hi)
      simp only [List.getElem_cons_succ] at h5 ⊢
      exact .pers ((ORep.toP h5 ((allP_iff _).1 hrest _ (List.getElem_mem hi1))).mono hZ1))).mono ?_
  rintro en w' ⟨v, Z', β', rfl, hL, hr, _⟩
  refine ⟨v, Z', β', rfl, ⟨hL.os, hL.tape, hL.output, hL.size, fun x hx hn => hL.frame x hx fun p hp => hn [0] (hβ1 p x hp).2, fun x o h => hL.z0 x o (hZ1 x o h), fun x o h => ?_, hL.zh, hL.inj, fun p x h => ?_⟩, hr, fun i hi => absurd hi (by simp)⟩
  · rcases hL.zo x o h with h3 | ⟨p, hp⟩ | h3
    · by_cases hr : rowB x
      · obtain ⟨k, r, e⟩ := hr; exact .inr (.inl ⟨_, e⟩)
      · rw [hZn x hr] at h3; exact .inl h3
    · exact .inr (.inl ⟨[0], (hβ1 p x hp).2⟩)
    · exact .inr (.inr h3)
  · have hb := hL.bo _ _ h
    refine ⟨?_, hb.2⟩
    rcases hb.1 with ⟨q, hq⟩ | h3
    · exact .inl ⟨[0], (hβ1 q x hq).2⟩
    · exact .inr h3

def keepL (q : List Int → Bool) (l : LL) : LL := l.filter fun x => !q x
theorem keepL_take {q : List Int → Bool} {l : LL} {k : Nat} (hk : k < l.length) : keepL q (l.take (k + 1)) = if q l[k] then keepL q (l.take k) else keepL q (l.take k) ++ [l[k]] := by
  unfold keepL
  rw [List.take_succ_eq_append_getElem hk, List.filter_append]
  cases h : q l[k] <;> simp [h]
theorem keepL_len (q : List Int → Bool) (l : LL) (k : Nat) : (keepL q (l.take k)).length ≤ k := by
  have := List.length_filter_le (fun x : List Int => !q x) (l.take k)
  unfold keepL
  simp at this
  omega
theorem keepL_all {q : List Int → Bool} {l : LL} (h : ∀ x ∈ l, q x = false) : keepL q l = l := by
  unfold keepL
  rw [List.filter_eq_self]
  intro x hx
  rw [h x hx]; rfl
theorem idxF_pos {α : Type} {q : α → Bool} : ∀ (l : List α) (n : Nat), 0 ≤ idxF q n l → ∃ (k : Nat) (h : k < l.length), idxF q n l = ((n + k : Nat) : Int) ∧ q l[k] = true ∧ ∀ x ∈ l.take k, q x = false
  | [], n, h => by simp [idxF] at h
  | x :: l, n, h => by
    cases hq : q x with
    | true => exact ⟨0, by simp, by rw [idxF, if_pos hq]; simp, hq, by simp⟩
    | false =>
      rw [idxF, if_neg (by simp [hq])] at h ⊢
      obtain ⟨k, hk, e, h1, h2⟩ := idxF_pos l (n + 1) h
      refine ⟨k + 1, by simpa using hk, by rw [e]; congr 1; omega, by simpa using h1, fun y hy => ?_⟩
      rw [List.take_succ_cons, List.mem_cons] at hy
      rcases hy with rfl | hy
      · exact hq
      · exact h2 y hy

def delR (D : List Int → Prop) (caps : List AV) (q : List Int → Bool) (args : List AV) (r : AV) : Prop := ∃ l : LL, args = [.own (l.map ints), .fn 27 caps] ∧ l.length ≤ 1048576 ∧ (∀ x ∈ l, D x) ∧ r = .own ((keepL q l).map ints)
theorem del_gen (D : List Int → Prop) (caps : List AV) (q : List Int → Bool) (hcp : allP caps = true) (hf : CtrOK Try.prog 27 (pureC (predDR D caps q))) : CtrOK Try.prog 25 (takeC (delR D caps q)) := by
  have tof1_ctr := hf
  have idxg_ctr := idx_genD D 27 caps q hcp hf
  refine ctr_take Try.func25 rfl rfl Try.ntmps25 ?_
  rintro _ _ ⟨l, rfl, hl, hx, rfl⟩
  refine ⟨by simp, fun κ hκ => ?_⟩
  have hbig := bigW_gt
  rw [argEnv_eq]
  simp only [envA]
  have hΓ := ctxOf_ok (P := Try.prog) (cx idxg_ctr <| cx tof1_ctr <| cx0)
  obtain ⟨n, hn⟩ : ∃ n, idxF q 0 l = n := ⟨_, rfl⟩
  have hbn := idxF_bd (q := q) l 0
  have hpos := idxF_pos (q := q) l 0
  have hneg := (idxF_neg (q := q) l 0).1
  rw [hn] at hbn hpos hneg
  repeat' (first | refine wS fun K hK => ?_ | refine wB ?_ | ((first | refine wR hΓ ?_ | refine wD hΓ fun B hB => ?_); simp (maxSteps := 2000000) only [go_sem, hcp]) | ((repeat ((fail_if_success (refine hK _ ?_)); clear hK K)); refine hK _ ?_; clear hK K) | (refine w1 ?_; simp only [xs, xi, Nat.reduceEqDiff, reduceCtorEq]) | (refine wC (fun hb => ?_) fun hb => ?_ <;> (try simp only [xb, reduceCtorEq] at hb)) | (refine w2 (fun hc => ?_) (fun hc => ?_) <;> (try simp only [xc] at hc) <;> (try simp only [go_sem, hc, hcp]) <;> (try simp only [xb] at hc)) | refine wI ?_ | refine ex_idx (by omega) ?_ | fail)
  (first | refine wA rfl ?_ ?_ ?_ | refine dA rfl ?_ ?_ ?_); exact (I n); exact (⟨l, rfl, by omega, hx, by rw [hn]⟩); simp (maxSteps := 2000000) only [go_sem]
  repeat' (first | refine wS fun K hK => ?_ | refine wB ?_ | ((first | refine wR hΓ ?_ | refine wD hΓ fun B hB => ?_); simp (maxSteps := 2000000) only [go_sem, hcp]) | ((repeat ((fail_if_success (refine hK _ ?_)); clear hK K)); refine hK _ ?_; clear hK K) | (refine w1 ?_; simp only [xs, xi, Nat.reduceEqDiff, reduceCtorEq]) | (refine wC (fun hb => ?_) fun hb => ?_ <;> (try simp only [xb, reduceCtorEq] at hb)) | (refine w2 (fun hc => ?_) (fun hc => ?_) <;> (try simp only [xc] at hc) <;> (try simp only [go_sem, hc, hcp]) <;> (try simp only [xb] at hc)) | refine wI ?_ | refine ex_idx (by omega) ?_ | fail)
  · rw [keepL_all (hneg (by omega))]
    simp [Try.results25, RetOK, RetP, backA, upd_at, plainB, getP, isOwn, anyOwn, isP]
  obtain ⟨k, hkl, hnk, hqk, hq0⟩ := hpos (by omega)
  rw [Nat.zero_add] at hnk
  subst hnk
  refine CW.loop (ι := Nat) (fun j => [(0, .own ((keepL q (l.take j) ++ l.drop (keepL q (l.take j)).length).map ints)), (1, .fn 27 caps), (5, I ((keepL q (l.take j)).length : Nat)), (6, I (j : Nat))]) (fun j => k < j ∧ j ≤ l.length) (fun j => l.length - j) (k + 1) ?_ ?_
  · have hk1 : keepL q (l.take (k + 1)) = l.take k := by rw [keepL_take hkl, if_pos hqk, keepL_all hq0]
    rw [hk1]
    have hlk : (l.take k).length = k := by simp; omega
    rw [hlk, List.take_append_drop]
    exact ⟨by (simp only [xe, xj, Nat.reduceEqDiff]; (try simp [view, viewL_map]); (try omega)), by omega, by omega⟩
  rintro j ⟨hj1, hj2⟩
  simp only [envOf]
  have hkp := keepL_len q l j
  obtain ⟨K0, hK0⟩ : ∃ K, keepL q (l.take j) = K := ⟨_, rfl⟩
  have hnext := fun h => keepL_take (q := q) (l := l) (k := j) h
  rw [hK0] at hkp hnext ⊢
  obtain ⟨L, hL⟩ : ∃ L, K0 ++ l.drop K0.length = L := ⟨_, rfl⟩
  have hLl : L.length = l.length := by rw [← hL]; simp; omega
  have hLt : L.take K0.length = K0 := by rw [← hL]; simp
  have hLd : L.drop K0.length = l.drop K0.length := by rw [← hL]; simp
  rw [hL]
  by_cases hjl : j < l.length
  rotate_left
  · obtain rfl : j = l.length := by omega
    rw [List.take_length] at hK0
    rw [hK0]
    have hib : (K0.length < bigW) = True := by rw [eq_iff_iff, iff_true]; omega
    have hnb2 : (bigW ≤ K0.length) = False := by rw [eq_iff_iff, iff_false]; omega
    have hpre : (([] : List Nat) <+: []) = True := by simp
    repeat' (first | refine wS fun K hK => ?_ | refine wB ?_ | ((first | refine wR hΓ ?_ | refine wD hΓ fun B hB => ?_); simp (maxSteps := 2000000) only [go_sem, hib, hnb2, hpre]) | ((repeat ((fail_if_success (refine hK _ ?_)); clear hK K)); refine hK _ ?_; clear hK K) | (refine w1 ?_; simp only [xs, xi, Nat.reduceEqDiff, reduceCtorEq]) | (refine wC (fun hb => ?_) fun hb => ?_ <;> (try simp only [xb, reduceCtorEq] at hb)) | (refine w2 (fun hc => ?_) (fun hc => ?_) <;> (try simp only [xc] at hc) <;> (try simp only [go_sem, hc, hib, hnb2, hpre]) <;> (try simp only [xb] at hc)) | refine wI ?_ | refine ex_idx (by omega) ?_ | fail)
    all_goals try (exfalso; first | exact absurd ‹true = false› (by decide) | exact absurd ‹false = true› (by decide) | exact absurd rfl ‹¬ true = true› | exact absurd trivial ‹¬ True› | omega)
    have hfin : (List.take K0.length (List.map ints L) ++ List.replicate (L.length - K0.length) AV.junk).take K0.length = K0.map ints := by
      rw [List.take_append_of_le_length (by simp; omega), List.take_take, Nat.min_self, ← List.map_take, hLt]
    simp only [hpre, if_true, hfin, hK0]
    simp [Try.results25, RetOK, RetP, backA, upd_at, plainB, getP, isOwn, anyOwn, isP]
  have hLj : L[j]'(by omega) = l[j] := by
    have h5 : (L.drop K0.length)[j - K0.length]? = (l.drop K0.length)[j - K0.length]? := by rw [hLd]
    rw [List.getElem?_drop, List.getElem?_drop, show K0.length + (j - K0.length) = j by omega, List.getElem?_eq_getElem (by omega), List.getElem?_eq_getElem hjl] at h5
    injection h5
  have hxj := hx _ (List.getElem_mem hjl)
  have hnext := hnext hjl
  repeat' (first | refine wS fun K hK => ?_ | refine wB ?_ | ((first | refine wR hΓ ?_ | refine wD hΓ fun B hB => ?_); simp (maxSteps := 2000000) only [go_sem, hcp]) | ((repeat ((fail_if_success (refine hK _ ?_)); clear hK K)); refine hK _ ?_; clear hK K) | (refine w1 ?_; simp only [xs, xi, Nat.reduceEqDiff, reduceCtorEq]) | (refine wC (fun hb => ?_) fun hb => ?_ <;> (try simp only [xb, reduceCtorEq] at hb)) | (refine w2 (fun hc => ?_) (fun hc => ?_) <;> (try simp only [xc] at hc) <;> (try simp only [go_sem, hc, hcp]) <;> (try simp only [xb] at hc)) | refine wI ?_ | refine ex_idx (by omega) ?_ | fail)
  all_goals try (exfalso; first | exact absurd ‹true = false› (by decide) | exact absurd ‹false = true› (by decide) | exact absurd rfl ‹¬ true = true› | exact absurd trivial ‹¬ True› | omega)
  simp only [hLj]
  (first | refine wA rfl ?_ ?_ ?_ | refine dA rfl ?_ ?_ ?_); exact (.bool (q l[j])); exact (⟨l[j], hxj, rfl, rfl⟩); simp (maxSteps := 2000000) only [go_sem]
  cases hqj : q l[j] with
  | true =>
    rw [if_pos hqj] at hnext
    repeat' (first | exact hb.elim | refine wS fun K hK => ?_ | refine wB ?_ | refine uR hΓ ?_ | refine uD hΓ fun B hB => ?_ | ((repeat ((fail_if_success (refine hK _ ?_)); clear hK K)); refine hK _ ?_; clear hK K) | refine u1 ?_ | refine uC (fun hb => ?_) fun hb => ?_ | refine u2 (fun hc => ?_) fun hc => ?_ | refine wI ?_ | refine ex_idx (by omega) ?_ | exact True.intro | fail)
    all_goals try (exfalso; first | exact absurd ‹true = false› (by decide) | exact absurd ‹false = true› (by decide) | exact absurd rfl ‹¬ true = true› | exact absurd trivial ‹¬ True› | omega)
    refine ⟨j + 1, ?_, ⟨by omega, by omega⟩, by omega⟩
    rw [hnext, hL]
    (simp only [xe, xj, Nat.reduceEqDiff]; (try simp [view, viewL_map]); (try omega))
  | false =>
    rw [if_neg (by simp [hqj])] at hnext
    have hn2 : K0.length < l.length := by omega
    have hL2 : K0 ++ [l[j]] ++ l.drop (K0 ++ [l[j]]).length = L.set K0.length l[j] := by
      rw [← hL, List.set_append_right _ _ (Nat.le_refl _), Nat.sub_self, List.drop_eq_getElem_cons hn2, List.set_cons_zero]
      simp
    have hmap : (L.set K0.length l[j]).map ints = (L.map ints).set K0.length (ints l[j]) := List.map_set
    repeat' (first | exact hb.elim | refine wS fun K hK => ?_ | refine wB ?_ | refine uR hΓ ?_ | refine uD hΓ fun B hB => ?_ | ((repeat ((fail_if_success (refine hK _ ?_)); clear hK K)); refine hK _ ?_; clear hK K) | refine u1 ?_ | refine uC (fun hb => ?_) fun hb => ?_ | refine u2 (fun hc => ?_) fun hc => ?_ | refine wI ?_ | refine ex_idx (by omega) ?_ | exact True.intro | fail)
    all_goals try (exfalso; first | exact absurd ‹true = false› (by decide) | exact absurd ‹false = true› (by decide) | exact absurd rfl ‹¬ true = true› | exact absurd trivial ‹¬ True› | omega)
    refine ⟨j + 1, ?_, ⟨by omega, by omega⟩, by omega⟩
    rw [hnext, hL2, hmap, List.length_append, List.length_singleton]
    (simp only [xe, xj, Nat.reduceEqDiff]; (try simp [view, viewL_map]); (try omega))

end Go.Proofs.Ytehdfifncbokeaa
