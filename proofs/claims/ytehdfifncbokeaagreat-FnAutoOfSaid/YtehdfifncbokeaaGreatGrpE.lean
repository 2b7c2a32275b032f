/- The parts of expressions in the reference, walked by the engine. -/
import Derived.Test.YtehdfifncbokeaaGreatGrpD
import Derived.Test.YtehdfifncbokeaaGreatEngMin
namespace Go.Proofs.YtehdfifncbokeaaGreat
set_option linter.unusedSimpArgs false
set_option linter.unusedVariables false
set_option maxRecDepth 8000
set_option maxHeartbeats 2000000
open Go Go.RowKit AV

theorem take_map_len {α β : Type} (f : α → β) (l : List α) : (l.map f).take l.length = l.map f := List.take_of_length_le (by simp)

def spanR (args : List AV) (r : AV) : Prop := ∃ (L M : List Int) (x : Ex), args = [ints (L ++ (x.steps ++ M)), I ((L.length + x.steps.length : Nat) - 1 : Int)] ∧ x.wf ∧ (L ++ (x.steps ++ M)).length ≤ 1099511627776 ∧ r = I L.length
theorem l2Span_ctr : CtrOK Tryz.prog 77 (pureC spanR) := by
  refine ctr_pure' Tryz.func77 rfl rfl Tryz.ntmps77 ?_
  rintro _ _ ⟨L, M, x, rfl, hw, hl, rfl⟩
  refine ⟨by simp, fun κ hκ => ?_⟩
  have hbig := bigW_gt
  rw [argEnv_eq]
  simp only [envA]
  have hΓ := ctxOf_ok (P := Tryz.prog) (cx l2Takes_ctr <| cx0)
  have hlen : (L ++ (x.steps ++ M)).length = L.length + x.steps.length + M.length := by simp only [List.length_append]; omega
  have hpos := x.steps_pos
  repeat' (first | exact hb.elim | refine wS fun K hK => ?_ | refine wB ?_ | refine uR hΓ ?_ | refine uD hΓ fun B hB => ?_ | ((repeat ((fail_if_success (refine hK _ ?_)); clear hK K)); refine hK _ ?_; clear hK K) | refine u1 ?_ | refine uC (fun hb => ?_) fun hb => ?_ | refine u2 (fun hc => ?_) fun hc => ?_ | refine wI ?_ | refine ex_idx (by omega) ?_ | exact True.intro | fail)
  refine CW.loop (ι := Nat × List Ex) (fun y => [(0, ints (L ++ (x.steps ++ M))), (5, I (y.2.length : Nat)), (6, I (y.1 : Nat))]) (fun y => SpanAt (L ++ (x.steps ++ M)) L y.1 y.2) (fun y => y.1) (L.length + x.steps.length, [x]) ?_ ?_
  · refine ⟨?_, ⟨by dsimp only; omega, ?_, ⟨hw, trivial⟩⟩⟩
    · (simp only [xe, xj, Nat.reduceEqDiff]; (try simp [view, viewL_map]); (try omega))
    · dsimp only
      have h1 : L ++ (x.steps ++ M) = (L ++ x.steps) ++ M := by simp
      rw [h1, List.take_left' (by simp)]
      simp [flat]
  rintro ⟨k, ys⟩ hsp
  have hle := hsp.le
  have hyl := hsp.len
  dsimp only at hsp hle hyl ⊢
  simp only [envOf]
  generalize he : L ++ (x.steps ++ M) = e at *
  cases ys with
  | nil =>
    have := hsp.nil
    subst this
    repeat' (first | exact hb.elim | refine wS fun K hK => ?_ | refine wB ?_ | refine uR hΓ ?_ | refine uD hΓ fun B hB => ?_ | ((repeat ((fail_if_success (refine hK _ ?_)); clear hK K)); refine hK _ ?_; clear hK K) | refine u1 ?_ | refine uC (fun hb => ?_) fun hb => ?_ | refine u2 (fun hc => ?_) fun hc => ?_ | refine wI ?_ | refine ex_idx (by omega) ?_ | exact True.intro | fail)
    · simp at hb
    · simp [Tryz.results77, RetOK, RetP, backA, upd_at, plainB, getP, isOwn, anyOwn, isP]
  | cons y r =>
    obtain ⟨j, rfl, hop, htk, hsp'⟩ := hsp.cons
    have hj : j < e.length := by omega
    have e1 : ((j + 1 : Nat) : Int) - 1 = (j : Int) := by omega
    have hpl : 0 < (y :: r).length := by simp
    have e2 : (((y :: r).length : Nat) : Int) - 1 + ((takesN e[j] : Nat) : Int) = (((y.kids ++ r).length : Nat) : Int) := by
      have h1 : takesN e[j] = y.kids.length := by rw [← htk, ← hop, nth_getElem hj]
      rw [h1, List.length_append, List.length_cons]; omega
    have htl := takesN_le e[j]
    generalize hn0 : (y :: r).length = n0 at *
    repeat' (first | refine wS fun K hK => ?_ | refine wB ?_ | ((first | refine wR hΓ ?_ | refine wD hΓ fun B hB => ?_); simp (maxSteps := 2000000) only [go_sem, e1]) | ((repeat ((fail_if_success (refine hK _ ?_)); clear hK K)); refine hK _ ?_; clear hK K) | (refine w1 ?_; simp only [xs, xi, Nat.reduceEqDiff, reduceCtorEq]) | (refine wC (fun hb => ?_) fun hb => ?_ <;> (try simp only [xb, reduceCtorEq] at hb)) | (refine w2 (fun hc => ?_) (fun hc => ?_) <;> (try simp only [xc] at hc) <;> (try simp only [go_sem, hc, e1]) <;> (try simp only [xb] at hc)) | refine wI ?_ | refine ex_idx (by omega) ?_ | fail)
    · (first | refine wA rfl _ (⟨_, rfl, rfl⟩) ?_ | refine dA rfl _ (⟨_, rfl, rfl⟩) ?_); simp (maxSteps := 2000000) only [go_sem]
      repeat' (first | refine wS fun K hK => ?_ | refine wB ?_ | ((first | refine wR hΓ ?_ | refine wD hΓ fun B hB => ?_); simp (maxSteps := 2000000) only [go_sem, e1]) | ((repeat ((fail_if_success (refine hK _ ?_)); clear hK K)); refine hK _ ?_; clear hK K) | (refine w1 ?_; simp only [xs, xi, Nat.reduceEqDiff, reduceCtorEq]) | (refine wC (fun hb => ?_) fun hb => ?_ <;> (try simp only [xb, reduceCtorEq] at hb)) | (refine w2 (fun hc => ?_) (fun hc => ?_) <;> (try simp only [xc] at hc) <;> (try simp only [go_sem, hc, e1]) <;> (try simp only [xb] at hc)) | refine wI ?_ | refine ex_idx (by omega) ?_ | fail)
      rw [e2]
      exact ⟨(j, y.kids ++ r), by (simp only [xe, xj, Nat.reduceEqDiff]; (try simp [view, viewL_map]); (try omega)), hsp', by dsimp only; omega⟩
    · omega

def halvesR (args : List AV) (r : AV) : Prop := ∃ (a b : Ex) (n : Int), args = [ints (a.steps ++ (b.steps ++ [n]))] ∧ a.wf ∧ b.wf ∧ (a.steps ++ (b.steps ++ [n])).length ≤ 1099511627776 ∧ r = .tup [ints a.steps, ints b.steps]
theorem l2Halves_ctr : CtrOK Tryz.prog 53 (pureC halvesR) := by
  refine ctr_pure' Tryz.func53 rfl rfl Tryz.ntmps53 ?_
  rintro _ _ ⟨a, b, n, rfl, hwa, hwb, hl, rfl⟩
  refine ⟨by simp, fun κ hκ => ?_⟩
  have hbig := bigW_gt
  rw [argEnv_eq]
  simp only [envA]
  have hΓ := ctxOf_ok (P := Tryz.prog) (cx l2Span_ctr <| cx0)
  have hlen : (a.steps ++ (b.steps ++ [n])).length = a.steps.length + b.steps.length + 1 := by simp only [List.length_append, List.length_cons, List.length_nil]; omega
  have hpa := a.steps_pos
  have hpb := b.steps_pos
  have e1 : (((a.steps ++ (b.steps ++ [n])).length : Nat) : Int) - 1 - 1 = ((a.steps.length + b.steps.length : Nat) - 1 : Int) := by omega
  have t1 : (a.steps ++ (b.steps ++ [n])).take a.steps.length = a.steps := List.take_left
  have t2 : ((a.steps ++ (b.steps ++ [n])).take (a.steps.length + b.steps.length)).drop a.steps.length = b.steps := by
    rw [← List.append_assoc, List.take_left' (by simp), List.drop_left]
  repeat' (first | refine wS fun K hK => ?_ | refine wB ?_ | ((first | refine wR hΓ ?_ | refine wD hΓ fun B hB => ?_); simp (maxSteps := 2000000) only [go_sem, e1]) | ((repeat ((fail_if_success (refine hK _ ?_)); clear hK K)); refine hK _ ?_; clear hK K) | (refine w1 ?_; simp only [xs, xi, Nat.reduceEqDiff, reduceCtorEq]) | (refine wC (fun hb => ?_) fun hb => ?_ <;> (try simp only [xb, reduceCtorEq] at hb)) | (refine w2 (fun hc => ?_) (fun hc => ?_) <;> (try simp only [xc] at hc) <;> (try simp only [go_sem, hc, e1]) <;> (try simp only [xb] at hc)) | refine wI ?_ | refine ex_idx (by omega) ?_ | fail)
  (first | refine wA rfl _ (⟨a.steps, [n], b, rfl, hwb, hl, rfl⟩) ?_ | refine dA rfl _ (⟨a.steps, [n], b, rfl, hwb, hl, rfl⟩) ?_); simp (maxSteps := 2000000) only [go_sem]
  repeat' (first | exact hb.elim | refine wS fun K hK => ?_ | refine wB ?_ | refine uR hΓ ?_ | refine uD hΓ fun B hB => ?_ | ((repeat ((fail_if_success (refine hK _ ?_)); clear hK K)); refine hK _ ?_; clear hK K) | refine u1 ?_ | refine uC (fun hb => ?_) fun hb => ?_ | refine u2 (fun hc => ?_) fun hc => ?_ | refine wI ?_ | refine ex_idx (by omega) ?_ | exact True.intro | fail)
  simp only [← List.map_take, ← List.map_drop, t1, t2, Int.toNat_natCast, List.take_length, List.drop_zero]
  rw [Tryz.results53]
  refine ⟨ints a.steps, ints b.steps, rfl, by decide, rfl, rfl, .inl ?_, .inl ?_⟩
  · simp [upd_at, ← List.map_take, t1]
  · simp only [upd_at, if_true, if_false, Nat.reduceEqDiff]
    rw [show (((a.steps ++ (b.steps ++ [n])).length : Nat) - 1 : Int).toNat = a.steps.length + b.steps.length by omega, t2]

def joinR (args : List AV) (r : AV) : Prop := ∃ (a b : List Int) (n : Int), args = [ints a, ints b, I n] ∧ a.length ≤ 274877906944 ∧ b.length ≤ 274877906944 ∧ r = oints (a ++ (b ++ [n]))
theorem l2Join_ctr : CtrOK Tryz.prog 70 (pureC joinR) := by
  refine ctr_pure' Tryz.func70 rfl rfl Tryz.ntmps70 ?_
  rintro _ _ ⟨a, b, n, rfl, ha, hb0, rfl⟩
  refine ⟨by simp, fun κ hκ => ?_⟩
  have hbig := bigW_gt
  rw [argEnv_eq]
  simp only [envA]
  have hΓ := noCtx_ok Tryz.prog
  repeat' (first | exact hb.elim | refine wS fun K hK => ?_ | refine wB ?_ | refine uR hΓ ?_ | refine uD hΓ fun B hB => ?_ | ((repeat ((fail_if_success (refine hK _ ?_)); clear hK K)); refine hK _ ?_; clear hK K) | refine u1 ?_ | refine uC (fun hb => ?_) fun hb => ?_ | refine u2 (fun hc => ?_) fun hc => ?_ | refine wI ?_ | refine ex_idx (by omega) ?_ | exact True.intro | fail)
  have : List.map I a ++ List.map I b ++ [I n] = List.map I (a ++ (b ++ [n])) := by simp
  rw [this]
  simp [Tryz.results70, RetOK, RetP, backA, upd_at, plainB, getP, isOwn, anyOwn, isP]

def behindR (args : List AV) (r : AV) : Prop := ∃ (a b : List Int), args = [ints a, ints b] ∧ a.length ≤ 274877906944 ∧ b.length ≤ 274877906944 ∧ r = oints (behL a b)
theorem l4Behind_ctr : CtrOK Tryz.prog 57 (pureC behindR) := by
  refine ctr_pure' Tryz.func57 rfl rfl Tryz.ntmps57 ?_
  rintro _ _ ⟨a, b, rfl, ha, hb0, rfl⟩
  refine ⟨by simp, fun κ hκ => ?_⟩
  have hbig := bigW_gt
  rw [argEnv_eq]
  simp only [envA]
  have hΓ := ctxOf_ok (P := Tryz.prog) (cx l1Same_ctr <| cx l2Join_ctr <| cx0)
  repeat' (first | exact hb.elim | refine wS fun K hK => ?_ | refine wB ?_ | refine uR hΓ ?_ | refine uD hΓ fun B hB => ?_ | ((repeat ((fail_if_success (refine hK _ ?_)); clear hK K)); refine hK _ ?_; clear hK K) | refine u1 ?_ | refine uC (fun hb => ?_) fun hb => ?_ | refine u2 (fun hc => ?_) fun hc => ?_ | refine wI ?_ | refine ex_idx (by omega) ?_ | exact True.intro | fail)
  (first | refine wA rfl _ (⟨a, [15], rfl, by omega, by simp, rfl⟩) ?_ | refine dA rfl _ (⟨a, [15], rfl, by omega, by simp, rfl⟩) ?_); simp (maxSteps := 2000000) only [go_sem]
  repeat' (first | exact hb.elim | refine wS fun K hK => ?_ | refine wB ?_ | refine uR hΓ ?_ | refine uD hΓ fun B hB => ?_ | ((repeat ((fail_if_success (refine hK _ ?_)); clear hK K)); refine hK _ ?_; clear hK K) | refine u1 ?_ | refine uC (fun hb => ?_) fun hb => ?_ | refine u2 (fun hc => ?_) fun hc => ?_ | refine wI ?_ | refine ex_idx (by omega) ?_ | exact True.intro | fail)
  · have : behL a b = b := by unfold behL; rw [if_pos hb]
    rw [this]
    simp [Tryz.results57, RetOK, RetP, backA, upd_at, plainB, getP, isOwn, anyOwn, isP]
  · (first | refine wA rfl _ (⟨_, _, _, rfl, ha, hb0, rfl⟩) ?_ | refine dA rfl _ (⟨_, _, _, rfl, ha, hb0, rfl⟩) ?_); simp (maxSteps := 2000000) only [go_sem]
    repeat' (first | exact hb.elim | refine wS fun K hK => ?_ | refine wB ?_ | refine uR hΓ ?_ | refine uD hΓ fun B hB => ?_ | ((repeat ((fail_if_success (refine hK _ ?_)); clear hK K)); refine hK _ ?_; clear hK K) | refine u1 ?_ | refine uC (fun hb => ?_) fun hb => ?_ | refine u2 (fun hc => ?_) fun hc => ?_ | refine wI ?_ | refine ex_idx (by omega) ?_ | exact True.intro | fail)
    have : behL a b = a ++ (b ++ [19]) := by unfold behL; rw [if_neg hb]
    rw [this]
    simp [Tryz.results57, RetOK, RetP, backA, upd_at, plainB, getP, isOwn, anyOwn, isP]

theorem addL_find {t : List Int} : ∀ {l : LL} {k : Nat}, k ≤ l.length → (∀ i (h : i < l.length), i < k → lexLt l[i] t = true) → (∀ h : k < l.length, lexLt l[k] t = false) →
    addL t l = l.take k ++ addL t (l.drop k)
  | l, 0, _, _, _ => by simp
  | [], k + 1, hk, _, _ => by simp at hk
  | x :: r, k + 1, hk, h1, h2 => by
    have hx := h1 0 (by simp) (by omega)
    simp only [List.getElem_cons_zero] at hx
    have ih := addL_find (t := t) (l := r) (k := k) (by simpa using hk) (fun i hi hik => by have := h1 (i + 1) (by simpa using hi) (by omega); simpa using this) (fun h => by have := h2 (by simpa using h); simpa using this)
    rw [addL, if_pos hx, ih]
    simp
theorem addL_has {t : List Int} {l : LL} {k : Nat} (hk : k < l.length) (h1 : ∀ i (h : i < l.length), i < k → lexLt l[i] t = true) (he : l[k] = t) : addL t l = l := by
  rw [addL_find (k := k) (by omega) h1 (fun _ => by rw [he]; exact lexLt_irrefl t), List.drop_eq_getElem_cons hk, addL, he, lexLt_irrefl, if_neg (by simp), if_pos rfl, ← he, ← List.drop_eq_getElem_cons hk, List.take_append_drop]
theorem addL_ins {t : List Int} {l : LL} {k : Nat} (hk : k ≤ l.length) (h1 : ∀ i (h : i < l.length), i < k → lexLt l[i] t = true) (h2 : ∀ h : k < l.length, lexLt l[k] t = false ∧ l[k] ≠ t) : addL t l = l.take k ++ [t] ++ l.drop k := by
  rw [addL_find hk h1 fun h => (h2 h).1]
  by_cases hkl : k < l.length
  · rw [List.drop_eq_getElem_cons hkl, addL, (h2 hkl).1, if_neg (by simp), if_neg (h2 hkl).2]; simp
  · rw [List.drop_eq_nil_of_le (by omega), addL]; simp

def addR (args : List AV) (r : AV) : Prop := ∃ (l : LL) (t : List Int), args = [rows l, ints t] ∧ l.length ≤ 1048576 ∧ (∀ x ∈ l, x.length ≤ 1099511627776) ∧ t.length ≤ 1099511627776 ∧ r = rows (addL t l)
theorem l3Add_ctr : CtrOK Tryz.prog 56 (pureC addR) := by
  refine ctr_pure' Tryz.func56 rfl rfl Tryz.ntmps56 ?_
  rintro _ _ ⟨l, t, rfl, hl, hx, ht, rfl⟩
  refine ⟨by simp, fun κ hκ => ?_⟩
  have hbig := bigW_gt
  rw [argEnv_eq]
  simp only [envA]
  have hΓ := ctxOf_ok (P := Tryz.prog) (cx l1Same_ctr <| cx l1Less_ctr <| cx0)
  repeat' (first | exact hb.elim | refine wS fun K hK => ?_ | refine wB ?_ | refine uR hΓ ?_ | refine uD hΓ fun B hB => ?_ | ((repeat ((fail_if_success (refine hK _ ?_)); clear hK K)); refine hK _ ?_; clear hK K) | refine u1 ?_ | refine uC (fun hb => ?_) fun hb => ?_ | refine u2 (fun hc => ?_) fun hc => ?_ | refine wI ?_ | refine ex_idx (by omega) ?_ | exact True.intro | fail)
  refine CW.loop (ι := Nat) (fun k => [(0, rows l), (1, ints t), (5, I k)]) (fun k => k ≤ l.length ∧ ∀ i (h : i < l.length), i < k → lexLt l[i] t = true) (fun k => l.length - k) 0 ?_ ?_
  · exact ⟨by (simp only [xe, xj, Nat.reduceEqDiff]; (try simp [view, viewL_map]); (try omega)), by omega, fun i _ h => by omega⟩
  rintro k ⟨hk, hlt⟩
  simp only [envOf]
  repeat' (first | exact hb.elim | refine wS fun K hK => ?_ | refine wB ?_ | refine uR hΓ ?_ | refine uD hΓ fun B hB => ?_ | ((repeat ((fail_if_success (refine hK _ ?_)); clear hK K)); refine hK _ ?_; clear hK K) | refine u1 ?_ | refine uC (fun hb => ?_) fun hb => ?_ | refine u2 (fun hc => ?_) fun hc => ?_ | refine wI ?_ | refine ex_idx (by omega) ?_ | exact True.intro | fail)
  · have hxk := hx _ (List.getElem_mem (show k < l.length by omega))
    (first | refine wA rfl _ (⟨_, _, rfl, hxk, ht, rfl⟩) ?_ | refine dA rfl _ (⟨_, _, rfl, hxk, ht, rfl⟩) ?_); simp (maxSteps := 2000000) only [go_sem]
    repeat' (first | exact hb.elim | refine wS fun K hK => ?_ | refine wB ?_ | refine uR hΓ ?_ | refine uD hΓ fun B hB => ?_ | ((repeat ((fail_if_success (refine hK _ ?_)); clear hK K)); refine hK _ ?_; clear hK K) | refine u1 ?_ | refine uC (fun hb => ?_) fun hb => ?_ | refine u2 (fun hc => ?_) fun hc => ?_ | refine wI ?_ | refine ex_idx (by omega) ?_ | exact True.intro | fail)
    · exact ⟨k + 1, by (simp only [xe, xj, Nat.reduceEqDiff]; (try simp [view, viewL_map]); (try omega)), ⟨by omega, fun i hi hik => by
        by_cases hik' : i < k
        · exact hlt i hi hik'
        · obtain rfl : i = k := by omega
          assumption⟩, by omega⟩
    · (first | refine wA rfl _ (⟨_, _, rfl, hxk, ht, rfl⟩) ?_ | refine dA rfl _ (⟨_, _, rfl, hxk, ht, rfl⟩) ?_); simp (maxSteps := 2000000) only [go_sem]
      repeat' (first | exact hb.elim | refine wS fun K hK => ?_ | refine wB ?_ | refine uR hΓ ?_ | refine uD hΓ fun B hB => ?_ | ((repeat ((fail_if_success (refine hK _ ?_)); clear hK K)); refine hK _ ?_; clear hK K) | refine u1 ?_ | refine uC (fun hb => ?_) fun hb => ?_ | refine u2 (fun hc => ?_) fun hc => ?_ | refine wI ?_ | refine ex_idx (by omega) ?_ | exact True.intro | fail)
      · rw [addL_has (k := k) (by omega) hlt (by assumption)]
        simp [Tryz.results56, RetOK, RetP, backA, upd_at, plainB, getP, isOwn, anyOwn, isP]
      · rw [addL_ins (k := k) (by omega) hlt fun h => ⟨by assumption, by assumption⟩]
        simp [Tryz.results56, RetOK, RetP, backA, upd_at, plainB, getP, isOwn, anyOwn, isP]
        simp [view, viewL_map, List.map_take, List.map_drop, view_ints, take_map_len]
    · omega
  · omega
  · rw [addL_ins (k := k) (by omega) hlt fun h => by omega]
    simp [Tryz.results56, RetOK, RetP, backA, upd_at, plainB, getP, isOwn, anyOwn, isP]
    simp [view, viewL_map, List.map_take, List.map_drop, view_ints, take_map_len]

def hasR (args : List AV) (r : AV) : Prop := ∃ (l : LL) (t : List Int), args = [rows l, ints t] ∧ l.length ≤ 1099511627776 ∧ (∀ x ∈ l, x.length ≤ 1099511627776) ∧ t.length ≤ 1099511627776 ∧ r = .bool (decide (t ∈ l))
theorem l4Has_ctr : CtrOK Tryz.prog 29 (pureC hasR) := by
  refine ctr_pure' Tryz.func29 rfl rfl Tryz.ntmps29 ?_
  rintro _ _ ⟨l, t, rfl, hl, hx, ht, rfl⟩
  refine ⟨by simp, fun κ hκ => ?_⟩
  have hbig := bigW_gt
  rw [argEnv_eq]
  simp only [envA]
  have hΓ := ctxOf_ok (P := Tryz.prog) (cx l1Same_ctr <| cx0)
  repeat' (first | exact hb.elim | refine wS fun K hK => ?_ | refine wB ?_ | refine uR hΓ ?_ | refine uD hΓ fun B hB => ?_ | ((repeat ((fail_if_success (refine hK _ ?_)); clear hK K)); refine hK _ ?_; clear hK K) | refine u1 ?_ | refine uC (fun hb => ?_) fun hb => ?_ | refine u2 (fun hc => ?_) fun hc => ?_ | refine wI ?_ | refine ex_idx (by omega) ?_ | exact True.intro | fail)
  refine CW.loop (ι := Nat) (fun k => [(0, rows l), (1, ints t), (5, I k)]) (fun k => k ≤ l.length ∧ t ∉ l.take k) (fun k => l.length - k) 0 ?_ ?_
  · exact ⟨by (simp only [xe, xj, Nat.reduceEqDiff]; (try simp [view, viewL_map]); (try omega)), by omega, by simp⟩
  rintro k ⟨hk, hnk⟩
  simp only [envOf]
  repeat' (first | exact hb.elim | refine wS fun K hK => ?_ | refine wB ?_ | refine uR hΓ ?_ | refine uD hΓ fun B hB => ?_ | ((repeat ((fail_if_success (refine hK _ ?_)); clear hK K)); refine hK _ ?_; clear hK K) | refine u1 ?_ | refine uC (fun hb => ?_) fun hb => ?_ | refine u2 (fun hc => ?_) fun hc => ?_ | refine wI ?_ | refine ex_idx (by omega) ?_ | exact True.intro | fail)
  · have hxk := hx _ (List.getElem_mem (show k < l.length by omega))
    (first | refine wA rfl _ (⟨_, _, rfl, hxk, ht, rfl⟩) ?_ | refine dA rfl _ (⟨_, _, rfl, hxk, ht, rfl⟩) ?_); simp (maxSteps := 2000000) only [go_sem]
    repeat' (first | exact hb.elim | refine wS fun K hK => ?_ | refine wB ?_ | refine uR hΓ ?_ | refine uD hΓ fun B hB => ?_ | ((repeat ((fail_if_success (refine hK _ ?_)); clear hK K)); refine hK _ ?_; clear hK K) | refine u1 ?_ | refine uC (fun hb => ?_) fun hb => ?_ | refine u2 (fun hc => ?_) fun hc => ?_ | refine wI ?_ | refine ex_idx (by omega) ?_ | exact True.intro | fail)
    · have h2 : decide (t ∈ l) = true := decide_eq_true (by rw [← hb]; exact List.getElem_mem _)
      rw [h2]
      simp [Tryz.results29, RetOK, RetP, backA, upd_at, plainB, getP, isOwn, anyOwn, isP]
    · refine ⟨k + 1, by (simp only [xe, xj, Nat.reduceEqDiff]; (try simp [view, viewL_map]); (try omega)), ⟨by omega, ?_⟩, by omega⟩
      rw [List.take_succ_eq_append_getElem (show k < l.length by omega), List.mem_append, List.mem_singleton]
      rintro (h | h)
      · exact hnk h
      · exact hb h.symm
  · have : l.take k = l := List.take_of_length_le (by omega)
    rw [this] at hnk
    have h2 : decide (t ∈ l) = false := decide_eq_false hnk
    rw [h2]
    simp [Tryz.results29, RetOK, RetP, backA, upd_at, plainB, getP, isOwn, anyOwn, isP]

end Go.Proofs.YtehdfifncbokeaaGreat

namespace Go.Proofs.YtehdfifncbokeaaGreat
set_option linter.unusedSimpArgs false
set_option linter.unusedVariables false
set_option maxRecDepth 8000
set_option maxHeartbeats 2000000
open Go Go.RowKit AV

def endsR (N : Nat) (args : List AV) (r : AV) : Prop := ∃ x : Ex, args = [ints x.steps] ∧ x.wf ∧ x.steps.length ≤ N ∧ r = I ((endX x : Nat) : Int)
theorem steps_last (x : Ex) : ∃ L, x.steps = L ++ [x.op] := ⟨flat (x.kids ++ []), by have := flat_kids x []; simpa [flat] using this⟩
theorem steps_get {x : Ex} (h : x.steps.length - 1 < x.steps.length) : x.steps[x.steps.length - 1] = x.op := by
  obtain ⟨L, e⟩ := steps_last x
  simp [e]
theorem op_wf {x : Ex} (h : x.wf) : 0 ≤ x.op ∧ x.op ≤ 21 := by
  cases x with
  | leaf n => exact ⟨h.1, by have := h.2; show n ≤ 21; omega⟩
  | thn a b => exact ⟨by simp [Ex.op], by simp [Ex.op]⟩
  | pls a b => exact ⟨by simp [Ex.op], by simp [Ex.op]⟩
  | str a => exact ⟨by simp [Ex.op], by simp [Ex.op]⟩

theorem specEnds_step (N : Nat) (hN : N ≤ 1099511627776) (ih : CtrOK Tryz.prog 27 (pureC (endsR (N - 1)))) : CtrOK Tryz.prog 27 (pureC (endsR N)) := by
  have l4Ends_ctr := ih
  refine ctr_pure' Tryz.func27 rfl rfl Tryz.ntmps27 ?_
  rintro _ _ ⟨x, rfl, hw, hl, rfl⟩
  refine ⟨by simp, fun κ hκ => ?_⟩
  have hbig := bigW_gt
  rw [argEnv_eq]
  simp only [envA]
  have hΓ := ctxOf_ok (P := Tryz.prog) (cx l2Halves_ctr <| cx l4Ends_ctr <| cx l1Either_ctr <| cx l1Both_ctr <| cx0)
  have hpos := x.steps_pos
  have e1 : ((x.steps.length : Nat) : Int) - 1 = ((x.steps.length - 1 : Nat) : Int) := by omega
  have hlast := steps_get (x := x) (by omega)
  have hop := op_wf hw
  repeat' (first | refine wS fun K hK => ?_ | refine wB ?_ | ((first | refine wR hΓ ?_ | refine wD hΓ fun B hB => ?_); simp (maxSteps := 2000000) only [go_sem, e1, hlast]) | ((repeat ((fail_if_success (refine hK _ ?_)); clear hK K)); refine hK _ ?_; clear hK K) | (refine w1 ?_; simp only [xs, xi, Nat.reduceEqDiff, reduceCtorEq]) | (refine wC (fun hb => ?_) fun hb => ?_ <;> (try simp only [xb, reduceCtorEq] at hb)) | (refine w2 (fun hc => ?_) (fun hc => ?_) <;> (try simp only [xc] at hc) <;> (try simp only [go_sem, hc, e1, hlast]) <;> (try simp only [xb] at hc)) | refine wI ?_ | refine ex_idx (by omega) ?_ | fail)
  · cases x with
    | leaf n =>
      have h0 := hw.1
      have h2 : ((endX (.leaf n) : Nat) : Int) = n := by
        have hb' : n ≤ 15 := hb
        unfold endX; rw [if_pos hb']; omega
      rw [h2]
      simp [Tryz.results27, RetOK, upd_at, plainB, Ex.op]
    | _ => simp [Ex.op] at hb
  · cases x with
    | leaf n =>
      have h2 : endX (.leaf n) = 0 := by
        have h15 : ¬ n ≤ 15 := by assumption
        unfold endX; rw [if_neg h15]
      rw [h2]
      simp [Tryz.results27, RetOK, RetP, backA, upd_at, plainB, getP, isOwn, anyOwn, isP]
    | _ => simp [Ex.op] at hb
  · cases x with
    | str a => simp [Tryz.results27, RetOK, RetP, backA, upd_at, plainB, getP, isOwn, anyOwn, isP]; simp [endX]
    | leaf n => have := hw.2; simp [Ex.op] at hb; omega
    | _ => simp [Ex.op] at hb
  · cases x with
    | leaf n => have := hw.2; simp only [Ex.op] at *; omega
    | str a => simp [Ex.op] at hb
    | thn a b =>
      have hlen : (Ex.thn a b).steps.length = a.steps.length + b.steps.length + 1 := by simp only [Ex.steps, List.length_append, List.length_cons, List.length_nil]; omega
      have hpa := a.steps_pos
      have hpb := b.steps_pos
      have hea := endX_lt hw.1
      have heb := endX_lt hw.2
      (first | refine wA rfl _ (⟨a, b, 19, rfl, hw.1, hw.2, by show (Ex.thn a b).steps.length ≤ _; omega, rfl⟩) ?_ | refine dA rfl _ (⟨a, b, 19, rfl, hw.1, hw.2, by show (Ex.thn a b).steps.length ≤ _; omega, rfl⟩) ?_); simp (maxSteps := 2000000) only [go_sem]
      repeat' (first | exact hb.elim | refine wS fun K hK => ?_ | refine wB ?_ | refine uR hΓ ?_ | refine uD hΓ fun B hB => ?_ | ((repeat ((fail_if_success (refine hK _ ?_)); clear hK K)); refine hK _ ?_; clear hK K) | refine u1 ?_ | refine uC (fun hb => ?_) fun hb => ?_ | refine u2 (fun hc => ?_) fun hc => ?_ | refine wI ?_ | refine ex_idx (by omega) ?_ | exact True.intro | fail)
      · simp [Ex.op] at hb
      (first | refine wA rfl _ (⟨a, rfl, hw.1, by omega, rfl⟩) ?_ | refine dA rfl _ (⟨a, rfl, hw.1, by omega, rfl⟩) ?_); simp (maxSteps := 2000000) only [go_sem]
      (first | refine wA rfl _ (⟨b, rfl, hw.2, by omega, rfl⟩) ?_ | refine dA rfl _ (⟨b, rfl, hw.2, by omega, rfl⟩) ?_); simp (maxSteps := 2000000) only [go_sem]
      (first | refine wA rfl _ (⟨_, _, rfl, by omega, by omega, rfl⟩) ?_ | refine dA rfl _ (⟨_, _, rfl, by omega, by omega, rfl⟩) ?_); simp (maxSteps := 2000000) only [go_sem]
      repeat' (first | exact hb.elim | refine wS fun K hK => ?_ | refine wB ?_ | refine uR hΓ ?_ | refine uD hΓ fun B hB => ?_ | ((repeat ((fail_if_success (refine hK _ ?_)); clear hK K)); refine hK _ ?_; clear hK K) | refine u1 ?_ | refine uC (fun hb => ?_) fun hb => ?_ | refine u2 (fun hc => ?_) fun hc => ?_ | refine wI ?_ | refine ex_idx (by omega) ?_ | exact True.intro | fail)
      simp [Tryz.results27, RetOK, RetP, backA, upd_at, plainB, getP, isOwn, anyOwn, isP]
      simp [endX]
    | pls a b =>
      have hlen : (Ex.pls a b).steps.length = a.steps.length + b.steps.length + 1 := by simp only [Ex.steps, List.length_append, List.length_cons, List.length_nil]; omega
      have hpa := a.steps_pos
      have hpb := b.steps_pos
      have hea := endX_lt hw.1
      have heb := endX_lt hw.2
      (first | refine wA rfl _ (⟨a, b, 20, rfl, hw.1, hw.2, by show (Ex.pls a b).steps.length ≤ _; omega, rfl⟩) ?_ | refine dA rfl _ (⟨a, b, 20, rfl, hw.1, hw.2, by show (Ex.pls a b).steps.length ≤ _; omega, rfl⟩) ?_); simp (maxSteps := 2000000) only [go_sem]
      repeat' (first | exact hb.elim | refine wS fun K hK => ?_ | refine wB ?_ | refine uR hΓ ?_ | refine uD hΓ fun B hB => ?_ | ((repeat ((fail_if_success (refine hK _ ?_)); clear hK K)); refine hK _ ?_; clear hK K) | refine u1 ?_ | refine uC (fun hb => ?_) fun hb => ?_ | refine u2 (fun hc => ?_) fun hc => ?_ | refine wI ?_ | refine ex_idx (by omega) ?_ | exact True.intro | fail)
      · (first | refine wA rfl _ (⟨a, rfl, hw.1, by omega, rfl⟩) ?_ | refine dA rfl _ (⟨a, rfl, hw.1, by omega, rfl⟩) ?_); simp (maxSteps := 2000000) only [go_sem]
        (first | refine wA rfl _ (⟨b, rfl, hw.2, by omega, rfl⟩) ?_ | refine dA rfl _ (⟨b, rfl, hw.2, by omega, rfl⟩) ?_); simp (maxSteps := 2000000) only [go_sem]
        (first | refine wA rfl _ (⟨_, _, rfl, by omega, by omega, rfl⟩) ?_ | refine dA rfl _ (⟨_, _, rfl, by omega, by omega, rfl⟩) ?_); simp (maxSteps := 2000000) only [go_sem]
        repeat' (first | exact hb.elim | refine wS fun K hK => ?_ | refine wB ?_ | refine uR hΓ ?_ | refine uD hΓ fun B hB => ?_ | ((repeat ((fail_if_success (refine hK _ ?_)); clear hK K)); refine hK _ ?_; clear hK K) | refine u1 ?_ | refine uC (fun hb => ?_) fun hb => ?_ | refine u2 (fun hc => ?_) fun hc => ?_ | refine wI ?_ | refine ex_idx (by omega) ?_ | exact True.intro | fail)
        simp [Tryz.results27, RetOK, RetP, backA, upd_at, plainB, getP, isOwn, anyOwn, isP]
        simp [endX]
      · simp [Ex.op] at hb

theorem specEnds_all : ∀ N : Nat, N ≤ 1099511627776 → CtrOK Tryz.prog 27 (pureC (endsR N))
  | 0, _ => specEnds_step 0 (by omega) ⟨⟨_, _, Tryz.func27, rfl, rfl⟩, fun args r args' ⟨_, x, _, _, h, _⟩ => by have := x.steps_pos; omega⟩
  | N + 1, h => specEnds_step (N + 1) h (specEnds_all N (by omega))
theorem l4Ends_ctr : CtrOK Tryz.prog 27 (pureC (endsR 1048576)) := specEnds_all 1048576 (by omega)

end Go.Proofs.YtehdfifncbokeaaGreat

namespace Go.Proofs.YtehdfifncbokeaaGreat
set_option linter.unusedSimpArgs false
set_option linter.unusedVariables false
set_option maxRecDepth 8000
set_option maxHeartbeats 2000000
open Go Go.RowKit AV

theorem partsL_bd {x : Ex} (hl : x.steps.length ≤ 4096) (hw : x.wf) {atom : Nat} {act : Int} (h16 : 16 ≤ act) : (partsL atom act x).length ≤ 4096 ∧ ∀ t ∈ partsL atom act x, t.length ≤ 16777217 := by
  have h1 := partsL_count (atom := atom) h16 x
  have h2 := actsX_len x
  refine ⟨by omega, fun t ht => ?_⟩
  obtain ⟨p, hp, rfl⟩ := mem_partsL.1 ht
  have h3 := partsX_steps h16 x hp
  have h4 := Nat.mul_le_mul hl hl
  omega
theorem addsL_bd {l m : LL} {A B : Nat} (hl : l.length ≤ A) (hm : m.length ≤ B) {C : Nat} (h1 : ∀ t ∈ l, t.length ≤ C) (h2 : ∀ t ∈ m, t.length ≤ C) : (addsL l m).length ≤ A + B ∧ ∀ t ∈ addsL l m, t.length ≤ C := by
  refine ⟨by have := addsL_length m l; omega, fun t ht => ?_⟩
  rcases (mem_addsL t m l).1 ht with h | h
  · exact h1 t h
  · exact h2 t h
theorem take_bd {l : LL} {k C : Nat} (h : ∀ t ∈ l, t.length ≤ C) : ∀ t ∈ l.take k, t.length ≤ C := fun t ht => h t (List.mem_of_mem_take ht)
theorem addsL_take (l m : LL) {k : Nat} (h : k < m.length) : addsL l (m.take (k + 1)) = addL m[k] (addsL l (m.take k)) := by
  rw [List.take_succ_eq_append_getElem h, addsL_snoc]

theorem behM_bd {l : LL} {b : List Int} {C : Nat} (h : ∀ t ∈ l, t.length ≤ C) : ∀ t ∈ l.map (fun p => behL p b), t.length ≤ C + b.length + 1 := fun t ht => by
  obtain ⟨p, hp, rfl⟩ := List.mem_map.1 ht
  have := behL_len p b
  have := h p hp
  omega

def partsR (N : Nat) (args : List AV) (r : AV) : Prop := ∃ (x : Ex) (atom : Nat) (act : Int), args = [ints x.steps, I atom, I act] ∧ x.wf ∧ x.steps.length ≤ N ∧ atom < 4 ∧ 16 ≤ act ∧ act ≤ 18 ∧ r = rows (partsL atom act x)

theorem specParts_step (N : Nat) (hN : N ≤ 4096) (ih : CtrOK Tryz.prog 28 (pureC (partsR (N - 1)))) : CtrOK Tryz.prog 28 (pureC (partsR N)) := by
  have l4Parts_ctr := ih
  refine ctr_pure' Tryz.func28 rfl rfl Tryz.ntmps28 ?_
  rintro _ _ ⟨x, atom, act, rfl, hw, hl, hat, h16, h18, rfl⟩
  refine ⟨by simp, fun κ hκ => ?_⟩
  have hbig := bigW_gt
  rw [argEnv_eq]
  simp only [envA]
  have hΓ := ctxOf_ok (P := Tryz.prog) (cx l2Halves_ctr <| cx l4Parts_ctr <| cx l3Add_ctr <| cx l4Behind_ctr <| cx l4Ends_ctr <| cx l1Bit_ctr <| cx0)
  have hpos := x.steps_pos
  have e1 : ((x.steps.length : Nat) : Int) - 1 = ((x.steps.length - 1 : Nat) : Int) := by omega
  have hlast := steps_get (x := x) (by omega)
  have hop := op_wf hw
  repeat' (first | refine wS fun K hK => ?_ | refine wB ?_ | ((first | refine wR hΓ ?_ | refine wD hΓ fun B hB => ?_); simp (maxSteps := 2000000) only [go_sem, e1, hlast]) | ((repeat ((fail_if_success (refine hK _ ?_)); clear hK K)); refine hK _ ?_; clear hK K) | (refine w1 ?_; simp only [xs, xi, Nat.reduceEqDiff, reduceCtorEq]) | (refine wC (fun hb => ?_) fun hb => ?_ <;> (try simp only [xb, reduceCtorEq] at hb)) | (refine w2 (fun hc => ?_) (fun hc => ?_) <;> (try simp only [xc] at hc) <;> (try simp only [go_sem, hc, e1, hlast]) <;> (try simp only [xb] at hc)) | refine wI ?_ | refine ex_idx (by omega) ?_ | fail)
  · cases x with
    | leaf n =>
      have h2 : partsL atom act (.leaf n) = [[15]] := by rw [partsL_leaf]; exact if_pos hb
      rw [h2]
      simp [Tryz.results28, RetOK, RetP, backA, upd_at, plainB, getP, isOwn, anyOwn, isP]
      simp [view, viewL]
    | _ => simp [Ex.op] at *
  · cases x with
    | leaf n =>
      have h2 : partsL atom act (.leaf n) = [] := by rw [partsL_leaf]; exact if_neg hb
      rw [h2]
      simp [Tryz.results28, RetOK, RetP, backA, upd_at, plainB, getP, isOwn, anyOwn, isP]
      simp [view, viewL]
    | _ => simp [Ex.op] at *
  · cases x with
    | leaf n => have := hw.2; simp only [Ex.op] at *; omega
    | str a => simp [Ex.op] at hb
    | thn a b => simp [Ex.op] at hb
    | pls a b =>
      have hlen : (Ex.pls a b).steps.length = a.steps.length + b.steps.length + 1 := by simp only [Ex.steps, List.length_append, List.length_cons, List.length_nil]; omega
      have hpa := a.steps_pos
      have hpb := b.steps_pos
      have hba := partsL_bd (x := a) (by omega) hw.1 (atom := atom) h16
      have hbb := partsL_bd (x := b) (by omega) hw.2 (atom := atom) h16
      (first | refine wA rfl _ (⟨a, b, 20, rfl, hw.1, hw.2, by show (Ex.pls a b).steps.length ≤ _; omega, rfl⟩) ?_ | refine dA rfl _ (⟨a, b, 20, rfl, hw.1, hw.2, by show (Ex.pls a b).steps.length ≤ _; omega, rfl⟩) ?_); simp (maxSteps := 2000000) only [go_sem]
      repeat' (first | exact hb.elim | refine wS fun K hK => ?_ | refine wB ?_ | refine uR hΓ ?_ | refine uD hΓ fun B hB => ?_ | ((repeat ((fail_if_success (refine hK _ ?_)); clear hK K)); refine hK _ ?_; clear hK K) | refine u1 ?_ | refine uC (fun hb => ?_) fun hb => ?_ | refine u2 (fun hc => ?_) fun hc => ?_ | refine wI ?_ | refine ex_idx (by omega) ?_ | exact True.intro | fail)
      (first | refine wA rfl _ (⟨a, atom, act, rfl, hw.1, by omega, hat, h16, h18, rfl⟩) ?_ | refine dA rfl _ (⟨a, atom, act, rfl, hw.1, by omega, hat, h16, h18, rfl⟩) ?_); simp (maxSteps := 2000000) only [go_sem]
      repeat' (first | exact hb.elim | refine wS fun K hK => ?_ | refine wB ?_ | refine uR hΓ ?_ | refine uD hΓ fun B hB => ?_ | ((repeat ((fail_if_success (refine hK _ ?_)); clear hK K)); refine hK _ ?_; clear hK K) | refine u1 ?_ | refine uC (fun hb => ?_) fun hb => ?_ | refine u2 (fun hc => ?_) fun hc => ?_ | refine wI ?_ | refine ex_idx (by omega) ?_ | exact True.intro | fail)
      (first | refine wA rfl _ (⟨b, atom, act, rfl, hw.2, by omega, hat, h16, h18, rfl⟩) ?_ | refine dA rfl _ (⟨b, atom, act, rfl, hw.2, by omega, hat, h16, h18, rfl⟩) ?_); simp (maxSteps := 2000000) only [go_sem]
      repeat' (first | exact hb.elim | refine wS fun K hK => ?_ | refine wB ?_ | refine uR hΓ ?_ | refine uD hΓ fun B hB => ?_ | ((repeat ((fail_if_success (refine hK _ ?_)); clear hK K)); refine hK _ ?_; clear hK K) | refine u1 ?_ | refine uC (fun hb => ?_) fun hb => ?_ | refine u2 (fun hc => ?_) fun hc => ?_ | refine wI ?_ | refine ex_idx (by omega) ?_ | exact True.intro | fail)
      refine CW.loop (ι := Nat) (fun k => [(9, rows (addsL (partsL atom act a) ((partsL atom act b).take k))), (12, rows (partsL atom act b)), (13, I k)]) (fun k => k ≤ (partsL atom act b).length) (fun k => (partsL atom act b).length - k) 0 ?_ ?_
      · exact ⟨by (simp only [xe, xj, Nat.reduceEqDiff]; (try simp [view, viewL_map]); (try omega)); simp [addsL_nil], by omega⟩
      rintro k hk
      simp only [envOf]
      have had := addsL_bd (l := partsL atom act a) (m := (partsL atom act b).take k) hba.1 (B := 4096) (by simp; omega) hba.2 (take_bd hbb.2)
      repeat' (first | exact hb.elim | refine wS fun K hK => ?_ | refine wB ?_ | refine uR hΓ ?_ | refine uD hΓ fun B hB => ?_ | ((repeat ((fail_if_success (refine hK _ ?_)); clear hK K)); refine hK _ ?_; clear hK K) | refine u1 ?_ | refine uC (fun hb => ?_) fun hb => ?_ | refine u2 (fun hc => ?_) fun hc => ?_ | refine wI ?_ | refine ex_idx (by omega) ?_ | exact True.intro | fail)
      · have hkl : k < (partsL atom act b).length := by omega
        have hbk := hbb.2 _ (List.getElem_mem hkl)
        (first | refine wA rfl _ (⟨_, _, rfl, by omega, fun t ht => by have := had.2 t ht; omega, by omega, rfl⟩) ?_ | refine dA rfl _ (⟨_, _, rfl, by omega, fun t ht => by have := had.2 t ht; omega, by omega, rfl⟩) ?_); simp (maxSteps := 2000000) only [go_sem]
        repeat' (first | exact hb.elim | refine wS fun K hK => ?_ | refine wB ?_ | refine uR hΓ ?_ | refine uD hΓ fun B hB => ?_ | ((repeat ((fail_if_success (refine hK _ ?_)); clear hK K)); refine hK _ ?_; clear hK K) | refine u1 ?_ | refine uC (fun hb => ?_) fun hb => ?_ | refine u2 (fun hc => ?_) fun hc => ?_ | refine wI ?_ | refine ex_idx (by omega) ?_ | exact True.intro | fail)
        refine ⟨k + 1, ?_, by omega, by omega⟩
        rw [addsL_take _ _ hkl]
        (simp only [xe, xj, Nat.reduceEqDiff]; (try simp [view, viewL_map]); (try omega))
      · have hke : (partsL atom act b).take k = partsL atom act b := List.take_of_length_le (by omega)
        rw [hke, partsL_pls']
        simp [Tryz.results28, RetOK, RetP, backA, upd_at, plainB, getP, isOwn, anyOwn, isP]
  · cases x with
    | leaf n => have := hw.2; simp only [Ex.op] at *; omega
    | str a => simp [Ex.op] at hb
    | pls a b => simp [Ex.op] at hb
    | thn a b =>
      have hlen : (Ex.thn a b).steps.length = a.steps.length + b.steps.length + 1 := by simp only [Ex.steps, List.length_append, List.length_cons, List.length_nil]; omega
      have hpa := a.steps_pos
      have hpb := b.steps_pos
      have hba := partsL_bd (x := a) (by omega) hw.1 (atom := atom) h16
      have hbb := partsL_bd (x := b) (by omega) hw.2 (atom := atom) h16
      have hMb := behM_bd (b := b.steps) hba.2
      have hea := endX_lt hw.1
      have hth := partsL_thn atom act a b
      (first | refine wA rfl _ (⟨a, b, 19, rfl, hw.1, hw.2, by show (Ex.thn a b).steps.length ≤ _; omega, rfl⟩) ?_ | refine dA rfl _ (⟨a, b, 19, rfl, hw.1, hw.2, by show (Ex.thn a b).steps.length ≤ _; omega, rfl⟩) ?_); simp (maxSteps := 2000000) only [go_sem]
      repeat' (first | exact hb.elim | refine wS fun K hK => ?_ | refine wB ?_ | refine uR hΓ ?_ | refine uD hΓ fun B hB => ?_ | ((repeat ((fail_if_success (refine hK _ ?_)); clear hK K)); refine hK _ ?_; clear hK K) | refine u1 ?_ | refine uC (fun hb => ?_) fun hb => ?_ | refine u2 (fun hc => ?_) fun hc => ?_ | refine wI ?_ | refine ex_idx (by omega) ?_ | exact True.intro | fail)
      (first | refine wA rfl _ (⟨a, atom, act, rfl, hw.1, by omega, hat, h16, h18, rfl⟩) ?_ | refine dA rfl _ (⟨a, atom, act, rfl, hw.1, by omega, hat, h16, h18, rfl⟩) ?_); simp (maxSteps := 2000000) only [go_sem]
      repeat' (first | exact hb.elim | refine wS fun K hK => ?_ | refine wB ?_ | refine uR hΓ ?_ | refine uD hΓ fun B hB => ?_ | ((repeat ((fail_if_success (refine hK _ ?_)); clear hK K)); refine hK _ ?_; clear hK K) | refine u1 ?_ | refine uC (fun hb => ?_) fun hb => ?_ | refine u2 (fun hc => ?_) fun hc => ?_ | refine wI ?_ | refine ex_idx (by omega) ?_ | exact True.intro | fail)
      generalize hM : (partsL atom act a).map (fun p => behL p b.steps) = M at hMb hth
      have hMl : M.length = (partsL atom act a).length := by rw [← hM]; simp
      refine CW.loop (ι := Nat) (fun k => [(1, I atom), (2, I act), (9, rows (addsL [] (M.take k))), (14, ints a.steps), (15, ints b.steps), (16, rows (partsL atom act a)), (17, I k)]) (fun k => k ≤ M.length) (fun k => M.length - k) 0 ?_ ?_
      · exact ⟨by (simp only [xe, xj, Nat.reduceEqDiff]; (try simp [view, viewL_map]); (try omega)); simp [addsL_nil], by omega⟩
      rintro k hk
      simp only [envOf]
      have had := addsL_bd (l := []) (m := M.take k) (A := 0) (by simp) (B := 4096) (by simp; omega) (C := 16777217 + b.steps.length + 1) (by simp) (take_bd hMb)
      repeat' (first | exact hb.elim | refine wS fun K hK => ?_ | refine wB ?_ | refine uR hΓ ?_ | refine uD hΓ fun B hB => ?_ | ((repeat ((fail_if_success (refine hK _ ?_)); clear hK K)); refine hK _ ?_; clear hK K) | refine u1 ?_ | refine uC (fun hb => ?_) fun hb => ?_ | refine u2 (fun hc => ?_) fun hc => ?_ | refine wI ?_ | refine ex_idx (by omega) ?_ | exact True.intro | fail)
      · have hkl : k < (partsL atom act a).length := by omega
        have hak := hba.2 _ (List.getElem_mem hkl)
        have hMk : M[k] = behL (partsL atom act a)[k] b.steps := by simp [← hM]
        have hblk := behL_len (partsL atom act a)[k] b.steps
        (first | refine wA rfl _ (⟨_, _, rfl, by omega, by omega, rfl⟩) ?_ | refine dA rfl _ (⟨_, _, rfl, by omega, by omega, rfl⟩) ?_); simp (maxSteps := 2000000) only [go_sem]
        (first | refine wA rfl _ (⟨_, _, rfl, by omega, fun t ht => by have := had.2 t ht; omega, by omega, rfl⟩) ?_ | refine dA rfl _ (⟨_, _, rfl, by omega, fun t ht => by have := had.2 t ht; omega, by omega, rfl⟩) ?_); simp (maxSteps := 2000000) only [go_sem]
        repeat' (first | exact hb.elim | refine wS fun K hK => ?_ | refine wB ?_ | refine uR hΓ ?_ | refine uD hΓ fun B hB => ?_ | ((repeat ((fail_if_success (refine hK _ ?_)); clear hK K)); refine hK _ ?_; clear hK K) | refine u1 ?_ | refine uC (fun hb => ?_) fun hb => ?_ | refine u2 (fun hc => ?_) fun hc => ?_ | refine wI ?_ | refine ex_idx (by omega) ?_ | exact True.intro | fail)
        refine ⟨k + 1, ?_, by omega, by omega⟩
        rw [addsL_take _ _ (by omega), hMk]
        (simp only [xe, xj, Nat.reduceEqDiff]; (try simp [view, viewL_map]); (try omega))
      · have hke : M.take k = M := List.take_of_length_le (by omega)
        rw [hke]
        have hO : addsL [] M = ordL M := rfl
        have had2 := addsL_bd (l := []) (m := M) (A := 0) (by simp) (B := 4096) (by omega) (C := 16777217 + b.steps.length + 1) (by simp) hMb
        generalize hOu : addsL [] M = O at *
        (first | refine wA rfl _ (⟨b, atom, act, rfl, hw.2, by omega, hat, h16, h18, rfl⟩) ?_ | refine dA rfl _ (⟨b, atom, act, rfl, hw.2, by omega, hat, h16, h18, rfl⟩) ?_); simp (maxSteps := 2000000) only [go_sem]
        repeat' (first | exact hb.elim | refine wS fun K hK => ?_ | refine wB ?_ | refine uR hΓ ?_ | refine uD hΓ fun B hB => ?_ | ((repeat ((fail_if_success (refine hK _ ?_)); clear hK K)); refine hK _ ?_; clear hK K) | refine u1 ?_ | refine uC (fun hb => ?_) fun hb => ?_ | refine u2 (fun hc => ?_) fun hc => ?_ | refine wI ?_ | refine ex_idx (by omega) ?_ | exact True.intro | fail)
        refine CW.loop (ι := Nat) (fun j => [(1, I atom), (9, rows (addsL O ((partsL atom act b).take j))), (14, ints a.steps), (18, rows (partsL atom act b)), (19, I j)]) (fun j => j ≤ (partsL atom act b).length ∧ (j = 0 ∨ (endX a).testBit atom = true)) (fun j => (partsL atom act b).length - j) 0 ?_ ?_
        · exact ⟨by (simp only [xe, xj, Nat.reduceEqDiff]; (try simp [view, viewL_map]); (try omega)); simp [addsL_nil], by omega, .inl rfl⟩
        rintro j ⟨hj, hjb⟩
        simp only [envOf]
        have had3 := addsL_bd (l := O) (m := (partsL atom act b).take j) had2.1 (B := 4096) (by simp; omega) had2.2 (take_bd (fun t ht => by have := hbb.2 t ht; omega))
        repeat' (first | exact hb.elim | refine wS fun K hK => ?_ | refine wB ?_ | refine uR hΓ ?_ | refine uD hΓ fun B hB => ?_ | ((repeat ((fail_if_success (refine hK _ ?_)); clear hK K)); refine hK _ ?_; clear hK K) | refine u1 ?_ | refine uC (fun hb => ?_) fun hb => ?_ | refine u2 (fun hc => ?_) fun hc => ?_ | refine wI ?_ | refine ex_idx (by omega) ?_ | exact True.intro | fail)
        · (first | refine wA rfl _ (⟨a, rfl, hw.1, by omega, rfl⟩) ?_ | refine dA rfl _ (⟨a, rfl, hw.1, by omega, rfl⟩) ?_); simp (maxSteps := 2000000) only [go_sem]
          repeat' (first | exact hb.elim | refine wS fun K hK => ?_ | refine wB ?_ | refine uR hΓ ?_ | refine uD hΓ fun B hB => ?_ | ((repeat ((fail_if_success (refine hK _ ?_)); clear hK K)); refine hK _ ?_; clear hK K) | refine u1 ?_ | refine uC (fun hb => ?_) fun hb => ?_ | refine u2 (fun hc => ?_) fun hc => ?_ | refine wI ?_ | refine ex_idx (by omega) ?_ | exact True.intro | fail)
          (first | refine wA rfl _ (⟨_, _, rfl, by omega, rfl⟩) ?_ | refine dA rfl _ (⟨_, _, rfl, by omega, rfl⟩) ?_); simp (maxSteps := 2000000) only [go_sem]
          repeat' (first | exact hb.elim | refine wS fun K hK => ?_ | refine wB ?_ | refine uR hΓ ?_ | refine uD hΓ fun B hB => ?_ | ((repeat ((fail_if_success (refine hK _ ?_)); clear hK K)); refine hK _ ?_; clear hK K) | refine u1 ?_ | refine uC (fun hb => ?_) fun hb => ?_ | refine u2 (fun hc => ?_) fun hc => ?_ | refine wI ?_ | refine ex_idx (by omega) ?_ | exact True.intro | fail)
          · have hjl : j < (partsL atom act b).length := by omega
            have hbj := hbb.2 _ (List.getElem_mem hjl)
            have hbt : (endX a).testBit atom = true := by
              cases h : (endX a).testBit atom with
              | true => rfl
              | false => rw [bitN_f h] at hb; exact absurd hb (by decide)
            (first | refine wA rfl _ (⟨_, _, rfl, by omega, fun t ht => by have := had3.2 t ht; omega, by omega, rfl⟩) ?_ | refine dA rfl _ (⟨_, _, rfl, by omega, fun t ht => by have := had3.2 t ht; omega, by omega, rfl⟩) ?_); simp (maxSteps := 2000000) only [go_sem]
            repeat' (first | exact hb.elim | refine wS fun K hK => ?_ | refine wB ?_ | refine uR hΓ ?_ | refine uD hΓ fun B hB => ?_ | ((repeat ((fail_if_success (refine hK _ ?_)); clear hK K)); refine hK _ ?_; clear hK K) | refine u1 ?_ | refine uC (fun hb => ?_) fun hb => ?_ | refine u2 (fun hc => ?_) fun hc => ?_ | refine wI ?_ | refine ex_idx (by omega) ?_ | exact True.intro | fail)
            refine ⟨j + 1, ?_, ⟨by omega, .inr hbt⟩, by omega⟩
            rw [addsL_take _ _ hjl]
            (simp only [xe, xj, Nat.reduceEqDiff]; (try simp [view, viewL_map]); (try omega))
          · have hbf : (endX a).testBit atom = false := by
              cases h : (endX a).testBit atom with
              | false => rfl
              | true => rw [bitN_t h] at hb; exact absurd rfl hb
            have hj0 : j = 0 := hjb.resolve_right (by rw [hbf]; simp)
            subst hj0
            rw [hth, hbf, if_neg (by simp), List.append_nil, ← hO, List.take_zero, addsL_nil]
            simp [Tryz.results28, RetOK, RetP, backA, upd_at, plainB, getP, isOwn, anyOwn, isP]
        · have hje : (partsL atom act b).take j = partsL atom act b := List.take_of_length_le (by omega)
          rw [hje]
          have hfin : partsL atom act (.thn a b) = addsL O (partsL atom act b) := by
            rw [hth, hO]
            cases hbt : (endX a).testBit atom with
            | true => rw [if_pos rfl, addsL_ord]
            | false =>
              have hj0 : j = 0 := hjb.resolve_right (by rw [hbt]; simp)
              have : partsL atom act b = [] := List.eq_nil_of_length_eq_zero (by omega)
              rw [this, addsL_nil, if_neg (by simp), List.append_nil]
          rw [hfin]
          simp [Tryz.results28, RetOK, RetP, backA, upd_at, plainB, getP, isOwn, anyOwn, isP]
  · cases x with
    | leaf n => have := hw.2; simp only [Ex.op] at *; omega
    | thn a b => simp [Ex.op] at *
    | pls a b => simp [Ex.op] at *
    | str a =>
      have hlen : (Ex.str a).steps.length = a.steps.length + 1 := by simp only [Ex.steps, List.length_append, List.length_cons, List.length_nil]
      have hpa := a.steps_pos
      have hba := partsL_bd (x := a) (by omega) hw (atom := atom) h16
      have hMb := behM_bd (b := (Ex.str a).steps) hba.2
      have hst := partsL_str atom act a
      have ht : (Ex.str a).steps.take ((Ex.str a).steps.length - 1) = a.steps := by rw [hlen]; simp [Ex.steps]
      simp only [← List.map_take, ht]
      (first | refine wA rfl _ (⟨a, atom, act, rfl, hw, by omega, hat, h16, h18, rfl⟩) ?_ | refine dA rfl _ (⟨a, atom, act, rfl, hw, by omega, hat, h16, h18, rfl⟩) ?_); simp (maxSteps := 2000000) only [go_sem]
      repeat' (first | exact hb.elim | refine wS fun K hK => ?_ | refine wB ?_ | refine uR hΓ ?_ | refine uD hΓ fun B hB => ?_ | ((repeat ((fail_if_success (refine hK _ ?_)); clear hK K)); refine hK _ ?_; clear hK K) | refine u1 ?_ | refine uC (fun hb => ?_) fun hb => ?_ | refine u2 (fun hc => ?_) fun hc => ?_ | refine wI ?_ | refine ex_idx (by omega) ?_ | exact True.intro | fail)
      generalize hM : (partsL atom act a).map (fun p => behL p (Ex.str a).steps) = M at hMb hst
      have hMl : M.length = (partsL atom act a).length := by rw [← hM]; simp
      refine CW.loop (ι := Nat) (fun k => [(0, ints (Ex.str a).steps), (9, rows (addsL [] (M.take k))), (20, rows (partsL atom act a)), (21, I k)]) (fun k => k ≤ M.length) (fun k => M.length - k) 0 ?_ ?_
      · exact ⟨by (simp only [xe, xj, Nat.reduceEqDiff]; (try simp [view, viewL_map]); (try omega)); simp [addsL_nil], by omega⟩
      rintro k hk
      simp only [envOf]
      have had := addsL_bd (l := []) (m := M.take k) (A := 0) (by simp) (B := 4096) (by simp; omega) (C := 16777217 + (Ex.str a).steps.length + 1) (by simp) (take_bd hMb)
      repeat' (first | exact hb.elim | refine wS fun K hK => ?_ | refine wB ?_ | refine uR hΓ ?_ | refine uD hΓ fun B hB => ?_ | ((repeat ((fail_if_success (refine hK _ ?_)); clear hK K)); refine hK _ ?_; clear hK K) | refine u1 ?_ | refine uC (fun hb => ?_) fun hb => ?_ | refine u2 (fun hc => ?_) fun hc => ?_ | refine wI ?_ | refine ex_idx (by omega) ?_ | exact True.intro | fail)
      · have hkl : k < (partsL atom act a).length := by omega
        have hak := hba.2 _ (List.getElem_mem hkl)
        have hMk : M[k] = behL (partsL atom act a)[k] (Ex.str a).steps := by simp [← hM]
        have hblk := behL_len (partsL atom act a)[k] (Ex.str a).steps
        (first | refine wA rfl _ (⟨_, _, rfl, by omega, by omega, rfl⟩) ?_ | refine dA rfl _ (⟨_, _, rfl, by omega, by omega, rfl⟩) ?_); simp (maxSteps := 2000000) only [go_sem]
        (first | refine wA rfl _ (⟨_, _, rfl, by omega, fun t ht => by have := had.2 t ht; omega, by omega, rfl⟩) ?_ | refine dA rfl _ (⟨_, _, rfl, by omega, fun t ht => by have := had.2 t ht; omega, by omega, rfl⟩) ?_); simp (maxSteps := 2000000) only [go_sem]
        repeat' (first | exact hb.elim | refine wS fun K hK => ?_ | refine wB ?_ | refine uR hΓ ?_ | refine uD hΓ fun B hB => ?_ | ((repeat ((fail_if_success (refine hK _ ?_)); clear hK K)); refine hK _ ?_; clear hK K) | refine u1 ?_ | refine uC (fun hb => ?_) fun hb => ?_ | refine u2 (fun hc => ?_) fun hc => ?_ | refine wI ?_ | refine ex_idx (by omega) ?_ | exact True.intro | fail)
        refine ⟨k + 1, ?_, by omega, by omega⟩
        rw [addsL_take _ _ (by omega), hMk]
        (simp only [xe, xj, Nat.reduceEqDiff]; (try simp [view, viewL_map]); (try omega))
      · have hke : M.take k = M := List.take_of_length_le (by omega)
        rw [hke, hst]
        simp [Tryz.results28, RetOK, RetP, backA, upd_at, plainB, getP, isOwn, anyOwn, isP]
        simp [ordL]

theorem specParts_all : ∀ N : Nat, N ≤ 4096 → CtrOK Tryz.prog 28 (pureC (partsR N))
  | 0, _ => specParts_step 0 (by omega) ⟨⟨_, _, Tryz.func28, rfl, rfl⟩, fun args r args' ⟨_, x, _, _, _, _, h, _⟩ => by have := x.steps_pos; omega⟩
  | N + 1, h => specParts_step (N + 1) h (specParts_all N (by omega))
theorem l4Parts_ctr : CtrOK Tryz.prog 28 (pureC (partsR 4096)) := specParts_all 4096 (by omega)

end Go.Proofs.YtehdfifncbokeaaGreat

namespace Go.Proofs.YtehdfifncbokeaaGreat
set_option linter.unusedSimpArgs false
set_option linter.unusedVariables false
set_option maxRecDepth 8000
set_option maxHeartbeats 2000000
open Go Go.RowKit AV

def allR (args : List AV) (r : AV) : Prop := ∃ x : Ex, args = [ints x.steps] ∧ x.wf ∧ x.steps.length ≤ 40 ∧ r = rows (allL x.steps)

def midL (out : LL) (t : List Int) (m j : Nat) : LL := addNew (roundL out t m) ((partsOfL (m / 3) (16 + ((m % 3 : Nat) : Int)) t).take j)
theorem midL_zero (out : LL) (t : List Int) (m : Nat) : midL out t m 0 = roundL out t m := by simp [midL, addNew_nil]
theorem midL_left {x : Ex} (hx : x.wf) {out : LL} (ho : ∀ t ∈ out, InLeft x t) {t : List Int} (ht : InLeft x t) (m j : Nat) : ∀ s ∈ midL out t m j, InLeft x s := by
  intro s hs
  rcases addNew_mem.1 hs with h | h
  · exact roundL_left hx ho ht m s h
  · exact ht.parts hx (by omega) (List.mem_of_mem_take h)
theorem midL_bd {x : Ex} (hx : x.wf) (hl : x.steps.length ≤ 40) {out : LL} (hn : out.Nodup) (ho : ∀ t ∈ out, InLeft x t) {t : List Int} (ht : InLeft x t) (m j : Nat) : (midL out t m j).length ≤ 41 ∧ ∀ s ∈ midL out t m j, s.length ≤ 1601 := by
  have h1 := left_len (addNew_nodup (roundL_nodup hn m)) (midL_left hx ho ht m j)
  have h2 := actsX_len x
  refine ⟨by unfold midL at *; omega, fun s hs => ?_⟩
  have h3 := (midL_left hx ho ht m j s hs).len
  have h4 := Nat.mul_le_mul hl hl
  omega
theorem midL_pre (out : LL) (t : List Int) (m j : Nat) : out <+: midL out t m j := List.IsPrefix.trans (roundL_prefix out t m) (addNew_prefix _ _)
theorem midL_get {out : LL} {t : List Int} (m j : Nat) {k : Nat} (hk : k < out.length) (h : k < (midL out t m j).length) : (midL out t m j)[k] = out[k] := ((midL_pre out t m j).getElem hk).symm

theorem l4All_ctr : CtrOK Tryz.prog 52 (pureC allR) := by
  refine ctr_pure' Tryz.func52 rfl rfl Tryz.ntmps52 ?_
  rintro _ _ ⟨x, rfl, hw, hl, rfl⟩
  refine ⟨by simp, fun κ hκ => ?_⟩
  have hbig := bigW_gt
  rw [argEnv_eq]
  simp only [envA]
  have hΓ := ctxOf_ok (P := Tryz.prog) (cx l4Parts_ctr <| cx l4Has_ctr <| cx0)
  repeat' (first | exact hb.elim | refine wS fun K hK => ?_ | refine wB ?_ | refine uR hΓ ?_ | refine uD hΓ fun B hB => ?_ | ((repeat ((fail_if_success (refine hK _ ?_)); clear hK K)); refine hK _ ?_; clear hK K) | refine u1 ?_ | refine uC (fun hb => ?_) fun hb => ?_ | refine u2 (fun hc => ?_) fun hc => ?_ | refine wI ?_ | refine ex_idx (by omega) ?_ | exact True.intro | fail)
  refine CW.frz 3 [0] (oints x.steps) (by simp [upd_at, getP, kids]) rfl ?_
  refine CW.loop (ι := Nat) (fun k => [(3, orows (allTo x.steps k)), (4, I k)]) (fun k => k ≤ (allTo x.steps k).length) (fun k => 42 - k) 0 ?_ ?_
  · refine ⟨?_, by simp⟩
    simp [LeL, Wr.app, upd_at, isOwn, view, viewL_map, setP, kids, withKids, allTo]
  rintro k hk
  simp only [envOf]
  have hnd := allTo_nodup x.steps k
  have hin := allTo_left hw k
  have hln := allTo_len hw k
  have hac := actsX_len x
  generalize hout : allTo x.steps k = out at *
  have hob := midL_bd hw hl hnd hin (hin _ (List.getElem_mem (l := out) (n := 0) (by rw [← hout]; have := (allTo_pre x.steps 0 k).length_le; simp [allTo] at this ⊢; omega))) 0 0
  rw [midL_zero, roundL] at hob
  repeat' (first | exact hb.elim | refine wS fun K hK => ?_ | refine wB ?_ | refine uR hΓ ?_ | refine uD hΓ fun B hB => ?_ | ((repeat ((fail_if_success (refine hK _ ?_)); clear hK K)); refine hK _ ?_; clear hK K) | refine u1 ?_ | refine uC (fun hb => ?_) fun hb => ?_ | refine u2 (fun hc => ?_) fun hc => ?_ | refine wI ?_ | refine ex_idx (by omega) ?_ | exact True.intro | fail)
  rotate_left
  · have hke : out.length ≤ k := by omega
    have hfin : allL x.steps = out := by rw [← hout]; exact allL_eq hw (by rw [hout]; omega) (by omega)
    rw [hfin]
    simp [Tryz.results52, RetOK, RetP, backA, upd_at, plainB, getP, isOwn, anyOwn, isP]
    simp [view, viewL_map, view_ints]
  have hkl : k < out.length := by omega
  have htl := hin _ (List.getElem_mem hkl)
  have hsucc : allTo x.steps (k + 1) = roundL out out[k] 12 := by rw [allTo_succ (by rw [hout]; exact hkl)]; simp only [hout]
  obtain ⟨p, hpw, hpt, _⟩ := id htl
  have hpl : p.steps.length ≤ 1601 := by
    have h3 := htl.len
    have h4 := Nat.mul_le_mul hl hl
    rw [hpt]; omega
  generalize ht : out[k] = t at *
  refine CW.loop (ι := Nat) (fun a => [(3, orows (midL out t (3 * a) 0)), (4, I k), (5, I a)]) (fun a => a ≤ 4) (fun a => 4 - a) 0 ?_ ?_
  · exact ⟨by (simp only [xe, xj, Nat.reduceEqDiff]; (try simp [view, viewL_map]); (try omega)); simp [midL_zero, roundL], by omega⟩
  rintro a ha
  simp only [envOf]
  repeat' (first | exact hb.elim | refine wS fun K hK => ?_ | refine wB ?_ | refine uR hΓ ?_ | refine uD hΓ fun B hB => ?_ | ((repeat ((fail_if_success (refine hK _ ?_)); clear hK K)); refine hK _ ?_; clear hK K) | refine u1 ?_ | refine uC (fun hb => ?_) fun hb => ?_ | refine u2 (fun hc => ?_) fun hc => ?_ | refine wI ?_ | refine ex_idx (by omega) ?_ | exact True.intro | fail)
  rotate_left
  · have ha4 : a = 4 := by omega
    subst ha4
    have h12 : midL out t (3 * 4) 0 = allTo x.steps (k + 1) := by rw [midL_zero, hsucc]
    rw [h12]
    exact ⟨k + 1, by (simp only [xe, xj, Nat.reduceEqDiff]; (try simp [view, viewL_map]); (try omega)), by rw [hsucc]; have := (roundL_prefix out t 12).length_le; omega, by omega⟩
  have ha3 : a < 4 := by omega
  refine CW.loop (ι := Nat) (fun c => [(3, orows (midL out t (3 * a + c) 0)), (4, I k), (5, I a), (6, I ((16 + c : Nat) : Int))]) (fun c => c ≤ 3) (fun c => 3 - c) 0 ?_ ?_
  · exact ⟨by (simp only [xe, xj, Nat.reduceEqDiff]; (try simp [view, viewL_map]); (try omega)), by omega⟩
  rintro c hc
  simp only [envOf]
  repeat' (first | exact hb.elim | refine wS fun K hK => ?_ | refine wB ?_ | refine uR hΓ ?_ | refine uD hΓ fun B hB => ?_ | ((repeat ((fail_if_success (refine hK _ ?_)); clear hK K)); refine hK _ ?_; clear hK K) | refine u1 ?_ | refine uC (fun hb => ?_) fun hb => ?_ | refine u2 (fun hc => ?_) fun hc => ?_ | refine wI ?_ | refine ex_idx (by omega) ?_ | exact True.intro | fail)
  rotate_left
  · have hc3 : c = 3 := by omega
    subst hc3
    exact ⟨a + 1, by rw [show 3 * a + 3 = 3 * (a + 1) by omega]; (simp only [xe, xj, Nat.reduceEqDiff]; (try simp [view, viewL_map]); (try omega)), by omega, by omega⟩
  have hc2 : c < 3 := by omega
  have hm3 : (3 * a + c) / 3 = a := by omega
  have hmm : (3 * a + c) % 3 = c := by omega
  have hmid := fun j => midL_bd hw hl hnd hin htl (3 * a + c) j
  have hkm : k < (midL out t (3 * a + c) 0).length := by have := (midL_pre out t (3 * a + c) 0).length_le; omega
  have hget := midL_get (t := t) (3 * a + c) 0 hkl hkm
  have hact : ((16 + c : Nat) : Int) = 16 + (c : Int) := by omega
  have hps0 : partsOfL ((3 * a + c) / 3) (16 + (((3 * a + c) % 3 : Nat) : Int)) t = partsL a ((16 + c : Nat) : Int) p := by rw [hm3, hmm, ← hpt, partsOfL_steps hpw, hact]
  have hpb : ∀ s ∈ partsL a ((16 + c : Nat) : Int) p, s.length ≤ 1601 := fun s hs => by
    have h3 := (htl.parts hw (atom := (3 * a + c) / 3) (act := 16 + (((3 * a + c) % 3 : Nat) : Int)) (by omega) (by rw [hps0]; exact hs)).len
    have h4 := Nat.mul_le_mul hl hl
    omega
  have hpc := partsL_count (atom := a) (act := ((16 + c : Nat) : Int)) (by omega) p
  have hpa := actsX_len p
  refine ⟨hkm, p.steps, by rw [List.getElem?_eq_getElem hkm, hget, ht, hpt], ?_⟩
  (first | refine wA rfl _ (⟨p, a, _, rfl, hpw, by omega, ha3, by omega, by omega, rfl⟩) ?_ | refine dA rfl _ (⟨p, a, _, rfl, hpw, by omega, ha3, by omega, by omega, rfl⟩) ?_); simp (maxSteps := 2000000) only [go_sem]
  generalize hps : partsL a ((16 + c : Nat) : Int) p = ps at *
  have hmj : ∀ j, midL out t (3 * a + c) j = addNew (roundL out t (3 * a + c)) (ps.take j) := fun j => by rw [midL, hps0]
  have hend : midL out t (3 * a + c) ps.length = midL out t (3 * a + (c + 1)) 0 := by rw [hmj, List.take_length, midL_zero, ← Nat.add_assoc, roundL, hps0]
  repeat' (first | exact hb.elim | refine wS fun K hK => ?_ | refine wB ?_ | refine uR hΓ ?_ | refine uD hΓ fun B hB => ?_ | ((repeat ((fail_if_success (refine hK _ ?_)); clear hK K)); refine hK _ ?_; clear hK K) | refine u1 ?_ | refine uC (fun hb => ?_) fun hb => ?_ | refine u2 (fun hc => ?_) fun hc => ?_ | refine wI ?_ | refine ex_idx (by omega) ?_ | exact True.intro | fail)
  refine CW.loop (ι := Nat) (fun j => [(3, orows (midL out t (3 * a + c) j)), (4, I k), (5, I a), (6, I ((16 + c : Nat) : Int)), (7, rows ps), (8, I j)]) (fun j => j ≤ ps.length) (fun j => ps.length - j) 0 ?_ ?_
  · exact ⟨by (simp only [xe, xj, Nat.reduceEqDiff]; (try simp [view, viewL_map]); (try omega)), by omega⟩
  rintro j hj
  simp only [envOf]
  by_cases hjl : j < ps.length
  case neg =>
    have hje : j = ps.length := by omega
    subst hje
    repeat' (first | exact hb.elim | refine wS fun K hK => ?_ | refine wB ?_ | refine uR hΓ ?_ | refine uD hΓ fun B hB => ?_ | ((repeat ((fail_if_success (refine hK _ ?_)); clear hK K)); refine hK _ ?_; clear hK K) | refine u1 ?_ | refine uC (fun hb => ?_) fun hb => ?_ | refine u2 (fun hc => ?_) fun hc => ?_ | refine wI ?_ | refine ex_idx (by omega) ?_ | exact True.intro | fail)
    · omega
    · refine ⟨c + 1, ?_, by omega, by omega⟩
      rw [hend]
      (simp only [xe, xj, Nat.reduceEqDiff]; (try simp [view, viewL_map]); (try omega))
  have hstep : midL out t (3 * a + c) (j + 1) = add1 (midL out t (3 * a + c) j) ps[j] := by rw [hmj, hmj, addNew_take _ _ hjl]
  obtain ⟨hb1, hb2⟩ := hmid j
  have hb3 := hpb _ (List.getElem_mem hjl)
  repeat' (first | exact hb.elim | refine wS fun K hK => ?_ | refine wB ?_ | refine uR hΓ ?_ | refine uD hΓ fun B hB => ?_ | ((repeat ((fail_if_success (refine hK _ ?_)); clear hK K)); refine hK _ ?_; clear hK K) | refine u1 ?_ | refine uC (fun hb => ?_) fun hb => ?_ | refine u2 (fun hc => ?_) fun hc => ?_ | refine wI ?_ | refine ex_idx (by omega) ?_ | exact True.intro | fail)
  rotate_left
  · omega
  (first | refine wA rfl _ (⟨midL out t (3 * a + c) j, ps[j], rfl, by omega, fun s hs => Nat.le_trans (hb2 s hs) (by omega), by omega, rfl⟩) ?_ | refine dA rfl _ (⟨midL out t (3 * a + c) j, ps[j], rfl, by omega, fun s hs => Nat.le_trans (hb2 s hs) (by omega), by omega, rfl⟩) ?_); simp (maxSteps := 2000000) only [go_sem]
  repeat' (first | exact hb.elim | refine wS fun K hK => ?_ | refine wB ?_ | refine uR hΓ ?_ | refine uD hΓ fun B hB => ?_ | ((repeat ((fail_if_success (refine hK _ ?_)); clear hK K)); refine hK _ ?_; clear hK K) | refine u1 ?_ | refine uC (fun hb => ?_) fun hb => ?_ | refine u2 (fun hc => ?_) fun hc => ?_ | refine wI ?_ | refine ex_idx (by omega) ?_ | exact True.intro | fail)
  · have hni : ¬ ps[j] ∈ midL out t (3 * a + c) j := by assumption
    refine ⟨j + 1, ?_, by omega, by omega⟩
    rw [hstep, add1, if_neg hni]
    (simp only [xe, xj, Nat.reduceEqDiff]; (try simp [view, viewL_map]); (try omega))
  · have hin2 : ps[j] ∈ midL out t (3 * a + c) j := by assumption
    refine ⟨j + 1, ?_, by omega, by omega⟩
    rw [hstep, add1, if_pos hin2]
    (simp only [xe, xj, Nat.reduceEqDiff]; (try simp [view, viewL_map]); (try omega))

end Go.Proofs.YtehdfifncbokeaaGreat
