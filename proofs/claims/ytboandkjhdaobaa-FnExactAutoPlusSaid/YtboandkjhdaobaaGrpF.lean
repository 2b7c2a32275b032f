/- The laws' helpers, walked by the engine. -/
import Derived.Test.YtboandkjhdaobaaTy
import Derived.Test.YtboandkjhdaobaaEngMin
namespace Go.Proofs.Ytboandkjhdaobaa
set_option linter.unusedSimpArgs false
set_option linter.unusedVariables false
set_option maxRecDepth 8000
set_option maxHeartbeats 2000000
open Go Go.RowKit AV

def toIntSR (args : List AV) (r : AV) : Prop := ∃ l : List Int, args = [ints l] ∧ l.length ≤ 1099511627776 ∧ r = oints l

theorem toIntS_ctr : CtrOK Try.prog 50 (pureC toIntSR) := by
  refine ctr_pure' Try.func50 rfl rfl Try.ntmps50 ?_
  rintro _ _ ⟨l, rfl, hl, rfl⟩
  refine ⟨by simp, fun κ hκ => ?_⟩
  have hbig := bigW_gt
  rw [argEnv_eq]
  simp only [envA]
  have hΓ := noCtx_ok Try.prog
  repeat' (first | refine wS fun K hK => ?_ | refine wB ?_ | ((first | refine wR hΓ ?_ | refine wD hΓ fun B hB => ?_); simp (config := { maxSteps := 2000000 }) only [go_sem]) | ((repeat ((fail_if_success (refine hK _ ?_)); clear hK K)); refine hK _ ?_; clear hK K) | (refine w1 ?_; simp only [xs, xi, Nat.reduceEqDiff, reduceCtorEq]) | (refine wC (fun hb => ?_) fun hb => ?_ <;> (try simp only [xb, reduceCtorEq] at hb)) | (refine w2 (fun hc => ?_) (fun hc => ?_) <;> (try simp only [xc] at hc) <;> (try simp only [go_sem, hc]) <;> (try simp only [xb] at hc)) | refine wI ?_ | refine ex_idx (by omega) ?_ | fail)
  refine CW.loop (ι := Nat × List Int) (fun x => [(0, ints l), (3, oints x.2), (4, I x.1)]) (fun x => x.1 ≤ l.length ∧ x.2.length = l.length ∧ x.2.take x.1 = l.take x.1) (fun x => l.length - x.1) (0, List.replicate l.length 0) ?_ ?_
  · refine ⟨by (simp only [xe, xj, Nat.reduceEqDiff]; (try simp [view, viewL_map]); (try omega)), by simp⟩
  rintro ⟨k, X⟩ ⟨hk, hX, ht⟩
  dsimp only at hk hX ht
  simp only [envOf]
  repeat' (first | refine wS fun K hK => ?_ | refine wB ?_ | ((first | refine wR hΓ ?_ | refine wD hΓ fun B hB => ?_); simp (config := { maxSteps := 2000000 }) only [go_sem]) | ((repeat ((fail_if_success (refine hK _ ?_)); clear hK K)); refine hK _ ?_; clear hK K) | (refine w1 ?_; simp only [xs, xi, Nat.reduceEqDiff, reduceCtorEq]) | (refine wC (fun hb => ?_) fun hb => ?_ <;> (try simp only [xb, reduceCtorEq] at hb)) | (refine w2 (fun hc => ?_) (fun hc => ?_) <;> (try simp only [xc] at hc) <;> (try simp only [go_sem, hc]) <;> (try simp only [xb] at hc)) | refine wI ?_ | refine ex_idx (by omega) ?_ | fail)
  · exact ⟨(k + 1, X.set k (l[k]'(by omega))), by (simp only [xe, xj, Nat.reduceEqDiff]; (try simp [view, viewL_map]); (try omega)), ⟨by dsimp only; omega, by simpa using hX, take_set_succ (by omega) (by omega) ht⟩, by dsimp only; omega⟩
  · have hkl : k = l.length := by omega
    have hXl : X = l := by
      rw [hkl] at ht
      rwa [List.take_of_length_le (by omega), List.take_of_length_le (Nat.le_refl _)] at ht
    subst hXl
    simp [Try.results50, RetOK, RetP, backA, upd_at, plainB, getP, isOwn, anyOwn, isP]

def toIntSSR (args : List AV) (r : AV) : Prop := ∃ l : List (List Int), args = [rows l] ∧ l.length ≤ 1099511627776 ∧ (∀ x ∈ l, x.length ≤ 1099511627776) ∧ r = oorows l

theorem toIntSS_ctr : CtrOK Try.prog 58 (pureC toIntSSR) := by
  refine ctr_pure' Try.func58 rfl rfl Try.ntmps58 ?_
  rintro _ _ ⟨l, rfl, hl, hll, rfl⟩
  refine ⟨by simp, fun κ hκ => ?_⟩
  have hbig := bigW_gt
  rw [argEnv_eq]
  simp only [envA]
  have hΓ := ctxOf_ok (P := Try.prog) (cx toIntS_ctr <| cx0)
  repeat' (first | refine wS fun K hK => ?_ | refine wB ?_ | ((first | refine wR hΓ ?_ | refine wD hΓ fun B hB => ?_); simp (config := { maxSteps := 2000000 }) only [go_sem]) | ((repeat ((fail_if_success (refine hK _ ?_)); clear hK K)); refine hK _ ?_; clear hK K) | (refine w1 ?_; simp only [xs, xi, Nat.reduceEqDiff, reduceCtorEq]) | (refine wC (fun hb => ?_) fun hb => ?_ <;> (try simp only [xb, reduceCtorEq] at hb)) | (refine w2 (fun hc => ?_) (fun hc => ?_) <;> (try simp only [xc] at hc) <;> (try simp only [go_sem, hc]) <;> (try simp only [xb] at hc)) | refine wI ?_ | refine ex_idx (by omega) ?_ | fail)
  refine CW.loop (ι := Nat × List (List Int)) (fun x => [(0, rows l), (3, oorows x.2), (4, I x.1)]) (fun x => x.1 ≤ l.length ∧ x.2.length = l.length ∧ x.2.take x.1 = l.take x.1) (fun x => l.length - x.1) (0, List.replicate l.length []) ?_ ?_
  · refine ⟨by (simp only [xe, xj, Nat.reduceEqDiff]; (try simp [view, viewL_map]); (try omega)), by simp⟩
  rintro ⟨k, X⟩ ⟨hk, hX, ht⟩
  dsimp only at hk hX ht
  simp only [envOf]
  repeat' (first | refine wS fun K hK => ?_ | refine wB ?_ | ((first | refine wR hΓ ?_ | refine wD hΓ fun B hB => ?_); simp (config := { maxSteps := 2000000 }) only [go_sem]) | ((repeat ((fail_if_success (refine hK _ ?_)); clear hK K)); refine hK _ ?_; clear hK K) | (refine w1 ?_; simp only [xs, xi, Nat.reduceEqDiff, reduceCtorEq]) | (refine wC (fun hb => ?_) fun hb => ?_ <;> (try simp only [xb, reduceCtorEq] at hb)) | (refine w2 (fun hc => ?_) (fun hc => ?_) <;> (try simp only [xc] at hc) <;> (try simp only [go_sem, hc]) <;> (try simp only [xb] at hc)) | refine wI ?_ | refine ex_idx (by omega) ?_ | fail)
  (first | refine wA rfl _ (⟨_, rfl, hll _ (List.getElem_mem _), rfl⟩) ?_ | refine dA rfl _ (⟨_, rfl, hll _ (List.getElem_mem _), rfl⟩) ?_); simp (config := { maxSteps := 2000000 }) only [go_sem]
  repeat' (first | refine wS fun K hK => ?_ | refine wB ?_ | ((first | refine wR hΓ ?_ | refine wD hΓ fun B hB => ?_); simp (config := { maxSteps := 2000000 }) only [go_sem]) | ((repeat ((fail_if_success (refine hK _ ?_)); clear hK K)); refine hK _ ?_; clear hK K) | (refine w1 ?_; simp only [xs, xi, Nat.reduceEqDiff, reduceCtorEq]) | (refine wC (fun hb => ?_) fun hb => ?_ <;> (try simp only [xb, reduceCtorEq] at hb)) | (refine w2 (fun hc => ?_) (fun hc => ?_) <;> (try simp only [xc] at hc) <;> (try simp only [go_sem, hc]) <;> (try simp only [xb] at hc)) | refine wI ?_ | refine ex_idx (by omega) ?_ | fail)
  · exact ⟨(k + 1, X.set k (l[k]'(by omega))), by (simp only [xe, xj, Nat.reduceEqDiff]; (try simp [view, viewL_map]); (try omega)), ⟨by dsimp only; omega, by simpa using hX, take_set_succ (by omega) (by omega) ht⟩, by dsimp only; omega⟩
  · have hkl : k = l.length := by omega
    have hXl : X = l := by
      rw [hkl] at ht
      rwa [List.take_of_length_le (by omega), List.take_of_length_le (Nat.le_refl _)] at ht
    subst hXl
    simp [Try.results58, RetOK, RetP, backA, upd_at, plainB, getP, isOwn, anyOwn, isP]

def toAutoR (args : List AV) (r : AV) : Prop := ∃ (E : List Int) (N : List (List Int)), args = [agg [ints E, rows N]] ∧ E.length ≤ 1099511627776 ∧ N.length ≤ 1099511627776 ∧ (∀ x ∈ N, x.length ≤ 1099511627776) ∧ r = agg [oints E, oorows N]

theorem toAuto_ctr : CtrOK Try.prog 27 (pureC toAutoR) := by
  refine ctr_pure' Try.func27 rfl rfl Try.ntmps27 ?_
  rintro _ _ ⟨E, N, rfl, h1, h2, h3, rfl⟩
  refine ⟨by simp, fun κ hκ => ?_⟩
  have hbig := bigW_gt
  rw [argEnv_eq]
  simp only [envA]
  have hΓ := ctxOf_ok (P := Try.prog) (cx toIntS_ctr <| cx toIntSS_ctr <| cx0)
  repeat' (first | refine wS fun K hK => ?_ | refine wB ?_ | ((first | refine wR hΓ ?_ | refine wD hΓ fun B hB => ?_); simp (config := { maxSteps := 2000000 }) only [go_sem]) | ((repeat ((fail_if_success (refine hK _ ?_)); clear hK K)); refine hK _ ?_; clear hK K) | (refine w1 ?_; simp only [xs, xi, Nat.reduceEqDiff, reduceCtorEq]) | (refine wC (fun hb => ?_) fun hb => ?_ <;> (try simp only [xb, reduceCtorEq] at hb)) | (refine w2 (fun hc => ?_) (fun hc => ?_) <;> (try simp only [xc] at hc) <;> (try simp only [go_sem, hc]) <;> (try simp only [xb] at hc)) | refine wI ?_ | refine ex_idx (by omega) ?_ | fail)
  (first | refine wA rfl _ (⟨_, rfl, h1, rfl⟩) ?_ | refine dA rfl _ (⟨_, rfl, h1, rfl⟩) ?_); simp (config := { maxSteps := 2000000 }) only [go_sem]
  repeat' (first | refine wS fun K hK => ?_ | refine wB ?_ | ((first | refine wR hΓ ?_ | refine wD hΓ fun B hB => ?_); simp (config := { maxSteps := 2000000 }) only [go_sem]) | ((repeat ((fail_if_success (refine hK _ ?_)); clear hK K)); refine hK _ ?_; clear hK K) | (refine w1 ?_; simp only [xs, xi, Nat.reduceEqDiff, reduceCtorEq]) | (refine wC (fun hb => ?_) fun hb => ?_ <;> (try simp only [xb, reduceCtorEq] at hb)) | (refine w2 (fun hc => ?_) (fun hc => ?_) <;> (try simp only [xc] at hc) <;> (try simp only [go_sem, hc]) <;> (try simp only [xb] at hc)) | refine wI ?_ | refine ex_idx (by omega) ?_ | fail)
  (first | refine wA rfl _ (⟨_, rfl, h2, h3, rfl⟩) ?_ | refine dA rfl _ (⟨_, rfl, h2, h3, rfl⟩) ?_); simp (config := { maxSteps := 2000000 }) only [go_sem]
  repeat' (first | refine wS fun K hK => ?_ | refine wB ?_ | ((first | refine wR hΓ ?_ | refine wD hΓ fun B hB => ?_); simp (config := { maxSteps := 2000000 }) only [go_sem]) | ((repeat ((fail_if_success (refine hK _ ?_)); clear hK K)); refine hK _ ?_; clear hK K) | (refine w1 ?_; simp only [xs, xi, Nat.reduceEqDiff, reduceCtorEq]) | (refine wC (fun hb => ?_) fun hb => ?_ <;> (try simp only [xb, reduceCtorEq] at hb)) | (refine w2 (fun hc => ?_) (fun hc => ?_) <;> (try simp only [xc] at hc) <;> (try simp only [go_sem, hc]) <;> (try simp only [xb] at hc)) | refine wI ?_ | refine ex_idx (by omega) ?_ | fail)
  (rw [Try.results27]; exact retOK_box Ty_aggT_31 Ty_szT_31 (by simp [upd_at]))

def eqIntSR (args : List AV) (r : AV) : Prop := ∃ l m : List Int, args = [ints l, ints m] ∧ l.length ≤ 1099511627776 ∧ m.length ≤ 1099511627776 ∧ r = .bool (decide (l = m))

theorem eqIntS_ctr : CtrOK Try.prog 52 (pureC eqIntSR) := by
  refine ctr_pure' Try.func52 rfl rfl Try.ntmps52 ?_
  rintro _ _ ⟨l, m, rfl, hl, hm, rfl⟩
  refine ⟨by simp, fun κ hκ => ?_⟩
  have hbig := bigW_gt
  rw [argEnv_eq]
  simp only [envA]
  have hΓ := noCtx_ok Try.prog
  repeat' (first | refine wS fun K hK => ?_ | refine wB ?_ | ((first | refine wR hΓ ?_ | refine wD hΓ fun B hB => ?_); simp (config := { maxSteps := 2000000 }) only [go_sem]) | ((repeat ((fail_if_success (refine hK _ ?_)); clear hK K)); refine hK _ ?_; clear hK K) | (refine w1 ?_; simp only [xs, xi, Nat.reduceEqDiff, reduceCtorEq]) | (refine wC (fun hb => ?_) fun hb => ?_ <;> (try simp only [xb, reduceCtorEq] at hb)) | (refine w2 (fun hc => ?_) (fun hc => ?_) <;> (try simp only [xc] at hc) <;> (try simp only [go_sem, hc]) <;> (try simp only [xb] at hc)) | refine wI ?_ | refine ex_idx (by omega) ?_ | fail)
  · have : l ≠ m := fun e => by subst e; omega
    simp [Try.results52, RetOK, upd_at, plainB, this]
  refine CW.loop (ι := Nat) (fun k => [(0, ints l), (1, ints m), (5, I k)]) (fun k => k ≤ l.length ∧ l.take k = m.take k) (fun k => l.length - k) 0 ?_ ?_
  · refine ⟨by (simp only [xe, xj, Nat.reduceEqDiff]; (try simp [view, viewL_map]); (try omega)), by simp⟩
  rintro k ⟨hk, ht⟩
  simp only [envOf]
  repeat' (first | refine wS fun K hK => ?_ | refine wB ?_ | ((first | refine wR hΓ ?_ | refine wD hΓ fun B hB => ?_); simp (config := { maxSteps := 2000000 }) only [go_sem]) | ((repeat ((fail_if_success (refine hK _ ?_)); clear hK K)); refine hK _ ?_; clear hK K) | (refine w1 ?_; simp only [xs, xi, Nat.reduceEqDiff, reduceCtorEq]) | (refine wC (fun hb => ?_) fun hb => ?_ <;> (try simp only [xb, reduceCtorEq] at hb)) | (refine w2 (fun hc => ?_) (fun hc => ?_) <;> (try simp only [xc] at hc) <;> (try simp only [go_sem, hc]) <;> (try simp only [xb] at hc)) | refine wI ?_ | refine ex_idx (by omega) ?_ | fail)
  · have : l ≠ m := fun e => hb (by simp only [e])
    simp [Try.results52, RetOK, upd_at, plainB, this]
  · exact ⟨k + 1, by (simp only [xe, xj, Nat.reduceEqDiff]; (try simp [view, viewL_map]); (try omega)), ⟨by omega, take_succ_eq (by omega) (by omega) ht hb⟩, by omega⟩
  · have : l = m := by rwa [List.take_of_length_le (by omega), List.take_of_length_le (by omega)] at ht
    subst this
    simp [Try.results52, RetOK, RetP, backA, upd_at, plainB, getP, isOwn, anyOwn, isP]

def eqIntSSR (args : List AV) (r : AV) : Prop := ∃ l m : List (List Int), args = [rows l, rows m] ∧ l.length ≤ 1099511627776 ∧ m.length ≤ 1099511627776 ∧ (∀ x ∈ l, x.length ≤ 1099511627776) ∧ (∀ x ∈ m, x.length ≤ 1099511627776) ∧ r = .bool (decide (l = m))

theorem eqIntSS_ctr : CtrOK Try.prog 51 (pureC eqIntSSR) := by
  refine ctr_pure' Try.func51 rfl rfl Try.ntmps51 ?_
  rintro _ _ ⟨l, m, rfl, hl, hm, hll, hmm, rfl⟩
  refine ⟨by simp, fun κ hκ => ?_⟩
  have hbig := bigW_gt
  rw [argEnv_eq]
  simp only [envA]
  have hΓ := ctxOf_ok (P := Try.prog) (cx eqIntS_ctr <| cx0)
  repeat' (first | refine wS fun K hK => ?_ | refine wB ?_ | ((first | refine wR hΓ ?_ | refine wD hΓ fun B hB => ?_); simp (config := { maxSteps := 2000000 }) only [go_sem]) | ((repeat ((fail_if_success (refine hK _ ?_)); clear hK K)); refine hK _ ?_; clear hK K) | (refine w1 ?_; simp only [xs, xi, Nat.reduceEqDiff, reduceCtorEq]) | (refine wC (fun hb => ?_) fun hb => ?_ <;> (try simp only [xb, reduceCtorEq] at hb)) | (refine w2 (fun hc => ?_) (fun hc => ?_) <;> (try simp only [xc] at hc) <;> (try simp only [go_sem, hc]) <;> (try simp only [xb] at hc)) | refine wI ?_ | refine ex_idx (by omega) ?_ | fail)
  · have : l ≠ m := fun e => by subst e; omega
    simp [Try.results51, RetOK, upd_at, plainB, this]
  refine CW.loop (ι := Nat) (fun k => [(0, rows l), (1, rows m), (5, I k)]) (fun k => k ≤ l.length ∧ l.take k = m.take k) (fun k => l.length - k) 0 ?_ ?_
  · refine ⟨by (simp only [xe, xj, Nat.reduceEqDiff]; (try simp [view, viewL_map]); (try omega)), by simp⟩
  rintro k ⟨hk, ht⟩
  simp only [envOf]
  repeat' (first | refine wS fun K hK => ?_ | refine wB ?_ | ((first | refine wR hΓ ?_ | refine wD hΓ fun B hB => ?_); simp (config := { maxSteps := 2000000 }) only [go_sem]) | ((repeat ((fail_if_success (refine hK _ ?_)); clear hK K)); refine hK _ ?_; clear hK K) | (refine w1 ?_; simp only [xs, xi, Nat.reduceEqDiff, reduceCtorEq]) | (refine wC (fun hb => ?_) fun hb => ?_ <;> (try simp only [xb, reduceCtorEq] at hb)) | (refine w2 (fun hc => ?_) (fun hc => ?_) <;> (try simp only [xc] at hc) <;> (try simp only [go_sem, hc]) <;> (try simp only [xb] at hc)) | refine wI ?_ | refine ex_idx (by omega) ?_ | fail)
  (first | refine wA rfl _ (⟨_, _, rfl, hll _ (List.getElem_mem _), hmm _ (List.getElem_mem _), rfl⟩) ?_ | refine dA rfl _ (⟨_, _, rfl, hll _ (List.getElem_mem _), hmm _ (List.getElem_mem _), rfl⟩) ?_); simp (config := { maxSteps := 2000000 }) only [go_sem]
  repeat' (first | refine wS fun K hK => ?_ | refine wB ?_ | ((first | refine wR hΓ ?_ | refine wD hΓ fun B hB => ?_); simp (config := { maxSteps := 2000000 }) only [go_sem]) | ((repeat ((fail_if_success (refine hK _ ?_)); clear hK K)); refine hK _ ?_; clear hK K) | (refine w1 ?_; simp only [xs, xi, Nat.reduceEqDiff, reduceCtorEq]) | (refine wC (fun hb => ?_) fun hb => ?_ <;> (try simp only [xb, reduceCtorEq] at hb)) | (refine w2 (fun hc => ?_) (fun hc => ?_) <;> (try simp only [xc] at hc) <;> (try simp only [go_sem, hc]) <;> (try simp only [xb] at hc)) | refine wI ?_ | refine ex_idx (by omega) ?_ | fail)
  · have : l ≠ m := fun e => hb (by simp only [e])
    simp [Try.results51, RetOK, upd_at, plainB, this]
  · exact ⟨k + 1, by (simp only [xe, xj, Nat.reduceEqDiff]; (try simp [view, viewL_map]); (try omega)), ⟨by omega, take_succ_eq (by omega) (by omega) ht hb⟩, by omega⟩
  · have : l = m := by rwa [List.take_of_length_le (by omega), List.take_of_length_le (by omega)] at ht
    subst this
    simp [Try.results51, RetOK, RetP, backA, upd_at, plainB, getP, isOwn, anyOwn, isP]

end Go.Proofs.Ytboandkjhdaobaa

namespace Go.Proofs.Ytboandkjhdaobaa
set_option linter.unusedSimpArgs false
set_option linter.unusedVariables false
set_option maxRecDepth 8000
set_option maxHeartbeats 2000000
open Go Go.RowKit AV

def eqAutoR (args : List AV) (r : AV) : Prop := ∃ (E F : List Int) (N M : List (List Int)), args = [agg [ints E, rows N], agg [ints F, rows M]] ∧ E.length ≤ 1099511627776 ∧ F.length ≤ 1099511627776 ∧ N.length ≤ 1099511627776 ∧ M.length ≤ 1099511627776 ∧ (∀ x ∈ N, x.length ≤ 1099511627776) ∧ (∀ x ∈ M, x.length ≤ 1099511627776) ∧ r = .bool (decide (E = F ∧ N = M))

theorem eqAuto_ctr : CtrOK Try.prog 29 (pureC eqAutoR) := by
  refine ctr_pure' Try.func29 rfl rfl Try.ntmps29 ?_
  rintro _ _ ⟨E, F, N, M, rfl, h1, h2, h3, h4, h5, h6, rfl⟩
  refine ⟨by simp, fun κ hκ => ?_⟩
  have hbig := bigW_gt
  rw [argEnv_eq]
  simp only [envA]
  have hΓ := ctxOf_ok (P := Try.prog) (cx eqIntS_ctr <| cx eqIntSS_ctr <| cx0)
  repeat' (first | refine wS fun K hK => ?_ | refine wB ?_ | ((first | refine wR hΓ ?_ | refine wD hΓ fun B hB => ?_); simp (config := { maxSteps := 2000000 }) only [go_sem]) | ((repeat ((fail_if_success (refine hK _ ?_)); clear hK K)); refine hK _ ?_; clear hK K) | (refine w1 ?_; simp only [xs, xi, Nat.reduceEqDiff, reduceCtorEq]) | (refine wC (fun hb => ?_) fun hb => ?_ <;> (try simp only [xb, reduceCtorEq] at hb)) | (refine w2 (fun hc => ?_) (fun hc => ?_) <;> (try simp only [xc] at hc) <;> (try simp only [go_sem, hc]) <;> (try simp only [xb] at hc)) | refine wI ?_ | refine ex_idx (by omega) ?_ | fail)
  (first | refine wA rfl _ (⟨_, _, rfl, h1, h2, rfl⟩) ?_ | refine dA rfl _ (⟨_, _, rfl, h1, h2, rfl⟩) ?_); simp (config := { maxSteps := 2000000 }) only [go_sem]
  repeat' (first | refine wS fun K hK => ?_ | refine wB ?_ | ((first | refine wR hΓ ?_ | refine wD hΓ fun B hB => ?_); simp (config := { maxSteps := 2000000 }) only [go_sem]) | ((repeat ((fail_if_success (refine hK _ ?_)); clear hK K)); refine hK _ ?_; clear hK K) | (refine w1 ?_; simp only [xs, xi, Nat.reduceEqDiff, reduceCtorEq]) | (refine wC (fun hb => ?_) fun hb => ?_ <;> (try simp only [xb, reduceCtorEq] at hb)) | (refine w2 (fun hc => ?_) (fun hc => ?_) <;> (try simp only [xc] at hc) <;> (try simp only [go_sem, hc]) <;> (try simp only [xb] at hc)) | refine wI ?_ | refine ex_idx (by omega) ?_ | fail)
  · simp [Try.results29, RetOK, upd_at, plainB, hb]
  (first | refine wA rfl _ (⟨_, _, rfl, h3, h4, h5, h6, rfl⟩) ?_ | refine dA rfl _ (⟨_, _, rfl, h3, h4, h5, h6, rfl⟩) ?_); simp (config := { maxSteps := 2000000 }) only [go_sem]
  repeat' (first | refine wS fun K hK => ?_ | refine wB ?_ | ((first | refine wR hΓ ?_ | refine wD hΓ fun B hB => ?_); simp (config := { maxSteps := 2000000 }) only [go_sem]) | ((repeat ((fail_if_success (refine hK _ ?_)); clear hK K)); refine hK _ ?_; clear hK K) | (refine w1 ?_; simp only [xs, xi, Nat.reduceEqDiff, reduceCtorEq]) | (refine wC (fun hb => ?_) fun hb => ?_ <;> (try simp only [xb, reduceCtorEq] at hb)) | (refine w2 (fun hc => ?_) (fun hc => ?_) <;> (try simp only [xc] at hc) <;> (try simp only [go_sem, hc]) <;> (try simp only [xb] at hc)) | refine wI ?_ | refine ex_idx (by omega) ?_ | fail)
  · simp [Try.results29, RetOK, upd_at, plainB, hb]
  · simp_all [Try.results29, RetOK, upd_at, plainB]

def szL (left : Int) (n : Nat) : Int := if left - n < 0 then -1 else left - n
def szIntSR (args : List AV) (r : AV) : Prop := ∃ (l : List Int) (left : Int), args = [ints l, I left] ∧ 0 ≤ left ∧ left ≤ 1048576 ∧ l.length ≤ 9223372036854775807 ∧ r = I (szL left l.length)

theorem szIntS_ctr : CtrOK Try.prog 101 (pureC szIntSR) := by
  refine ctr_pure' Try.func101 rfl rfl Try.ntmps101 ?_
  rintro _ _ ⟨l, left, rfl, h0, h1, hl, rfl⟩
  refine ⟨by simp, fun κ hκ => ?_⟩
  have hbig := bigW_gt
  rw [argEnv_eq]
  simp only [envA]
  have hΓ := noCtx_ok Try.prog
  repeat' (first | refine wS fun K hK => ?_ | refine wB ?_ | ((first | refine wR hΓ ?_ | refine wD hΓ fun B hB => ?_); simp (config := { maxSteps := 2000000 }) only [go_sem]) | ((repeat ((fail_if_success (refine hK _ ?_)); clear hK K)); refine hK _ ?_; clear hK K) | (refine w1 ?_; simp only [xs, xi, Nat.reduceEqDiff, reduceCtorEq]) | (refine wC (fun hb => ?_) fun hb => ?_ <;> (try simp only [xb, reduceCtorEq] at hb)) | (refine w2 (fun hc => ?_) (fun hc => ?_) <;> (try simp only [xc] at hc) <;> (try simp only [go_sem, hc]) <;> (try simp only [xb] at hc)) | refine wI ?_ | refine ex_idx (by omega) ?_ | fail)
  · simp [Try.results101, RetOK, upd_at, plainB, szL, hb]
  · simp [Try.results101, RetOK, upd_at, plainB, szL, hb]

def szLL : Int → List (List Int) → Int
  | left, [] => left
  | left, r :: rs => if left - r.length < 0 then -1 else szLL (left - r.length) rs
def szSS (left : Int) (ll : List (List Int)) : Int := if left - ll.length < 0 then -1 else szLL (left - ll.length) ll
def szIntSSR (args : List AV) (r : AV) : Prop := ∃ (l : List (List Int)) (left : Int), args = [rows l, I left] ∧ 0 ≤ left ∧ left ≤ 1048576 ∧ l.length ≤ 9223372036854775807 ∧ (∀ x ∈ l, x.length ≤ 9223372036854775807) ∧ r = I (szSS left l)

theorem szLL_drop {l : List (List Int)} {k : Nat} (hk : k < l.length) (left : Int) : szLL left (l.drop k) = if left - l[k].length < 0 then -1 else szLL (left - l[k].length) (l.drop (k + 1)) := by
  rw [List.drop_eq_getElem_cons hk, szLL]

theorem szIntSS_ctr : CtrOK Try.prog 56 (pureC szIntSSR) := by
  refine ctr_pure' Try.func56 rfl rfl Try.ntmps56 ?_
  rintro _ _ ⟨l, left, rfl, h0, h1, hl, hll, rfl⟩
  refine ⟨by simp, fun κ hκ => ?_⟩
  have hbig := bigW_gt
  rw [argEnv_eq]
  simp only [envA]
  have hΓ := ctxOf_ok (P := Try.prog) (cx szIntS_ctr <| cx0)
  repeat' (first | refine wS fun K hK => ?_ | refine wB ?_ | ((first | refine wR hΓ ?_ | refine wD hΓ fun B hB => ?_); simp (config := { maxSteps := 2000000 }) only [go_sem]) | ((repeat ((fail_if_success (refine hK _ ?_)); clear hK K)); refine hK _ ?_; clear hK K) | (refine w1 ?_; simp only [xs, xi, Nat.reduceEqDiff, reduceCtorEq]) | (refine wC (fun hb => ?_) fun hb => ?_ <;> (try simp only [xb, reduceCtorEq] at hb)) | (refine w2 (fun hc => ?_) (fun hc => ?_) <;> (try simp only [xc] at hc) <;> (try simp only [go_sem, hc]) <;> (try simp only [xb] at hc)) | refine wI ?_ | refine ex_idx (by omega) ?_ | fail)
  · simp [Try.results56, RetOK, upd_at, plainB, szSS, hb]
  have e1 : szSS left l = szLL (left - l.length) l := by unfold szSS; rw [if_neg hb]
  rw [e1]
  refine CW.loop (ι := Nat × Int) (fun x => [(0, rows l), (1, I x.2), (5, I x.1)]) (fun x => x.1 ≤ l.length ∧ 0 ≤ x.2 ∧ x.2 ≤ left ∧ szLL x.2 (l.drop x.1) = szLL (left - l.length) l) (fun x => l.length - x.1) (0, left - l.length) ?_ ?_
  · refine ⟨by (simp only [xe, xj, Nat.reduceEqDiff]; (try simp [view, viewL_map]); (try omega)), by dsimp only; omega, by dsimp only; omega, by dsimp only; omega, by simp⟩
  rintro ⟨k, cur⟩ ⟨hk, hc0, hc1, hs⟩
  dsimp only at hk hc0 hc1 hs
  simp only [envOf]
  repeat' (first | refine wS fun K hK => ?_ | refine wB ?_ | ((first | refine wR hΓ ?_ | refine wD hΓ fun B hB => ?_); simp (config := { maxSteps := 2000000 }) only [go_sem]) | ((repeat ((fail_if_success (refine hK _ ?_)); clear hK K)); refine hK _ ?_; clear hK K) | (refine w1 ?_; simp only [xs, xi, Nat.reduceEqDiff, reduceCtorEq]) | (refine wC (fun hb => ?_) fun hb => ?_ <;> (try simp only [xb, reduceCtorEq] at hb)) | (refine w2 (fun hc => ?_) (fun hc => ?_) <;> (try simp only [xc] at hc) <;> (try simp only [go_sem, hc]) <;> (try simp only [xb] at hc)) | refine wI ?_ | refine ex_idx (by omega) ?_ | fail)
  have hkl : k < l.length := by omega
  rw [szLL_drop hkl] at hs
  (first | refine wA rfl _ (⟨_, _, rfl, hc0, by omega, hll _ (List.getElem_mem _), rfl⟩) ?_ | refine dA rfl _ (⟨_, _, rfl, hc0, by omega, hll _ (List.getElem_mem _), rfl⟩) ?_); simp (config := { maxSteps := 2000000 }) only [go_sem]
  repeat' (first | refine wS fun K hK => ?_ | refine wB ?_ | ((first | refine wR hΓ ?_ | refine wD hΓ fun B hB => ?_); simp (config := { maxSteps := 2000000 }) only [go_sem]) | ((repeat ((fail_if_success (refine hK _ ?_)); clear hK K)); refine hK _ ?_; clear hK K) | (refine w1 ?_; simp only [xs, xi, Nat.reduceEqDiff, reduceCtorEq]) | (refine wC (fun hb => ?_) fun hb => ?_ <;> (try simp only [xb, reduceCtorEq] at hb)) | (refine w2 (fun hc => ?_) (fun hc => ?_) <;> (try simp only [xc] at hc) <;> (try simp only [go_sem, hc]) <;> (try simp only [xb] at hc)) | refine wI ?_ | refine ex_idx (by omega) ?_ | fail)
  · have h2 : cur - ((l[k].length : Nat) : Int) < 0 := by unfold szL at hb; split at hb <;> omega
    rw [if_pos h2] at hs
    simp [Try.results56, RetOK, upd_at, plainB, ← hs, e1]
  · have h2 : ¬ cur - ((l[k].length : Nat) : Int) < 0 := by unfold szL at hb; split at hb <;> omega
    have h3 : szL cur l[k].length = cur - l[k].length := by unfold szL; rw [if_neg h2]
    rw [if_neg h2] at hs
    rw [h3]
    exact ⟨(k + 1, cur - l[k].length), by (simp only [xe, xj, Nat.reduceEqDiff]; (try simp [view, viewL_map]); (try omega)), ⟨by dsimp only; omega, by dsimp only; omega, by dsimp only; omega, hs⟩, by dsimp only; omega⟩
  · rw [List.drop_of_length_le (by omega), szLL] at hs
    simp [Try.results56, RetOK, upd_at, plainB, hs, e1]

def szA (left : Int) (E : List Int) (N : List (List Int)) : Int := if szL left E.length < 0 then -1 else if szSS (szL left E.length) N < 0 then -1 else szSS (szL left E.length) N
def szAutoR (args : List AV) (r : AV) : Prop := ∃ (E : List Int) (N : List (List Int)) (left : Int), args = [agg [ints E, rows N], I left] ∧ 0 ≤ left ∧ left ≤ 1048576 ∧ E.length ≤ 9223372036854775807 ∧ N.length ≤ 9223372036854775807 ∧ (∀ x ∈ N, x.length ≤ 9223372036854775807) ∧ r = I (szA left E N)

theorem szAuto_ctr : CtrOK Try.prog 25 (pureC szAutoR) := by
  refine ctr_pure' Try.func25 rfl rfl Try.ntmps25 ?_
  rintro _ _ ⟨E, N, left, rfl, h0, h1, h2, h3, h4, rfl⟩
  refine ⟨by simp, fun κ hκ => ?_⟩
  have hbig := bigW_gt
  rw [argEnv_eq]
  simp only [envA]
  have hΓ := ctxOf_ok (P := Try.prog) (cx szIntS_ctr <| cx szIntSS_ctr <| cx0)
  repeat' (first | refine wS fun K hK => ?_ | refine wB ?_ | ((first | refine wR hΓ ?_ | refine wD hΓ fun B hB => ?_); simp (config := { maxSteps := 2000000 }) only [go_sem]) | ((repeat ((fail_if_success (refine hK _ ?_)); clear hK K)); refine hK _ ?_; clear hK K) | (refine w1 ?_; simp only [xs, xi, Nat.reduceEqDiff, reduceCtorEq]) | (refine wC (fun hb => ?_) fun hb => ?_ <;> (try simp only [xb, reduceCtorEq] at hb)) | (refine w2 (fun hc => ?_) (fun hc => ?_) <;> (try simp only [xc] at hc) <;> (try simp only [go_sem, hc]) <;> (try simp only [xb] at hc)) | refine wI ?_ | refine ex_idx (by omega) ?_ | fail)
  (first | refine wA rfl _ (⟨_, _, rfl, h0, h1, h2, rfl⟩) ?_ | refine dA rfl _ (⟨_, _, rfl, h0, h1, h2, rfl⟩) ?_); simp (config := { maxSteps := 2000000 }) only [go_sem]
  repeat' (first | refine wS fun K hK => ?_ | refine wB ?_ | ((first | refine wR hΓ ?_ | refine wD hΓ fun B hB => ?_); simp (config := { maxSteps := 2000000 }) only [go_sem]) | ((repeat ((fail_if_success (refine hK _ ?_)); clear hK K)); refine hK _ ?_; clear hK K) | (refine w1 ?_; simp only [xs, xi, Nat.reduceEqDiff, reduceCtorEq]) | (refine wC (fun hb => ?_) fun hb => ?_ <;> (try simp only [xb, reduceCtorEq] at hb)) | (refine w2 (fun hc => ?_) (fun hc => ?_) <;> (try simp only [xc] at hc) <;> (try simp only [go_sem, hc]) <;> (try simp only [xb] at hc)) | refine wI ?_ | refine ex_idx (by omega) ?_ | fail)
  · simp [Try.results25, RetOK, upd_at, plainB, szA, hb]
  have h5 : szL left E.length ≤ 1048576 := by unfold szL; split <;> omega
  (first | refine wA rfl _ (⟨_, _, rfl, by omega, h5, h3, h4, rfl⟩) ?_ | refine dA rfl _ (⟨_, _, rfl, by omega, h5, h3, h4, rfl⟩) ?_); simp (config := { maxSteps := 2000000 }) only [go_sem]
  have hb0 := hb
  repeat' (first | refine wS fun K hK => ?_ | refine wB ?_ | ((first | refine wR hΓ ?_ | refine wD hΓ fun B hB => ?_); simp (config := { maxSteps := 2000000 }) only [go_sem]) | ((repeat ((fail_if_success (refine hK _ ?_)); clear hK K)); refine hK _ ?_; clear hK K) | (refine w1 ?_; simp only [xs, xi, Nat.reduceEqDiff, reduceCtorEq]) | (refine wC (fun hb => ?_) fun hb => ?_ <;> (try simp only [xb, reduceCtorEq] at hb)) | (refine w2 (fun hc => ?_) (fun hc => ?_) <;> (try simp only [xc] at hc) <;> (try simp only [go_sem, hc]) <;> (try simp only [xb] at hc)) | refine wI ?_ | refine ex_idx (by omega) ?_ | fail)
  · simp [Try.results25, RetOK, upd_at, plainB, szA, hb, hb0]
  · simp [Try.results25, RetOK, upd_at, plainB, szA, hb, hb0]

theorem szL_ok {left : Int} {n : Nat} (h : 0 ≤ szL left n) : szL left n = left - n ∧ 0 ≤ left - n := by
  unfold szL at h ⊢
  split at h
  · omega
  · rename_i h2; rw [if_neg h2]; exact ⟨rfl, h⟩

theorem szLL_ok : ∀ {ll : List (List Int)} {left : Int}, 0 ≤ szLL left ll → szLL left ll ≤ left ∧ ∀ x ∈ ll, (x.length : Int) ≤ left
  | [], left, h => ⟨by simp [szLL], by simp⟩
  | r :: rs, left, h => by
    unfold szLL at h ⊢
    split at h
    · omega
    · rename_i h2
      rw [if_neg h2]
      obtain ⟨h3, h4⟩ := szLL_ok h
      refine ⟨by omega, fun x hx => ?_⟩
      rcases List.mem_cons.1 hx with rfl | hx
      · omega
      · have := h4 x hx; omega

theorem szA_ok {left : Int} {E : List Int} {N : List (List Int)} (hl : left ≤ 1048576) (h : 0 ≤ szA left E N) : szA left E N ≤ left ∧ E.length ≤ 1048576 ∧ N.length ≤ 1048576 ∧ ∀ x ∈ N, x.length ≤ 1048576 := by
  unfold szA at h ⊢
  split at h
  · omega
  · rename_i h1
    rw [if_neg h1]
    split at h
    · omega
    · rename_i h2
      rw [if_neg h2]
      obtain ⟨h3, h4⟩ := szL_ok (by omega : 0 ≤ szL left E.length)
      rw [h3] at h h2 ⊢
      unfold szSS at h h2 ⊢
      split at h
      · omega
      · rename_i h5
        rw [if_neg h5]
        obtain ⟨h6, h7⟩ := szLL_ok h
        refine ⟨by omega, by omega, by omega, fun x hx => ?_⟩
        have := h7 x hx
        omega

end Go.Proofs.Ytboandkjhdaobaa

namespace Go.Proofs.Ytboandkjhdaobaa
set_option linter.unusedSimpArgs false
set_option linter.unusedVariables false
set_option maxRecDepth 8000
set_option maxHeartbeats 2000000
open Go Go.RowKit AV

def mkR (k : Int) (n : Nat) : List Int := (List.range n).map fun i : Nat => k + i
def mkRR (k : Int) : List (List Int) → List (List Int)
  | [] => []
  | r :: rs => mkR k r.length :: mkRR (k + r.length) rs
def totR : List (List Int) → Nat
  | [] => 0
  | r :: rs => r.length + totR rs
theorem mkR_len (k : Int) (n : Nat) : (mkR k n).length = n := by simp [mkR]
theorem mkR_get (k : Int) {n i : Nat} (h : i < (mkR k n).length) : (mkR k n)[i] = k + i := by simp [mkR]
theorem mkRR_len (ll : List (List Int)) : ∀ k, (mkRR k ll).length = ll.length := by
  induction ll with
  | nil => intro k; rfl
  | cons r rs ih => intro k; simp [mkRR, ih]
theorem totR_take (ll : List (List Int)) : ∀ {j : Nat} (h : j < ll.length), totR (ll.take (j + 1)) = totR (ll.take j) + ll[j].length := by
  induction ll with
  | nil => intro j h; simp at h
  | cons r rs ih =>
    intro j h
    cases j with
    | zero => simp [totR]
    | succ j =>
      have := ih (j := j) (by simpa using h)
      simp only [List.take_succ_cons, totR, this, List.getElem_cons_succ]
      omega
theorem totR_le (ll : List (List Int)) : ∀ j : Nat, totR (ll.take j) ≤ totR ll := by
  induction ll with
  | nil => intro j; simp
  | cons r rs ih =>
    intro j
    cases j with
    | zero => simp [totR]
    | succ j => have := ih j; simp only [List.take_succ_cons, totR]; omega
theorem mkRR_get (ll : List (List Int)) : ∀ (k : Int) {j : Nat} (h : j < (mkRR k ll).length) (h' : j < ll.length), (mkRR k ll)[j] = mkR (k + totR (ll.take j)) ll[j].length := by
  induction ll with
  | nil => intro k j h h'; simp at h'
  | cons r rs ih =>
    intro k j h h'
    cases j with
    | zero => simp [mkRR, totR]
    | succ j =>
      have := ih (k + r.length) (j := j) (by simpa [mkRR] using h) (by simpa using h')
      simp only [mkRR, List.getElem_cons_succ, List.take_succ_cons, totR, this]
      congr 1
      omega

def markIntSR (args : List AV) (r : AV) (args' : List AV) : Prop := ∃ (l : List Int) (k : Int), args = [oints l, I k] ∧ 0 ≤ k ∧ k + l.length ≤ 4611686018427387904 ∧ r = I (k + l.length) ∧ args' = [oints (mkR k l.length)]

theorem markIntS_ctr : CtrOK Try.prog 53 (effC markIntSR) := by
  refine ctr_eff' Try.func53 rfl rfl Try.ntmps53 ?_
  rintro _ _ _ ⟨l, k, rfl, h0, h1, rfl, rfl⟩
  refine ⟨_, rfl, by simp, by simp, fun κ hκ => ?_⟩
  have hbig := bigW_gt
  rw [argEnv_eq]
  simp only [envA]
  have hΓ := noCtx_ok Try.prog
  repeat' (first | refine wS fun K hK => ?_ | refine wB ?_ | ((first | refine wR hΓ ?_ | refine wD hΓ fun B hB => ?_); simp (config := { maxSteps := 2000000 }) only [go_sem]) | ((repeat ((fail_if_success (refine hK _ ?_)); clear hK K)); refine hK _ ?_; clear hK K) | (refine w1 ?_; simp only [xs, xi, Nat.reduceEqDiff, reduceCtorEq]) | (refine wC (fun hb => ?_) fun hb => ?_ <;> (try simp only [xb, reduceCtorEq] at hb)) | (refine w2 (fun hc => ?_) (fun hc => ?_) <;> (try simp only [xc] at hc) <;> (try simp only [go_sem, hc]) <;> (try simp only [xb] at hc)) | refine wI ?_ | refine ex_idx (by omega) ?_ | fail)
  refine CW.loop (ι := Nat × List Int) (fun x => [(0, oints x.2), (1, I (k + x.1)), (5, I x.1)]) (fun x => x.1 ≤ l.length ∧ x.2.length = l.length ∧ x.2.take x.1 = (mkR k l.length).take x.1) (fun x => l.length - x.1) (0, l) ?_ ?_
  · refine ⟨by (simp only [xe, xj, Nat.reduceEqDiff]; (try simp [view, viewL_map]); (try omega)), by simp⟩
  rintro ⟨j, X⟩ ⟨hj, hX, ht⟩
  dsimp only at hj hX ht
  simp only [envOf]
  repeat' (first | refine wS fun K hK => ?_ | refine wB ?_ | ((first | refine wR hΓ ?_ | refine wD hΓ fun B hB => ?_); simp (config := { maxSteps := 2000000 }) only [go_sem]) | ((repeat ((fail_if_success (refine hK _ ?_)); clear hK K)); refine hK _ ?_; clear hK K) | (refine w1 ?_; simp only [xs, xi, Nat.reduceEqDiff, reduceCtorEq]) | (refine wC (fun hb => ?_) fun hb => ?_ <;> (try simp only [xb, reduceCtorEq] at hb)) | (refine w2 (fun hc => ?_) (fun hc => ?_) <;> (try simp only [xc] at hc) <;> (try simp only [go_sem, hc]) <;> (try simp only [xb] at hc)) | refine wI ?_ | refine ex_idx (by omega) ?_ | fail)
  · have h2 : j < (mkR k l.length).length := by rw [mkR_len]; omega
    have h3 := take_set_succ h2 (show j < X.length by omega) ht
    rw [mkR_get] at h3
    exact ⟨(j + 1, X.set j (k + j)), by (simp only [xe, xj, Nat.reduceEqDiff]; (try simp [view, viewL_map]); (try omega)), ⟨by dsimp only; omega, by simpa using hX, h3⟩, by dsimp only; omega⟩
  · have hjl : j = l.length := by omega
    have hXl : X = mkR k l.length := by rwa [List.take_of_length_le (by omega), List.take_of_length_le (by rw [mkR_len]; omega)] at ht
    subst hXl
    subst hjl
    simp [Try.results53, RetOK, RetP, backA, upd_at, plainB, getP, isOwn, anyOwn, isP]

def markIntSSR (args : List AV) (r : AV) (args' : List AV) : Prop := ∃ (l : List (List Int)) (k : Int), args = [oorows l, I k] ∧ 0 ≤ k ∧ l.length ≤ 4611686018427387904 ∧ k + totR l ≤ 4611686018427387904 ∧ r = I (k + totR l) ∧ args' = [oorows (mkRR k l)]

theorem markIntSS_ctr : CtrOK Try.prog 54 (effC markIntSSR) := by
  refine ctr_eff' Try.func54 rfl rfl Try.ntmps54 ?_
  rintro _ _ _ ⟨l, k, rfl, h0, hl, h1, rfl, rfl⟩
  refine ⟨_, rfl, by simp, by simp, fun κ hκ => ?_⟩
  have hbig := bigW_gt
  rw [argEnv_eq]
  simp only [envA]
  have hΓ := ctxOf_ok (P := Try.prog) (cx markIntS_ctr <| cx0)
  repeat' (first | refine wS fun K hK => ?_ | refine wB ?_ | ((first | refine wR hΓ ?_ | refine wD hΓ fun B hB => ?_); simp (config := { maxSteps := 2000000 }) only [go_sem]) | ((repeat ((fail_if_success (refine hK _ ?_)); clear hK K)); refine hK _ ?_; clear hK K) | (refine w1 ?_; simp only [xs, xi, Nat.reduceEqDiff, reduceCtorEq]) | (refine wC (fun hb => ?_) fun hb => ?_ <;> (try simp only [xb, reduceCtorEq] at hb)) | (refine w2 (fun hc => ?_) (fun hc => ?_) <;> (try simp only [xc] at hc) <;> (try simp only [go_sem, hc]) <;> (try simp only [xb] at hc)) | refine wI ?_ | refine ex_idx (by omega) ?_ | fail)
  refine CW.loop (ι := Nat × List (List Int)) (fun x => [(0, oorows x.2), (1, I (k + totR (l.take x.1))), (5, I x.1)]) (fun x => x.1 ≤ l.length ∧ x.2.length = l.length ∧ x.2.take x.1 = (mkRR k l).take x.1 ∧ x.2.drop x.1 = l.drop x.1) (fun x => l.length - x.1) (0, l) ?_ ?_
  · refine ⟨by ((simp only [xe, xj, Nat.reduceEqDiff]; (try simp [view, viewL_map]); (try omega)); simp [totR]), by simp⟩
  rintro ⟨j, X⟩ ⟨hj, hX, ht, hd⟩
  dsimp only at hj hX ht hd
  simp only [envOf]
  repeat' (first | refine wS fun K hK => ?_ | refine wB ?_ | ((first | refine wR hΓ ?_ | refine wD hΓ fun B hB => ?_); simp (config := { maxSteps := 2000000 }) only [go_sem]) | ((repeat ((fail_if_success (refine hK _ ?_)); clear hK K)); refine hK _ ?_; clear hK K) | (refine w1 ?_; simp only [xs, xi, Nat.reduceEqDiff, reduceCtorEq]) | (refine wC (fun hb => ?_) fun hb => ?_ <;> (try simp only [xb, reduceCtorEq] at hb)) | (refine w2 (fun hc => ?_) (fun hc => ?_) <;> (try simp only [xc] at hc) <;> (try simp only [go_sem, hc]) <;> (try simp only [xb] at hc)) | refine wI ?_ | refine ex_idx (by omega) ?_ | fail)
  have hjl : j < l.length := by omega
  have hx : X[j]'(by omega) = l[j] := getElem_of_drop hd _ _
  have htt := totR_take l hjl
  have htl := totR_le l (j + 1)
  (first | refine W_askE rfl _ _ (⟨_, _, rfl, by omega, by rw [hx]; omega, rfl, rfl⟩) ?_ | refine D_askE rfl _ _ (⟨_, _, rfl, by omega, by rw [hx]; omega, rfl, rfl⟩) ?_); simp (config := { maxSteps := 2000000 }) only [go_sem]
  repeat' (first | refine wS fun K hK => ?_ | refine wB ?_ | ((first | refine wR hΓ ?_ | refine wD hΓ fun B hB => ?_); simp (config := { maxSteps := 2000000 }) only [go_sem]) | ((repeat ((fail_if_success (refine hK _ ?_)); clear hK K)); refine hK _ ?_; clear hK K) | (refine w1 ?_; simp only [xs, xi, Nat.reduceEqDiff, reduceCtorEq]) | (refine wC (fun hb => ?_) fun hb => ?_ <;> (try simp only [xb, reduceCtorEq] at hb)) | (refine w2 (fun hc => ?_) (fun hc => ?_) <;> (try simp only [xc] at hc) <;> (try simp only [go_sem, hc]) <;> (try simp only [xb] at hc)) | refine wI ?_ | refine ex_idx (by omega) ?_ | fail)
  · have h2 : j < (mkRR k l).length := by rw [mkRR_len]; omega
    have h3 := take_set_succ h2 (show j < X.length by omega) ht
    rw [mkRR_get l k h2 hjl] at h3
    rw [hx]
    exact ⟨(j + 1, X.set j (mkR (k + totR (l.take j)) l[j].length)), by (simp only [xe, xj, Nat.reduceEqDiff]; (try simp [view, viewL_map]); (try omega)), ⟨by dsimp only; omega, by simpa using hX, h3, drop_set_succ hd⟩, by dsimp only; omega⟩
  · have hjl : j = l.length := by omega
    have hXl : X = mkRR k l := by rwa [List.take_of_length_le (by omega), List.take_of_length_le (by rw [mkRR_len]; omega)] at ht
    subst hXl
    subst hjl
    rw [List.take_of_length_le (Nat.le_refl _)]
    simp [Try.results54, RetOK, RetP, backA, upd_at, plainB, getP, isOwn, anyOwn, isP]

def markAutoR (args : List AV) (r : AV) (args' : List AV) : Prop := ∃ (E : List Int) (N : List (List Int)) (k : Int), args = [agg [oints E, oorows N], I k] ∧ 0 ≤ k ∧ E.length ≤ 1048576 ∧ N.length ≤ 1048576 ∧ k + E.length + totR N ≤ 4611686018427387904 ∧ r = I (k + E.length + totR N) ∧ args' = [agg [oints (mkR k E.length), oorows (mkRR (k + E.length) N)]]

theorem markAuto_ctr : CtrOK Try.prog 30 (effC markAutoR) := by
  refine ctr_eff' Try.func30 rfl rfl Try.ntmps30 ?_
  rintro _ _ _ ⟨E, N, k, rfl, h0, hE, hN, h1, rfl, rfl⟩
  refine ⟨_, rfl, by simp, by simp, fun κ hκ => ?_⟩
  have hbig := bigW_gt
  rw [argEnv_eq]
  simp only [envA]
  have hΓ := ctxOf_ok (P := Try.prog) (cx markIntS_ctr <| cx markIntSS_ctr <| cx0)
  repeat' (first | refine wS fun K hK => ?_ | refine wB ?_ | ((first | refine wR hΓ ?_ | refine wD hΓ fun B hB => ?_); simp (config := { maxSteps := 2000000 }) only [go_sem]) | ((repeat ((fail_if_success (refine hK _ ?_)); clear hK K)); refine hK _ ?_; clear hK K) | (refine w1 ?_; simp only [xs, xi, Nat.reduceEqDiff, reduceCtorEq]) | (refine wC (fun hb => ?_) fun hb => ?_ <;> (try simp only [xb, reduceCtorEq] at hb)) | (refine w2 (fun hc => ?_) (fun hc => ?_) <;> (try simp only [xc] at hc) <;> (try simp only [go_sem, hc]) <;> (try simp only [xb] at hc)) | refine wI ?_ | refine ex_idx (by omega) ?_ | fail)
  (first | refine W_askE rfl _ _ (⟨_, _, rfl, h0, by omega, rfl, rfl⟩) ?_ | refine D_askE rfl _ _ (⟨_, _, rfl, h0, by omega, rfl, rfl⟩) ?_); simp (config := { maxSteps := 2000000 }) only [go_sem]
  repeat' (first | refine wS fun K hK => ?_ | refine wB ?_ | ((first | refine wR hΓ ?_ | refine wD hΓ fun B hB => ?_); simp (config := { maxSteps := 2000000 }) only [go_sem]) | ((repeat ((fail_if_success (refine hK _ ?_)); clear hK K)); refine hK _ ?_; clear hK K) | (refine w1 ?_; simp only [xs, xi, Nat.reduceEqDiff, reduceCtorEq]) | (refine wC (fun hb => ?_) fun hb => ?_ <;> (try simp only [xb, reduceCtorEq] at hb)) | (refine w2 (fun hc => ?_) (fun hc => ?_) <;> (try simp only [xc] at hc) <;> (try simp only [go_sem, hc]) <;> (try simp only [xb] at hc)) | refine wI ?_ | refine ex_idx (by omega) ?_ | fail)
  (first | refine W_askE rfl _ _ (⟨_, _, rfl, by omega, by omega, h1, rfl, rfl⟩) ?_ | refine D_askE rfl _ _ (⟨_, _, rfl, by omega, by omega, h1, rfl, rfl⟩) ?_); simp (config := { maxSteps := 2000000 }) only [go_sem]
  repeat' (first | refine wS fun K hK => ?_ | refine wB ?_ | ((first | refine wR hΓ ?_ | refine wD hΓ fun B hB => ?_); simp (config := { maxSteps := 2000000 }) only [go_sem]) | ((repeat ((fail_if_success (refine hK _ ?_)); clear hK K)); refine hK _ ?_; clear hK K) | (refine w1 ?_; simp only [xs, xi, Nat.reduceEqDiff, reduceCtorEq]) | (refine wC (fun hb => ?_) fun hb => ?_ <;> (try simp only [xb, reduceCtorEq] at hb)) | (refine w2 (fun hc => ?_) (fun hc => ?_) <;> (try simp only [xc] at hc) <;> (try simp only [go_sem, hc]) <;> (try simp only [xb] at hc)) | refine wI ?_ | refine ex_idx (by omega) ?_ | fail)
  simp [Try.results30, RetOK, RetP, backA, upd_at, plainB, getP, isOwn, anyOwn, isP]

def heldIntSR (args : List AV) (r : AV) : Prop := ∃ (n : Nat) (k : Int), args = [ints (mkR k n), I k] ∧ 0 ≤ k ∧ k + n ≤ 4611686018427387904 ∧ r = I (k + n)

theorem heldIntS_ctr : CtrOK Try.prog 68 (pureC heldIntSR) := by
  refine ctr_pure' Try.func68 rfl rfl Try.ntmps68 ?_
  rintro _ _ ⟨n, k, rfl, h0, h1, rfl⟩
  refine ⟨by simp, fun κ hκ => ?_⟩
  have hbig := bigW_gt
  rw [argEnv_eq]
  simp only [envA]
  have hΓ := noCtx_ok Try.prog
  have hml := mkR_len k n
  generalize hm : mkR k n = m at hml
  have hmg : ∀ (j : Nat) (h : j < m.length), m[j] = k + j := by subst hm; intro j h; exact mkR_get k h
  repeat' (first | refine wS fun K hK => ?_ | refine wB ?_ | ((first | refine wR hΓ ?_ | refine wD hΓ fun B hB => ?_); simp (config := { maxSteps := 2000000 }) only [go_sem]) | ((repeat ((fail_if_success (refine hK _ ?_)); clear hK K)); refine hK _ ?_; clear hK K) | (refine w1 ?_; simp only [xs, xi, Nat.reduceEqDiff, reduceCtorEq]) | (refine wC (fun hb => ?_) fun hb => ?_ <;> (try simp only [xb, reduceCtorEq] at hb)) | (refine w2 (fun hc => ?_) (fun hc => ?_) <;> (try simp only [xc] at hc) <;> (try simp only [go_sem, hc]) <;> (try simp only [xb] at hc)) | refine wI ?_ | refine ex_idx (by omega) ?_ | fail)
  refine CW.loop (ι := Nat) (fun x => [(0, ints m), (1, I (k + x)), (5, I x)]) (fun x => x ≤ n) (fun x => n - x) 0 ?_ ?_
  · refine ⟨by (simp only [xe, xj, Nat.reduceEqDiff]; (try simp [view, viewL_map]); (try omega)), by omega⟩
  rintro j hj
  simp only [envOf]
  repeat' (first | refine wS fun K hK => ?_ | refine wB ?_ | ((first | refine wR hΓ ?_ | refine wD hΓ fun B hB => ?_); simp (config := { maxSteps := 2000000 }) only [go_sem]) | ((repeat ((fail_if_success (refine hK _ ?_)); clear hK K)); refine hK _ ?_; clear hK K) | (refine w1 ?_; simp only [xs, xi, Nat.reduceEqDiff, reduceCtorEq]) | (refine wC (fun hb => ?_) fun hb => ?_ <;> (try simp only [xb, reduceCtorEq] at hb)) | (refine w2 (fun hc => ?_) (fun hc => ?_) <;> (try simp only [xc] at hc) <;> (try simp only [go_sem, hc]) <;> (try simp only [xb] at hc)) | refine wI ?_ | refine ex_idx (by omega) ?_ | fail)
  · exact absurd (hmg j (by omega)) hb
  · exact ⟨j + 1, by (simp only [xe, xj, Nat.reduceEqDiff]; (try simp [view, viewL_map]); (try omega)), by omega, by omega⟩
  · have : j = n := by omega
    subst this
    simp [Try.results68, RetOK, RetP, backA, upd_at, plainB, getP, isOwn, anyOwn, isP]

def heldIntSSR (args : List AV) (r : AV) : Prop := ∃ (l : List (List Int)) (k : Int), args = [rows (mkRR k l), I k] ∧ 0 ≤ k ∧ l.length ≤ 4611686018427387904 ∧ k + totR l ≤ 4611686018427387904 ∧ r = I (k + totR l)

theorem heldIntSS_ctr : CtrOK Try.prog 55 (pureC heldIntSSR) := by
  refine ctr_pure' Try.func55 rfl rfl Try.ntmps55 ?_
  rintro _ _ ⟨l, k, rfl, h0, hl, h1, rfl⟩
  refine ⟨by simp, fun κ hκ => ?_⟩
  have hbig := bigW_gt
  rw [argEnv_eq]
  simp only [envA]
  have hΓ := ctxOf_ok (P := Try.prog) (cx heldIntS_ctr <| cx0)
  have hml := mkRR_len l k
  generalize hm : mkRR k l = m at hml
  have hmg : ∀ (j : Nat) (h : j < m.length) (h' : j < l.length), m[j] = mkR (k + totR (l.take j)) l[j].length := by subst hm; intro j h h'; exact mkRR_get l k h h'
  repeat' (first | refine wS fun K hK => ?_ | refine wB ?_ | ((first | refine wR hΓ ?_ | refine wD hΓ fun B hB => ?_); simp (config := { maxSteps := 2000000 }) only [go_sem]) | ((repeat ((fail_if_success (refine hK _ ?_)); clear hK K)); refine hK _ ?_; clear hK K) | (refine w1 ?_; simp only [xs, xi, Nat.reduceEqDiff, reduceCtorEq]) | (refine wC (fun hb => ?_) fun hb => ?_ <;> (try simp only [xb, reduceCtorEq] at hb)) | (refine w2 (fun hc => ?_) (fun hc => ?_) <;> (try simp only [xc] at hc) <;> (try simp only [go_sem, hc]) <;> (try simp only [xb] at hc)) | refine wI ?_ | refine ex_idx (by omega) ?_ | fail)
  refine CW.loop (ι := Nat) (fun x => [(0, rows m), (1, I (k + totR (l.take x))), (5, I x)]) (fun x => x ≤ l.length) (fun x => l.length - x) 0 ?_ ?_
  · refine ⟨by ((simp only [xe, xj, Nat.reduceEqDiff]; (try simp [view, viewL_map]); (try omega)); simp [totR]), by omega⟩
  rintro j hj
  simp only [envOf]
  repeat' (first | refine wS fun K hK => ?_ | refine wB ?_ | ((first | refine wR hΓ ?_ | refine wD hΓ fun B hB => ?_); simp (config := { maxSteps := 2000000 }) only [go_sem]) | ((repeat ((fail_if_success (refine hK _ ?_)); clear hK K)); refine hK _ ?_; clear hK K) | (refine w1 ?_; simp only [xs, xi, Nat.reduceEqDiff, reduceCtorEq]) | (refine wC (fun hb => ?_) fun hb => ?_ <;> (try simp only [xb, reduceCtorEq] at hb)) | (refine w2 (fun hc => ?_) (fun hc => ?_) <;> (try simp only [xc] at hc) <;> (try simp only [go_sem, hc]) <;> (try simp only [xb] at hc)) | refine wI ?_ | refine ex_idx (by omega) ?_ | fail)
  have hjl : j < l.length := by omega
  have htt := totR_take l hjl
  have htl := totR_le l (j + 1)
  rw [hmg j (by omega) hjl]
  (first | refine wA rfl _ (⟨_, _, rfl, by omega, by omega, rfl⟩) ?_ | refine dA rfl _ (⟨_, _, rfl, by omega, by omega, rfl⟩) ?_); simp (config := { maxSteps := 2000000 }) only [go_sem]
  repeat' (first | refine wS fun K hK => ?_ | refine wB ?_ | ((first | refine wR hΓ ?_ | refine wD hΓ fun B hB => ?_); simp (config := { maxSteps := 2000000 }) only [go_sem]) | ((repeat ((fail_if_success (refine hK _ ?_)); clear hK K)); refine hK _ ?_; clear hK K) | (refine w1 ?_; simp only [xs, xi, Nat.reduceEqDiff, reduceCtorEq]) | (refine wC (fun hb => ?_) fun hb => ?_ <;> (try simp only [xb, reduceCtorEq] at hb)) | (refine w2 (fun hc => ?_) (fun hc => ?_) <;> (try simp only [xc] at hc) <;> (try simp only [go_sem, hc]) <;> (try simp only [xb] at hc)) | refine wI ?_ | refine ex_idx (by omega) ?_ | fail)
  · omega
  · exact ⟨j + 1, by (simp only [xe, xj, Nat.reduceEqDiff]; (try simp [view, viewL_map]); (try omega)), by omega, by omega⟩
  · have : j = l.length := by omega
    subst this
    rw [List.take_of_length_le (Nat.le_refl _)]
    simp [Try.results55, RetOK, RetP, backA, upd_at, plainB, getP, isOwn, anyOwn, isP]

def heldAutoR (args : List AV) (r : AV) : Prop := ∃ (n : Nat) (N : List (List Int)) (k : Int), args = [agg [ints (mkR k n), rows (mkRR (k + n) N)], I k] ∧ 0 ≤ k ∧ N.length ≤ 1048576 ∧ k + n + totR N ≤ 4611686018427387904 ∧ r = I (k + n + totR N)

theorem heldAuto_ctr : CtrOK Try.prog 31 (pureC heldAutoR) := by
  refine ctr_pure' Try.func31 rfl rfl Try.ntmps31 ?_
  rintro _ _ ⟨n, N, k, rfl, h0, hN, h1, rfl⟩
  refine ⟨by simp, fun κ hκ => ?_⟩
  have hbig := bigW_gt
  rw [argEnv_eq]
  simp only [envA]
  have hΓ := ctxOf_ok (P := Try.prog) (cx heldIntS_ctr <| cx heldIntSS_ctr <| cx0)
  repeat' (first | refine wS fun K hK => ?_ | refine wB ?_ | ((first | refine wR hΓ ?_ | refine wD hΓ fun B hB => ?_); simp (config := { maxSteps := 2000000 }) only [go_sem]) | ((repeat ((fail_if_success (refine hK _ ?_)); clear hK K)); refine hK _ ?_; clear hK K) | (refine w1 ?_; simp only [xs, xi, Nat.reduceEqDiff, reduceCtorEq]) | (refine wC (fun hb => ?_) fun hb => ?_ <;> (try simp only [xb, reduceCtorEq] at hb)) | (refine w2 (fun hc => ?_) (fun hc => ?_) <;> (try simp only [xc] at hc) <;> (try simp only [go_sem, hc]) <;> (try simp only [xb] at hc)) | refine wI ?_ | refine ex_idx (by omega) ?_ | fail)
  (first | refine wA rfl _ (⟨_, _, rfl, h0, by omega, rfl⟩) ?_ | refine dA rfl _ (⟨_, _, rfl, h0, by omega, rfl⟩) ?_); simp (config := { maxSteps := 2000000 }) only [go_sem]
  repeat' (first | refine wS fun K hK => ?_ | refine wB ?_ | ((first | refine wR hΓ ?_ | refine wD hΓ fun B hB => ?_); simp (config := { maxSteps := 2000000 }) only [go_sem]) | ((repeat ((fail_if_success (refine hK _ ?_)); clear hK K)); refine hK _ ?_; clear hK K) | (refine w1 ?_; simp only [xs, xi, Nat.reduceEqDiff, reduceCtorEq]) | (refine wC (fun hb => ?_) fun hb => ?_ <;> (try simp only [xb, reduceCtorEq] at hb)) | (refine w2 (fun hc => ?_) (fun hc => ?_) <;> (try simp only [xc] at hc) <;> (try simp only [go_sem, hc]) <;> (try simp only [xb] at hc)) | refine wI ?_ | refine ex_idx (by omega) ?_ | fail)
  · omega
  (first | refine wA rfl _ (⟨_, _, rfl, by omega, by omega, h1, rfl⟩) ?_ | refine dA rfl _ (⟨_, _, rfl, by omega, by omega, h1, rfl⟩) ?_); simp (config := { maxSteps := 2000000 }) only [go_sem]
  repeat' (first | refine wS fun K hK => ?_ | refine wB ?_ | ((first | refine wR hΓ ?_ | refine wD hΓ fun B hB => ?_); simp (config := { maxSteps := 2000000 }) only [go_sem]) | ((repeat ((fail_if_success (refine hK _ ?_)); clear hK K)); refine hK _ ?_; clear hK K) | (refine w1 ?_; simp only [xs, xi, Nat.reduceEqDiff, reduceCtorEq]) | (refine wC (fun hb => ?_) fun hb => ?_ <;> (try simp only [xb, reduceCtorEq] at hb)) | (refine w2 (fun hc => ?_) (fun hc => ?_) <;> (try simp only [xc] at hc) <;> (try simp only [go_sem, hc]) <;> (try simp only [xb] at hc)) | refine wI ?_ | refine ex_idx (by omega) ?_ | fail)
  · omega
  simp [Try.results31, RetOK, RetP, backA, upd_at, plainB, getP, isOwn, anyOwn, isP]

end Go.Proofs.Ytboandkjhdaobaa
