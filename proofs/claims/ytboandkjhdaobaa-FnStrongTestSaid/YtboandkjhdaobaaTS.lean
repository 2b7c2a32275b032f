/- The test that holds behind, in the reference and in the program. Walked by the engine. -/
import Derived.Test.YtboandkjhdaobaaW2
import Derived.Test.YtboandkjhdaobaaSB
import Derived.Test.YtboandkjhdaobaaR7a
import Derived.Test.YtboandkjhdaobaaEngMin
namespace Go.Proofs.Ytboandkjhdaobaa
set_option linter.unusedSimpArgs false
set_option linter.unusedVariables false
set_option maxRecDepth 8000
set_option maxHeartbeats 2000000
open Go Go.RowKit AV

def notI (n : Int) : Int := if 0 ≤ n ∧ n ≤ 15 then 15 - n else -1
noncomputable def strongI (q : Int) (e : List Int) : Int := if katB e = true ∧ (0 ≤ q ∧ q ≤ 15) ∧ 0 ≤ weakI (autD (backL e)) (notI q) then notI (weakI (autD (backL e)) (notI q)) else -1
def strongR (args : List AV) (r : AV) : Prop := ∃ (q : Int) (e : List Int), args = [I q, ints e] ∧ e.length ≤ 1048576 ∧ r = I (strongI q e)
theorem backL_len {e : List Int} : (backL e).length ≤ e.length := by
  unfold backL
  split
  · rename_i h
    obtain ⟨x, hw, rfl, hxl⟩ := (katB_true.1 h).ex
    rw [exOf_steps hw, backX_len]; exact Nat.le_refl _
  · simp
theorem weak_none {e : List Int} (h : katB e = false) (q : Int) : weakI (autD (backL e)) q = -1 := by
  refine weakI_no (.inl ?_)
  rw [backL_no h]
  rw [autD_no (fun hc => by have := (katB_true.1 hc.1).ex; obtain ⟨x, _, hx, _⟩ := this; have := x.steps_pos; rw [← hx] at this; simp at this)]; rfl

theorem specStrongTest_ctr : CtrOK Try.prog 79 (pureC strongR) := by
  refine ctr_pure' Try.func79 rfl rfl Try.ntmps79 ?_
  rintro _ _ ⟨q, e, rfl, hl, rfl⟩
  refine ⟨by simp, fun κ hκ => ?_⟩
  have hbig := bigW_gt
  rw [argEnv_eq]
  simp only [envA]
  have hΓ := ctxOf_ok (P := Try.prog) (cx specTestValid_ctr <| cx specTestNotW_ctr <| cx specKatBack_ctr <| cx specWeakTest_ctr <| cx0)
  have hS : strongI q e = if katB e = true ∧ (0 ≤ q ∧ q ≤ 15) ∧ 0 ≤ weakI (autD (backL e)) (notI q) then notI (weakI (autD (backL e)) (notI q)) else -1 := rfl
  have hbl := backL_len (e := e)
  have hwn := fun h => weak_none (e := e) h (notI q)
  obtain ⟨B, hB⟩ : ∃ B, backL e = B := ⟨_, rfl⟩
  rw [hB] at hS hbl hwn
  obtain ⟨W, hW⟩ : ∃ W, weakI (autD B) (notI q) = W := ⟨_, rfl⟩
  rw [hW] at hS hwn
  obtain ⟨M, hM⟩ : ∃ M, notI q = M := ⟨_, rfl⟩
  repeat' (first | refine wS fun K hK => ?_ | refine wB ?_ | ((first | refine wR hΓ ?_ | refine wD hΓ fun B hB => ?_); simp (config := { maxSteps := 2000000 }) only [go_sem]) | ((repeat ((fail_if_success (refine hK _ ?_)); clear hK K)); refine hK _ ?_; clear hK K) | (refine w1 ?_; simp only [xs, xi, Nat.reduceEqDiff, reduceCtorEq]) | (refine wC (fun hb => ?_) fun hb => ?_ <;> (try simp only [xb, reduceCtorEq] at hb)) | (refine w2 (fun hc => ?_) (fun hc => ?_) <;> (try simp only [xc] at hc) <;> (try simp only [go_sem, hc]) <;> (try simp only [xb] at hc)) | refine wI ?_ | refine ex_idx (by omega) ?_ | fail)
  obtain ⟨T, hT⟩ : ∃ T, decide (0 ≤ q ∧ q ≤ 15) = T := ⟨_, rfl⟩
  (first | refine wA rfl ?_ ?_ ?_ | refine dA rfl ?_ ?_ ?_); exact (.bool T); exact (⟨q, rfl, by rw [hT]⟩); simp (config := { maxSteps := 2000000 }) only [go_sem]
  cases T with
  | false =>
    have h0 := of_decide_eq_false hT
    rw [if_neg (fun h => h0 h.2.1)] at hS
    simp (config := { maxSteps := 2000000 }) only [go_sem]
    repeat' (first | refine wS fun K hK => ?_ | refine wB ?_ | ((first | refine wR hΓ ?_ | refine wD hΓ fun B hB => ?_); simp (config := { maxSteps := 2000000 }) only [go_sem]) | ((repeat ((fail_if_success (refine hK _ ?_)); clear hK K)); refine hK _ ?_; clear hK K) | (refine w1 ?_; simp only [xs, xi, Nat.reduceEqDiff, reduceCtorEq]) | (refine wC (fun hb => ?_) fun hb => ?_ <;> (try simp only [xb, reduceCtorEq] at hb)) | (refine w2 (fun hc => ?_) (fun hc => ?_) <;> (try simp only [xc] at hc) <;> (try simp only [go_sem, hc]) <;> (try simp only [xb] at hc)) | refine wI ?_ | refine ex_idx (by omega) ?_ | fail)
    rw [hS]
    simp [Try.results79, RetOK, RetP, backA, upd_at, plainB, getP, isOwn, anyOwn, isP]
  | true =>
    have h0 := of_decide_eq_true hT
    simp (config := { maxSteps := 2000000 }) only [go_sem]
    repeat' (first | refine wS fun K hK => ?_ | refine wB ?_ | ((first | refine wR hΓ ?_ | refine wD hΓ fun B hB => ?_); simp (config := { maxSteps := 2000000 }) only [go_sem]) | ((repeat ((fail_if_success (refine hK _ ?_)); clear hK K)); refine hK _ ?_; clear hK K) | (refine w1 ?_; simp only [xs, xi, Nat.reduceEqDiff, reduceCtorEq]) | (refine wC (fun hb => ?_) fun hb => ?_ <;> (try simp only [xb, reduceCtorEq] at hb)) | (refine w2 (fun hc => ?_) (fun hc => ?_) <;> (try simp only [xc] at hc) <;> (try simp only [go_sem, hc]) <;> (try simp only [xb] at hc)) | refine wI ?_ | refine ex_idx (by omega) ?_ | fail)
    (first | refine wA rfl ?_ ?_ ?_ | refine dA rfl ?_ ?_ ?_); exact (oints B); exact (⟨e, rfl, hl, by rw [hB]⟩); simp (config := { maxSteps := 2000000 }) only [go_sem]
    repeat' (first | refine wS fun K hK => ?_ | refine wB ?_ | ((first | refine wR hΓ ?_ | refine wD hΓ fun B hB => ?_); simp (config := { maxSteps := 2000000 }) only [go_sem]) | ((repeat ((fail_if_success (refine hK _ ?_)); clear hK K)); refine hK _ ?_; clear hK K) | (refine w1 ?_; simp only [xs, xi, Nat.reduceEqDiff, reduceCtorEq]) | (refine wC (fun hb => ?_) fun hb => ?_ <;> (try simp only [xb, reduceCtorEq] at hb)) | (refine w2 (fun hc => ?_) (fun hc => ?_) <;> (try simp only [xc] at hc) <;> (try simp only [go_sem, hc]) <;> (try simp only [xb] at hc)) | refine wI ?_ | refine ex_idx (by omega) ?_ | fail)
    (first | refine wA rfl ?_ ?_ ?_ | refine dA rfl ?_ ?_ ?_); exact (I M); exact (⟨q, rfl, by rw [← hM]; rfl⟩); simp (config := { maxSteps := 2000000 }) only [go_sem]
    repeat' (first | refine wS fun K hK => ?_ | refine wB ?_ | ((first | refine wR hΓ ?_ | refine wD hΓ fun B hB => ?_); simp (config := { maxSteps := 2000000 }) only [go_sem]) | ((repeat ((fail_if_success (refine hK _ ?_)); clear hK K)); refine hK _ ?_; clear hK K) | (refine w1 ?_; simp only [xs, xi, Nat.reduceEqDiff, reduceCtorEq]) | (refine wC (fun hb => ?_) fun hb => ?_ <;> (try simp only [xb, reduceCtorEq] at hb)) | (refine w2 (fun hc => ?_) (fun hc => ?_) <;> (try simp only [xc] at hc) <;> (try simp only [go_sem, hc]) <;> (try simp only [xb] at hc)) | refine wI ?_ | refine ex_idx (by omega) ?_ | fail)
    (first | refine wA rfl ?_ ?_ ?_ | refine dA rfl ?_ ?_ ?_); exact (I W); exact (⟨B, M, by simp [view_I, view], by omega, by rw [← hW, hM]⟩); simp (config := { maxSteps := 2000000 }) only [go_sem]
    repeat' (first | refine wS fun K hK => ?_ | refine wB ?_ | ((first | refine wR hΓ ?_ | refine wD hΓ fun B hB => ?_); simp (config := { maxSteps := 2000000 }) only [go_sem]) | ((repeat ((fail_if_success (refine hK _ ?_)); clear hK K)); refine hK _ ?_; clear hK K) | (refine w1 ?_; simp only [xs, xi, Nat.reduceEqDiff, reduceCtorEq]) | (refine wC (fun hb => ?_) fun hb => ?_ <;> (try simp only [xb, reduceCtorEq] at hb)) | (refine w2 (fun hc => ?_) (fun hc => ?_) <;> (try simp only [xc] at hc) <;> (try simp only [go_sem, hc]) <;> (try simp only [xb] at hc)) | refine wI ?_ | refine ex_idx (by omega) ?_ | fail)
    · rw [if_neg (fun h => absurd h.2.2 (by omega))] at hS
      rw [hS]
      simp [Try.results79, RetOK, RetP, backA, upd_at, plainB, getP, isOwn, anyOwn, isP]
    · have hk : katB e = true := by
        cases h : katB e with
        | true => rfl
        | false => have := hwn h; omega
      rw [if_pos ⟨hk, h0, by omega⟩] at hS
      (first | refine wA rfl ?_ ?_ ?_ | refine dA rfl ?_ ?_ ?_); exact (oints B); exact (⟨e, rfl, hl, by rw [hB]⟩); simp (config := { maxSteps := 2000000 }) only [go_sem]
      repeat' (first | refine wS fun K hK => ?_ | refine wB ?_ | ((first | refine wR hΓ ?_ | refine wD hΓ fun B hB => ?_); simp (config := { maxSteps := 2000000 }) only [go_sem]) | ((repeat ((fail_if_success (refine hK _ ?_)); clear hK K)); refine hK _ ?_; clear hK K) | (refine w1 ?_; simp only [xs, xi, Nat.reduceEqDiff, reduceCtorEq]) | (refine wC (fun hb => ?_) fun hb => ?_ <;> (try simp only [xb, reduceCtorEq] at hb)) | (refine w2 (fun hc => ?_) (fun hc => ?_) <;> (try simp only [xc] at hc) <;> (try simp only [go_sem, hc]) <;> (try simp only [xb] at hc)) | refine wI ?_ | refine ex_idx (by omega) ?_ | fail)
      (first | refine wA rfl ?_ ?_ ?_ | refine dA rfl ?_ ?_ ?_); exact (I M); exact (⟨q, rfl, by rw [← hM]; rfl⟩); simp (config := { maxSteps := 2000000 }) only [go_sem]
      repeat' (first | refine wS fun K hK => ?_ | refine wB ?_ | ((first | refine wR hΓ ?_ | refine wD hΓ fun B hB => ?_); simp (config := { maxSteps := 2000000 }) only [go_sem]) | ((repeat ((fail_if_success (refine hK _ ?_)); clear hK K)); refine hK _ ?_; clear hK K) | (refine w1 ?_; simp only [xs, xi, Nat.reduceEqDiff, reduceCtorEq]) | (refine wC (fun hb => ?_) fun hb => ?_ <;> (try simp only [xb, reduceCtorEq] at hb)) | (refine w2 (fun hc => ?_) (fun hc => ?_) <;> (try simp only [xc] at hc) <;> (try simp only [go_sem, hc]) <;> (try simp only [xb] at hc)) | refine wI ?_ | refine ex_idx (by omega) ?_ | fail)
      (first | refine wA rfl ?_ ?_ ?_ | refine dA rfl ?_ ?_ ?_); exact (I W); exact (⟨B, M, by simp [view_I, view], by omega, by rw [← hW, hM]⟩); simp (config := { maxSteps := 2000000 }) only [go_sem]
      repeat' (first | refine wS fun K hK => ?_ | refine wB ?_ | ((first | refine wR hΓ ?_ | refine wD hΓ fun B hB => ?_); simp (config := { maxSteps := 2000000 }) only [go_sem]) | ((repeat ((fail_if_success (refine hK _ ?_)); clear hK K)); refine hK _ ?_; clear hK K) | (refine w1 ?_; simp only [xs, xi, Nat.reduceEqDiff, reduceCtorEq]) | (refine wC (fun hb => ?_) fun hb => ?_ <;> (try simp only [xb, reduceCtorEq] at hb)) | (refine w2 (fun hc => ?_) (fun hc => ?_) <;> (try simp only [xc] at hc) <;> (try simp only [go_sem, hc]) <;> (try simp only [xb] at hc)) | refine wI ?_ | refine ex_idx (by omega) ?_ | fail)
      (first | refine wA rfl ?_ ?_ ?_ | refine dA rfl ?_ ?_ ?_); exact (I (notI W)); exact (⟨W, rfl, rfl⟩); simp (config := { maxSteps := 2000000 }) only [go_sem]
      repeat' (first | refine wS fun K hK => ?_ | refine wB ?_ | ((first | refine wR hΓ ?_ | refine wD hΓ fun B hB => ?_); simp (config := { maxSteps := 2000000 }) only [go_sem]) | ((repeat ((fail_if_success (refine hK _ ?_)); clear hK K)); refine hK _ ?_; clear hK K) | (refine w1 ?_; simp only [xs, xi, Nat.reduceEqDiff, reduceCtorEq]) | (refine wC (fun hb => ?_) fun hb => ?_ <;> (try simp only [xb, reduceCtorEq] at hb)) | (refine w2 (fun hc => ?_) (fun hc => ?_) <;> (try simp only [xc] at hc) <;> (try simp only [go_sem, hc]) <;> (try simp only [xb] at hc)) | refine wI ?_ | refine ex_idx (by omega) ?_ | fail)
      rw [hS]
      simp [Try.results79, RetOK, RetP, backA, upd_at, plainB, getP, isOwn, anyOwn, isP]

theorem implStrongTest_ctr : CtrOK Try.prog 78 (pureC strongR) := by
  refine ctr_pure' Try.func78 rfl rfl Try.ntmps78 ?_
  rintro _ _ ⟨q, e, rfl, hl, rfl⟩
  refine ⟨by simp, fun κ hκ => ?_⟩
  have hbig := bigW_gt
  rw [argEnv_eq]
  simp only [envA]
  have hΓ := ctxOf_ok (P := Try.prog) (cx implKatValid_ctr <| cx implTestValid_ctr <| cx implTestNot_ctr <| cx katBack_ctr <| cx implWeakTest_ctr <| cx0)
  have hS : strongI q e = if katB e = true ∧ (0 ≤ q ∧ q ≤ 15) ∧ 0 ≤ weakI (autD (backL e)) (notI q) then notI (weakI (autD (backL e)) (notI q)) else -1 := rfl
  have hbl := backL_len (e := e)
  obtain ⟨B, hB⟩ : ∃ B, backL e = B := ⟨_, rfl⟩
  rw [hB] at hS hbl
  obtain ⟨W, hW⟩ : ∃ W, weakI (autD B) (notI q) = W := ⟨_, rfl⟩
  rw [hW] at hS
  obtain ⟨M, hM⟩ : ∃ M, notI q = M := ⟨_, rfl⟩
  repeat' (first | refine wS fun K hK => ?_ | refine wB ?_ | ((first | refine wR hΓ ?_ | refine wD hΓ fun B hB => ?_); simp (config := { maxSteps := 2000000 }) only [go_sem]) | ((repeat ((fail_if_success (refine hK _ ?_)); clear hK K)); refine hK _ ?_; clear hK K) | (refine w1 ?_; simp only [xs, xi, Nat.reduceEqDiff, reduceCtorEq]) | (refine wC (fun hb => ?_) fun hb => ?_ <;> (try simp only [xb, reduceCtorEq] at hb)) | (refine w2 (fun hc => ?_) (fun hc => ?_) <;> (try simp only [xc] at hc) <;> (try simp only [go_sem, hc]) <;> (try simp only [xb] at hc)) | refine wI ?_ | refine ex_idx (by omega) ?_ | fail)
  obtain ⟨K0, hK0⟩ : ∃ T, katB e = T := ⟨_, rfl⟩
  rw [hK0] at hS
  (first | refine wA rfl ?_ ?_ ?_ | refine dA rfl ?_ ?_ ?_); exact (.bool K0); exact (⟨e, rfl, by omega, by rw [hK0]⟩); simp (config := { maxSteps := 2000000 }) only [go_sem]
  cases K0 with
  | false =>
    rw [if_neg (fun h => by simp at h)] at hS
    simp (config := { maxSteps := 2000000 }) only [go_sem]
    repeat' (first | refine wS fun K hK => ?_ | refine wB ?_ | ((first | refine wR hΓ ?_ | refine wD hΓ fun B hB => ?_); simp (config := { maxSteps := 2000000 }) only [go_sem]) | ((repeat ((fail_if_success (refine hK _ ?_)); clear hK K)); refine hK _ ?_; clear hK K) | (refine w1 ?_; simp only [xs, xi, Nat.reduceEqDiff, reduceCtorEq]) | (refine wC (fun hb => ?_) fun hb => ?_ <;> (try simp only [xb, reduceCtorEq] at hb)) | (refine w2 (fun hc => ?_) (fun hc => ?_) <;> (try simp only [xc] at hc) <;> (try simp only [go_sem, hc]) <;> (try simp only [xb] at hc)) | refine wI ?_ | refine ex_idx (by omega) ?_ | fail)
    rw [hS]
    simp [Try.results78, RetOK, RetP, backA, upd_at, plainB, getP, isOwn, anyOwn, isP]
  | true =>
    simp (config := { maxSteps := 2000000 }) only [go_sem]
    repeat' (first | refine wS fun K hK => ?_ | refine wB ?_ | ((first | refine wR hΓ ?_ | refine wD hΓ fun B hB => ?_); simp (config := { maxSteps := 2000000 }) only [go_sem]) | ((repeat ((fail_if_success (refine hK _ ?_)); clear hK K)); refine hK _ ?_; clear hK K) | (refine w1 ?_; simp only [xs, xi, Nat.reduceEqDiff, reduceCtorEq]) | (refine wC (fun hb => ?_) fun hb => ?_ <;> (try simp only [xb, reduceCtorEq] at hb)) | (refine w2 (fun hc => ?_) (fun hc => ?_) <;> (try simp only [xc] at hc) <;> (try simp only [go_sem, hc]) <;> (try simp only [xb] at hc)) | refine wI ?_ | refine ex_idx (by omega) ?_ | fail)
    obtain ⟨T, hT⟩ : ∃ T, decide (0 ≤ q ∧ q ≤ 15) = T := ⟨_, rfl⟩
    (first | refine wA rfl ?_ ?_ ?_ | refine dA rfl ?_ ?_ ?_); exact (.bool T); exact (⟨q, rfl, by rw [hT]⟩); simp (config := { maxSteps := 2000000 }) only [go_sem]
    cases T with
    | false =>
      have h0 := of_decide_eq_false hT
      rw [if_neg (fun h => h0 h.2.1)] at hS
      simp (config := { maxSteps := 2000000 }) only [go_sem]
      repeat' (first | refine wS fun K hK => ?_ | refine wB ?_ | ((first | refine wR hΓ ?_ | refine wD hΓ fun B hB => ?_); simp (config := { maxSteps := 2000000 }) only [go_sem]) | ((repeat ((fail_if_success (refine hK _ ?_)); clear hK K)); refine hK _ ?_; clear hK K) | (refine w1 ?_; simp only [xs, xi, Nat.reduceEqDiff, reduceCtorEq]) | (refine wC (fun hb => ?_) fun hb => ?_ <;> (try simp only [xb, reduceCtorEq] at hb)) | (refine w2 (fun hc => ?_) (fun hc => ?_) <;> (try simp only [xc] at hc) <;> (try simp only [go_sem, hc]) <;> (try simp only [xb] at hc)) | refine wI ?_ | refine ex_idx (by omega) ?_ | fail)
      rw [hS]
      simp [Try.results78, RetOK, RetP, backA, upd_at, plainB, getP, isOwn, anyOwn, isP]
    | true =>
      have h0 := of_decide_eq_true hT
      simp (config := { maxSteps := 2000000 }) only [go_sem]
      repeat' (first | refine wS fun K hK => ?_ | refine wB ?_ | ((first | refine wR hΓ ?_ | refine wD hΓ fun B hB => ?_); simp (config := { maxSteps := 2000000 }) only [go_sem]) | ((repeat ((fail_if_success (refine hK _ ?_)); clear hK K)); refine hK _ ?_; clear hK K) | (refine w1 ?_; simp only [xs, xi, Nat.reduceEqDiff, reduceCtorEq]) | (refine wC (fun hb => ?_) fun hb => ?_ <;> (try simp only [xb, reduceCtorEq] at hb)) | (refine w2 (fun hc => ?_) (fun hc => ?_) <;> (try simp only [xc] at hc) <;> (try simp only [go_sem, hc]) <;> (try simp only [xb] at hc)) | refine wI ?_ | refine ex_idx (by omega) ?_ | fail)
      (first | refine wA rfl ?_ ?_ ?_ | refine dA rfl ?_ ?_ ?_); exact (oints B); exact (⟨e, rfl, hl, by rw [hB]⟩); simp (config := { maxSteps := 2000000 }) only [go_sem]
      repeat' (first | refine wS fun K hK => ?_ | refine wB ?_ | ((first | refine wR hΓ ?_ | refine wD hΓ fun B hB => ?_); simp (config := { maxSteps := 2000000 }) only [go_sem]) | ((repeat ((fail_if_success (refine hK _ ?_)); clear hK K)); refine hK _ ?_; clear hK K) | (refine w1 ?_; simp only [xs, xi, Nat.reduceEqDiff, reduceCtorEq]) | (refine wC (fun hb => ?_) fun hb => ?_ <;> (try simp only [xb, reduceCtorEq] at hb)) | (refine w2 (fun hc => ?_) (fun hc => ?_) <;> (try simp only [xc] at hc) <;> (try simp only [go_sem, hc]) <;> (try simp only [xb] at hc)) | refine wI ?_ | refine ex_idx (by omega) ?_ | fail)
      (first | refine wA rfl ?_ ?_ ?_ | refine dA rfl ?_ ?_ ?_); exact (I M); exact (⟨q, rfl, by rw [← hM]; rfl⟩); simp (config := { maxSteps := 2000000 }) only [go_sem]
      repeat' (first | refine wS fun K hK => ?_ | refine wB ?_ | ((first | refine wR hΓ ?_ | refine wD hΓ fun B hB => ?_); simp (config := { maxSteps := 2000000 }) only [go_sem]) | ((repeat ((fail_if_success (refine hK _ ?_)); clear hK K)); refine hK _ ?_; clear hK K) | (refine w1 ?_; simp only [xs, xi, Nat.reduceEqDiff, reduceCtorEq]) | (refine wC (fun hb => ?_) fun hb => ?_ <;> (try simp only [xb, reduceCtorEq] at hb)) | (refine w2 (fun hc => ?_) (fun hc => ?_) <;> (try simp only [xc] at hc) <;> (try simp only [go_sem, hc]) <;> (try simp only [xb] at hc)) | refine wI ?_ | refine ex_idx (by omega) ?_ | fail)
      (first | refine wA rfl ?_ ?_ ?_ | refine dA rfl ?_ ?_ ?_); exact (I W); exact (⟨B, M, by simp [view_I, view], by omega, by rw [← hW, hM]⟩); simp (config := { maxSteps := 2000000 }) only [go_sem]
      repeat' (first | refine wS fun K hK => ?_ | refine wB ?_ | ((first | refine wR hΓ ?_ | refine wD hΓ fun B hB => ?_); simp (config := { maxSteps := 2000000 }) only [go_sem]) | ((repeat ((fail_if_success (refine hK _ ?_)); clear hK K)); refine hK _ ?_; clear hK K) | (refine w1 ?_; simp only [xs, xi, Nat.reduceEqDiff, reduceCtorEq]) | (refine wC (fun hb => ?_) fun hb => ?_ <;> (try simp only [xb, reduceCtorEq] at hb)) | (refine w2 (fun hc => ?_) (fun hc => ?_) <;> (try simp only [xc] at hc) <;> (try simp only [go_sem, hc]) <;> (try simp only [xb] at hc)) | refine wI ?_ | refine ex_idx (by omega) ?_ | fail)
      · rw [if_neg (fun h => absurd h.2.2 (by omega))] at hS
        rw [hS]
        simp [Try.results78, RetOK, RetP, backA, upd_at, plainB, getP, isOwn, anyOwn, isP]
      · rw [if_pos ⟨rfl, h0, by omega⟩] at hS
        (first | refine wA rfl ?_ ?_ ?_ | refine dA rfl ?_ ?_ ?_); exact (I (notI W)); exact (⟨W, rfl, rfl⟩); simp (config := { maxSteps := 2000000 }) only [go_sem]
        repeat' (first | refine wS fun K hK => ?_ | refine wB ?_ | ((first | refine wR hΓ ?_ | refine wD hΓ fun B hB => ?_); simp (config := { maxSteps := 2000000 }) only [go_sem]) | ((repeat ((fail_if_success (refine hK _ ?_)); clear hK K)); refine hK _ ?_; clear hK K) | (refine w1 ?_; simp only [xs, xi, Nat.reduceEqDiff, reduceCtorEq]) | (refine wC (fun hb => ?_) fun hb => ?_ <;> (try simp only [xb, reduceCtorEq] at hb)) | (refine w2 (fun hc => ?_) (fun hc => ?_) <;> (try simp only [xc] at hc) <;> (try simp only [go_sem, hc]) <;> (try simp only [xb] at hc)) | refine wI ?_ | refine ex_idx (by omega) ?_ | fail)
        rw [hS]
        simp [Try.results78, RetOK, RetP, backA, upd_at, plainB, getP, isOwn, anyOwn, isP]

end Go.Proofs.Ytboandkjhdaobaa
