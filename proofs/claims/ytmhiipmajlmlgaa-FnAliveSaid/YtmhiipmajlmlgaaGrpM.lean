/- The reference's Alive and Determined, walked by the engine. -/
import Derived.Test.YtmhiipmajlmlgaaF1
import Derived.Test.YtmhiipmajlmlgaaEngMin
namespace Go.Proofs.Ytmhiipmajlmlgaa
set_option linter.unusedSimpArgs false
set_option linter.unusedVariables false
set_option maxRecDepth 8000
set_option maxHeartbeats 2000000
open Go Go.RowKit AV

theorem allD_yes {e : List Int} (h : katB e = true) : allD e = allL e := if_pos h
theorem allD_no {e : List Int} (h : katB e = false) : allD e = [] := if_neg (by simp [h])
theorem allL_facts {x : Ex} (hw : x.wf) (hl : x.steps.length ≤ 40) : (∀ t ∈ allL x.steps, InLeft x t ∧ t.length ≤ 1601) ∧ (allL x.steps).length ≤ 41 ∧ 0 < (allL x.steps).length := by
  refine ⟨fun t ht => ⟨allL_left hw t ht, (allL_left hw t ht).short hl⟩, allL_full hw hl, ?_⟩
  have := allL_head x.steps
  cases hh : allL x.steps with
  | nil => rw [hh] at this; cases this
  | cons a l => simp

def aliveR (args : List AV) (r : AV) : Prop := ∃ e : List Int, args = [ints e] ∧ e.length ≤ 1048576 ∧ r = .bool (alvB e)
theorem specAlive_ctr : CtrOK Try.prog 33 (pureC aliveR) := by
  refine ctr_pure' Try.func33 rfl rfl Try.ntmps33 ?_
  rintro _ _ ⟨e, rfl, hl, rfl⟩
  refine ⟨by simp, fun κ hκ => ?_⟩
  have hbig := bigW_gt
  rw [argEnv_eq]
  simp only [envA]
  have hΓ := ctxOf_ok (P := Try.prog) (cx specAllParts_ctr <| cx l4Ends_ctr <| cx0)
  repeat' (first | refine wS fun K hK => ?_ | refine wB ?_ | ((first | refine wR hΓ ?_ | refine wD hΓ fun B hB => ?_); simp (config := { maxSteps := 2000000 }) only [go_sem]) | ((repeat ((fail_if_success (refine hK _ ?_)); clear hK K)); refine hK _ ?_; clear hK K) | (refine w1 ?_; simp only [xs, xi, Nat.reduceEqDiff, reduceCtorEq]) | (refine wC (fun hb => ?_) fun hb => ?_ <;> (try simp only [xb, reduceCtorEq] at hb)) | (refine w2 (fun hc => ?_) (fun hc => ?_) <;> (try simp only [xc] at hc) <;> (try simp only [go_sem, hc]) <;> (try simp only [xb] at hc)) | refine wI ?_ | refine ex_idx (by omega) ?_ | fail)
  (first | refine wA rfl _ (⟨e, rfl, by omega, rfl⟩) ?_ | refine dA rfl _ (⟨e, rfl, by omega, rfl⟩) ?_); simp (config := { maxSteps := 2000000 }) only [go_sem]
  repeat' (first | refine wS fun K hK => ?_ | refine wB ?_ | ((first | refine wR hΓ ?_ | refine wD hΓ fun B hB => ?_); simp (config := { maxSteps := 2000000 }) only [go_sem]) | ((repeat ((fail_if_success (refine hK _ ?_)); clear hK K)); refine hK _ ?_; clear hK K) | (refine w1 ?_; simp only [xs, xi, Nat.reduceEqDiff, reduceCtorEq]) | (refine wC (fun hb => ?_) fun hb => ?_ <;> (try simp only [xb, reduceCtorEq] at hb)) | (refine w2 (fun hc => ?_) (fun hc => ?_) <;> (try simp only [xc] at hc) <;> (try simp only [go_sem, hc]) <;> (try simp only [xb] at hc)) | refine wI ?_ | refine ex_idx (by omega) ?_ | fail)
  refine CW.loop (ι := Nat) (fun k => [(3, rows (allD e)), (4, I k)]) (fun k => k ≤ (allD e).length ∧ ∀ t ∈ (allD e).take k, endX (exOf t) = 0) (fun k => (allD e).length - k) 0 ?_ ?_
  · exact ⟨by (simp only [xe, xj, Nat.reduceEqDiff]; (try simp [view, viewL_map]); (try omega)), by simp⟩
  rintro k ⟨hk, hno⟩
  simp only [envOf]
  cases hkb : katB e with
  | false =>
    have hD := allD_no hkb
    have hf : alvB e = false := alvB_false.2 fun h => by simp [hkb] at h
    rw [hD] at hk ⊢
    repeat' (first | refine wS fun K hK => ?_ | refine wB ?_ | ((first | refine wR hΓ ?_ | refine wD hΓ fun B hB => ?_); simp (config := { maxSteps := 2000000 }) only [go_sem]) | ((repeat ((fail_if_success (refine hK _ ?_)); clear hK K)); refine hK _ ?_; clear hK K) | (refine w1 ?_; simp only [xs, xi, Nat.reduceEqDiff, reduceCtorEq]) | (refine wC (fun hb => ?_) fun hb => ?_ <;> (try simp only [xb, reduceCtorEq] at hb)) | (refine w2 (fun hc => ?_) (fun hc => ?_) <;> (try simp only [xc] at hc) <;> (try simp only [go_sem, hc]) <;> (try simp only [xb] at hc)) | refine wI ?_ | refine ex_idx (by omega) ?_ | fail)
    · simp at *; omega
    · rw [hf]
      simp [Try.results33, RetOK, RetP, backA, upd_at, plainB, getP, isOwn, anyOwn, isP]
  | true =>
    obtain ⟨x, hw, rfl, h40⟩ := katB_tree hkb
    have hD := allD_yes hkb
    obtain ⟨hfa, hln, _⟩ := allL_facts hw h40
    rw [hD] at hk hno ⊢
    generalize hA : allL x.steps = A at *
    repeat' (first | refine wS fun K hK => ?_ | refine wB ?_ | ((first | refine wR hΓ ?_ | refine wD hΓ fun B hB => ?_); simp (config := { maxSteps := 2000000 }) only [go_sem]) | ((repeat ((fail_if_success (refine hK _ ?_)); clear hK K)); refine hK _ ?_; clear hK K) | (refine w1 ?_; simp only [xs, xi, Nat.reduceEqDiff, reduceCtorEq]) | (refine wC (fun hb => ?_) fun hb => ?_ <;> (try simp only [xb, reduceCtorEq] at hb)) | (refine w2 (fun hc => ?_) (fun hc => ?_) <;> (try simp only [xc] at hc) <;> (try simp only [go_sem, hc]) <;> (try simp only [xb] at hc)) | refine wI ?_ | refine ex_idx (by omega) ?_ | fail)
    · have hkl : k < A.length := by omega
      obtain ⟨hin, hsh⟩ := hfa _ (List.getElem_mem hkl)
      obtain ⟨p, hpw, hps, hpe⟩ := hin.tree
      (first | refine wA rfl _ (⟨p, by rw [hps], hpw, by rw [hps]; omega, rfl⟩) ?_ | refine dA rfl _ (⟨p, by rw [hps], hpw, by rw [hps]; omega, rfl⟩) ?_); simp (config := { maxSteps := 2000000 }) only [go_sem]
      repeat' (first | refine wS fun K hK => ?_ | refine wB ?_ | ((first | refine wR hΓ ?_ | refine wD hΓ fun B hB => ?_); simp (config := { maxSteps := 2000000 }) only [go_sem]) | ((repeat ((fail_if_success (refine hK _ ?_)); clear hK K)); refine hK _ ?_; clear hK K) | (refine w1 ?_; simp only [xs, xi, Nat.reduceEqDiff, reduceCtorEq]) | (refine wC (fun hb => ?_) fun hb => ?_ <;> (try simp only [xb, reduceCtorEq] at hb)) | (refine w2 (fun hc => ?_) (fun hc => ?_) <;> (try simp only [xc] at hc) <;> (try simp only [go_sem, hc]) <;> (try simp only [xb] at hc)) | refine wI ?_ | refine ex_idx (by omega) ?_ | fail)
      · have ht : alvB x.steps = true := alvB_true.2 ⟨hkb, A[k], by rw [hA]; exact List.getElem_mem hkl, by rw [hpe]; omega⟩
        rw [ht]
        simp [Try.results33, RetOK, RetP, backA, upd_at, plainB, getP, isOwn, anyOwn, isP]
      · refine ⟨k + 1, ?_, ⟨by omega, fun t ht => ?_⟩, by omega⟩
        · (simp only [xe, xj, Nat.reduceEqDiff]; (try simp [view, viewL_map]); (try omega))
        · rw [List.take_succ_eq_append_getElem hkl, List.mem_append] at ht
          rcases ht with ht | ht
          · exact hno t ht
          · simp only [List.mem_cons, List.not_mem_nil, or_false] at ht
            rw [ht, hpe]; omega
    · have hke : k = A.length := by omega
      subst hke
      rw [List.take_length] at hno
      have hf : alvB x.steps = false := alvB_false.2 fun h => by
        obtain ⟨_, t, ht, h0⟩ := h
        rw [hA] at ht
        exact h0 (hno t ht)
      rw [hf]
      simp [Try.results33, RetOK, RetP, backA, upd_at, plainB, getP, isOwn, anyOwn, isP]

end Go.Proofs.Ytmhiipmajlmlgaa

namespace Go.Proofs.Ytmhiipmajlmlgaa
set_option linter.unusedSimpArgs false
set_option linter.unusedVariables false
set_option maxRecDepth 8000
set_option maxHeartbeats 2000000
open Go Go.RowKit AV

end Go.Proofs.Ytmhiipmajlmlgaa
