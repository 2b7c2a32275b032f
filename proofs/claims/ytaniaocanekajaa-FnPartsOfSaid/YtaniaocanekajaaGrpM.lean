/- The reference's Alive and Determined, walked by the engine. -/
import Derived.Test.YtaniaocanekajaaF1
import Derived.Test.YtaniaocanekajaaEngMin
namespace Go.Proofs.Ytaniaocanekajaa
set_option linter.unusedSimpArgs false
set_option linter.unusedVariables false
set_option maxRecDepth 8000
set_option maxHeartbeats 2000000
open Go Go.RowKit AV

theorem allD_yes {e : List Int} (h : katB e = true) : allD e = allL e := if_pos h
theorem allD_no {e : List Int} (h : katB e = false) : allD e = [] := if_neg (by simp [h])
theorem allL_facts {x : Ex} (hw : x.wf) (hl : x.steps.length ≤ 40) : (∀ t ∈ allL x.steps, InLeft x t ∧ t.length ≤ 1601) ∧ (allL x.steps).length ≤ 41 ∧ 0 < (allL x.steps).length := by
  refine ⟨fun t ht => ⟨allL_left hw t ht, (allL_left hw t ht).short hl⟩, allL_full hw hl, ?_⟩
  have := allL_head x.steps
  cases hh : allL x.steps with
  | nil => rw [hh] at this; cases this
  | cons a l => simp

def determinedR (args : List AV) (r : AV) : Prop := ∃ e : List Int, args = [ints e] ∧ e.length ≤ 1048576 ∧ r = .bool (detB e)
theorem detTo_le {x p : Ex} (hw : p.wf) {atom : Nat} (c : Nat) : detTo atom p.steps c ≤ c * actsX p := by
  induction c with
  | zero => simp [detTo]
  | succ c ih =>
    rw [detTo, partsOfL_steps hw, Nat.add_mul, Nat.one_mul]
    have := partsL_count (atom := atom) (act := 16 + (c : Int)) (by omega) p
    omega

theorem specDetermined_ctr : CtrOK Try.prog 16 (pureC determinedR) := by
  refine ctr_pure' Try.func16 rfl rfl Try.ntmps16 ?_
  rintro _ _ ⟨e, rfl, hl, rfl⟩
  refine ⟨by simp, fun κ hκ => ?_⟩
  have hbig := bigW_gt
  rw [argEnv_eq]
  simp only [envA]
  have hΓ := ctxOf_ok (P := Try.prog) (cx specAllParts_ctr <| cx l4Ends_ctr <| cx l1Bit_ctr <| cx l4Parts_ctr <| cx0)
  repeat' (first | refine wS fun K hK => ?_ | refine wB ?_ | ((first | refine wR hΓ ?_ | refine wD hΓ fun B hB => ?_); simp (config := { maxSteps := 2000000 }) only [go_sem]) | ((repeat ((fail_if_success (refine hK _ ?_)); clear hK K)); refine hK _ ?_; clear hK K) | (refine w1 ?_; simp only [xs, xi, Nat.reduceEqDiff, reduceCtorEq]) | (refine wC (fun hb => ?_) fun hb => ?_ <;> (try simp only [xb, reduceCtorEq] at hb)) | (refine w2 (fun hc => ?_) (fun hc => ?_) <;> (try simp only [xc] at hc) <;> (try simp only [go_sem, hc]) <;> (try simp only [xb] at hc)) | refine wI ?_ | refine ex_idx (by omega) ?_ | fail)
  (first | refine wA rfl _ (⟨e, rfl, by omega, rfl⟩) ?_ | refine dA rfl _ (⟨e, rfl, by omega, rfl⟩) ?_); simp (config := { maxSteps := 2000000 }) only [go_sem]
  repeat' (first | refine wS fun K hK => ?_ | refine wB ?_ | ((first | refine wR hΓ ?_ | refine wD hΓ fun B hB => ?_); simp (config := { maxSteps := 2000000 }) only [go_sem]) | ((repeat ((fail_if_success (refine hK _ ?_)); clear hK K)); refine hK _ ?_; clear hK K) | (refine w1 ?_; simp only [xs, xi, Nat.reduceEqDiff, reduceCtorEq]) | (refine wC (fun hb => ?_) fun hb => ?_ <;> (try simp only [xb, reduceCtorEq] at hb)) | (refine w2 (fun hc => ?_) (fun hc => ?_) <;> (try simp only [xc] at hc) <;> (try simp only [go_sem, hc]) <;> (try simp only [xb] at hc)) | refine wI ?_ | refine ex_idx (by omega) ?_ | fail)
  refine CW.loop (ι := Nat) (fun k => [(3, rows (allD e)), (4, I k)]) (fun k => k ≤ (allD e).length ∧ ∀ t ∈ (allD e).take k, ∀ a, a < 4 → detP t a) (fun k => (allD e).length - k) 0 ?_ ?_
  · exact ⟨by (simp only [xe, xj, Nat.reduceEqDiff]; (try simp [view, viewL_map]); (try omega)), by simp⟩
  rintro k ⟨hk, hno⟩
  simp only [envOf]
  cases hkb : katB e with
  | false =>
    have hD := allD_no hkb
    have hf : detB e = false := detB_false.2 fun h => by simp [hkb] at h
    rw [hD] at hk ⊢
    repeat' (first | refine wS fun K hK => ?_ | refine wB ?_ | ((first | refine wR hΓ ?_ | refine wD hΓ fun B hB => ?_); simp (config := { maxSteps := 2000000 }) only [go_sem]) | ((repeat ((fail_if_success (refine hK _ ?_)); clear hK K)); refine hK _ ?_; clear hK K) | (refine w1 ?_; simp only [xs, xi, Nat.reduceEqDiff, reduceCtorEq]) | (refine wC (fun hb => ?_) fun hb => ?_ <;> (try simp only [xb, reduceCtorEq] at hb)) | (refine w2 (fun hc => ?_) (fun hc => ?_) <;> (try simp only [xc] at hc) <;> (try simp only [go_sem, hc]) <;> (try simp only [xb] at hc)) | refine wI ?_ | refine ex_idx (by omega) ?_ | fail)
    · simp at *; omega
    · rw [hf]
      simp [Try.results16, RetOK, RetP, backA, upd_at, plainB, getP, isOwn, anyOwn, isP]
  | true =>
    obtain ⟨x, hw, rfl, h40⟩ := katB_tree hkb
    have hD := allD_yes hkb
    obtain ⟨hfa, hln, hps0⟩ := allL_facts hw h40
    rw [hD] at hk hno ⊢
    generalize hA : allL x.steps = A at *
    repeat' (first | refine wS fun K hK => ?_ | refine wB ?_ | ((first | refine wR hΓ ?_ | refine wD hΓ fun B hB => ?_); simp (config := { maxSteps := 2000000 }) only [go_sem]) | ((repeat ((fail_if_success (refine hK _ ?_)); clear hK K)); refine hK _ ?_; clear hK K) | (refine w1 ?_; simp only [xs, xi, Nat.reduceEqDiff, reduceCtorEq]) | (refine wC (fun hb => ?_) fun hb => ?_ <;> (try simp only [xb, reduceCtorEq] at hb)) | (refine w2 (fun hc => ?_) (fun hc => ?_) <;> (try simp only [xc] at hc) <;> (try simp only [go_sem, hc]) <;> (try simp only [xb] at hc)) | refine wI ?_ | refine ex_idx (by omega) ?_ | fail)
    rotate_left
    · have hke : k = A.length := by omega
      subst hke
      rw [List.take_length] at hno
      have hf : detB x.steps = true := detB_true.2 ⟨hkb, by rw [hA]; exact hno⟩
      have h1 : decide (0 < (A.length : Int)) = true := by rw [decide_eq_true_eq]; omega
      rw [hf, h1]
      simp [Try.results16, RetOK, RetP, backA, upd_at, plainB, getP, isOwn, anyOwn, isP]
    have hkl : k < A.length := by omega
    obtain ⟨hin, hsh⟩ := hfa _ (List.getElem_mem hkl)
    obtain ⟨p, hpw, hps, hpe⟩ := hin.tree
    refine CW.loop (ι := Nat) (fun a => [(3, rows A), (4, I k), (5, I a)]) (fun a => a ≤ 4 ∧ ∀ b, b < a → detP A[k] b) (fun a => 4 - a) 0 ?_ ?_
    · exact ⟨by (simp only [xe, xj, Nat.reduceEqDiff]; (try simp [view, viewL_map]); (try omega)), by simp⟩
    rintro a ⟨ha, hda⟩
    simp only [envOf]
    repeat' (first | refine wS fun K hK => ?_ | refine wB ?_ | ((first | refine wR hΓ ?_ | refine wD hΓ fun B hB => ?_); simp (config := { maxSteps := 2000000 }) only [go_sem]) | ((repeat ((fail_if_success (refine hK _ ?_)); clear hK K)); refine hK _ ?_; clear hK K) | (refine w1 ?_; simp only [xs, xi, Nat.reduceEqDiff, reduceCtorEq]) | (refine wC (fun hb => ?_) fun hb => ?_ <;> (try simp only [xb, reduceCtorEq] at hb)) | (refine w2 (fun hc => ?_) (fun hc => ?_) <;> (try simp only [xc] at hc) <;> (try simp only [go_sem, hc]) <;> (try simp only [xb] at hc)) | refine wI ?_ | refine ex_idx (by omega) ?_ | fail)
    rotate_left
    · have ha4 : a = 4 := by omega
      subst ha4
      refine ⟨k + 1, ?_, ⟨by omega, fun t ht => ?_⟩, by omega⟩
      · (simp only [xe, xj, Nat.reduceEqDiff]; (try simp [view, viewL_map]); (try omega))
      · rw [List.take_succ_eq_append_getElem hkl, List.mem_append] at ht
        rcases ht with ht | ht
        · exact hno t ht
        · simp only [List.mem_cons, List.not_mem_nil, or_false] at ht
          rw [ht]
          exact hda
    (first | refine wA rfl _ (⟨p, by rw [hps], hpw, by rw [hps]; omega, rfl⟩) ?_ | refine dA rfl _ (⟨p, by rw [hps], hpw, by rw [hps]; omega, rfl⟩) ?_); simp (config := { maxSteps := 2000000 }) only [go_sem]
    repeat' (first | refine wS fun K hK => ?_ | refine wB ?_ | ((first | refine wR hΓ ?_ | refine wD hΓ fun B hB => ?_); simp (config := { maxSteps := 2000000 }) only [go_sem]) | ((repeat ((fail_if_success (refine hK _ ?_)); clear hK K)); refine hK _ ?_; clear hK K) | (refine w1 ?_; simp only [xs, xi, Nat.reduceEqDiff, reduceCtorEq]) | (refine wC (fun hb => ?_) fun hb => ?_ <;> (try simp only [xb, reduceCtorEq] at hb)) | (refine w2 (fun hc => ?_) (fun hc => ?_) <;> (try simp only [xc] at hc) <;> (try simp only [go_sem, hc]) <;> (try simp only [xb] at hc)) | refine wI ?_ | refine ex_idx (by omega) ?_ | fail)
    (first | refine wA rfl _ (⟨_, _, rfl, by omega, rfl⟩) ?_ | refine dA rfl _ (⟨_, _, rfl, by omega, rfl⟩) ?_); simp (config := { maxSteps := 2000000 }) only [go_sem]
    repeat' (first | refine wS fun K hK => ?_ | refine wB ?_ | ((first | refine wR hΓ ?_ | refine wD hΓ fun B hB => ?_); simp (config := { maxSteps := 2000000 }) only [go_sem]) | ((repeat ((fail_if_success (refine hK _ ?_)); clear hK K)); refine hK _ ?_; clear hK K) | (refine w1 ?_; simp only [xs, xi, Nat.reduceEqDiff, reduceCtorEq]) | (refine wC (fun hb => ?_) fun hb => ?_ <;> (try simp only [xb, reduceCtorEq] at hb)) | (refine w2 (fun hc => ?_) (fun hc => ?_) <;> (try simp only [xc] at hc) <;> (try simp only [go_sem, hc]) <;> (try simp only [xb] at hc)) | refine wI ?_ | refine ex_idx (by omega) ?_ | fail)
    have hac := actsX_len p
    have hpl : p.steps.length ≤ 1601 := by rw [hps]; omega
    have hbt : bitN (endX p) a ≤ 1 := bitN_le _ _
    refine CW.loop (ι := Nat) (fun c => [(3, rows A), (4, I k), (5, I a), (6, I ((bitN (endX p) a + detTo a A[k] c : Nat) : Int)), (7, I ((16 + c : Nat) : Int))]) (fun c => c ≤ 3) (fun c => 3 - c) 0 ?_ ?_
    · exact ⟨by (simp only [xe, xj, Nat.reduceEqDiff]; (try simp [view, viewL_map]); (try omega)); simp [detTo], by omega⟩
    rintro c hc
    simp only [envOf]
    have hdl := detTo_le (x := p) hpw (atom := a) c
    rw [hps] at hdl
    have hdl2 : c * actsX p ≤ 3 * 801 := Nat.mul_le_mul hc (by omega)
    repeat' (first | refine wS fun K hK => ?_ | refine wB ?_ | ((first | refine wR hΓ ?_ | refine wD hΓ fun B hB => ?_); simp (config := { maxSteps := 2000000 }) only [go_sem]) | ((repeat ((fail_if_success (refine hK _ ?_)); clear hK K)); refine hK _ ?_; clear hK K) | (refine w1 ?_; simp only [xs, xi, Nat.reduceEqDiff, reduceCtorEq]) | (refine wC (fun hb => ?_) fun hb => ?_ <;> (try simp only [xb, reduceCtorEq] at hb)) | (refine w2 (fun hc => ?_) (fun hc => ?_) <;> (try simp only [xc] at hc) <;> (try simp only [go_sem, hc]) <;> (try simp only [xb] at hc)) | refine wI ?_ | refine ex_idx (by omega) ?_ | fail)
    · have hc2 : c < 3 := by omega
      have e1 : ((16 + c : Nat) : Int) = 16 + (c : Int) := by omega
      have hpo : partsL a ((16 + c : Nat) : Int) p = partsOfL a (16 + (c : Int)) A[k] := by rw [← hps, partsOfL_steps hpw, e1]
      have hcn := partsL_count (atom := a) (act := ((16 + c : Nat) : Int)) (by omega) p
      (first | refine wA rfl _ (⟨p, a, _, by rw [hps], hpw, by omega, by omega, by omega, by omega, rfl⟩) ?_ | refine dA rfl _ (⟨p, a, _, by rw [hps], hpw, by omega, by omega, by omega, by omega, rfl⟩) ?_); simp (config := { maxSteps := 2000000 }) only [go_sem]
      repeat' (first | refine wS fun K hK => ?_ | refine wB ?_ | ((first | refine wR hΓ ?_ | refine wD hΓ fun B hB => ?_); simp (config := { maxSteps := 2000000 }) only [go_sem]) | ((repeat ((fail_if_success (refine hK _ ?_)); clear hK K)); refine hK _ ?_; clear hK K) | (refine w1 ?_; simp only [xs, xi, Nat.reduceEqDiff, reduceCtorEq]) | (refine wC (fun hb => ?_) fun hb => ?_ <;> (try simp only [xb, reduceCtorEq] at hb)) | (refine w2 (fun hc => ?_) (fun hc => ?_) <;> (try simp only [xc] at hc) <;> (try simp only [go_sem, hc]) <;> (try simp only [xb] at hc)) | refine wI ?_ | refine ex_idx (by omega) ?_ | fail)
      refine ⟨c + 1, ?_, by omega, by omega⟩
      rw [detTo, ← hpo]
      (simp only [xe, xj, Nat.reduceEqDiff]; (try simp [view, viewL_map]); (try omega))
    · have hc3 : c = 3 := by omega
      subst hc3
      have hf : detB x.steps = false := detB_false.2 fun h => by
        have h1 := h.2 A[k] (by rw [hA]; exact List.getElem_mem hkl) a (by omega)
        unfold detP at h1
        rw [hpe] at h1
        unfold bitN at *
        omega
      rw [hf]
      simp [Try.results16, RetOK, RetP, backA, upd_at, plainB, getP, isOwn, anyOwn, isP]
    · have hc3 : c = 3 := by omega
      subst hc3
      refine ⟨a + 1, ?_, ⟨by omega, fun b hb => ?_⟩, by omega⟩
      · (simp only [xe, xj, Nat.reduceEqDiff]; (try simp [view, viewL_map]); (try omega))
      · by_cases hba : b = a
        · subst hba
          unfold detP
          rw [hpe]
          unfold bitN at *
          omega
        · exact hda b (by omega)

end Go.Proofs.Ytaniaocanekajaa

namespace Go.Proofs.Ytaniaocanekajaa
set_option linter.unusedSimpArgs false
set_option linter.unusedVariables false
set_option maxRecDepth 8000
set_option maxHeartbeats 2000000
open Go Go.RowKit AV

end Go.Proofs.Ytaniaocanekajaa
