/- The program's Alive and Determined, walked by the engine. -/
import Derived.Test.YtaniaocanekajaaGrpM
import Derived.Test.YtaniaocanekajaaG2
import Derived.Test.YtaniaocanekajaaD9
import Derived.Test.YtaniaocanekajaaEngMin
namespace Go.Proofs.Ytaniaocanekajaa
set_option linter.unusedSimpArgs false
set_option linter.unusedVariables false
set_option maxRecDepth 8000
set_option maxHeartbeats 2000000
open Go Go.RowKit AV

theorem implDetermined_ctr : CtrOK Try.prog 15 (pureC determinedR) := by
  refine ctr_pure' Try.func15 rfl rfl Try.ntmps15 ?_
  rintro _ _ ⟨e, rfl, hl, rfl⟩
  refine ⟨by simp, fun κ hκ => ?_⟩
  have hbig := bigW_gt
  rw [argEnv_eq]
  simp only [envA]
  have hΓ := ctxOf_ok (P := Try.prog) (cx implKatValid_ctr <| cx allParts_ctr <| cx build_ctr <| cx tparts_ctr <| cx ends_ctr <| cx holds_ctr <| cx0)
  repeat' (first | refine wS fun K hK => ?_ | refine wB ?_ | ((first | refine wR hΓ ?_ | refine wD hΓ fun B hB => ?_); simp (config := { maxSteps := 2000000 }) only [go_sem]) | ((repeat ((fail_if_success (refine hK _ ?_)); clear hK K)); refine hK _ ?_; clear hK K) | (refine w1 ?_; simp only [xs, xi, Nat.reduceEqDiff, reduceCtorEq]) | (refine wC (fun hb => ?_) fun hb => ?_ <;> (try simp only [xb, reduceCtorEq] at hb)) | (refine w2 (fun hc => ?_) (fun hc => ?_) <;> (try simp only [xc] at hc) <;> (try simp only [go_sem, hc]) <;> (try simp only [xb] at hc)) | refine wI ?_ | refine ex_idx (by omega) ?_ | fail)
  (first | refine wA rfl _ (⟨e, rfl, by omega, rfl⟩) ?_ | refine dA rfl _ (⟨e, rfl, by omega, rfl⟩) ?_); simp (config := { maxSteps := 2000000 }) only [go_sem]
  repeat' (first | refine wS fun K hK => ?_ | refine wB ?_ | ((first | refine wR hΓ ?_ | refine wD hΓ fun B hB => ?_); simp (config := { maxSteps := 2000000 }) only [go_sem]) | ((repeat ((fail_if_success (refine hK _ ?_)); clear hK K)); refine hK _ ?_; clear hK K) | (refine w1 ?_; simp only [xs, xi, Nat.reduceEqDiff, reduceCtorEq]) | (refine wC (fun hb => ?_) fun hb => ?_ <;> (try simp only [xb, reduceCtorEq] at hb)) | (refine w2 (fun hc => ?_) (fun hc => ?_) <;> (try simp only [xc] at hc) <;> (try simp only [go_sem, hc]) <;> (try simp only [xb] at hc)) | refine wI ?_ | refine ex_idx (by omega) ?_ | fail)
  · have hkb := ‹katB e = false›
    have hf : detB e = false := detB_false.2 fun h => by simp [hkb] at h
    rw [hf]
    simp [Try.results15, RetOK, RetP, backA, upd_at, plainB, getP, isOwn, anyOwn, isP]
  have hkb := ‹katB e = true›
  obtain ⟨x, hw, rfl, h40⟩ := katB_tree hkb
  obtain ⟨hfa, hln, hps0⟩ := allL_facts hw h40
  (first | refine wA rfl _ (⟨x, rfl, hw, h40, rfl⟩) ?_ | refine dA rfl _ (⟨x, rfl, hw, h40, rfl⟩) ?_); simp (config := { maxSteps := 2000000 }) only [go_sem]
  generalize hA : allL x.steps = A at *
  repeat' (first | refine wS fun K hK => ?_ | refine wB ?_ | ((first | refine wR hΓ ?_ | refine wD hΓ fun B hB => ?_); simp (config := { maxSteps := 2000000 }) only [go_sem]) | ((repeat ((fail_if_success (refine hK _ ?_)); clear hK K)); refine hK _ ?_; clear hK K) | (refine w1 ?_; simp only [xs, xi, Nat.reduceEqDiff, reduceCtorEq]) | (refine wC (fun hb => ?_) fun hb => ?_ <;> (try simp only [xb, reduceCtorEq] at hb)) | (refine w2 (fun hc => ?_) (fun hc => ?_) <;> (try simp only [xc] at hc) <;> (try simp only [go_sem, hc]) <;> (try simp only [xb] at hc)) | refine wI ?_ | refine ex_idx (by omega) ?_ | fail)
  refine CW.loop (ι := Nat) (fun k => [(13, rows A), (14, I A.length), (15, I k)]) (fun k => k ≤ A.length ∧ ∀ t ∈ A.take k, ∀ a, a < 4 → detP t a) (fun k => A.length - k) 0 ?_ ?_
  · exact ⟨by (simp only [xe, xj, Nat.reduceEqDiff]; (try simp [view, viewL_map]); (try omega)), by simp⟩
  rintro k ⟨hk, hno⟩
  simp only [envOf]
  repeat' (first | refine wS fun K hK => ?_ | refine wB ?_ | ((first | refine wR hΓ ?_ | refine wD hΓ fun B hB => ?_); simp (config := { maxSteps := 2000000 }) only [go_sem]) | ((repeat ((fail_if_success (refine hK _ ?_)); clear hK K)); refine hK _ ?_; clear hK K) | (refine w1 ?_; simp only [xs, xi, Nat.reduceEqDiff, reduceCtorEq]) | (refine wC (fun hb => ?_) fun hb => ?_ <;> (try simp only [xb, reduceCtorEq] at hb)) | (refine w2 (fun hc => ?_) (fun hc => ?_) <;> (try simp only [xc] at hc) <;> (try simp only [go_sem, hc]) <;> (try simp only [xb] at hc)) | refine wI ?_ | refine ex_idx (by omega) ?_ | fail)
  rotate_left
  · have hke : k = A.length := by omega
    subst hke
    rw [List.take_length] at hno
    have hf : detB x.steps = true := detB_true.2 ⟨hkb, by rw [hA]; exact hno⟩
    rw [hf]
    simp [Try.results15, RetOK, RetP, backA, upd_at, plainB, getP, isOwn, anyOwn, isP]
  have hkl : k < A.length := by omega
  obtain ⟨hin, hsh⟩ := hfa _ (List.getElem_mem hkl)
  obtain ⟨p, hpw, hps, hpe⟩ := hin.tree
  have h16 := endX_lt hpw
  (first | refine wA rfl _ (⟨p, by rw [hps], hpw, by rw [hps]; omega, (treeA_eq p).symm⟩) ?_ | refine dA rfl _ (⟨p, by rw [hps], hpw, by rw [hps]; omega, (treeA_eq p).symm⟩) ?_); simp (config := { maxSteps := 2000000 }) only [go_sem]
  repeat' (first | refine wS fun K hK => ?_ | refine wB ?_ | ((first | refine wR hΓ ?_ | refine wD hΓ fun B hB => ?_); simp (config := { maxSteps := 2000000 }) only [go_sem]) | ((repeat ((fail_if_success (refine hK _ ?_)); clear hK K)); refine hK _ ?_; clear hK K) | (refine w1 ?_; simp only [xs, xi, Nat.reduceEqDiff, reduceCtorEq]) | (refine wC (fun hb => ?_) fun hb => ?_ <;> (try simp only [xb, reduceCtorEq] at hb)) | (refine w2 (fun hc => ?_) (fun hc => ?_) <;> (try simp only [xc] at hc) <;> (try simp only [go_sem, hc]) <;> (try simp only [xb] at hc)) | refine wI ?_ | refine ex_idx (by omega) ?_ | fail)
  refine CW.loop (ι := Nat) (fun a => [(4, ints p.steps), (5, .pbox [I p.op, .sh (p.subs.map treeA)]), (13, rows A), (14, I A.length), (15, I k), (21, I a)]) (fun a => a ≤ 4 ∧ ∀ b, b < a → detP A[k] b) (fun a => 4 - a) 0 ?_ ?_
  · exact ⟨by rw [hps]; (simp only [xe, xj, Nat.reduceEqDiff]; (try simp [view, viewL_map]); (try omega)), by simp⟩
  rintro a ⟨ha, hda⟩
  simp only [envOf]
  repeat' (first | refine wS fun K hK => ?_ | refine wB ?_ | ((first | refine wR hΓ ?_ | refine wD hΓ fun B hB => ?_); simp (config := { maxSteps := 2000000 }) only [go_sem]) | ((repeat ((fail_if_success (refine hK _ ?_)); clear hK K)); refine hK _ ?_; clear hK K) | (refine w1 ?_; simp only [xs, xi, Nat.reduceEqDiff, reduceCtorEq]) | (refine wC (fun hb => ?_) fun hb => ?_ <;> (try simp only [xb, reduceCtorEq] at hb)) | (refine w2 (fun hc => ?_) (fun hc => ?_) <;> (try simp only [xc] at hc) <;> (try simp only [go_sem, hc]) <;> (try simp only [xb] at hc)) | refine wI ?_ | refine ex_idx (by omega) ?_ | fail)
  rotate_left
  · have ha4 : a = 4 := by omega
    subst ha4
    refine ⟨k + 1, ?_, ⟨by omega, fun t ht => ?_⟩, by omega⟩
    · (simp only [xe, xj, Nat.reduceEqDiff]; (try simp [view, viewL_map]); (try omega))
    · rw [List.take_succ_eq_append_getElem hkl, List.mem_append] at ht
      rcases ht with ht | ht
      · exact hno t ht
      · simp only [List.mem_cons, List.not_mem_nil, or_false] at ht
        rw [ht]
        exact hda
  have hac := actsX_len p
  have hpl : p.steps.length ≤ 1601 := by rw [hps]; omega
  refine CW.loop (ι := Nat) (fun c => [(4, ints p.steps), (5, .pbox [I p.op, .sh (p.subs.map treeA)]), (6, I a), (7, I ((detTo a A[k] c : Nat) : Int)), (8, I ((16 + c : Nat) : Int)), (13, rows A), (14, I A.length), (15, I k), (21, I a)]) (fun c => c ≤ 3) (fun c => 3 - c) 0 ?_ ?_
  · exact ⟨by (simp only [xe, xj, Nat.reduceEqDiff]; (try simp [view, viewL_map]); (try omega)); simp [detTo], by omega⟩
  rintro c hc
  simp only [envOf]
  have hdl := detTo_le (x := p) hpw (atom := a) c
  rw [hps] at hdl
  have hdl2 : c * actsX p ≤ 3 * 801 := Nat.mul_le_mul hc (by omega)
  repeat' (first | refine wS fun K hK => ?_ | refine wB ?_ | ((first | refine wR hΓ ?_ | refine wD hΓ fun B hB => ?_); simp (config := { maxSteps := 2000000 }) only [go_sem]) | ((repeat ((fail_if_success (refine hK _ ?_)); clear hK K)); refine hK _ ?_; clear hK K) | (refine w1 ?_; simp only [xs, xi, Nat.reduceEqDiff, reduceCtorEq]) | (refine wC (fun hb => ?_) fun hb => ?_ <;> (try simp only [xb, reduceCtorEq] at hb)) | (refine w2 (fun hc => ?_) (fun hc => ?_) <;> (try simp only [xc] at hc) <;> (try simp only [go_sem, hc]) <;> (try simp only [xb] at hc)) | refine wI ?_ | refine ex_idx (by omega) ?_ | fail)
  · have hc2 : c < 3 := by omega
    have e1 : ((16 + c : Nat) : Int) = 16 + (c : Int) := by omega
    have hpo : partsL a ((16 + c : Nat) : Int) p = partsOfL a (16 + (c : Int)) A[k] := by rw [← hps, partsOfL_steps hpw, e1]
    have hcn := partsL_count (atom := a) (act := ((16 + c : Nat) : Int)) (by omega) p
    (first | refine wA rfl _ (⟨p, a, _, by rw [treeA_eq], hpw, by omega, by omega, by omega, by omega, rfl⟩) ?_ | refine dA rfl _ (⟨p, a, _, by rw [treeA_eq], hpw, by omega, by omega, by omega, by omega, rfl⟩) ?_); simp (config := { maxSteps := 2000000 }) only [go_sem]
    repeat' (first | refine wS fun K hK => ?_ | refine wB ?_ | ((first | refine wR hΓ ?_ | refine wD hΓ fun B hB => ?_); simp (config := { maxSteps := 2000000 }) only [go_sem]) | ((repeat ((fail_if_success (refine hK _ ?_)); clear hK K)); refine hK _ ?_; clear hK K) | (refine w1 ?_; simp only [xs, xi, Nat.reduceEqDiff, reduceCtorEq]) | (refine wC (fun hb => ?_) fun hb => ?_ <;> (try simp only [xb, reduceCtorEq] at hb)) | (refine w2 (fun hc => ?_) (fun hc => ?_) <;> (try simp only [xc] at hc) <;> (try simp only [go_sem, hc]) <;> (try simp only [xb] at hc)) | refine wI ?_ | refine ex_idx (by omega) ?_ | fail)
    refine ⟨c + 1, ?_, by omega, by omega⟩
    rw [detTo, ← hpo]
    (simp only [xe, xj, Nat.reduceEqDiff]; (try simp [view, viewL_map]); (try omega))
  · have hc3 : c = 3 := by omega
    subst hc3
    (first | refine wA rfl _ (⟨p, rfl, hpw, by rw [hps]; omega, rfl⟩) ?_ | refine dA rfl _ (⟨p, rfl, hpw, by rw [hps]; omega, rfl⟩) ?_); simp (config := { maxSteps := 2000000 }) only [go_sem]
    repeat' (first | refine wS fun K hK => ?_ | refine wB ?_ | ((first | refine wR hΓ ?_ | refine wD hΓ fun B hB => ?_); simp (config := { maxSteps := 2000000 }) only [go_sem]) | ((repeat ((fail_if_success (refine hK _ ?_)); clear hK K)); refine hK _ ?_; clear hK K) | (refine w1 ?_; simp only [xs, xi, Nat.reduceEqDiff, reduceCtorEq]) | (refine wC (fun hb => ?_) fun hb => ?_ <;> (try simp only [xb, reduceCtorEq] at hb)) | (refine w2 (fun hc => ?_) (fun hc => ?_) <;> (try simp only [xc] at hc) <;> (try simp only [go_sem, hc]) <;> (try simp only [xb] at hc)) | refine wI ?_ | refine ex_idx (by omega) ?_ | fail)
    (first | refine wA rfl _ (⟨_, _, rfl, by omega, by omega, rfl⟩) ?_ | refine dA rfl _ (⟨_, _, rfl, by omega, by omega, rfl⟩) ?_); simp (config := { maxSteps := 2000000 }) only [go_sem]
    repeat' (first | refine wS fun K hK => ?_ | refine wB ?_ | ((first | refine wR hΓ ?_ | refine wD hΓ fun B hB => ?_); simp (config := { maxSteps := 2000000 }) only [go_sem]) | ((repeat ((fail_if_success (refine hK _ ?_)); clear hK K)); refine hK _ ?_; clear hK K) | (refine w1 ?_; simp only [xs, xi, Nat.reduceEqDiff, reduceCtorEq]) | (refine wC (fun hb => ?_) fun hb => ?_ <;> (try simp only [xb, reduceCtorEq] at hb)) | (refine w2 (fun hc => ?_) (fun hc => ?_) <;> (try simp only [xc] at hc) <;> (try simp only [go_sem, hc]) <;> (try simp only [xb] at hc)) | refine wI ?_ | refine ex_idx (by omega) ?_ | fail)
    · have hbt : (endX p).testBit a = true := by assumption
      have hf : detB x.steps = false := detB_false.2 fun h => by
        have h1 := h.2 A[k] (by rw [hA]; exact List.getElem_mem hkl) a (by omega)
        unfold detP at h1
        rw [hpe, hbt] at h1
        simp at h1
        omega
      rw [hf]
      simp [Try.results15, RetOK, RetP, backA, upd_at, plainB, getP, isOwn, anyOwn, isP]
    · have hbt : (endX p).testBit a = false := by assumption
      refine ⟨a + 1, ?_, ⟨by omega, fun b hb => ?_⟩, by omega⟩
      · (simp only [xe, xj, Nat.reduceEqDiff]; (try simp [view, viewL_map]); (try omega))
      · by_cases hba : b = a
        · subst hba
          unfold detP
          rw [hpe, hbt]
          simp
          omega
        · exact hda b (by omega)
  · have hc3 : c = 3 := by omega
    subst hc3
    refine ⟨a + 1, ?_, ⟨by omega, fun b hb => ?_⟩, by omega⟩
    · (simp only [xe, xj, Nat.reduceEqDiff]; (try simp [view, viewL_map]); (try omega))
    · by_cases hba : b = a
      · subst hba
        unfold detP
        rw [hpe]
        have := Bool.toNat_le ((endX p).testBit b)
        omega
      · exact hda b (by omega)
  · have hc3 : c = 3 := by omega
    subst hc3
    have hf : detB x.steps = false := detB_false.2 fun h => by
      have h1 := h.2 A[k] (by rw [hA]; exact List.getElem_mem hkl) a (by omega)
      unfold detP at h1
      omega
    rw [hf]
    simp [Try.results15, RetOK, RetP, backA, upd_at, plainB, getP, isOwn, anyOwn, isP]

end Go.Proofs.Ytaniaocanekajaa
