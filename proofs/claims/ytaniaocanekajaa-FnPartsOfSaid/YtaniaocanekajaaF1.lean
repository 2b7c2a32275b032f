/- The reference's PartsOf, BeginsWith, TraceValid and AllParts, walked by the engine. -/
import Derived.Test.YtaniaocanekajaaGrpE
import Derived.Test.YtaniaocanekajaaGrpC
import Derived.Test.YtaniaocanekajaaEngMin
namespace Go.Proofs.Ytaniaocanekajaa
set_option linter.unusedSimpArgs false
set_option linter.unusedVariables false
set_option maxRecDepth 8000
set_option maxHeartbeats 2000000
open Go Go.RowKit AV

def partsOfSR (args : List AV) (r : AV) : Prop := ∃ (e : List Int) (atom act : Int), args = [ints e, I atom, I act] ∧ e.length ≤ 1048576 ∧ r = rows (partsOfD e atom act)

theorem specPartsOf_ctr : CtrOK Try.prog 29 (pureC partsOfSR) := by
  refine ctr_pure' Try.func29 rfl rfl Try.ntmps29 ?_
  rintro _ _ ⟨e, atom, act, rfl, hl, rfl⟩
  refine ⟨by simp, fun κ hκ => ?_⟩
  have hbig := bigW_gt
  rw [argEnv_eq]
  simp only [envA]
  have hΓ := ctxOf_ok (P := Try.prog) (cx specKatValid_ctr <| cx l1In_ctr <| cx l4Parts_ctr <| cx0)
  repeat' (first | refine wS fun K hK => ?_ | refine wB ?_ | ((first | refine wR hΓ ?_ | refine wD hΓ fun B hB => ?_); simp (config := { maxSteps := 2000000 }) only [go_sem]) | ((repeat ((fail_if_success (refine hK _ ?_)); clear hK K)); refine hK _ ?_; clear hK K) | (refine w1 ?_; simp only [xs, xi, Nat.reduceEqDiff, reduceCtorEq]) | (refine wC (fun hb => ?_) fun hb => ?_ <;> (try simp only [xb, reduceCtorEq] at hb)) | (refine w2 (fun hc => ?_) (fun hc => ?_) <;> (try simp only [xc] at hc) <;> (try simp only [go_sem, hc]) <;> (try simp only [xb] at hc)) | refine wI ?_ | refine ex_idx (by omega) ?_ | fail)
  (first | refine wA rfl _ (⟨e, rfl, by omega, rfl⟩) ?_ | refine dA rfl _ (⟨e, rfl, by omega, rfl⟩) ?_); simp (config := { maxSteps := 2000000 }) only [go_sem]
  repeat' (first | refine wS fun K hK => ?_ | refine wB ?_ | ((first | refine wR hΓ ?_ | refine wD hΓ fun B hB => ?_); simp (config := { maxSteps := 2000000 }) only [go_sem]) | ((repeat ((fail_if_success (refine hK _ ?_)); clear hK K)); refine hK _ ?_; clear hK K) | (refine w1 ?_; simp only [xs, xi, Nat.reduceEqDiff, reduceCtorEq]) | (refine wC (fun hb => ?_) fun hb => ?_ <;> (try simp only [xb, reduceCtorEq] at hb)) | (refine w2 (fun hc => ?_) (fun hc => ?_) <;> (try simp only [xc] at hc) <;> (try simp only [go_sem, hc]) <;> (try simp only [xb] at hc)) | refine wI ?_ | refine ex_idx (by omega) ?_ | fail)
  · (first | refine wA rfl _ (⟨atom, 0, 3, rfl, rfl⟩) ?_ | refine dA rfl _ (⟨atom, 0, 3, rfl, rfl⟩) ?_); simp (config := { maxSteps := 2000000 }) only [go_sem]
    repeat' (first | refine wS fun K hK => ?_ | refine wB ?_ | ((first | refine wR hΓ ?_ | refine wD hΓ fun B hB => ?_); simp (config := { maxSteps := 2000000 }) only [go_sem]) | ((repeat ((fail_if_success (refine hK _ ?_)); clear hK K)); refine hK _ ?_; clear hK K) | (refine w1 ?_; simp only [xs, xi, Nat.reduceEqDiff, reduceCtorEq]) | (refine wC (fun hb => ?_) fun hb => ?_ <;> (try simp only [xb, reduceCtorEq] at hb)) | (refine w2 (fun hc => ?_) (fun hc => ?_) <;> (try simp only [xc] at hc) <;> (try simp only [go_sem, hc]) <;> (try simp only [xb] at hc)) | refine wI ?_ | refine ex_idx (by omega) ?_ | fail)
    · (first | refine wA rfl _ (⟨act, 16, 18, rfl, rfl⟩) ?_ | refine dA rfl _ (⟨act, 16, 18, rfl, rfl⟩) ?_); simp (config := { maxSteps := 2000000 }) only [go_sem]
      repeat' (first | refine wS fun K hK => ?_ | refine wB ?_ | ((first | refine wR hΓ ?_ | refine wD hΓ fun B hB => ?_); simp (config := { maxSteps := 2000000 }) only [go_sem]) | ((repeat ((fail_if_success (refine hK _ ?_)); clear hK K)); refine hK _ ?_; clear hK K) | (refine w1 ?_; simp only [xs, xi, Nat.reduceEqDiff, reduceCtorEq]) | (refine wC (fun hb => ?_) fun hb => ?_ <;> (try simp only [xb, reduceCtorEq] at hb)) | (refine w2 (fun hc => ?_) (fun hc => ?_) <;> (try simp only [xc] at hc) <;> (try simp only [go_sem, hc]) <;> (try simp only [xb] at hc)) | refine wI ?_ | refine ex_idx (by omega) ?_ | fail)
      · rw [partsOfD_no (fun h => absurd h.2.2 ‹¬ (16 ≤ act ∧ act ≤ 18)›)]
        simp [Try.results29, RetOK, RetP, backA, upd_at, plainB, getP, isOwn, anyOwn, isP]
        simp [view, viewL]
      · have hk := ‹katB e = true›
        have ha := ‹0 ≤ atom ∧ atom ≤ 3›
        have hac := ‹16 ≤ act ∧ act ≤ 18›
        obtain ⟨x, hw, rfl, h40⟩ := katB_tree hk
        have hpd := partsOfD_yes hw hk ha hac
        have hat : ((atom.toNat : Nat) : Int) = atom := by omega
        (first | refine wA rfl _ (⟨x, atom.toNat, act, by rw [hat], hw, by omega, by omega, hac.1, hac.2, rfl⟩) ?_ | refine dA rfl _ (⟨x, atom.toNat, act, by rw [hat], hw, by omega, by omega, hac.1, hac.2, rfl⟩) ?_); simp (config := { maxSteps := 2000000 }) only [go_sem]
        repeat' (first | refine wS fun K hK => ?_ | refine wB ?_ | ((first | refine wR hΓ ?_ | refine wD hΓ fun B hB => ?_); simp (config := { maxSteps := 2000000 }) only [go_sem]) | ((repeat ((fail_if_success (refine hK _ ?_)); clear hK K)); refine hK _ ?_; clear hK K) | (refine w1 ?_; simp only [xs, xi, Nat.reduceEqDiff, reduceCtorEq]) | (refine wC (fun hb => ?_) fun hb => ?_ <;> (try simp only [xb, reduceCtorEq] at hb)) | (refine w2 (fun hc => ?_) (fun hc => ?_) <;> (try simp only [xc] at hc) <;> (try simp only [go_sem, hc]) <;> (try simp only [xb] at hc)) | refine wI ?_ | refine ex_idx (by omega) ?_ | fail)
        rw [hpd]
        simp [Try.results29, RetOK, RetP, backA, upd_at, plainB, getP, isOwn, anyOwn, isP]
    · rw [partsOfD_no (fun h => absurd h.2.1 ‹¬ (0 ≤ atom ∧ atom ≤ 3)›)]
      simp [Try.results29, RetOK, RetP, backA, upd_at, plainB, getP, isOwn, anyOwn, isP]
      simp [view, viewL]
  · rw [partsOfD_no (fun h => by have := ‹katB e = false›; simp [this] at h)]
    simp [Try.results29, RetOK, RetP, backA, upd_at, plainB, getP, isOwn, anyOwn, isP]
    simp [view, viewL]

def traceValidR (args : List AV) (r : AV) : Prop := ∃ t : List Int, args = [ints t] ∧ t.length ≤ 1099511627776 ∧ r = .bool (traceOKB t)
theorem specTraceValid_ctr : CtrOK Try.prog 31 (pureC traceValidR) := by
  refine ctr_pure' Try.func31 rfl rfl Try.ntmps31 ?_
  rintro _ _ ⟨t, rfl, hl, rfl⟩
  refine ⟨by simp, fun κ hκ => ?_⟩
  have hbig := bigW_gt
  rw [argEnv_eq]
  simp only [envA]
  have hΓ := ctxOf_ok (P := Try.prog) (cx l1In_ctr <| cx0)
  repeat' (first | refine wS fun K hK => ?_ | refine wB ?_ | ((first | refine wR hΓ ?_ | refine wD hΓ fun B hB => ?_); simp (config := { maxSteps := 2000000 }) only [go_sem]) | ((repeat ((fail_if_success (refine hK _ ?_)); clear hK K)); refine hK _ ?_; clear hK K) | (refine w1 ?_; simp only [xs, xi, Nat.reduceEqDiff, reduceCtorEq]) | (refine wC (fun hb => ?_) fun hb => ?_ <;> (try simp only [xb, reduceCtorEq] at hb)) | (refine w2 (fun hc => ?_) (fun hc => ?_) <;> (try simp only [xc] at hc) <;> (try simp only [go_sem, hc]) <;> (try simp only [xb] at hc)) | refine wI ?_ | refine ex_idx (by omega) ?_ | fail)
  refine CW.loop (ι := Nat) (fun k => [(0, ints t), (3, I k)]) (fun k => k ≤ t.length ∧ trTo t k) (fun k => t.length - k) 0 ?_ ?_
  · exact ⟨by (simp only [xe, xj, Nat.reduceEqDiff]; (try simp [view, viewL_map]); (try omega)), by omega, trTo_zero t⟩
  rintro k ⟨hk, hr⟩
  simp only [envOf]
  have hnth : ∀ h : k < t.length, nth t k = t[k] := fun h => nth_getElem h
  repeat' (first | refine wS fun K hK => ?_ | refine wB ?_ | ((first | refine wR hΓ ?_ | refine wD hΓ fun B hB => ?_); simp (config := { maxSteps := 2000000 }) only [go_sem]) | ((repeat ((fail_if_success (refine hK _ ?_)); clear hK K)); refine hK _ ?_; clear hK K) | (refine w1 ?_; simp only [xs, xi, Nat.reduceEqDiff, reduceCtorEq]) | (refine wC (fun hb => ?_) fun hb => ?_ <;> (try simp only [xb, reduceCtorEq] at hb)) | (refine w2 (fun hc => ?_) (fun hc => ?_) <;> (try simp only [xc] at hc) <;> (try simp only [go_sem, hc]) <;> (try simp only [xb] at hc)) | refine wI ?_ | refine ex_idx (by omega) ?_ | fail)
  · have hkl : k < t.length := by omega
    have hev : k % 2 = 0 := by omega
    (first | refine wA rfl _ (⟨_, _, _, rfl, rfl⟩) ?_ | refine dA rfl _ (⟨_, _, _, rfl, rfl⟩) ?_); simp (config := { maxSteps := 2000000 }) only [go_sem]
    repeat' (first | refine wS fun K hK => ?_ | refine wB ?_ | ((first | refine wR hΓ ?_ | refine wD hΓ fun B hB => ?_); simp (config := { maxSteps := 2000000 }) only [go_sem]) | ((repeat ((fail_if_success (refine hK _ ?_)); clear hK K)); refine hK _ ?_; clear hK K) | (refine w1 ?_; simp only [xs, xi, Nat.reduceEqDiff, reduceCtorEq]) | (refine wC (fun hb => ?_) fun hb => ?_ <;> (try simp only [xb, reduceCtorEq] at hb)) | (refine w2 (fun hc => ?_) (fun hc => ?_) <;> (try simp only [xc] at hc) <;> (try simp only [go_sem, hc]) <;> (try simp only [xb] at hc)) | refine wI ?_ | refine ex_idx (by omega) ?_ | fail)
    · exfalso; omega
    · have ha : 0 ≤ t[k] ∧ t[k] ≤ 3 := by assumption
      refine ⟨k + 1, ?_, ⟨by omega, trTo_succ hr ⟨fun _ => by rw [hnth hkl]; exact ha, fun e => absurd hev (by omega)⟩⟩, by omega⟩
      (simp only [xe, xj, Nat.reduceEqDiff]; (try simp [view, viewL_map]); (try omega))
    · have ha : ¬ (0 ≤ t[k] ∧ t[k] ≤ 3) := by assumption
      have hf : traceOKB t = false := traceOKB_false.2 fun h => ha (by rw [← hnth hkl]; exact (h.to k hkl).1 hev)
      rw [hf]
      simp [Try.results31, RetOK, RetP, backA, upd_at, plainB, getP, isOwn, anyOwn, isP]
  · have hkl : k < t.length := by omega
    have hod : k % 2 = 1 := by omega
    (first | refine wA rfl _ (⟨_, _, _, rfl, rfl⟩) ?_ | refine dA rfl _ (⟨_, _, _, rfl, rfl⟩) ?_); simp (config := { maxSteps := 2000000 }) only [go_sem]
    repeat' (first | refine wS fun K hK => ?_ | refine wB ?_ | ((first | refine wR hΓ ?_ | refine wD hΓ fun B hB => ?_); simp (config := { maxSteps := 2000000 }) only [go_sem]) | ((repeat ((fail_if_success (refine hK _ ?_)); clear hK K)); refine hK _ ?_; clear hK K) | (refine w1 ?_; simp only [xs, xi, Nat.reduceEqDiff, reduceCtorEq]) | (refine wC (fun hb => ?_) fun hb => ?_ <;> (try simp only [xb, reduceCtorEq] at hb)) | (refine w2 (fun hc => ?_) (fun hc => ?_) <;> (try simp only [xc] at hc) <;> (try simp only [go_sem, hc]) <;> (try simp only [xb] at hc)) | refine wI ?_ | refine ex_idx (by omega) ?_ | fail)
    · have ha : ¬ (16 ≤ t[k] ∧ t[k] ≤ 18) := by assumption
      have hf : traceOKB t = false := traceOKB_false.2 fun h => ha (by rw [← hnth hkl]; exact (h.to k hkl).2 hod)
      rw [hf]
      simp [Try.results31, RetOK, RetP, backA, upd_at, plainB, getP, isOwn, anyOwn, isP]
    · have ha : 16 ≤ t[k] ∧ t[k] ≤ 18 := by assumption
      refine ⟨k + 1, ?_, ⟨by omega, trTo_succ hr ⟨fun e => absurd hod (by omega), fun _ => by rw [hnth hkl]; exact ha⟩⟩, by omega⟩
      (simp only [xe, xj, Nat.reduceEqDiff]; (try simp [view, viewL_map]); (try omega))
  · exfalso; omega
  · have hke : k = t.length := by omega
    subst hke
    have hd : traceOKB t = decide ((t.length : Int) ≤ 41) := by
      rw [Bool.eq_iff_iff, traceOKB_true, decide_eq_true_eq]
      exact ⟨fun h => by have := h.len; omega, fun h => TraceOK.of (by omega) (by omega) hr⟩
    rw [hd]
    simp [Try.results31, RetOK, RetP, backA, upd_at, plainB, getP, isOwn, anyOwn, isP]
  · have hd : traceOKB t = false := traceOKB_false.2 fun h => by have := h.odd; omega
    rw [hd]
    simp [Try.results31, RetOK, RetP, backA, upd_at, plainB, getP, isOwn, anyOwn, isP]

def allPartsSR (args : List AV) (r : AV) : Prop := ∃ e : List Int, args = [ints e] ∧ e.length ≤ 1048576 ∧ r = rows (allD e)
theorem specAllParts_ctr : CtrOK Try.prog 23 (pureC allPartsSR) := by
  refine ctr_pure' Try.func23 rfl rfl Try.ntmps23 ?_
  rintro _ _ ⟨e, rfl, hl, rfl⟩
  refine ⟨by simp, fun κ hκ => ?_⟩
  have hbig := bigW_gt
  rw [argEnv_eq]
  simp only [envA]
  have hΓ := ctxOf_ok (P := Try.prog) (cx specKatValid_ctr <| cx l4All_ctr <| cx0)
  repeat' (first | refine wS fun K hK => ?_ | refine wB ?_ | ((first | refine wR hΓ ?_ | refine wD hΓ fun B hB => ?_); simp (config := { maxSteps := 2000000 }) only [go_sem]) | ((repeat ((fail_if_success (refine hK _ ?_)); clear hK K)); refine hK _ ?_; clear hK K) | (refine w1 ?_; simp only [xs, xi, Nat.reduceEqDiff, reduceCtorEq]) | (refine wC (fun hb => ?_) fun hb => ?_ <;> (try simp only [xb, reduceCtorEq] at hb)) | (refine w2 (fun hc => ?_) (fun hc => ?_) <;> (try simp only [xc] at hc) <;> (try simp only [go_sem, hc]) <;> (try simp only [xb] at hc)) | refine wI ?_ | refine ex_idx (by omega) ?_ | fail)
  (first | refine wA rfl _ (⟨e, rfl, by omega, rfl⟩) ?_ | refine dA rfl _ (⟨e, rfl, by omega, rfl⟩) ?_); simp (config := { maxSteps := 2000000 }) only [go_sem]
  repeat' (first | refine wS fun K hK => ?_ | refine wB ?_ | ((first | refine wR hΓ ?_ | refine wD hΓ fun B hB => ?_); simp (config := { maxSteps := 2000000 }) only [go_sem]) | ((repeat ((fail_if_success (refine hK _ ?_)); clear hK K)); refine hK _ ?_; clear hK K) | (refine w1 ?_; simp only [xs, xi, Nat.reduceEqDiff, reduceCtorEq]) | (refine wC (fun hb => ?_) fun hb => ?_ <;> (try simp only [xb, reduceCtorEq] at hb)) | (refine w2 (fun hc => ?_) (fun hc => ?_) <;> (try simp only [xc] at hc) <;> (try simp only [go_sem, hc]) <;> (try simp only [xb] at hc)) | refine wI ?_ | refine ex_idx (by omega) ?_ | fail)
  · have hk := ‹katB e = false›
    rw [show allD e = [] from if_neg (by simp [hk])]
    simp [Try.results23, RetOK, RetP, backA, upd_at, plainB, getP, isOwn, anyOwn, isP]
    simp [view, viewL]
  · have hk := ‹katB e = true›
    obtain ⟨x, hw, rfl, h40⟩ := katB_tree hk
    (first | refine wA rfl _ (⟨x, rfl, hw, h40, rfl⟩) ?_ | refine dA rfl _ (⟨x, rfl, hw, h40, rfl⟩) ?_); simp (config := { maxSteps := 2000000 }) only [go_sem]
    repeat' (first | refine wS fun K hK => ?_ | refine wB ?_ | ((first | refine wR hΓ ?_ | refine wD hΓ fun B hB => ?_); simp (config := { maxSteps := 2000000 }) only [go_sem]) | ((repeat ((fail_if_success (refine hK _ ?_)); clear hK K)); refine hK _ ?_; clear hK K) | (refine w1 ?_; simp only [xs, xi, Nat.reduceEqDiff, reduceCtorEq]) | (refine wC (fun hb => ?_) fun hb => ?_ <;> (try simp only [xb, reduceCtorEq] at hb)) | (refine w2 (fun hc => ?_) (fun hc => ?_) <;> (try simp only [xc] at hc) <;> (try simp only [go_sem, hc]) <;> (try simp only [xb] at hc)) | refine wI ?_ | refine ex_idx (by omega) ?_ | fail)
    rw [show allD x.steps = allL x.steps from if_pos hk]
    simp [Try.results23, RetOK, RetP, backA, upd_at, plainB, getP, isOwn, anyOwn, isP]

end Go.Proofs.Ytaniaocanekajaa
