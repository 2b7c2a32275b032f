/- The reference's PartsOf, BeginsWith, TraceValid and AllParts, walked by the engine. -/
import Derived.Test.YtehdfifncbokeaaGrpE
import Derived.Test.YtehdfifncbokeaaGrpC
import Derived.Test.YtehdfifncbokeaaEngMin
namespace Go.Proofs.Ytehdfifncbokeaa
set_option linter.unusedSimpArgs false
set_option linter.unusedVariables false
set_option maxRecDepth 8000
set_option maxHeartbeats 2000000
open Go Go.RowKit AV

def traceValidR (args : List AV) (r : AV) : Prop := ∃ t : List Int, args = [ints t] ∧ t.length ≤ 1099511627776 ∧ r = .bool (traceOKB t)
theorem specTraceValid_ctr : CtrOK Try.prog 49 (pureC traceValidR) := by
  refine ctr_pure' Try.func49 rfl rfl Try.ntmps49 ?_
  rintro _ _ ⟨t, rfl, hl, rfl⟩
  refine ⟨by simp, fun κ hκ => ?_⟩
  have hbig := bigW_gt
  rw [argEnv_eq]
  simp only [envA]
  have hΓ := ctxOf_ok (P := Try.prog) (cx l1In_ctr <| cx0)
  repeat' (first | exact hb.elim | refine wS fun K hK => ?_ | refine wB ?_ | refine uR hΓ ?_ | refine uD hΓ fun B hB => ?_ | ((repeat ((fail_if_success (refine hK _ ?_)); clear hK K)); refine hK _ ?_; clear hK K) | refine u1 ?_ | refine uC (fun hb => ?_) fun hb => ?_ | refine u2 (fun hc => ?_) fun hc => ?_ | refine wI ?_ | refine ex_idx (by omega) ?_ | exact True.intro | fail)
  refine CW.loop (ι := Nat) (fun k => [(0, ints t), (3, I k)]) (fun k => k ≤ t.length ∧ trTo t k) (fun k => t.length - k) 0 ?_ ?_
  · exact ⟨by (simp only [xe, xj, Nat.reduceEqDiff]; (try simp [view, viewL_map]); (try omega)), by omega, trTo_zero t⟩
  rintro k ⟨hk, hr⟩
  simp only [envOf]
  have hnth : ∀ h : k < t.length, nth t k = t[k] := fun h => nth_getElem h
  repeat' (first | exact hb.elim | refine wS fun K hK => ?_ | refine wB ?_ | refine uR hΓ ?_ | refine uD hΓ fun B hB => ?_ | ((repeat ((fail_if_success (refine hK _ ?_)); clear hK K)); refine hK _ ?_; clear hK K) | refine u1 ?_ | refine uC (fun hb => ?_) fun hb => ?_ | refine u2 (fun hc => ?_) fun hc => ?_ | refine wI ?_ | refine ex_idx (by omega) ?_ | exact True.intro | fail)
  · have hkl : k < t.length := by omega
    have hev : k % 2 = 0 := by omega
    (first | refine wA rfl _ (⟨_, _, _, rfl, rfl⟩) ?_ | refine dA rfl _ (⟨_, _, _, rfl, rfl⟩) ?_); simp (maxSteps := 2000000) only [go_sem]
    repeat' (first | exact hb.elim | refine wS fun K hK => ?_ | refine wB ?_ | refine uR hΓ ?_ | refine uD hΓ fun B hB => ?_ | ((repeat ((fail_if_success (refine hK _ ?_)); clear hK K)); refine hK _ ?_; clear hK K) | refine u1 ?_ | refine uC (fun hb => ?_) fun hb => ?_ | refine u2 (fun hc => ?_) fun hc => ?_ | refine wI ?_ | refine ex_idx (by omega) ?_ | exact True.intro | fail)
    · exfalso; omega
    · have ha : 0 ≤ t[k] ∧ t[k] ≤ 3 := by assumption
      refine ⟨k + 1, ?_, ⟨by omega, trTo_succ hr ⟨fun _ => by rw [hnth hkl]; exact ha, fun e => absurd hev (by omega)⟩⟩, by omega⟩
      (simp only [xe, xj, Nat.reduceEqDiff]; (try simp [view, viewL_map]); (try omega))
    · have ha : ¬ (0 ≤ t[k] ∧ t[k] ≤ 3) := by assumption
      have hf : traceOKB t = false := traceOKB_false.2 fun h => ha (by rw [← hnth hkl]; exact (h.to k hkl).1 hev)
      rw [hf]
      simp [Try.results49, RetOK, RetP, backA, upd_at, plainB, getP, isOwn, anyOwn, isP]
  · have hkl : k < t.length := by omega
    have hod : k % 2 = 1 := by omega
    (first | refine wA rfl _ (⟨_, _, _, rfl, rfl⟩) ?_ | refine dA rfl _ (⟨_, _, _, rfl, rfl⟩) ?_); simp (maxSteps := 2000000) only [go_sem]
    repeat' (first | exact hb.elim | refine wS fun K hK => ?_ | refine wB ?_ | refine uR hΓ ?_ | refine uD hΓ fun B hB => ?_ | ((repeat ((fail_if_success (refine hK _ ?_)); clear hK K)); refine hK _ ?_; clear hK K) | refine u1 ?_ | refine uC (fun hb => ?_) fun hb => ?_ | refine u2 (fun hc => ?_) fun hc => ?_ | refine wI ?_ | refine ex_idx (by omega) ?_ | exact True.intro | fail)
    · have ha : ¬ (16 ≤ t[k] ∧ t[k] ≤ 18) := by assumption
      have hf : traceOKB t = false := traceOKB_false.2 fun h => ha (by rw [← hnth hkl]; exact (h.to k hkl).2 hod)
      rw [hf]
      simp [Try.results49, RetOK, RetP, backA, upd_at, plainB, getP, isOwn, anyOwn, isP]
    · have ha : 16 ≤ t[k] ∧ t[k] ≤ 18 := by assumption
      refine ⟨k + 1, ?_, ⟨by omega, trTo_succ hr ⟨fun e => absurd hod (by omega), fun _ => by rw [hnth hkl]; exact ha⟩⟩, by omega⟩
      (simp only [xe, xj, Nat.reduceEqDiff]; (try simp [view, viewL_map]); (try omega))
  · exfalso; omega
  · have hke : k = t.length := by omega
    subst hke
    have hd : traceOKB t = decide ((t.length : Int) ≤ 41) := by
      rw [Bool.eq_iff_iff, traceOKB_true, decide_eq_true_eq]
      exact ⟨fun h => by have := h.len; omega, fun h => TraceOK.of (by omega) (by omega) hr⟩
    rw [hd]
    simp [Try.results49, RetOK, RetP, backA, upd_at, plainB, getP, isOwn, anyOwn, isP]
  · have hd : traceOKB t = false := traceOKB_false.2 fun h => by have := h.odd; omega
    rw [hd]
    simp [Try.results49, RetOK, RetP, backA, upd_at, plainB, getP, isOwn, anyOwn, isP]

end Go.Proofs.Ytehdfifncbokeaa
