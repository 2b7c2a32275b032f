/- The program's PartsOf, BeginsWith and TraceValid, walked by the engine. -/
import Derived.Test.YtehdfifncbokeaaGreatF1
import Derived.Test.YtehdfifncbokeaaGreatD7
import Derived.Test.YtehdfifncbokeaaGreatGrpJ
import Derived.Test.YtehdfifncbokeaaGreatEngMin
namespace Go.Proofs.YtehdfifncbokeaaGreat
set_option linter.unusedSimpArgs false
set_option linter.unusedVariables false
set_option maxRecDepth 8000
set_option maxHeartbeats 2000000
open Go Go.RowKit AV

theorem implTraceValid_ctr : CtrOK Tryz.prog 32 (pureC traceValidR) := by
  refine ctr_pure' Tryz.func32 rfl rfl Tryz.ntmps32 ?_
  rintro _ _ ⟨t, rfl, hl, rfl⟩
  refine ⟨by simp, fun κ hκ => ?_⟩
  have hbig := bigW_gt
  rw [argEnv_eq]
  simp only [envA]
  have hΓ := ctxOf_ok (P := Tryz.prog) (cx isAtom_ctr <| cx isAct_ctr <| cx0)
  repeat' (first | exact hb.elim | refine wS fun K hK => ?_ | refine wB ?_ | refine uR hΓ ?_ | refine uD hΓ fun B hB => ?_ | ((repeat ((fail_if_success (refine hK _ ?_)); clear hK K)); refine hK _ ?_; clear hK K) | refine u1 ?_ | refine uC (fun hb => ?_) fun hb => ?_ | refine u2 (fun hc => ?_) fun hc => ?_ | refine wI ?_ | refine ex_idx (by omega) ?_ | exact True.intro | fail)
  · have hf : traceOKB t = false := traceOKB_false.2 fun h => by have := h.len; omega
    rw [hf]
    simp [Tryz.results32, RetOK, RetP, backA, upd_at, plainB, getP, isOwn, anyOwn, isP]
  rotate_left
  · have hf : traceOKB t = false := traceOKB_false.2 fun h => by have := h.odd; omega
    rw [hf]
    simp [Tryz.results32, RetOK, RetP, backA, upd_at, plainB, getP, isOwn, anyOwn, isP]
  refine CW.loop (ι := Nat) (fun k => [(0, ints t), (14, ints t), (15, I t.length), (16, I k)]) (fun k => k ≤ t.length ∧ trTo t k) (fun k => t.length - k) 0 ?_ ?_
  · exact ⟨by (simp only [xe, xj, Nat.reduceEqDiff]; (try simp [view, viewL_map]); (try omega)), by omega, trTo_zero t⟩
  rintro k ⟨hk, hr⟩
  simp only [envOf]
  have hnth : ∀ h : k < t.length, nth t k = t[k] := fun h => nth_getElem h
  repeat' (first | exact hb.elim | refine wS fun K hK => ?_ | refine wB ?_ | refine uR hΓ ?_ | refine uD hΓ fun B hB => ?_ | ((repeat ((fail_if_success (refine hK _ ?_)); clear hK K)); refine hK _ ?_; clear hK K) | refine u1 ?_ | refine uC (fun hb => ?_) fun hb => ?_ | refine u2 (fun hc => ?_) fun hc => ?_ | refine wI ?_ | refine ex_idx (by omega) ?_ | exact True.intro | fail)
  · have hkl : k < t.length := by omega
    have hev : k % 2 = 0 := by omega
    (first | refine wA rfl _ (⟨_, rfl, rfl⟩) ?_ | refine dA rfl _ (⟨_, rfl, rfl⟩) ?_); simp (maxSteps := 2000000) only [go_sem]
    repeat' (first | exact hb.elim | refine wS fun K hK => ?_ | refine wB ?_ | refine uR hΓ ?_ | refine uD hΓ fun B hB => ?_ | ((repeat ((fail_if_success (refine hK _ ?_)); clear hK K)); refine hK _ ?_; clear hK K) | refine u1 ?_ | refine uC (fun hb => ?_) fun hb => ?_ | refine u2 (fun hc => ?_) fun hc => ?_ | refine wI ?_ | refine ex_idx (by omega) ?_ | exact True.intro | fail)
    · exfalso; omega
    · have ha : 0 ≤ t[k] ∧ t[k] ≤ 3 := by assumption
      refine ⟨k + 1, ?_, ⟨by omega, trTo_succ hr ⟨fun _ => by rw [hnth hkl]; exact ha, fun e => absurd hev (by omega)⟩⟩, by omega⟩
      (simp only [xe, xj, Nat.reduceEqDiff]; (try simp [view, viewL_map]); (try omega))
    · have ha : ¬ (0 ≤ t[k] ∧ t[k] ≤ 3) := by assumption
      have hf : traceOKB t = false := traceOKB_false.2 fun h => ha (by rw [← hnth hkl]; exact (h.to k hkl).1 hev)
      rw [hf]
      simp [Tryz.results32, RetOK, RetP, backA, upd_at, plainB, getP, isOwn, anyOwn, isP]
  · have hkl : k < t.length := by omega
    have hod : k % 2 = 1 := by omega
    (first | refine wA rfl _ (⟨_, rfl, rfl⟩) ?_ | refine dA rfl _ (⟨_, rfl, rfl⟩) ?_); simp (maxSteps := 2000000) only [go_sem]
    repeat' (first | exact hb.elim | refine wS fun K hK => ?_ | refine wB ?_ | refine uR hΓ ?_ | refine uD hΓ fun B hB => ?_ | ((repeat ((fail_if_success (refine hK _ ?_)); clear hK K)); refine hK _ ?_; clear hK K) | refine u1 ?_ | refine uC (fun hb => ?_) fun hb => ?_ | refine u2 (fun hc => ?_) fun hc => ?_ | refine wI ?_ | refine ex_idx (by omega) ?_ | exact True.intro | fail)
    · have ha : ¬ (16 ≤ t[k] ∧ t[k] ≤ 18) := by assumption
      have hf : traceOKB t = false := traceOKB_false.2 fun h => ha (by rw [← hnth hkl]; exact (h.to k hkl).2 hod)
      rw [hf]
      simp [Tryz.results32, RetOK, RetP, backA, upd_at, plainB, getP, isOwn, anyOwn, isP]
    · have ha : 16 ≤ t[k] ∧ t[k] ≤ 18 := by assumption
      refine ⟨k + 1, ?_, ⟨by omega, trTo_succ hr ⟨fun e => absurd hod (by omega), fun _ => by rw [hnth hkl]; exact ha⟩⟩, by omega⟩
      (simp only [xe, xj, Nat.reduceEqDiff]; (try simp [view, viewL_map]); (try omega))
  · exfalso; omega
  · have hke : k = t.length := by omega
    subst hke
    have hf : traceOKB t = true := traceOKB_true.2 (TraceOK.of (by omega) (by omega) hr)
    rw [hf]
    simp [Tryz.results32, RetOK, RetP, backA, upd_at, plainB, getP, isOwn, anyOwn, isP]

end Go.Proofs.YtehdfifncbokeaaGreat
