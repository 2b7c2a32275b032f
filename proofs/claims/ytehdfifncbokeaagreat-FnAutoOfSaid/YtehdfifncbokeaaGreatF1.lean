/- The reference's PartsOf, BeginsWith, TraceValid and AllParts, walked by the engine. -/
import Derived.Test.YtehdfifncbokeaaGreatGrpE
import Derived.Test.YtehdfifncbokeaaGreatGrpC
import Derived.Test.YtehdfifncbokeaaGreatEngMin
namespace Go.Proofs.YtehdfifncbokeaaGreat
set_option linter.unusedSimpArgs false
set_option linter.unusedVariables false
set_option maxRecDepth 8000
set_option maxHeartbeats 2000000
open Go Go.RowKit AV

def traceValidR (args : List AV) (r : AV) : Prop := ∃ t : List Int, args = [ints t] ∧ t.length ≤ 1099511627776 ∧ r = .bool (traceOKB t)

def allPartsSR (args : List AV) (r : AV) : Prop := ∃ e : List Int, args = [ints e] ∧ e.length ≤ 1048576 ∧ r = rows (allD e)
theorem specAllParts_ctr : CtrOK Tryz.prog 26 (pureC allPartsSR) := by
  refine ctr_pure' Tryz.func26 rfl rfl Tryz.ntmps26 ?_
  rintro _ _ ⟨e, rfl, hl, rfl⟩
  refine ⟨by simp, fun κ hκ => ?_⟩
  have hbig := bigW_gt
  rw [argEnv_eq]
  simp only [envA]
  have hΓ := ctxOf_ok (P := Tryz.prog) (cx specKatValid_ctr <| cx l4All_ctr <| cx0)
  repeat' (first | exact hb.elim | refine wS fun K hK => ?_ | refine wB ?_ | refine uR hΓ ?_ | refine uD hΓ fun B hB => ?_ | ((repeat ((fail_if_success (refine hK _ ?_)); clear hK K)); refine hK _ ?_; clear hK K) | refine u1 ?_ | refine uC (fun hb => ?_) fun hb => ?_ | refine u2 (fun hc => ?_) fun hc => ?_ | refine wI ?_ | refine ex_idx (by omega) ?_ | exact True.intro | fail)
  (first | refine wA rfl _ (⟨e, rfl, by omega, rfl⟩) ?_ | refine dA rfl _ (⟨e, rfl, by omega, rfl⟩) ?_); simp (maxSteps := 2000000) only [go_sem]
  repeat' (first | exact hb.elim | refine wS fun K hK => ?_ | refine wB ?_ | refine uR hΓ ?_ | refine uD hΓ fun B hB => ?_ | ((repeat ((fail_if_success (refine hK _ ?_)); clear hK K)); refine hK _ ?_; clear hK K) | refine u1 ?_ | refine uC (fun hb => ?_) fun hb => ?_ | refine u2 (fun hc => ?_) fun hc => ?_ | refine wI ?_ | refine ex_idx (by omega) ?_ | exact True.intro | fail)
  · have hk := ‹katB e = false›
    rw [show allD e = [] from if_neg (by simp [hk])]
    simp [Tryz.results26, RetOK, RetP, backA, upd_at, plainB, getP, isOwn, anyOwn, isP]
    simp [view, viewL]
  · have hk := ‹katB e = true›
    obtain ⟨x, hw, rfl, h40⟩ := katB_tree hk
    (first | refine wA rfl _ (⟨x, rfl, hw, h40, rfl⟩) ?_ | refine dA rfl _ (⟨x, rfl, hw, h40, rfl⟩) ?_); simp (maxSteps := 2000000) only [go_sem]
    repeat' (first | exact hb.elim | refine wS fun K hK => ?_ | refine wB ?_ | refine uR hΓ ?_ | refine uD hΓ fun B hB => ?_ | ((repeat ((fail_if_success (refine hK _ ?_)); clear hK K)); refine hK _ ?_; clear hK K) | refine u1 ?_ | refine uC (fun hb => ?_) fun hb => ?_ | refine u2 (fun hc => ?_) fun hc => ?_ | refine wI ?_ | refine ex_idx (by omega) ?_ | exact True.intro | fail)
    rw [show allD x.steps = allL x.steps from if_pos hk]
    simp [Tryz.results26, RetOK, RetP, backA, upd_at, plainB, getP, isOwn, anyOwn, isP]

end Go.Proofs.YtehdfifncbokeaaGreat
