/- The draw of an expression and a trace, walked by the engine. -/
import Derived.Test.YtehdfifncbokeaaGreatGrpX
import Derived.Test.YtehdfifncbokeaaGreatEngMin
namespace Go.Proofs.YtehdfifncbokeaaGreat
set_option linter.unusedSimpArgs false
set_option linter.unusedVariables false
set_option maxRecDepth 8000
set_option maxHeartbeats 2000000
open Go Go.RowKit AV

def drawTBR (args : List AV) (r : AV) : Prop := ∃ bs : List Nat, args = [byts bs] ∧ bs.length ≤ 1099511627776 ∧ (∀ b ∈ bs, b < 256) ∧ r = .tup [ints (toldX (bs.take 2000) 0 5).1, ints (toldX (bs.take 2000) 0 5).2.1]
theorem drawTraceBy_ctr : CtrOK Tryz.prog 10 (pureC drawTBR) := by
  refine ctr_pure' Tryz.func10 rfl rfl Tryz.ntmps10 ?_
  rintro _ _ ⟨bs, rfl, hl, hb256, rfl⟩
  refine ⟨by simp, fun κ hκ => ?_⟩
  have hbig := bigW_gt
  rw [argEnv_eq]
  simp only [envA]
  have hΓ := ctxOf_ok (P := Tryz.prog) (cx open_ctr <| cx told_ctr <| cx0)
  have hcd : CodeOK (bs.take 2000) := ⟨by simp; omega, fun b hb => hb256 b (List.mem_of_mem_take hb)⟩
  obtain ⟨⟨e, t, p1⟩, hD⟩ : ∃ o, toldX (bs.take 2000) 0 5 = o := ⟨_, rfl⟩
  simp only [hD]
  repeat' (first | exact hb.elim | refine wS fun K hK => ?_ | refine wB ?_ | refine uR hΓ ?_ | refine uD hΓ fun B hB => ?_ | ((repeat ((fail_if_success (refine hK _ ?_)); clear hK K)); refine hK _ ?_; clear hK K) | refine u1 ?_ | refine uC (fun hb => ?_) fun hb => ?_ | refine u2 (fun hc => ?_) fun hc => ?_ | refine wI ?_ | refine ex_idx (by omega) ?_ | exact True.intro | fail)
  (first | refine wA rfl _ (⟨bs, rfl, hl, rfl⟩) ?_ | refine dA rfl _ (⟨bs, rfl, hl, rfl⟩) ?_); simp (maxSteps := 2000000) only [go_sem]
  repeat' (first | exact hb.elim | refine wS fun K hK => ?_ | refine wB ?_ | refine uR hΓ ?_ | refine uD hΓ fun B hB => ?_ | ((repeat ((fail_if_success (refine hK _ ?_)); clear hK K)); refine hK _ ?_; clear hK K) | refine u1 ?_ | refine uC (fun hb => ?_) fun hb => ?_ | refine u2 (fun hc => ?_) fun hc => ?_ | refine wI ?_ | refine ex_idx (by omega) ?_ | exact True.intro | fail)
  (first | refine W_askE rfl _ _ (⟨bs.take 2000, 0, 5, rfl, hcd, by omega, by omega, rfl, rfl⟩) ?_ | refine D_askE rfl _ _ (⟨bs.take 2000, 0, 5, rfl, hcd, by omega, by omega, rfl, rfl⟩) ?_); simp (maxSteps := 2000000) only [go_sem]
  rw [hD]
  dsimp only
  repeat' (first | exact hb.elim | refine wS fun K hK => ?_ | refine wB ?_ | refine uR hΓ ?_ | refine uD hΓ fun B hB => ?_ | ((repeat ((fail_if_success (refine hK _ ?_)); clear hK K)); refine hK _ ?_; clear hK K) | refine u1 ?_ | refine uC (fun hb => ?_) fun hb => ?_ | refine u2 (fun hc => ?_) fun hc => ?_ | refine wI ?_ | refine ex_idx (by omega) ?_ | exact True.intro | fail)
  (rw [Tryz.results10]; refine ⟨_, _, rfl, by decide, rfl, rfl, ?_, ?_⟩ <;> simp [upd_at, view, viewL_map, view_I])

end Go.Proofs.YtehdfifncbokeaaGreat
