/- Rows cloned, put behind one another, put in order, in the program: walked by the engine. -/
import Derived.Test.YtehdfifncbokeaaGreatD5
import Derived.Test.YtehdfifncbokeaaGreatGrpT
import Derived.Test.YtehdfifncbokeaaGreatGrpJ
import Derived.Test.YtehdfifncbokeaaGreatEngMin
namespace Go.Proofs.YtehdfifncbokeaaGreat
set_option linter.unusedSimpArgs false
set_option linter.unusedVariables false
set_option maxRecDepth 8000
set_option maxHeartbeats 2000000
open Go Go.RowKit AV

def behind2R (args : List AV) (r : AV) : Prop := ∃ (a b : List Int), args = [ints a, ints b] ∧ a ≠ [] ∧ b ≠ [] ∧ a.length ≤ 274877906944 ∧ b.length ≤ 274877906944 ∧ r = oints (behL a b)
theorem behind2_ctr : CtrOK Tryz.prog 45 (pureC behind2R) := by
  refine ctr_pure' Tryz.func45 rfl rfl Tryz.ntmps45 ?_
  rintro _ _ ⟨a, b, rfl, hna, hnb, ha, hb0, rfl⟩
  refine ⟨by simp, fun κ hκ => ?_⟩
  have hbig := bigW_gt
  rw [argEnv_eq]
  simp only [envA]
  have hΓ := ctxOf_ok (P := Tryz.prog) (cx clone_ctr <| cx0)
  repeat' (first | exact hb.elim | refine wS fun K hK => ?_ | refine wB ?_ | refine uR hΓ ?_ | refine uD hΓ fun B hB => ?_ | ((repeat ((fail_if_success (refine hK _ ?_)); clear hK K)); refine hK _ ?_; clear hK K) | refine u1 ?_ | refine uC (fun hb => ?_) fun hb => ?_ | refine u2 (fun hc => ?_) fun hc => ?_ | refine wI ?_ | refine ex_idx (by omega) ?_ | exact True.intro | fail)
  · (first | refine wA rfl _ (⟨b, rfl, hnb, hb0, rfl⟩) ?_ | refine dA rfl _ (⟨b, rfl, hnb, hb0, rfl⟩) ?_); simp (maxSteps := 2000000) only [go_sem]
    repeat' (first | exact hb.elim | refine wS fun K hK => ?_ | refine wB ?_ | refine uR hΓ ?_ | refine uD hΓ fun B hB => ?_ | ((repeat ((fail_if_success (refine hK _ ?_)); clear hK K)); refine hK _ ?_; clear hK K) | refine u1 ?_ | refine uC (fun hb => ?_) fun hb => ?_ | refine u2 (fun hc => ?_) fun hc => ?_ | refine wI ?_ | refine ex_idx (by omega) ?_ | exact True.intro | fail)
    have h15 : a = [15] := by
      obtain ⟨x, rfl⟩ := List.length_eq_one_iff.1 (show a.length = 1 by omega)
      simp_all
    have hfin : behL a b = b := if_pos h15
    rw [hfin]
    simp [Tryz.results45, RetOK, RetP, backA, upd_at, plainB, getP, isOwn, anyOwn, isP]
  · (first | refine wA rfl _ (⟨a, rfl, hna, ha, rfl⟩) ?_ | refine dA rfl _ (⟨a, rfl, hna, ha, rfl⟩) ?_); simp (maxSteps := 2000000) only [go_sem]
    repeat' (first | exact hb.elim | refine wS fun K hK => ?_ | refine wB ?_ | refine uR hΓ ?_ | refine uD hΓ fun B hB => ?_ | ((repeat ((fail_if_success (refine hK _ ?_)); clear hK K)); refine hK _ ?_; clear hK K) | refine u1 ?_ | refine uC (fun hb => ?_) fun hb => ?_ | refine u2 (fun hc => ?_) fun hc => ?_ | refine wI ?_ | refine ex_idx (by omega) ?_ | exact True.intro | fail)
    have hfin : behL a b = a ++ (b ++ [19]) := if_neg (by rintro rfl; simp_all)
    rw [hfin]
    simp [Tryz.results45, RetOK, RetP, backA, upd_at, plainB, getP, isOwn, anyOwn, isP]
    all_goals trace_state
  · (first | refine wA rfl _ (⟨a, rfl, hna, ha, rfl⟩) ?_ | refine dA rfl _ (⟨a, rfl, hna, ha, rfl⟩) ?_); simp (maxSteps := 2000000) only [go_sem]
    repeat' (first | exact hb.elim | refine wS fun K hK => ?_ | refine wB ?_ | refine uR hΓ ?_ | refine uD hΓ fun B hB => ?_ | ((repeat ((fail_if_success (refine hK _ ?_)); clear hK K)); refine hK _ ?_; clear hK K) | refine u1 ?_ | refine uC (fun hb => ?_) fun hb => ?_ | refine u2 (fun hc => ?_) fun hc => ?_ | refine wI ?_ | refine ex_idx (by omega) ?_ | exact True.intro | fail)
    have hfin : behL a b = a ++ (b ++ [19]) := if_neg (by rintro rfl; simp_all)
    rw [hfin]
    simp [Tryz.results45, RetOK, RetP, backA, upd_at, plainB, getP, isOwn, anyOwn, isP]
    all_goals trace_state

def orderedR (args : List AV) (r : AV) : Prop := ∃ l : LL, args = [oorows l] ∧ l.length ≤ 1048576 ∧ (∀ x ∈ l, x.length ≤ 1099511627776) ∧ r = oorows (ordL l)
theorem ordered_ctr : CtrOK Tryz.prog 47 (takeC orderedR) := by
  refine ctr_take Tryz.func47 rfl rfl Tryz.ntmps47 ?_
  rintro _ _ ⟨l, rfl, hl, hx, rfl⟩
  refine ⟨by simp, fun κ hκ => ?_⟩
  have hbig := bigW_gt
  rw [argEnv_eq]
  simp only [envA]
  have hΓ := ctxOf_ok (P := Tryz.prog) (cx sortFunc_ctr <| cx compactO_ctr <| cx0)
  have h1 := sortL_perm l
  have h2 := sortL_ord l
  have h3 : ordL (sortL l) = ordL l := ordL_congr fun t => h1.mem_iff
  have h4 : (sortL l).length = l.length := h1.length_eq
  repeat' (first | exact hb.elim | refine wS fun K hK => ?_ | refine wB ?_ | refine uR hΓ ?_ | refine uD hΓ fun B hB => ?_ | ((repeat ((fail_if_success (refine hK _ ?_)); clear hK K)); refine hK _ ?_; clear hK K) | refine u1 ?_ | refine uC (fun hb => ?_) fun hb => ?_ | refine u2 (fun hc => ?_) fun hc => ?_ | refine wI ?_ | refine ex_idx (by omega) ?_ | exact True.intro | fail)
  (first | refine W_askE rfl _ _ (⟨l, rfl, hl, rfl, rfl⟩) ?_ | refine D_askE rfl _ _ (⟨l, rfl, hl, rfl, rfl⟩) ?_); simp (maxSteps := 2000000) only [go_sem]
  repeat' (first | exact hb.elim | refine wS fun K hK => ?_ | refine wB ?_ | refine uR hΓ ?_ | refine uD hΓ fun B hB => ?_ | ((repeat ((fail_if_success (refine hK _ ?_)); clear hK K)); refine hK _ ?_; clear hK K) | refine u1 ?_ | refine uC (fun hb => ?_) fun hb => ?_ | refine u2 (fun hc => ?_) fun hc => ?_ | refine wI ?_ | refine ex_idx (by omega) ?_ | exact True.intro | fail)
  (first | refine W_askT rfl _ (⟨sortL l, rfl, h2, by omega, fun x h => hx x (h1.mem_iff.1 h), rfl⟩) ?_ | refine D_askT rfl _ (⟨sortL l, rfl, h2, by omega, fun x h => hx x (h1.mem_iff.1 h), rfl⟩) ?_); simp (maxSteps := 2000000) only [go_sem]
  repeat' (first | exact hb.elim | refine wS fun K hK => ?_ | refine wB ?_ | refine uR hΓ ?_ | refine uD hΓ fun B hB => ?_ | ((repeat ((fail_if_success (refine hK _ ?_)); clear hK K)); refine hK _ ?_; clear hK K) | refine u1 ?_ | refine uC (fun hb => ?_) fun hb => ?_ | refine u2 (fun hc => ?_) fun hc => ?_ | refine wI ?_ | refine ex_idx (by omega) ?_ | exact True.intro | fail)
  rw [h3]
  simp [Tryz.results47, RetOK, RetP, backA, upd_at, plainB, getP, isOwn, anyOwn, isP, *]

end Go.Proofs.YtehdfifncbokeaaGreat
