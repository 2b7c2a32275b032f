/- The law FnTraceBy, walked by the engine. -/
import Derived.Test.YtmhiipmajlmlgaaCU3
import Derived.Test.YtmhiipmajlmlgaaR17
import Derived.Test.YtmhiipmajlmlgaaF2
import Derived.Test.YtmhiipmajlmlgaaG2
import Derived.Test.YtmhiipmajlmlgaaR7a
import Derived.Test.YtmhiipmajlmlgaaDrawPt
import Derived.Test.YtmhiipmajlmlgaaGrpV
import Derived.Test.YtmhiipmajlmlgaaEngMin
namespace Go.Proofs.Ytmhiipmajlmlgaa
set_option linter.unusedSimpArgs false
set_option linter.unusedVariables false
set_option maxRecDepth 8000
set_option maxHeartbeats 2000000
open Go Go.RowKit AV

attribute [local go_sem] List.nil_prefix List.drop_zero List.drop_succ_cons List.take_zero List.take_succ_cons List.take_nil

theorem fnTraceBy_ctr : CtrOK Try.prog 6 (pureC codeR1) := by
  refine ctr_pure' Try.func6 rfl rfl Try.ntmps6 ?_
  rintro _ _ ⟨bs, rfl, hl, hb256, rfl⟩
  refine ⟨by simp, fun κ hκ => ?_⟩
  have hbig := bigW_gt
  rw [argEnv_eq]
  simp only [envA]
  have hΓ := ctxOf_ok (P := Try.prog) (cx drawTraceBy_ctr <| cx implTraceBy_ctr <| cx specTraceBy_ctr <| cx implTraceIn_ctr <| cx aliveL_ctr <| cx0)
  have htl := toldX_len (bs.take 2000) 0 5
  have hel : (toldX (bs.take 2000) 0 5).1.length ≤ 1000 := by
    rw [toldX_fst]
    have := katX_len (bs.take 2000) 0 5 12
    omega
  obtain ⟨e, he⟩ : ∃ e, (toldX (bs.take 2000) 0 5).1 = e := ⟨_, rfl⟩
  obtain ⟨t, ht⟩ : ∃ t, (toldX (bs.take 2000) 0 5).2.1 = t := ⟨_, rfl⟩
  rw [he] at hel
  rw [ht] at htl
  have hE := trb_trc e t
  obtain ⟨R, hR⟩ : ∃ R, trbB e t = R := ⟨_, rfl⟩
  rw [hR] at hE
  repeat' (first | refine wS fun K hK => ?_ | refine wB ?_ | ((first | refine wX hΓ ?_ | refine wV hΓ fun B hB => ?_); simp (config := { maxSteps := 2000000 }) only [go_sem]) | ((repeat ((fail_if_success (refine hK _ ?_)); clear hK K)); refine hK _ ?_; clear hK K) | (refine w1 ?_; simp only [xs, xi, Nat.reduceEqDiff, reduceCtorEq]) | (refine wC (fun hb => ?_) fun hb => ?_ <;> (try simp only [xb, reduceCtorEq] at hb)) | (refine w2 (fun hc => ?_) (fun hc => ?_) <;> (try simp only [xc] at hc) <;> (try simp only [go_sem, hc]) <;> (try simp only [xb] at hc)) | refine wI ?_ | refine ex_idx (by omega) ?_ | fail)
  · simp [Try.results6, RetOK, RetP, backA, upd_at, plainB, getP, isOwn, anyOwn, isP]
  (first | refine wA rfl ?_ ?_ ?_ | refine dA rfl ?_ ?_ ?_); exact (.tup [ints e, ints t]); exact (⟨bs, rfl, by omega, hb256, by rw [he, ht]⟩); simp (config := { maxSteps := 2000000 }) only [go_sem]
  repeat' (first | refine wS fun K hK => ?_ | refine wB ?_ | ((first | refine wX hΓ ?_ | refine wV hΓ fun B hB => ?_); simp (config := { maxSteps := 2000000 }) only [go_sem]) | ((repeat ((fail_if_success (refine hK _ ?_)); clear hK K)); refine hK _ ?_; clear hK K) | (refine w1 ?_; simp only [xs, xi, Nat.reduceEqDiff, reduceCtorEq]) | (refine wC (fun hb => ?_) fun hb => ?_ <;> (try simp only [xb, reduceCtorEq] at hb)) | (refine w2 (fun hc => ?_) (fun hc => ?_) <;> (try simp only [xc] at hc) <;> (try simp only [go_sem, hc]) <;> (try simp only [xb] at hc)) | refine wI ?_ | refine ex_idx (by omega) ?_ | fail)
  (first | refine wA rfl ?_ ?_ ?_ | refine dA rfl ?_ ?_ ?_); exact (.bool R); exact (⟨e, t, rfl, by omega, by omega, by rw [hR]⟩); simp (config := { maxSteps := 2000000 }) only [go_sem]
  repeat' (first | refine wS fun K hK => ?_ | refine wB ?_ | ((first | refine wX hΓ ?_ | refine wV hΓ fun B hB => ?_); simp (config := { maxSteps := 2000000 }) only [go_sem]) | ((repeat ((fail_if_success (refine hK _ ?_)); clear hK K)); refine hK _ ?_; clear hK K) | (refine w1 ?_; simp only [xs, xi, Nat.reduceEqDiff, reduceCtorEq]) | (refine wC (fun hb => ?_) fun hb => ?_ <;> (try simp only [xb, reduceCtorEq] at hb)) | (refine w2 (fun hc => ?_) (fun hc => ?_) <;> (try simp only [xc] at hc) <;> (try simp only [go_sem, hc]) <;> (try simp only [xb] at hc)) | refine wI ?_ | refine ex_idx (by omega) ?_ | fail)
  (first | refine wA rfl ?_ ?_ ?_ | refine dA rfl ?_ ?_ ?_); exact (.bool R); exact (⟨e, t, rfl, by omega, by omega, by rw [hR]⟩); simp (config := { maxSteps := 2000000 }) only [go_sem]
  simp (config := { maxSteps := 2000000 }) only [go_sem, beq_self_eq_true]
  repeat' (first | refine wS fun K hK => ?_ | refine wB ?_ | ((first | refine wX hΓ ?_ | refine wV hΓ fun B hB => ?_); simp (config := { maxSteps := 2000000 }) only [go_sem, beq_self_eq_true]) | ((repeat ((fail_if_success (refine hK _ ?_)); clear hK K)); refine hK _ ?_; clear hK K) | (refine w1 ?_; simp only [xs, xi, Nat.reduceEqDiff, reduceCtorEq]) | (refine wC (fun hb => ?_) fun hb => ?_ <;> (try simp only [xb, reduceCtorEq] at hb)) | (refine w2 (fun hc => ?_) (fun hc => ?_) <;> (try simp only [xc] at hc) <;> (try simp only [go_sem, hc, beq_self_eq_true]) <;> (try simp only [xb] at hc)) | refine wI ?_ | refine ex_idx (by omega) ?_ | fail)
  (first | refine wA rfl ?_ ?_ ?_ | refine dA rfl ?_ ?_ ?_); exact (.bool R); exact (⟨e, t, rfl, by omega, by omega, by rw [hE]⟩); simp (config := { maxSteps := 2000000 }) only [go_sem]
  simp (config := { maxSteps := 2000000 }) only [go_sem, beq_self_eq_true]
  repeat' (first | refine wS fun K hK => ?_ | refine wB ?_ | ((first | refine wX hΓ ?_ | refine wV hΓ fun B hB => ?_); simp (config := { maxSteps := 2000000 }) only [go_sem, beq_self_eq_true]) | ((repeat ((fail_if_success (refine hK _ ?_)); clear hK K)); refine hK _ ?_; clear hK K) | (refine w1 ?_; simp only [xs, xi, Nat.reduceEqDiff, reduceCtorEq]) | (refine wC (fun hb => ?_) fun hb => ?_ <;> (try simp only [xb, reduceCtorEq] at hb)) | (refine w2 (fun hc => ?_) (fun hc => ?_) <;> (try simp only [xc] at hc) <;> (try simp only [go_sem, hc, beq_self_eq_true]) <;> (try simp only [xb] at hc)) | refine wI ?_ | refine ex_idx (by omega) ?_ | fail)
  (first | refine wA rfl _ (⟨rfl, rfl⟩) ?_ | refine dA rfl _ (⟨rfl, rfl⟩) ?_); simp (config := { maxSteps := 2000000 }) only [go_sem]
  repeat' (first | refine wS fun K hK => ?_ | refine wB ?_ | ((first | refine wX hΓ ?_ | refine wV hΓ fun B hB => ?_); simp (config := { maxSteps := 2000000 }) only [go_sem]) | ((repeat ((fail_if_success (refine hK _ ?_)); clear hK K)); refine hK _ ?_; clear hK K) | (refine w1 ?_; simp only [xs, xi, Nat.reduceEqDiff, reduceCtorEq]) | (refine wC (fun hb => ?_) fun hb => ?_ <;> (try simp only [xb, reduceCtorEq] at hb)) | (refine w2 (fun hc => ?_) (fun hc => ?_) <;> (try simp only [xc] at hc) <;> (try simp only [go_sem, hc]) <;> (try simp only [xb] at hc)) | refine wI ?_ | refine ex_idx (by omega) ?_ | fail)
  simp [Try.results6, RetOK, RetP, backA, upd_at, plainB, getP, isOwn, anyOwn, isP]

end Go.Proofs.Ytmhiipmajlmlgaa
