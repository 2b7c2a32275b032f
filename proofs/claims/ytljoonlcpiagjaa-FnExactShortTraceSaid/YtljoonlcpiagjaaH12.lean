/- The law FnExactShortTrace, walked by the engine. -/
import Derived.Test.YtljoonlcpiagjaaX2
import Derived.Test.YtljoonlcpiagjaaGrpF
import Derived.Test.YtljoonlcpiagjaaGrpJ
import Derived.Test.YtljoonlcpiagjaaK0
import Derived.Test.YtljoonlcpiagjaaHB
import Derived.Test.YtljoonlcpiagjaaEngMin
namespace Go.Proofs.Ytljoonlcpiagjaa
set_option linter.unusedSimpArgs false
set_option linter.unusedVariables false
set_option maxRecDepth 8000
set_option maxHeartbeats 2000000
open Go Go.RowKit AV

theorem shTD_len (D : AutoD) : (shTD D).length ≤ 41 := by
  unfold shTD
  split
  · exact (sh_spec (behF D) 1 (endF D)).len
  · simp
def lawShR (args : List AV) (r : AV) : Prop := ∃ (E : List Int) (N : List (List Int)), args = [agg [ints E, rows N]] ∧ E.length ≤ 9223372036854775807 ∧ N.length ≤ 9223372036854775807 ∧ (∀ x ∈ N, x.length ≤ 9223372036854775807) ∧ r = .bool true

set_option maxHeartbeats 2000000 in
theorem fnExactShortTrace_ctr : CtrOK Try.prog 9 (pureC lawShR) := by
  refine ctr_pure' Try.func9 rfl rfl Try.ntmps9 ?_
  rintro _ _ ⟨E, N, rfl, hE, hN, hr, rfl⟩
  refine ⟨by simp, fun κ hκ => ?_⟩
  have hbig := bigW_gt
  rw [argEnv_eq]
  simp only [envA]
  have hΓ := ctxOf_ok (P := Try.prog) (cx szAuto_ctr <| cx toAuto_ctr <| cx specShortTrace_ctr <| cx implShortTrace_ctr <| cx eqIntS_ctr <| cx eqAuto_ctr <| cx markAuto_ctr <| cx markIntS_ctr <| cx heldIntS_ctr <| cx0)
  repeat' (first | refine wS fun K hK => ?_ | refine wB ?_ | ((first | refine wX hΓ ?_ | refine wV hΓ fun B hB => ?_); simp (config := { maxSteps := 2000000 }) only [go_sem]) | ((repeat ((fail_if_success (refine hK _ ?_)); clear hK K)); refine hK _ ?_; clear hK K) | (refine w1 ?_; simp only [xs, xi, Nat.reduceEqDiff, reduceCtorEq]) | (refine wC (fun hb => ?_) fun hb => ?_ <;> (try simp only [xb, reduceCtorEq] at hb)) | (refine w2 (fun hc => ?_) (fun hc => ?_) <;> (try simp only [xc] at hc) <;> (try simp only [go_sem, hc]) <;> (try simp only [xb] at hc)) | refine wI ?_ | refine ex_idx (by omega) ?_ | fail)
  (first | refine wA rfl _ (⟨_, _, _, rfl, by omega, by omega, hE, hN, hr, rfl⟩) ?_ | refine dA rfl _ (⟨_, _, _, rfl, by omega, by omega, hE, hN, hr, rfl⟩) ?_); simp (config := { maxSteps := 2000000 }) only [go_sem]
  repeat' (first | refine wS fun K hK => ?_ | refine wB ?_ | ((first | refine wX hΓ ?_ | refine wV hΓ fun B hB => ?_); simp (config := { maxSteps := 2000000 }) only [go_sem]) | ((repeat ((fail_if_success (refine hK _ ?_)); clear hK K)); refine hK _ ?_; clear hK K) | (refine w1 ?_; simp only [xs, xi, Nat.reduceEqDiff, reduceCtorEq]) | (refine wC (fun hb => ?_) fun hb => ?_ <;> (try simp only [xb, reduceCtorEq] at hb)) | (refine w2 (fun hc => ?_) (fun hc => ?_) <;> (try simp only [xc] at hc) <;> (try simp only [go_sem, hc]) <;> (try simp only [xb] at hc)) | refine wI ?_ | refine ex_idx (by omega) ?_ | fail)
  · simp [Try.results9, RetOK, RetP, backA, upd_at, plainB, getP, isOwn, anyOwn, isP]
  have h1 := szA_ok (Int.le_refl _) (by omega : 0 ≤ szA 1048576 E N)
  have hX : smallE E N := ⟨by omega, by omega, fun x hx => by have := h1.2.2.2 x hx; omega⟩
  have hXt : totR N ≤ 1048576 * 1048576 := Nat.le_trans (totR_bound' N 1048576 h1.2.2.2) (Nat.mul_le_mul_right _ h1.2.2.1)
  have hTl := shTD_len ⟨E, N⟩
  obtain ⟨T, hT⟩ : ∃ T, shTD ⟨E, N⟩ = T := ⟨_, rfl⟩
  obtain ⟨Bo, hBe⟩ : ∃ Bo, shBD ⟨E, N⟩ = Bo := ⟨_, rfl⟩
  rw [hT] at hTl
  have h6 : E.length ≤ 4611686018427387904 ∧ N.length ≤ 4611686018427387904 ∧ ∀ x ∈ N, x.length ≤ 4611686018427387904 := ⟨by omega, by omega, fun x hx => by have := h1.2.2.2 x hx; omega⟩
  (first | refine wA rfl _ (⟨_, _, rfl, hX.1, hX.2.1, hX.2.2, rfl⟩) ?_ | refine dA rfl _ (⟨_, _, rfl, hX.1, hX.2.1, hX.2.2, rfl⟩) ?_); simp (config := { maxSteps := 2000000 }) only [go_sem]
  repeat' (first | refine wS fun K hK => ?_ | refine wB ?_ | ((first | refine wX hΓ ?_ | refine wV hΓ fun B hB => ?_); simp (config := { maxSteps := 2000000 }) only [go_sem]) | ((repeat ((fail_if_success (refine hK _ ?_)); clear hK K)); refine hK _ ?_; clear hK K) | (refine w1 ?_; simp only [xs, xi, Nat.reduceEqDiff, reduceCtorEq]) | (refine wC (fun hb => ?_) fun hb => ?_ <;> (try simp only [xb, reduceCtorEq] at hb)) | (refine w2 (fun hc => ?_) (fun hc => ?_) <;> (try simp only [xc] at hc) <;> (try simp only [go_sem, hc]) <;> (try simp only [xb] at hc)) | refine wI ?_ | refine ex_idx (by omega) ?_ | fail)
  (first | refine wA rfl ?_ ?_ ?_ | refine dA rfl ?_ ?_ ?_); exact (.tup [oints T, .bool Bo]); exact (⟨⟨E, N⟩, rfl, h6.1, h6.2.1, h6.2.2, by rw [hT, hBe]⟩); simp (config := { maxSteps := 2000000 }) only [go_sem]
  repeat' (first | refine wS fun K hK => ?_ | refine wB ?_ | ((first | refine wX hΓ ?_ | refine wV hΓ fun B hB => ?_); simp (config := { maxSteps := 2000000 }) only [go_sem]) | ((repeat ((fail_if_success (refine hK _ ?_)); clear hK K)); refine hK _ ?_; clear hK K) | (refine w1 ?_; simp only [xs, xi, Nat.reduceEqDiff, reduceCtorEq]) | (refine wC (fun hb => ?_) fun hb => ?_ <;> (try simp only [xb, reduceCtorEq] at hb)) | (refine w2 (fun hc => ?_) (fun hc => ?_) <;> (try simp only [xc] at hc) <;> (try simp only [go_sem, hc]) <;> (try simp only [xb] at hc)) | refine wI ?_ | refine ex_idx (by omega) ?_ | fail)
  (first | refine wA rfl _ (⟨_, _, rfl, hX.1, hX.2.1, hX.2.2, rfl⟩) ?_ | refine dA rfl _ (⟨_, _, rfl, hX.1, hX.2.1, hX.2.2, rfl⟩) ?_); simp (config := { maxSteps := 2000000 }) only [go_sem]
  repeat' (first | refine wS fun K hK => ?_ | refine wB ?_ | ((first | refine wX hΓ ?_ | refine wV hΓ fun B hB => ?_); simp (config := { maxSteps := 2000000 }) only [go_sem]) | ((repeat ((fail_if_success (refine hK _ ?_)); clear hK K)); refine hK _ ?_; clear hK K) | (refine w1 ?_; simp only [xs, xi, Nat.reduceEqDiff, reduceCtorEq]) | (refine wC (fun hb => ?_) fun hb => ?_ <;> (try simp only [xb, reduceCtorEq] at hb)) | (refine w2 (fun hc => ?_) (fun hc => ?_) <;> (try simp only [xc] at hc) <;> (try simp only [go_sem, hc]) <;> (try simp only [xb] at hc)) | refine wI ?_ | refine ex_idx (by omega) ?_ | fail)
  (first | refine wA rfl ?_ ?_ ?_ | refine dA rfl ?_ ?_ ?_); exact (.tup [oints T, .bool Bo]); exact (⟨⟨E, N⟩, rfl, h6.1, h6.2.1, h6.2.2, by rw [hT, hBe]⟩); simp (config := { maxSteps := 2000000 }) only [go_sem]
  repeat' (first | refine wS fun K hK => ?_ | refine wB ?_ | ((first | refine wX hΓ ?_ | refine wV hΓ fun B hB => ?_); simp (config := { maxSteps := 2000000 }) only [go_sem]) | ((repeat ((fail_if_success (refine hK _ ?_)); clear hK K)); refine hK _ ?_; clear hK K) | (refine w1 ?_; simp only [xs, xi, Nat.reduceEqDiff, reduceCtorEq]) | (refine wC (fun hb => ?_) fun hb => ?_ <;> (try simp only [xb, reduceCtorEq] at hb)) | (refine w2 (fun hc => ?_) (fun hc => ?_) <;> (try simp only [xc] at hc) <;> (try simp only [go_sem, hc]) <;> (try simp only [xb] at hc)) | refine wI ?_ | refine ex_idx (by omega) ?_ | fail)
  (first | refine wA rfl _ (⟨T, T, rfl, by omega, by omega, rfl⟩) ?_ | refine dA rfl _ (⟨T, T, rfl, by omega, by omega, rfl⟩) ?_); simp (config := { maxSteps := 2000000 }) only [go_sem]
  repeat' (first | refine wS fun K hK => ?_ | refine wB ?_ | ((first | refine wX hΓ ?_ | refine wV hΓ fun B hB => ?_); simp (config := { maxSteps := 2000000 }) only [go_sem]) | ((repeat ((fail_if_success (refine hK _ ?_)); clear hK K)); refine hK _ ?_; clear hK K) | (refine w1 ?_; simp only [xs, xi, Nat.reduceEqDiff, reduceCtorEq]) | (refine wC (fun hb => ?_) fun hb => ?_ <;> (try simp only [xb, reduceCtorEq] at hb)) | (refine w2 (fun hc => ?_) (fun hc => ?_) <;> (try simp only [xc] at hc) <;> (try simp only [go_sem, hc]) <;> (try simp only [xb] at hc)) | refine wI ?_ | refine ex_idx (by omega) ?_ | fail)
  all_goals try (exfalso; first | omega | (simp at hb; done))
  (first | refine wA rfl _ (⟨_, _, rfl, hX.1, hX.2.1, hX.2.2, rfl⟩) ?_ | refine dA rfl _ (⟨_, _, rfl, hX.1, hX.2.1, hX.2.2, rfl⟩) ?_); simp (config := { maxSteps := 2000000 }) only [go_sem]
  repeat' (first | refine wS fun K hK => ?_ | refine wB ?_ | ((first | refine wX hΓ ?_ | refine wV hΓ fun B hB => ?_); simp (config := { maxSteps := 2000000 }) only [go_sem]) | ((repeat ((fail_if_success (refine hK _ ?_)); clear hK K)); refine hK _ ?_; clear hK K) | (refine w1 ?_; simp only [xs, xi, Nat.reduceEqDiff, reduceCtorEq]) | (refine wC (fun hb => ?_) fun hb => ?_ <;> (try simp only [xb, reduceCtorEq] at hb)) | (refine w2 (fun hc => ?_) (fun hc => ?_) <;> (try simp only [xc] at hc) <;> (try simp only [go_sem, hc]) <;> (try simp only [xb] at hc)) | refine wI ?_ | refine ex_idx (by omega) ?_ | fail)
  (first | refine wA rfl _ (⟨_, _, _, _, rfl, hX.1, hX.1, hX.2.1, hX.2.1, hX.2.2, hX.2.2, rfl⟩) ?_ | refine dA rfl _ (⟨_, _, _, _, rfl, hX.1, hX.1, hX.2.1, hX.2.1, hX.2.2, hX.2.2, rfl⟩) ?_); simp (config := { maxSteps := 2000000 }) only [go_sem]
  repeat' (first | refine wS fun K hK => ?_ | refine wB ?_ | ((first | refine wX hΓ ?_ | refine wV hΓ fun B hB => ?_); simp (config := { maxSteps := 2000000 }) only [go_sem]) | ((repeat ((fail_if_success (refine hK _ ?_)); clear hK K)); refine hK _ ?_; clear hK K) | (refine w1 ?_; simp only [xs, xi, Nat.reduceEqDiff, reduceCtorEq]) | (refine wC (fun hb => ?_) fun hb => ?_ <;> (try simp only [xb, reduceCtorEq] at hb)) | (refine w2 (fun hc => ?_) (fun hc => ?_) <;> (try simp only [xc] at hc) <;> (try simp only [go_sem, hc]) <;> (try simp only [xb] at hc)) | refine wI ?_ | refine ex_idx (by omega) ?_ | fail)
  (first | refine W_askE rfl _ _ (⟨_, _, _, rfl, by omega, by omega, by omega, by omega, rfl, rfl⟩) ?_ | refine D_askE rfl _ _ (⟨_, _, _, rfl, by omega, by omega, by omega, by omega, rfl, rfl⟩) ?_); simp (config := { maxSteps := 2000000 }) only [go_sem]
  repeat' (first | refine wS fun K hK => ?_ | refine wB ?_ | ((first | refine wX hΓ ?_ | refine wV hΓ fun B hB => ?_); simp (config := { maxSteps := 2000000 }) only [go_sem]) | ((repeat ((fail_if_success (refine hK _ ?_)); clear hK K)); refine hK _ ?_; clear hK K) | (refine w1 ?_; simp only [xs, xi, Nat.reduceEqDiff, reduceCtorEq]) | (refine wC (fun hb => ?_) fun hb => ?_ <;> (try simp only [xb, reduceCtorEq] at hb)) | (refine w2 (fun hc => ?_) (fun hc => ?_) <;> (try simp only [xc] at hc) <;> (try simp only [go_sem, hc]) <;> (try simp only [xb] at hc)) | refine wI ?_ | refine ex_idx (by omega) ?_ | fail)
  all_goals try (exfalso; first | omega | (simp at hb; done))
  (first | refine wA rfl _ (⟨T, T, rfl, by omega, by omega, rfl⟩) ?_ | refine dA rfl _ (⟨T, T, rfl, by omega, by omega, rfl⟩) ?_); simp (config := { maxSteps := 2000000 }) only [go_sem]
  repeat' (first | refine wS fun K hK => ?_ | refine wB ?_ | ((first | refine wX hΓ ?_ | refine wV hΓ fun B hB => ?_); simp (config := { maxSteps := 2000000 }) only [go_sem]) | ((repeat ((fail_if_success (refine hK _ ?_)); clear hK K)); refine hK _ ?_; clear hK K) | (refine w1 ?_; simp only [xs, xi, Nat.reduceEqDiff, reduceCtorEq]) | (refine wC (fun hb => ?_) fun hb => ?_ <;> (try simp only [xb, reduceCtorEq] at hb)) | (refine w2 (fun hc => ?_) (fun hc => ?_) <;> (try simp only [xc] at hc) <;> (try simp only [go_sem, hc]) <;> (try simp only [xb] at hc)) | refine wI ?_ | refine ex_idx (by omega) ?_ | fail)
  all_goals try (exfalso; first | omega | (simp at hb; done))
  (first | refine W_askE rfl _ _ (⟨_, _, rfl, by omega, by omega, rfl, rfl⟩) ?_ | refine D_askE rfl _ _ (⟨_, _, rfl, by omega, by omega, rfl, rfl⟩) ?_); simp (config := { maxSteps := 2000000 }) only [go_sem]
  repeat' (first | refine wS fun K hK => ?_ | refine wB ?_ | ((first | refine wX hΓ ?_ | refine wV hΓ fun B hB => ?_); simp (config := { maxSteps := 2000000 }) only [go_sem]) | ((repeat ((fail_if_success (refine hK _ ?_)); clear hK K)); refine hK _ ?_; clear hK K) | (refine w1 ?_; simp only [xs, xi, Nat.reduceEqDiff, reduceCtorEq]) | (refine wC (fun hb => ?_) fun hb => ?_ <;> (try simp only [xb, reduceCtorEq] at hb)) | (refine w2 (fun hc => ?_) (fun hc => ?_) <;> (try simp only [xc] at hc) <;> (try simp only [go_sem, hc]) <;> (try simp only [xb] at hc)) | refine wI ?_ | refine ex_idx (by omega) ?_ | fail)
  all_goals try (exfalso; first | omega | (simp at hb; done))
  (first | refine wA rfl _ (⟨_, _, rfl, by omega, by omega, rfl⟩) ?_ | refine dA rfl _ (⟨_, _, rfl, by omega, by omega, rfl⟩) ?_); simp (config := { maxSteps := 2000000 }) only [go_sem]
  repeat' (first | refine wS fun K hK => ?_ | refine wB ?_ | ((first | refine wX hΓ ?_ | refine wV hΓ fun B hB => ?_); simp (config := { maxSteps := 2000000 }) only [go_sem]) | ((repeat ((fail_if_success (refine hK _ ?_)); clear hK K)); refine hK _ ?_; clear hK K) | (refine w1 ?_; simp only [xs, xi, Nat.reduceEqDiff, reduceCtorEq]) | (refine wC (fun hb => ?_) fun hb => ?_ <;> (try simp only [xb, reduceCtorEq] at hb)) | (refine w2 (fun hc => ?_) (fun hc => ?_) <;> (try simp only [xc] at hc) <;> (try simp only [go_sem, hc]) <;> (try simp only [xb] at hc)) | refine wI ?_ | refine ex_idx (by omega) ?_ | fail)
  all_goals try (exfalso; first | omega | (simp at hb; done))
  (first | refine wA rfl _ (⟨_, _, rfl, hX.1, hX.2.1, hX.2.2, rfl⟩) ?_ | refine dA rfl _ (⟨_, _, rfl, hX.1, hX.2.1, hX.2.2, rfl⟩) ?_); simp (config := { maxSteps := 2000000 }) only [go_sem]
  repeat' (first | refine wS fun K hK => ?_ | refine wB ?_ | ((first | refine wX hΓ ?_ | refine wV hΓ fun B hB => ?_); simp (config := { maxSteps := 2000000 }) only [go_sem]) | ((repeat ((fail_if_success (refine hK _ ?_)); clear hK K)); refine hK _ ?_; clear hK K) | (refine w1 ?_; simp only [xs, xi, Nat.reduceEqDiff, reduceCtorEq]) | (refine wC (fun hb => ?_) fun hb => ?_ <;> (try simp only [xb, reduceCtorEq] at hb)) | (refine w2 (fun hc => ?_) (fun hc => ?_) <;> (try simp only [xc] at hc) <;> (try simp only [go_sem, hc]) <;> (try simp only [xb] at hc)) | refine wI ?_ | refine ex_idx (by omega) ?_ | fail)
  (first | refine wA rfl ?_ ?_ ?_ | refine dA rfl ?_ ?_ ?_); exact (.tup [oints T, .bool Bo]); exact (⟨⟨E, N⟩, rfl, h6.1, h6.2.1, h6.2.2, by rw [hT, hBe]⟩); simp (config := { maxSteps := 2000000 }) only [go_sem]
  repeat' (first | refine wS fun K hK => ?_ | refine wB ?_ | ((first | refine wX hΓ ?_ | refine wV hΓ fun B hB => ?_); simp (config := { maxSteps := 2000000 }) only [go_sem]) | ((repeat ((fail_if_success (refine hK _ ?_)); clear hK K)); refine hK _ ?_; clear hK K) | (refine w1 ?_; simp only [xs, xi, Nat.reduceEqDiff, reduceCtorEq]) | (refine wC (fun hb => ?_) fun hb => ?_ <;> (try simp only [xb, reduceCtorEq] at hb)) | (refine w2 (fun hc => ?_) (fun hc => ?_) <;> (try simp only [xc] at hc) <;> (try simp only [go_sem, hc]) <;> (try simp only [xb] at hc)) | refine wI ?_ | refine ex_idx (by omega) ?_ | fail)
  (first | refine wA rfl _ (⟨T, T, rfl, by omega, by omega, rfl⟩) ?_ | refine dA rfl _ (⟨T, T, rfl, by omega, by omega, rfl⟩) ?_); simp (config := { maxSteps := 2000000 }) only [go_sem]
  repeat' (first | refine wS fun K hK => ?_ | refine wB ?_ | ((first | refine wX hΓ ?_ | refine wV hΓ fun B hB => ?_); simp (config := { maxSteps := 2000000 }) only [go_sem]) | ((repeat ((fail_if_success (refine hK _ ?_)); clear hK K)); refine hK _ ?_; clear hK K) | (refine w1 ?_; simp only [xs, xi, Nat.reduceEqDiff, reduceCtorEq]) | (refine wC (fun hb => ?_) fun hb => ?_ <;> (try simp only [xb, reduceCtorEq] at hb)) | (refine w2 (fun hc => ?_) (fun hc => ?_) <;> (try simp only [xc] at hc) <;> (try simp only [go_sem, hc]) <;> (try simp only [xb] at hc)) | refine wI ?_ | refine ex_idx (by omega) ?_ | fail)
  all_goals try (exfalso; first | omega | (simp at hb; done))
  (first | refine wA rfl _ (⟨_, _, rfl, by omega, by omega, rfl⟩) ?_ | refine dA rfl _ (⟨_, _, rfl, by omega, by omega, rfl⟩) ?_); simp (config := { maxSteps := 2000000 }) only [go_sem]
  repeat' (first | refine wS fun K hK => ?_ | refine wB ?_ | ((first | refine wX hΓ ?_ | refine wV hΓ fun B hB => ?_); simp (config := { maxSteps := 2000000 }) only [go_sem]) | ((repeat ((fail_if_success (refine hK _ ?_)); clear hK K)); refine hK _ ?_; clear hK K) | (refine w1 ?_; simp only [xs, xi, Nat.reduceEqDiff, reduceCtorEq]) | (refine wC (fun hb => ?_) fun hb => ?_ <;> (try simp only [xb, reduceCtorEq] at hb)) | (refine w2 (fun hc => ?_) (fun hc => ?_) <;> (try simp only [xc] at hc) <;> (try simp only [go_sem, hc]) <;> (try simp only [xb] at hc)) | refine wI ?_ | refine ex_idx (by omega) ?_ | fail)
  all_goals try (exfalso; first | omega | (simp at hb; done))
  simp [Try.results9, RetOK, RetP, backA, upd_at, plainB, getP, isOwn, anyOwn, isP]

end Go.Proofs.Ytljoonlcpiagjaa
