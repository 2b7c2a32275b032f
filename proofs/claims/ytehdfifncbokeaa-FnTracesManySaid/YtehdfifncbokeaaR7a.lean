/- The negation of a test, in the program; the laws' alive. Walked by the engine. -/
import Derived.Test.YtehdfifncbokeaaGrpD
import Derived.Test.YtehdfifncbokeaaEngMin
namespace Go.Proofs.Ytehdfifncbokeaa
set_option linter.unusedSimpArgs false
set_option linter.unusedVariables false
set_option maxRecDepth 8000
set_option maxHeartbeats 2000000
open Go Go.RowKit AV

def testNotR (args : List AV) (r : AV) : Prop := ∃ n : Int, args = [I n] ∧ r = I (if 0 ≤ n ∧ n ≤ 15 then 15 - n else -1)
theorem implTestNot_ctr : CtrOK Try.prog 16 (pureC testNotR) := by
  refine ctr_pure' Try.func16 rfl rfl Try.ntmps16 ?_
  rintro _ _ ⟨n, rfl, rfl⟩
  refine ⟨by simp, fun κ hκ => ?_⟩
  have hbig := bigW_gt
  rw [argEnv_eq]
  simp only [envA]
  have hΓ := ctxOf_ok (P := Try.prog) (cx implTestValid_ctr <| cx0)
  repeat' (first | exact hb.elim | refine wS fun K hK => ?_ | refine wB ?_ | refine uR hΓ ?_ | refine uD hΓ fun B hB => ?_ | ((repeat ((fail_if_success (refine hK _ ?_)); clear hK K)); refine hK _ ?_; clear hK K) | refine u1 ?_ | refine uC (fun hb => ?_) fun hb => ?_ | refine u2 (fun hc => ?_) fun hc => ?_ | refine wI ?_ | refine ex_idx (by omega) ?_ | exact True.intro | fail)
  (first | refine wA rfl _ (⟨n, rfl, rfl⟩) ?_ | refine dA rfl _ (⟨n, rfl, rfl⟩) ?_); simp (maxSteps := 2000000) only [go_sem]
  repeat' (first | exact hb.elim | refine wS fun K hK => ?_ | refine wB ?_ | refine uR hΓ ?_ | refine uD hΓ fun B hB => ?_ | ((repeat ((fail_if_success (refine hK _ ?_)); clear hK K)); refine hK _ ?_; clear hK K) | refine u1 ?_ | refine uC (fun hb => ?_) fun hb => ?_ | refine u2 (fun hc => ?_) fun hc => ?_ | refine wI ?_ | refine ex_idx (by omega) ?_ | exact True.intro | fail)
  · rw [if_neg ‹_›]
    simp [Try.results16, RetOK, RetP, backA, upd_at, plainB, getP, isOwn, anyOwn, isP]
  · have hd : ∀ k : Fin 16, bits BinOp.andNot IntKind.i64 15 (k.val : Int) = 15 - (k.val : Int) := by decide
    have hn : bits BinOp.andNot IntKind.i64 15 n = 15 - n := by
      have := hd ⟨n.toNat, by omega⟩
      have h2 : ((n.toNat : Nat) : Int) = n := by omega
      simp only [h2] at this
      exact this
    rw [if_pos ‹_›, hn]
    simp [Try.results16, RetOK, RetP, backA, upd_at, plainB, getP, isOwn, anyOwn, isP]

def aliveLR (args : List AV) (r : AV) : Prop := args = [] ∧ r = .bool true
theorem aliveL_ctr : CtrOK Try.prog 7 (pureC aliveLR) := by
  refine ctr_pure' Try.func7 rfl rfl Try.ntmps7 ?_
  rintro _ _ ⟨rfl, rfl⟩
  refine ⟨by simp, fun κ hκ => ?_⟩
  have hbig := bigW_gt
  rw [argEnv_eq]
  simp only [envA]
  have hΓ := ctxOf_ok (P := Try.prog) (cx implTestNot_ctr <| cx0)
  repeat' (first | exact hb.elim | refine wS fun K hK => ?_ | refine wB ?_ | refine uR hΓ ?_ | refine uD hΓ fun B hB => ?_ | ((repeat ((fail_if_success (refine hK _ ?_)); clear hK K)); refine hK _ ?_; clear hK K) | refine u1 ?_ | refine uC (fun hb => ?_) fun hb => ?_ | refine u2 (fun hc => ?_) fun hc => ?_ | refine wI ?_ | refine ex_idx (by omega) ?_ | exact True.intro | fail)
  have h0 : (I 15 : AV) = I (if (0 : Int) ≤ 0 ∧ (0 : Int) ≤ 15 then 15 - 0 else -1) := by rw [if_pos (by omega)]; rfl
  have h1 : (I 0 : AV) = I (if (0 : Int) ≤ 15 ∧ (15 : Int) ≤ 15 then 15 - 15 else -1) := by rw [if_pos (by omega)]; rfl
  (first | refine wA rfl _ (⟨0, rfl, h0⟩) ?_ | refine dA rfl _ (⟨0, rfl, h0⟩) ?_); simp (maxSteps := 2000000) only [go_sem]
  repeat' (first | exact hb.elim | refine wS fun K hK => ?_ | refine wB ?_ | refine uR hΓ ?_ | refine uD hΓ fun B hB => ?_ | ((repeat ((fail_if_success (refine hK _ ?_)); clear hK K)); refine hK _ ?_; clear hK K) | refine u1 ?_ | refine uC (fun hb => ?_) fun hb => ?_ | refine u2 (fun hc => ?_) fun hc => ?_ | refine wI ?_ | refine ex_idx (by omega) ?_ | exact True.intro | fail)
  all_goals try (exfalso; omega)
  (first | refine wA rfl _ (⟨15, rfl, h1⟩) ?_ | refine dA rfl _ (⟨15, rfl, h1⟩) ?_); simp (maxSteps := 2000000) only [go_sem]
  repeat' (first | exact hb.elim | refine wS fun K hK => ?_ | refine wB ?_ | refine uR hΓ ?_ | refine uD hΓ fun B hB => ?_ | ((repeat ((fail_if_success (refine hK _ ?_)); clear hK K)); refine hK _ ?_; clear hK K) | refine u1 ?_ | refine uC (fun hb => ?_) fun hb => ?_ | refine u2 (fun hc => ?_) fun hc => ?_ | refine wI ?_ | refine ex_idx (by omega) ?_ | exact True.intro | fail)
  all_goals try (exfalso; omega)
  all_goals (simp [Try.results7, RetOK, RetP, backA, upd_at, plainB, getP, isOwn, anyOwn, isP])

end Go.Proofs.Ytehdfifncbokeaa
