/- A row cloned, in the program: walked by the engine. -/
import Derived.Test.YtmhiipmajlmlgaaGreatTy
import Derived.Test.YtmhiipmajlmlgaaGreatEngMin
import Derived.Test.YtmhiipmajlmlgaaGreatGrpK
import Derived.Test.YtmhiipmajlmlgaaGreatGrpJ
namespace Go.Proofs.YtmhiipmajlmlgaaGreat
set_option linter.unusedSimpArgs false
set_option linter.unusedVariables false
set_option maxRecDepth 8000
set_option maxHeartbeats 2000000
open Go Go.RowKit AV

def cloneR (args : List AV) (r : AV) : Prop := ∃ l : List Int, args = [ints l] ∧ l ≠ [] ∧ l.length ≤ 274877906944 ∧ r = oints l
theorem clone_ctr : CtrOK Tryz.prog 62 (pureC cloneR) := by
  refine ctr_pure' Tryz.func62 rfl rfl Tryz.ntmps62 ?_
  rintro _ _ ⟨l, rfl, hn, hl, rfl⟩
  refine ⟨by simp, fun κ hκ => ?_⟩
  have hbig := bigW_gt
  rw [argEnv_eq]
  simp only [envA]
  have hΓ := noCtx_ok Tryz.prog
  have hne : (l.map I = []) = False := by simpa using hn
  repeat' (first | refine wS fun K hK => ?_ | refine wB ?_ | ((first | refine wR hΓ ?_ | refine wD hΓ fun B hB => ?_); simp (maxSteps := 2000000) only [go_sem, hne]) | ((repeat ((fail_if_success (refine hK _ ?_)); clear hK K)); refine hK _ ?_; clear hK K) | (refine w1 ?_; simp only [xs, xi, Nat.reduceEqDiff, reduceCtorEq]) | (refine wC (fun hb => ?_) fun hb => ?_ <;> (try simp only [xb, reduceCtorEq] at hb)) | (refine w2 (fun hc => ?_) (fun hc => ?_) <;> (try simp only [xc] at hc) <;> (try simp only [go_sem, hc, hne]) <;> (try simp only [xb] at hc)) | refine wI ?_ | refine ex_idx (by omega) ?_ | fail)
  simp [Tryz.results62, RetOK, RetP, backA, upd_at, plainB, getP, isOwn, anyOwn, isP]

end Go.Proofs.YtmhiipmajlmlgaaGreat

namespace Go.Proofs.YtmhiipmajlmlgaaGreat
set_option linter.unusedSimpArgs false
set_option linter.unusedVariables false
set_option maxRecDepth 8000
set_option maxHeartbeats 2000000
open Go Go.RowKit AV

def cloneAR (args : List AV) (r : AV) : Prop := ∃ l : List Int, args = [ints l] ∧ l.length ≤ 274877906944 ∧ r = oints l
theorem cloneA_ctr : CtrOK Tryz.prog 62 (pureC cloneAR) := by
  refine ctr_pure' Tryz.func62 rfl rfl Tryz.ntmps62 ?_
  rintro _ _ ⟨l, rfl, hl, rfl⟩
  refine ⟨by simp, fun κ hκ => ?_⟩
  have hbig := bigW_gt
  rw [argEnv_eq]
  simp only [envA]
  have hΓ := noCtx_ok Tryz.prog
  by_cases hn : l = []
  · subst hn
    refine CW.seqK fun K hK => ?_
    repeat' (first | exact hb.elim | refine wB ?_ | refine uR hΓ ?_ | refine uD hΓ fun B hB => ?_ | refine u1 ?_ | refine uC (fun hb => ?_) fun hb => ?_ | refine u2 (fun hc => ?_) fun hc => ?_ | refine wI ?_ | refine ex_idx (by omega) ?_ | exact True.intro | fail)
    (refine hK _ ?_; clear hK K)
    refine CW.seqK fun K hK => ?_
    refine CW.seqK fun K hK => ?_
    refine CW.nilReg (s := 0) (d1 := 3) (d2 := 4) rfl rfl rfl rfl rfl rfl (by rw [hκ]; exact ⟨by decide, by decide⟩) (by rw [hκ]; exact ⟨by decide, by decide⟩) (by kernel_rfl) (by simp [upd_at]) fun b => ?_
    cases b with
    | true =>
      refine hK _ ?_
      repeat' (first | exact hb.elim | refine wS fun K hK => ?_ | refine wB ?_ | refine uR hΓ ?_ | refine uD hΓ fun B hB => ?_ | ((repeat ((fail_if_success (refine hK _ ?_)); clear hK K)); refine hK _ ?_; clear hK K) | refine u1 ?_ | refine uC (fun hb => ?_) fun hb => ?_ | refine u2 (fun hc => ?_) fun hc => ?_ | refine wI ?_ | refine ex_idx (by omega) ?_ | exact True.intro | fail)
      simp [Tryz.results62, RetOK, RetP, backA, upd_at, plainB, getP, isOwn, anyOwn, isP]
    | false =>
      refine hK _ ?_
      repeat' (first | exact hb.elim | refine wS fun K hK => ?_ | refine wB ?_ | refine uR hΓ ?_ | refine uD hΓ fun B hB => ?_ | ((repeat ((fail_if_success (refine hK _ ?_)); clear hK K)); refine hK _ ?_; clear hK K) | refine u1 ?_ | refine uC (fun hb => ?_) fun hb => ?_ | refine u2 (fun hc => ?_) fun hc => ?_ | refine wI ?_ | refine ex_idx (by omega) ?_ | exact True.intro | fail)
      simp [Tryz.results62, RetOK, RetP, backA, upd_at, plainB, getP, isOwn, anyOwn, isP]
  · have hne : (l.map I = []) = False := by simpa using hn
    repeat' (first | refine wS fun K hK => ?_ | refine wB ?_ | ((first | refine wR hΓ ?_ | refine wD hΓ fun B hB => ?_); simp (maxSteps := 2000000) only [go_sem, hne]) | ((repeat ((fail_if_success (refine hK _ ?_)); clear hK K)); refine hK _ ?_; clear hK K) | (refine w1 ?_; simp only [xs, xi, Nat.reduceEqDiff, reduceCtorEq]) | (refine wC (fun hb => ?_) fun hb => ?_ <;> (try simp only [xb, reduceCtorEq] at hb)) | (refine w2 (fun hc => ?_) (fun hc => ?_) <;> (try simp only [xc] at hc) <;> (try simp only [go_sem, hc, hne]) <;> (try simp only [xb] at hc)) | refine wI ?_ | refine ex_idx (by omega) ?_ | fail)
    simp [Tryz.results62, RetOK, RetP, backA, upd_at, plainB, getP, isOwn, anyOwn, isP]

end Go.Proofs.YtmhiipmajlmlgaaGreat

namespace Go.Proofs.YtmhiipmajlmlgaaGreat
set_option linter.unusedSimpArgs false
set_option linter.unusedVariables false
set_option maxRecDepth 8000
set_option maxHeartbeats 2000000
open Go Go.RowKit AV

def moveR (args : List AV) (r : AV) : Prop := ∃ a c : Nat, args = [I a, I ((16 + c : Nat) : Int)] ∧ a ≤ 3 ∧ c ≤ 2 ∧ r = I ((3 * a + c : Nat) : Int)
theorem move_ctr : CtrOK Tryz.prog 30 (pureC moveR) := by
  refine ctr_pure' Tryz.func30 rfl rfl Tryz.ntmps30 ?_
  rintro _ _ ⟨a, c, rfl, ha, hc, rfl⟩
  refine ⟨by simp, fun κ hκ => ?_⟩
  have hbig := bigW_gt
  rw [argEnv_eq]
  simp only [envA]
  have hΓ := noCtx_ok Tryz.prog
  repeat' (first | exact hb.elim | refine wS fun K hK => ?_ | refine wB ?_ | refine uR hΓ ?_ | refine uD hΓ fun B hB => ?_ | ((repeat ((fail_if_success (refine hK _ ?_)); clear hK K)); refine hK _ ?_; clear hK K) | refine u1 ?_ | refine uC (fun hb => ?_) fun hb => ?_ | refine u2 (fun hc => ?_) fun hc => ?_ | refine wI ?_ | refine ex_idx (by omega) ?_ | exact True.intro | fail)
  rw [show ((3 * a + c : Nat) : Int) = 3 * (a : Int) + ((16 + c : Nat) : Int) - 16 by omega]
  simp [Tryz.results30, RetOK, RetP, backA, upd_at, plainB, getP, isOwn, anyOwn, isP]

end Go.Proofs.YtmhiipmajlmlgaaGreat

namespace Go.Proofs.YtmhiipmajlmlgaaGreat
set_option linter.unusedSimpArgs false
set_option linter.unusedVariables false
set_option maxRecDepth 8000
set_option maxHeartbeats 2000000
open Go Go.RowKit AV

end Go.Proofs.YtmhiipmajlmlgaaGreat

namespace Go.Proofs.YtmhiipmajlmlgaaGreat
set_option linter.unusedSimpArgs false
set_option linter.unusedVariables false
set_option maxRecDepth 8000
set_option maxHeartbeats 2000000
open Go Go.RowKit AV

end Go.Proofs.YtmhiipmajlmlgaaGreat

namespace Go.Proofs.YtmhiipmajlmlgaaGreat
set_option linter.unusedSimpArgs false
set_option linter.unusedVariables false
set_option maxRecDepth 8000
set_option maxHeartbeats 2000000
open Go Go.RowKit AV

end Go.Proofs.YtmhiipmajlmlgaaGreat
