/- More draws of expressions, walked by the engine. -/
import Derived.Test.YtaniaocanekajaaR9p
import Derived.Test.YtaniaocanekajaaGrpS
import Derived.Test.YtaniaocanekajaaGrpJ
import Derived.Test.YtaniaocanekajaaEngMin
namespace Go.Proofs.Ytaniaocanekajaa
set_option linter.unusedSimpArgs false
set_option linter.unusedVariables false
set_option maxRecDepth 8000
set_option maxHeartbeats 2000000
open Go Go.RowKit AV

attribute [local go_sem] List.nil_prefix

def drawProgR (deep n : Nat) (args : List AV) (r : AV) : Prop := ∃ bs : List Nat, args = [byts bs] ∧ bs.length ≤ 1099511627776 ∧ (∀ b ∈ bs, b < 256) ∧ r = ints (progX (bs.take 2000) 0 deep n).1
theorem drawDetermined_ctr : CtrOK Try.prog 14 (pureC (drawProgR 5 9)) := by
  refine ctr_pure' Try.func14 rfl rfl Try.ntmps14 ?_
  rintro _ _ ⟨bs, rfl, hl, hb256, rfl⟩
  refine ⟨by simp, fun κ hκ => ?_⟩
  have hbig := bigW_gt
  rw [argEnv_eq]
  simp only [envA]
  have hΓ := ctxOf_ok (P := Try.prog) (cx open_ctr <| cx prog_ctr <| cx0)
  have hcd : CodeOK (bs.take 2000) := ⟨by simp; omega, fun b hb => hb256 b (List.mem_of_mem_take hb)⟩
  obtain ⟨⟨e, p1⟩, hD⟩ : ∃ o, progX (bs.take 2000) 0 5 9 = o := ⟨_, rfl⟩
  simp only [hD]
  repeat' (first | refine wS fun K hK => ?_ | refine wB ?_ | ((first | refine wR hΓ ?_ | refine wD hΓ fun B hB => ?_); simp (config := { maxSteps := 2000000 }) only [go_sem]) | ((repeat ((fail_if_success (refine hK _ ?_)); clear hK K)); refine hK _ ?_; clear hK K) | (refine w1 ?_; simp only [xs, xi, Nat.reduceEqDiff, reduceCtorEq, retM_ret, retM_normal, retML_ret, retML_normal]) | (refine wC (fun hb => ?_) fun hb => ?_ <;> (try simp only [xb, reduceCtorEq] at hb)) | (refine w2 (fun hc => ?_) (fun hc => ?_) <;> (try simp only [xc] at hc) <;> (try simp only [go_sem, hc]) <;> (try simp only [xb] at hc)) | refine wI ?_ | refine ex_idx (by omega) ?_ | fail)
  (first | refine wA rfl _ (⟨bs, rfl, hl, rfl⟩) ?_ | refine dA rfl _ (⟨bs, rfl, hl, rfl⟩) ?_); simp (config := { maxSteps := 2000000 }) only [go_sem]
  repeat' (first | refine wS fun K hK => ?_ | refine wB ?_ | ((first | refine wR hΓ ?_ | refine wD hΓ fun B hB => ?_); simp (config := { maxSteps := 2000000 }) only [go_sem]) | ((repeat ((fail_if_success (refine hK _ ?_)); clear hK K)); refine hK _ ?_; clear hK K) | (refine w1 ?_; simp only [xs, xi, Nat.reduceEqDiff, reduceCtorEq, retM_ret, retM_normal, retML_ret, retML_normal]) | (refine wC (fun hb => ?_) fun hb => ?_ <;> (try simp only [xb, reduceCtorEq] at hb)) | (refine w2 (fun hc => ?_) (fun hc => ?_) <;> (try simp only [xc] at hc) <;> (try simp only [go_sem, hc]) <;> (try simp only [xb] at hc)) | refine wI ?_ | refine ex_idx (by omega) ?_ | fail)
  (first | refine W_askE rfl _ _ (⟨bs.take 2000, 0, 5, 9, rfl, hcd, by omega, by omega, by omega, rfl, rfl⟩) ?_ | refine D_askE rfl _ _ (⟨bs.take 2000, 0, 5, 9, rfl, hcd, by omega, by omega, by omega, rfl, rfl⟩) ?_); simp (config := { maxSteps := 2000000 }) only [go_sem]
  rw [hD]
  dsimp only
  repeat' (first | refine wS fun K hK => ?_ | refine wB ?_ | ((first | refine wR hΓ ?_ | refine wD hΓ fun B hB => ?_); simp (config := { maxSteps := 2000000 }) only [go_sem]) | ((repeat ((fail_if_success (refine hK _ ?_)); clear hK K)); refine hK _ ?_; clear hK K) | (refine w1 ?_; simp only [xs, xi, Nat.reduceEqDiff, reduceCtorEq, retM_ret, retM_normal, retML_ret, retML_normal]) | (refine wC (fun hb => ?_) fun hb => ?_ <;> (try simp only [xb, reduceCtorEq] at hb)) | (refine w2 (fun hc => ?_) (fun hc => ?_) <;> (try simp only [xc] at hc) <;> (try simp only [go_sem, hc]) <;> (try simp only [xb] at hc)) | refine wI ?_ | refine ex_idx (by omega) ?_ | fail)
  simp [Try.results14, RetOK, RetP, backA, upd_at, plainB, getP, isOwn, anyOwn, isP]
  simp [view, viewL_map, view_I]

def poAtom (bs : List Nat) (p : Nat) : Int := (pickX bs p 6 : Int) - 1
def poAct (bs : List Nat) (p : Nat) : Int := 16 + (pickX bs p 3 : Int) + ((pickX bs (p + 1) 20 / 19 : Nat) : Int) * 3
def drawPOR (args : List AV) (r : AV) : Prop := ∃ bs : List Nat, args = [byts bs] ∧ bs.length ≤ 1099511627776 ∧ (∀ b ∈ bs, b < 256) ∧ r = .tup [ints (progX (bs.take 2000) 0 8 9).1, I (poAtom (bs.take 2000) (progX (bs.take 2000) 0 8 9).2), I (poAct (bs.take 2000) ((progX (bs.take 2000) 0 8 9).2 + 1))]
theorem drawPartsOf_ctr : CtrOK Try.prog 28 (pureC drawPOR) := by
  refine ctr_many Try.func28 rfl rfl Try.ntmps28 ?_
  rintro _ _ ⟨bs, rfl, hl, hb256, rfl⟩
  refine ⟨by simp, fun κ hκ => ?_⟩
  have hbig := bigW_gt
  rw [argEnv_eq]
  simp only [envA]
  have hΓ := ctxOf_ok (P := Try.prog) (cx open_ctr <| cx prog_ctr <| cx pick_ctr <| cx0)
  have hcd : CodeOK (bs.take 2000) := ⟨by simp; omega, fun b hb => hb256 b (List.mem_of_mem_take hb)⟩
  have hp1 := progX_p (bs.take 2000) 0 8 9
  obtain ⟨⟨e, p1⟩, hD⟩ : ∃ o, progX (bs.take 2000) 0 8 9 = o := ⟨_, rfl⟩
  rw [hD] at hp1
  simp only [hD]
  dsimp only at hp1
  have hY : poAtom (bs.take 2000) p1 = (pickX (bs.take 2000) p1 6 : Int) - 1 := rfl
  have hW : poAct (bs.take 2000) (p1 + 1) = 16 + (pickX (bs.take 2000) (p1 + 1) 3 : Int) + ((pickX (bs.take 2000) (p1 + 2) 20 / 19 : Nat) : Int) * 3 := rfl
  have hk0 := pickX_lt (bs := bs.take 2000) (p := p1) (n := 6) (by decide)
  obtain ⟨q0, hq0⟩ : ∃ q, pickX (bs.take 2000) p1 6 = q := ⟨_, rfl⟩
  have hk1 := pickX_lt (bs := bs.take 2000) (p := p1 + 1) (n := 3) (by decide)
  obtain ⟨q1, hq1⟩ : ∃ q, pickX (bs.take 2000) (p1 + 1) 3 = q := ⟨_, rfl⟩
  have hk2 := pickX_lt (bs := bs.take 2000) (p := p1 + 2) (n := 20) (by decide)
  obtain ⟨q2, hq2⟩ : ∃ q, pickX (bs.take 2000) (p1 + 2) 20 = q := ⟨_, rfl⟩
  rw [hq0] at hk0 hY
  rw [hq1] at hk1 hW
  rw [hq2] at hk2 hW
  repeat' (first | refine wS fun K hK => ?_ | refine wB ?_ | ((first | refine wR hΓ ?_ | refine wD hΓ fun B hB => ?_); simp (config := { maxSteps := 2000000 }) only [go_sem]) | ((repeat ((fail_if_success (refine hK _ ?_)); clear hK K)); refine hK _ ?_; clear hK K) | (refine w1 ?_; simp only [xs, xi, Nat.reduceEqDiff, reduceCtorEq, retM_ret, retM_normal, retML_ret, retML_normal]) | (refine wC (fun hb => ?_) fun hb => ?_ <;> (try simp only [xb, reduceCtorEq] at hb)) | (refine w2 (fun hc => ?_) (fun hc => ?_) <;> (try simp only [xc] at hc) <;> (try simp only [go_sem, hc]) <;> (try simp only [xb] at hc)) | refine wI ?_ | refine ex_idx (by omega) ?_ | fail)
  (first | refine wA rfl _ (⟨bs, rfl, hl, rfl⟩) ?_ | refine dA rfl _ (⟨bs, rfl, hl, rfl⟩) ?_); simp (config := { maxSteps := 2000000 }) only [go_sem]
  repeat' (first | refine wS fun K hK => ?_ | refine wB ?_ | ((first | refine wR hΓ ?_ | refine wD hΓ fun B hB => ?_); simp (config := { maxSteps := 2000000 }) only [go_sem]) | ((repeat ((fail_if_success (refine hK _ ?_)); clear hK K)); refine hK _ ?_; clear hK K) | (refine w1 ?_; simp only [xs, xi, Nat.reduceEqDiff, reduceCtorEq, retM_ret, retM_normal, retML_ret, retML_normal]) | (refine wC (fun hb => ?_) fun hb => ?_ <;> (try simp only [xb, reduceCtorEq] at hb)) | (refine w2 (fun hc => ?_) (fun hc => ?_) <;> (try simp only [xc] at hc) <;> (try simp only [go_sem, hc]) <;> (try simp only [xb] at hc)) | refine wI ?_ | refine ex_idx (by omega) ?_ | fail)
  (first | refine W_askE rfl _ _ (⟨bs.take 2000, 0, 8, 9, rfl, hcd, by omega, by omega, by omega, rfl, rfl⟩) ?_ | refine D_askE rfl _ _ (⟨bs.take 2000, 0, 8, 9, rfl, hcd, by omega, by omega, by omega, rfl, rfl⟩) ?_); simp (config := { maxSteps := 2000000 }) only [go_sem]
  rw [hD]
  dsimp only
  repeat' (first | refine wS fun K hK => ?_ | refine wB ?_ | ((first | refine wR hΓ ?_ | refine wD hΓ fun B hB => ?_); simp (config := { maxSteps := 2000000 }) only [go_sem]) | ((repeat ((fail_if_success (refine hK _ ?_)); clear hK K)); refine hK _ ?_; clear hK K) | (refine w1 ?_; simp only [xs, xi, Nat.reduceEqDiff, reduceCtorEq, retM_ret, retM_normal, retML_ret, retML_normal]) | (refine wC (fun hb => ?_) fun hb => ?_ <;> (try simp only [xb, reduceCtorEq] at hb)) | (refine w2 (fun hc => ?_) (fun hc => ?_) <;> (try simp only [xc] at hc) <;> (try simp only [go_sem, hc]) <;> (try simp only [xb] at hc)) | refine wI ?_ | refine ex_idx (by omega) ?_ | fail)
  (first | refine W_askE rfl _ _ (⟨bs.take 2000, p1, 6, rfl, hcd, by omega, by omega, rfl, rfl⟩) ?_ | refine D_askE rfl _ _ (⟨bs.take 2000, p1, 6, rfl, hcd, by omega, by omega, rfl, rfl⟩) ?_); simp (config := { maxSteps := 2000000 }) only [go_sem]
  rw [hq0]
  repeat' (first | refine wS fun K hK => ?_ | refine wB ?_ | ((first | refine wR hΓ ?_ | refine wD hΓ fun B hB => ?_); simp (config := { maxSteps := 2000000 }) only [go_sem]) | ((repeat ((fail_if_success (refine hK _ ?_)); clear hK K)); refine hK _ ?_; clear hK K) | (refine w1 ?_; simp only [xs, xi, Nat.reduceEqDiff, reduceCtorEq, retM_ret, retM_normal, retML_ret, retML_normal]) | (refine wC (fun hb => ?_) fun hb => ?_ <;> (try simp only [xb, reduceCtorEq] at hb)) | (refine w2 (fun hc => ?_) (fun hc => ?_) <;> (try simp only [xc] at hc) <;> (try simp only [go_sem, hc]) <;> (try simp only [xb] at hc)) | refine wI ?_ | refine ex_idx (by omega) ?_ | fail)
  (first | refine W_askE rfl _ _ (⟨bs.take 2000, p1 + 1, 3, rfl, hcd, by omega, by omega, rfl, rfl⟩) ?_ | refine D_askE rfl _ _ (⟨bs.take 2000, p1 + 1, 3, rfl, hcd, by omega, by omega, rfl, rfl⟩) ?_); simp (config := { maxSteps := 2000000 }) only [go_sem]
  rw [hq1]
  repeat' (first | refine wS fun K hK => ?_ | refine wB ?_ | ((first | refine wR hΓ ?_ | refine wD hΓ fun B hB => ?_); simp (config := { maxSteps := 2000000 }) only [go_sem]) | ((repeat ((fail_if_success (refine hK _ ?_)); clear hK K)); refine hK _ ?_; clear hK K) | (refine w1 ?_; simp only [xs, xi, Nat.reduceEqDiff, reduceCtorEq, retM_ret, retM_normal, retML_ret, retML_normal]) | (refine wC (fun hb => ?_) fun hb => ?_ <;> (try simp only [xb, reduceCtorEq] at hb)) | (refine w2 (fun hc => ?_) (fun hc => ?_) <;> (try simp only [xc] at hc) <;> (try simp only [go_sem, hc]) <;> (try simp only [xb] at hc)) | refine wI ?_ | refine ex_idx (by omega) ?_ | fail)
  (first | refine W_askE rfl _ _ (⟨bs.take 2000, p1 + 2, 20, rfl, hcd, by omega, by omega, rfl, rfl⟩) ?_ | refine D_askE rfl _ _ (⟨bs.take 2000, p1 + 2, 20, rfl, hcd, by omega, by omega, rfl, rfl⟩) ?_); simp (config := { maxSteps := 2000000 }) only [go_sem]
  rw [hq2]
  repeat' (first | refine wS fun K hK => ?_ | refine wB ?_ | ((first | refine wR hΓ ?_ | refine wD hΓ fun B hB => ?_); simp (config := { maxSteps := 2000000 }) only [go_sem]) | ((repeat ((fail_if_success (refine hK _ ?_)); clear hK K)); refine hK _ ?_; clear hK K) | (refine w1 ?_; simp only [xs, xi, Nat.reduceEqDiff, reduceCtorEq, retM_ret, retM_normal, retML_ret, retML_normal]) | (refine wC (fun hb => ?_) fun hb => ?_ <;> (try simp only [xb, reduceCtorEq] at hb)) | (refine w2 (fun hc => ?_) (fun hc => ?_) <;> (try simp only [xc] at hc) <;> (try simp only [go_sem, hc]) <;> (try simp only [xb] at hc)) | refine wI ?_ | refine ex_idx (by omega) ?_ | fail)
  rw [hY, hW]
  (rw [Try.results28]; refine ⟨_, rfl, by decide, by decide, by decide, ?_⟩; simp [ResL, ResI, upd_at, plainB, view, viewL_map, view_I])

end Go.Proofs.Ytaniaocanekajaa
