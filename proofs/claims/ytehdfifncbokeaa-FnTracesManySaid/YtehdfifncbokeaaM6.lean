/- The draw of an expression and a number, walked by the engine. -/
import Derived.Test.YtehdfifncbokeaaGrpY
import Derived.Test.YtehdfifncbokeaaGrpS
import Derived.Test.YtehdfifncbokeaaR10
import Derived.Test.YtehdfifncbokeaaEngMin
namespace Go.Proofs.Ytehdfifncbokeaa
set_option linter.unusedSimpArgs false
set_option linter.unusedVariables false
set_option maxRecDepth 8000
set_option maxHeartbeats 2000000
open Go Go.RowKit AV

attribute [local go_sem] wpOpsY_cons wpOpsY_nil KOpsY_app rdGM minOf rdMin rdMinN wpOpsDR_cons wpOpsDR_nil KOpsR_app rdLR lentMv lentCall List.nil_prefix

def tofM (bs : List Nat) : Int := ([0, 1, 1, 1, 1, 2, -1, 3] : List Int).getD (pickX bs (katX bs 0 3 12).2 8) 0
def drawTOR (args : List AV) (r : AV) : Prop := ∃ bs : List Nat, args = [byts bs] ∧ bs.length ≤ 1099511627776 ∧ (∀ b ∈ bs, b < 256) ∧ r = .tup [oints (katX (bs.take 2000) 0 3 12).1, I (tofM (bs.take 2000))]
theorem drawTracesOf_ctr : CtrOK Try.prog 10 (pureC drawTOR) := by
  refine ctr_pure' Try.func10 rfl rfl Try.ntmps10 ?_
  rintro _ _ ⟨bs, rfl, hl, hb256, rfl⟩
  refine ⟨by simp, fun κ hκ => ?_⟩
  have hbig := bigW_gt
  rw [argEnv_eq]
  simp only [envA]
  have hΓ := ctxOf_ok (P := Try.prog) (cx open_ctr <| cx kat_ctr <| cx pick_ctr <| cx0)
  have hcd : CodeOK (bs.take 2000) := ⟨by simp; omega, fun b hb => hb256 b (List.mem_of_mem_take hb)⟩
  have hT : tofM (bs.take 2000) = ([0, 1, 1, 1, 1, 2, -1, 3] : List Int).getD (pickX (bs.take 2000) (katX (bs.take 2000) 0 3 12).2 8) 0 := rfl
  have hp1 := katX_p (bs.take 2000) 0 3 12
  generalize tofM (bs.take 2000) = M at hT ⊢
  obtain ⟨⟨e, p1⟩, hD⟩ : ∃ o, katX (bs.take 2000) 0 3 12 = o := ⟨_, rfl⟩
  rw [hD] at hT hp1 ⊢
  dsimp only at hT hp1 ⊢
  repeat' (first | refine wS fun K hK => ?_ | refine wB ?_ | ((first | refine wR hΓ ?_ | refine CW.drwL hΓ Try_mixed [7, 10] 4 (by rw [hκ]; rfl) (by kernel_rfl) (by kernel_rfl) fun v0 B hB => ?_); simp (maxSteps := 2000000) only [go_sem]) | ((repeat ((fail_if_success (refine hK _ ?_)); clear hK K)); refine hK _ ?_; clear hK K) | (refine w1 ?_; simp only [xs, xi, Nat.reduceEqDiff, reduceCtorEq]) | (refine wC (fun hb => ?_) fun hb => ?_ <;> (try simp only [xb, reduceCtorEq] at hb)) | (refine w2 (fun hc => ?_) (fun hc => ?_) <;> (try simp only [xc] at hc) <;> (try simp only [go_sem, hc]) <;> (try simp only [xb] at hc)) | refine wI ?_ | refine ex_idx (by omega) ?_ | fail)
  (first | refine wA rfl _ (⟨bs, rfl, hl, rfl⟩) ?_ | refine dA rfl _ (⟨bs, rfl, hl, rfl⟩) ?_); simp (maxSteps := 2000000) only [go_sem]
  repeat' (first | refine wS fun K hK => ?_ | refine wB ?_ | ((first | refine wR hΓ ?_ | refine CW.drwL hΓ Try_mixed [7, 10] 4 (by rw [hκ]; rfl) (by kernel_rfl) (by kernel_rfl) fun v0 B hB => ?_); simp (maxSteps := 2000000) only [go_sem]) | ((repeat ((fail_if_success (refine hK _ ?_)); clear hK K)); refine hK _ ?_; clear hK K) | (refine w1 ?_; simp only [xs, xi, Nat.reduceEqDiff, reduceCtorEq]) | (refine wC (fun hb => ?_) fun hb => ?_ <;> (try simp only [xb, reduceCtorEq] at hb)) | (refine w2 (fun hc => ?_) (fun hc => ?_) <;> (try simp only [xc] at hc) <;> (try simp only [go_sem, hc]) <;> (try simp only [xb] at hc)) | refine wI ?_ | refine ex_idx (by omega) ?_ | fail)
  (first | refine W_askE rfl _ _ (⟨bs.take 2000, 0, 3, 12, rfl, hcd, by omega, by omega, by omega, rfl, rfl⟩) ?_ | refine D_askE rfl _ _ (⟨bs.take 2000, 0, 3, 12, rfl, hcd, by omega, by omega, by omega, rfl, rfl⟩) ?_); simp (maxSteps := 2000000) only [go_sem]
  rw [hD]
  dsimp only
  repeat' (first | refine wS fun K hK => ?_ | refine wB ?_ | ((first | refine wR hΓ ?_ | refine CW.drwL hΓ Try_mixed [7, 10] 4 (by rw [hκ]; rfl) (by kernel_rfl) (by kernel_rfl) fun v0 B hB => ?_); simp (maxSteps := 2000000) only [go_sem]) | ((repeat ((fail_if_success (refine hK _ ?_)); clear hK K)); refine hK _ ?_; clear hK K) | (refine w1 ?_; simp only [xs, xi, Nat.reduceEqDiff, reduceCtorEq]) | (refine wC (fun hb => ?_) fun hb => ?_ <;> (try simp only [xb, reduceCtorEq] at hb)) | (refine w2 (fun hc => ?_) (fun hc => ?_) <;> (try simp only [xc] at hc) <;> (try simp only [go_sem, hc]) <;> (try simp only [xb] at hc)) | refine wI ?_ | refine ex_idx (by omega) ?_ | fail)
  have hk := pickX_lt (bs := bs.take 2000) (p := p1) (n := 8) (by decide)
  (first | refine W_askE rfl _ _ (⟨bs.take 2000, p1, 8, rfl, hcd, by omega, by omega, rfl, rfl⟩) ?_ | refine D_askE rfl _ _ (⟨bs.take 2000, p1, 8, rfl, hcd, by omega, by omega, rfl, rfl⟩) ?_); simp (maxSteps := 2000000) only [go_sem]
  obtain ⟨L, hL⟩ : ∃ L : List Int, ([0, 1, 1, 1, 1, 2, -1, 3] : List Int) = L := ⟨_, rfl⟩
  have hL8 : L.length = 8 := by rw [← hL]; rfl
  have hLm : [num .i64 0, num .i64 1, num .i64 1, num .i64 1, num .i64 1, num .i64 2, num .i64 (-1), num .i64 3] = L.map I := by rw [← hL]; rfl
  rw [hL] at hT
  rw [hLm]
  simp (maxSteps := 2000000) only [go_sem]
  repeat' (first | refine wS fun K hK => ?_ | refine wB ?_ | ((first | refine wR hΓ ?_ | refine CW.drwL hΓ Try_mixed [7, 10] 4 (by rw [hκ]; rfl) (by kernel_rfl) (by kernel_rfl) fun v0 B hB => ?_); simp (maxSteps := 2000000) only [go_sem]) | ((repeat ((fail_if_success (refine hK _ ?_)); clear hK K)); refine hK _ ?_; clear hK K) | (refine w1 ?_; simp only [xs, xi, Nat.reduceEqDiff, reduceCtorEq]) | (refine wC (fun hb => ?_) fun hb => ?_ <;> (try simp only [xb, reduceCtorEq] at hb)) | (refine w2 (fun hc => ?_) (fun hc => ?_) <;> (try simp only [xc] at hc) <;> (try simp only [go_sem, hc]) <;> (try simp only [xb] at hc)) | refine wI ?_ | refine ex_idx (by omega) ?_ | fail)
  have h5 : L.getD (pickX (bs.take 2000) p1 8) 0 = L[pickX (bs.take 2000) p1 8]'(by omega) := by simp [List.getD, List.getElem?_eq_getElem (show pickX (bs.take 2000) p1 8 < L.length by omega)]
  rw [hT, h5]
  (rw [Try.results10]; refine ⟨_, _, rfl, by decide, rfl, rfl, ?_, ?_⟩ <;> simp [upd_at])
def drawTMR (args : List AV) (r : AV) : Prop := ∃ bs : List Nat, args = [byts bs] ∧ bs.length ≤ 1099511627776 ∧ (∀ b ∈ bs, b < 256) ∧ r = .tup [ints (katX (bs.take 2000) 0 3 12).1, I (tofM (bs.take 2000))]
theorem drawTracesMany_ctr : CtrOK Try.prog 4 (pureC drawTMR) := by
  refine ctr_pure' Try.func4 rfl rfl Try.ntmps4 ?_
  rintro _ _ ⟨bs, rfl, hl, hb256, rfl⟩
  refine ⟨by simp, fun κ hκ => ?_⟩
  have hbig := bigW_gt
  rw [argEnv_eq]
  simp only [envA]
  have hΓ := ctxOf_ok (P := Try.prog) (cx drawTracesOf_ctr <| cx0)
  repeat' (first | refine wS fun K hK => ?_ | refine wB ?_ | ((first | refine wR hΓ ?_ | refine CW.drwL hΓ Try_mixed [7, 10] 4 (by rw [hκ]; rfl) (by kernel_rfl) (by kernel_rfl) fun v0 B hB => ?_); simp (maxSteps := 2000000) only [go_sem]) | ((repeat ((fail_if_success (refine hK _ ?_)); clear hK K)); refine hK _ ?_; clear hK K) | (refine w1 ?_; simp only [xs, xi, Nat.reduceEqDiff, reduceCtorEq]) | (refine wC (fun hb => ?_) fun hb => ?_ <;> (try simp only [xb, reduceCtorEq] at hb)) | (refine w2 (fun hc => ?_) (fun hc => ?_) <;> (try simp only [xc] at hc) <;> (try simp only [go_sem, hc]) <;> (try simp only [xb] at hc)) | refine wI ?_ | refine ex_idx (by omega) ?_ | fail)
  (first | refine wA rfl _ (⟨bs, rfl, hl, hb256, rfl⟩) ?_ | refine dA rfl _ (⟨bs, rfl, hl, hb256, rfl⟩) ?_); simp (maxSteps := 2000000) only [go_sem]
  repeat' (first | refine wS fun K hK => ?_ | refine wB ?_ | ((first | refine wR hΓ ?_ | refine CW.drwL hΓ Try_mixed [7, 10] 4 (by rw [hκ]; rfl) (by kernel_rfl) (by kernel_rfl) fun v0 B hB => ?_); simp (maxSteps := 2000000) only [go_sem]) | ((repeat ((fail_if_success (refine hK _ ?_)); clear hK K)); refine hK _ ?_; clear hK K) | (refine w1 ?_; simp only [xs, xi, Nat.reduceEqDiff, reduceCtorEq]) | (refine wC (fun hb => ?_) fun hb => ?_ <;> (try simp only [xb, reduceCtorEq] at hb)) | (refine w2 (fun hc => ?_) (fun hc => ?_) <;> (try simp only [xc] at hc) <;> (try simp only [go_sem, hc]) <;> (try simp only [xb] at hc)) | refine wI ?_ | refine ex_idx (by omega) ?_ | fail)
  (rw [Try.results4]; refine ⟨_, _, rfl, by decide, rfl, rfl, ?_, ?_⟩ <;> simp [upd_at, view, viewL_map, view_I])

end Go.Proofs.Ytehdfifncbokeaa
