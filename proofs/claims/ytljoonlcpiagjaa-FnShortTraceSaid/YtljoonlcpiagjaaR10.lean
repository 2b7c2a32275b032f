/- Draws of an automaton alone, walked by the engine. -/
import Derived.Test.YtljoonlcpiagjaaR9
import Derived.Test.YtljoonlcpiagjaaGrpS
import Derived.Test.YtljoonlcpiagjaaEngMin
namespace Go.Proofs.Ytljoonlcpiagjaa
set_option linter.unusedSimpArgs false
set_option linter.unusedVariables false
set_option maxRecDepth 8000
set_option maxHeartbeats 2000000
open Go Go.RowKit AV

noncomputable abbrev drwA (bs : List Nat) (most n : Nat) : AutoD := (autoX (bs.take 2000) 0 most n).1
theorem code_ok {bs : List Nat} (h : ∀ b ∈ bs, b < 256) : CodeOK (bs.take 2000) := ⟨by simp; omega, fun b hb => h b (List.mem_of_mem_take hb)⟩

theorem SmallA.e6 {D : AutoD} (h : SmallA D) : D.ends.length ≤ 4611686018427387904 ∧ D.next.length ≤ 4611686018427387904 ∧ ∀ x ∈ D.next, x.length ≤ 4611686018427387904 :=
  ⟨by have := h.e; omega, by have := h.n; omega, fun x hx => by have := h.r x hx; omega⟩
def drawAR (most n : Nat) (args : List AV) (r : AV) : Prop := ∃ bs : List Nat, args = [byts bs] ∧ bs.length ≤ 1099511627776 ∧ (∀ b ∈ bs, b < 256) ∧ r = agg [ints (drwA bs most n).ends, rows (drwA bs most n).next]

theorem drawAutoLive_ctr : CtrOK Try.prog 36 (pureC (drawAR 8 9)) := by
  refine ctr_pure' Try.func36 rfl rfl Try.ntmps36 ?_
  rintro _ _ ⟨bs, rfl, hl, hb256, rfl⟩
  refine ⟨by simp, fun κ hκ => ?_⟩
  have hbig := bigW_gt
  rw [argEnv_eq]
  simp only [envA]
  have hΓ := ctxOf_ok (P := Try.prog) (cx open_ctr <| cx auto_ctr <| cx0)
  have hcd := code_ok hb256
  repeat' (first | refine wS fun K hK => ?_ | refine wB ?_ | ((first | refine wR hΓ ?_ | refine wD hΓ fun B hB => ?_); simp (config := { maxSteps := 2000000 }) only [go_sem]) | ((repeat ((fail_if_success (refine hK _ ?_)); clear hK K)); refine hK _ ?_; clear hK K) | (refine w1 ?_; simp only [xs, xi, Nat.reduceEqDiff, reduceCtorEq, retM_ret, retM_normal, retML_ret, retML_normal]) | (refine wC (fun hb => ?_) fun hb => ?_ <;> (try simp only [xb, reduceCtorEq] at hb)) | (refine w2 (fun hc => ?_) (fun hc => ?_) <;> (try simp only [xc] at hc) <;> (try simp only [go_sem, hc]) <;> (try simp only [xb] at hc)) | refine wI ?_ | refine ex_idx (by omega) ?_ | fail)
  (first | refine wA rfl _ (⟨bs, rfl, hl, rfl⟩) ?_ | refine dA rfl _ (⟨bs, rfl, hl, rfl⟩) ?_); simp (config := { maxSteps := 2000000 }) only [go_sem]
  repeat' (first | refine wS fun K hK => ?_ | refine wB ?_ | ((first | refine wR hΓ ?_ | refine wD hΓ fun B hB => ?_); simp (config := { maxSteps := 2000000 }) only [go_sem]) | ((repeat ((fail_if_success (refine hK _ ?_)); clear hK K)); refine hK _ ?_; clear hK K) | (refine w1 ?_; simp only [xs, xi, Nat.reduceEqDiff, reduceCtorEq, retM_ret, retM_normal, retML_ret, retML_normal]) | (refine wC (fun hb => ?_) fun hb => ?_ <;> (try simp only [xb, reduceCtorEq] at hb)) | (refine w2 (fun hc => ?_) (fun hc => ?_) <;> (try simp only [xc] at hc) <;> (try simp only [go_sem, hc]) <;> (try simp only [xb] at hc)) | refine wI ?_ | refine ex_idx (by omega) ?_ | fail)
  (first | refine W_askE rfl _ _ (⟨bs.take 2000, 0, 8, 9, rfl, hcd, by omega, by omega, by omega, by omega, rfl, rfl⟩) ?_ | refine D_askE rfl _ _ (⟨bs.take 2000, 0, 8, 9, rfl, hcd, by omega, by omega, by omega, by omega, rfl, rfl⟩) ?_); simp (config := { maxSteps := 2000000 }) only [go_sem]
  repeat' (first | refine wS fun K hK => ?_ | refine wB ?_ | ((first | refine wR hΓ ?_ | refine wD hΓ fun B hB => ?_); simp (config := { maxSteps := 2000000 }) only [go_sem]) | ((repeat ((fail_if_success (refine hK _ ?_)); clear hK K)); refine hK _ ?_; clear hK K) | (refine w1 ?_; simp only [xs, xi, Nat.reduceEqDiff, reduceCtorEq, retM_ret, retM_normal, retML_ret, retML_normal]) | (refine wC (fun hb => ?_) fun hb => ?_ <;> (try simp only [xb, reduceCtorEq] at hb)) | (refine w2 (fun hc => ?_) (fun hc => ?_) <;> (try simp only [xc] at hc) <;> (try simp only [go_sem, hc]) <;> (try simp only [xb] at hc)) | refine wI ?_ | refine ex_idx (by omega) ?_ | fail)
  (rw [Try.results36]; exact retOK_box Ty_aggT_26 Ty_szT_26 (by simp [upd_at]))

end Go.Proofs.Ytljoonlcpiagjaa
