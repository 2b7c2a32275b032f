/- l1Has of the reference: whether a list has a number. Walked by the engine. -/
import Derived.Test.YtljoonlcpiagjaaTy
import Derived.Test.YtljoonlcpiagjaaEngMin
namespace Go.Proofs.Ytljoonlcpiagjaa
set_option linter.unusedSimpArgs false
set_option linter.unusedVariables false
set_option maxRecDepth 8000
set_option maxHeartbeats 2000000
open Go Go.RowKit AV

def l1HasR (args : List AV) (r : AV) : Prop := ∃ (l : List Int) (n : Int), args = [ints l, I n] ∧ l.length ≤ 1099511627776 ∧ r = .bool (decide (n ∈ l))
theorem l1Has_ctr : CtrOK Try.prog 99 (pureC l1HasR) := by
  refine ctr_pure' Try.func99 rfl rfl Try.ntmps99 ?_
  rintro _ _ ⟨l, n, rfl, hl, rfl⟩
  refine ⟨by simp, fun κ hκ => ?_⟩
  rw [argEnv_eq]
  simp only [envA]
  have hΓ := noCtx_ok Try.prog
  repeat' (first | refine wS fun K hK => ?_ | refine wB ?_ | ((first | refine wR hΓ ?_ | refine wD hΓ fun B hB => ?_); simp (config := { maxSteps := 2000000 }) only [go_sem]) | ((repeat ((fail_if_success (refine hK _ ?_)); clear hK K)); refine hK _ ?_; clear hK K) | (refine w1 ?_; simp only [xs, xi, Nat.reduceEqDiff, reduceCtorEq]) | (refine wC (fun hb => ?_) fun hb => ?_ <;> (try simp only [xb, reduceCtorEq] at hb)) | (refine w2 (fun hc => ?_) (fun hc => ?_) <;> (try simp only [xc] at hc) <;> (try simp only [go_sem, hc]) <;> (try simp only [xb] at hc)) | refine wI ?_ | refine ex_idx (by omega) ?_ | fail)
  refine CW.loop (ι := Nat) (fun k => [(0, ints l), (1, I n), (5, I k)]) (fun k => k ≤ l.length ∧ n ∉ l.take k) (fun k => l.length - k) 0 ?_ ?_
  · simp only [LeL, upd_at]; simp
  rintro k ⟨hk, hnk⟩
  simp only [envOf]
  repeat' (first | refine wS fun K hK => ?_ | refine wB ?_ | ((first | refine wR hΓ ?_ | refine wD hΓ fun B hB => ?_); simp (config := { maxSteps := 2000000 }) only [go_sem]) | ((repeat ((fail_if_success (refine hK _ ?_)); clear hK K)); refine hK _ ?_; clear hK K) | (refine w1 ?_; simp only [xs, xi, Nat.reduceEqDiff, reduceCtorEq]) | (refine wC (fun hb => ?_) fun hb => ?_ <;> (try simp only [xb, reduceCtorEq] at hb)) | (refine w2 (fun hc => ?_) (fun hc => ?_) <;> (try simp only [xc] at hc) <;> (try simp only [go_sem, hc]) <;> (try simp only [xb] at hc)) | refine wI ?_ | refine ex_idx (by omega) ?_ | fail)
  · simp [Try.results99, RetOK, upd_at, plainB, ← hb]
  · refine ⟨k + 1, by (simp only [xe, xj, Nat.reduceEqDiff]; (try simp [view, viewL_map]); (try omega)), ⟨by omega, ?_⟩, by omega⟩
    have h5 : n ∉ l.take (k + 1) := by
      rw [List.take_succ_eq_append_getElem (show k < l.length by omega)]
      simp only [List.mem_append, List.mem_singleton, hnk, Ne.symm hb, or_self, not_false_eq_true]
    exact h5
  · have : l.take k = l := List.take_of_length_le (by omega)
    rw [this] at hnk
    simp [Try.results99, RetOK, upd_at, plainB, hnk]

end Go.Proofs.Ytljoonlcpiagjaa
