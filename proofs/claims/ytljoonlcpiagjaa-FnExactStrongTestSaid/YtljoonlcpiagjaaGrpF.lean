/- The laws' helpers, walked by the engine. -/
import Derived.Test.YtljoonlcpiagjaaTy
import Derived.Test.YtljoonlcpiagjaaEngMin
namespace Go.Proofs.Ytljoonlcpiagjaa
set_option linter.unusedSimpArgs false
set_option linter.unusedVariables false
set_option maxRecDepth 8000
set_option maxHeartbeats 2000000
open Go Go.RowKit AV

def toIntSR (args : List AV) (r : AV) : Prop := ∃ l : List Int, args = [ints l] ∧ l.length ≤ 1099511627776 ∧ r = oints l

theorem toIntS_ctr : CtrOK Try.prog 55 (pureC toIntSR) := by
  refine ctr_pure' Try.func55 rfl rfl Try.ntmps55 ?_
  rintro _ _ ⟨l, rfl, hl, rfl⟩
  refine ⟨by simp, fun κ hκ => ?_⟩
  have hbig := bigW_gt
  rw [argEnv_eq]
  simp only [envA]
  have hΓ := noCtx_ok Try.prog
  repeat' (first | refine wS fun K hK => ?_ | refine wB ?_ | ((first | refine wR hΓ ?_ | refine wD hΓ fun B hB => ?_); simp (config := { maxSteps := 2000000 }) only [go_sem]) | ((repeat ((fail_if_success (refine hK _ ?_)); clear hK K)); refine hK _ ?_; clear hK K) | (refine w1 ?_; simp only [xs, xi, Nat.reduceEqDiff, reduceCtorEq]) | (refine wC (fun hb => ?_) fun hb => ?_ <;> (try simp only [xb, reduceCtorEq] at hb)) | (refine w2 (fun hc => ?_) (fun hc => ?_) <;> (try simp only [xc] at hc) <;> (try simp only [go_sem, hc]) <;> (try simp only [xb] at hc)) | refine wI ?_ | refine ex_idx (by omega) ?_ | fail)
  refine CW.loop (ι := Nat × List Int) (fun x => [(0, ints l), (3, oints x.2), (4, I x.1)]) (fun x => x.1 ≤ l.length ∧ x.2.length = l.length ∧ x.2.take x.1 = l.take x.1) (fun x => l.length - x.1) (0, List.replicate l.length 0) ?_ ?_
  · refine ⟨by (simp only [xe, xj, Nat.reduceEqDiff]; (try simp [view, viewL_map]); (try omega)), by simp⟩
  rintro ⟨k, X⟩ ⟨hk, hX, ht⟩
  dsimp only at hk hX ht
  simp only [envOf]
  repeat' (first | refine wS fun K hK => ?_ | refine wB ?_ | ((first | refine wR hΓ ?_ | refine wD hΓ fun B hB => ?_); simp (config := { maxSteps := 2000000 }) only [go_sem]) | ((repeat ((fail_if_success (refine hK _ ?_)); clear hK K)); refine hK _ ?_; clear hK K) | (refine w1 ?_; simp only [xs, xi, Nat.reduceEqDiff, reduceCtorEq]) | (refine wC (fun hb => ?_) fun hb => ?_ <;> (try simp only [xb, reduceCtorEq] at hb)) | (refine w2 (fun hc => ?_) (fun hc => ?_) <;> (try simp only [xc] at hc) <;> (try simp only [go_sem, hc]) <;> (try simp only [xb] at hc)) | refine wI ?_ | refine ex_idx (by omega) ?_ | fail)
  · exact ⟨(k + 1, X.set k (l[k]'(by omega))), by (simp only [xe, xj, Nat.reduceEqDiff]; (try simp [view, viewL_map]); (try omega)), ⟨by dsimp only; omega, by simpa using hX, take_set_succ (by omega) (by omega) ht⟩, by dsimp only; omega⟩
  · have hkl : k = l.length := by omega
    have hXl : X = l := by
      rw [hkl] at ht
      rwa [List.take_of_length_le (by omega), List.take_of_length_le (Nat.le_refl _)] at ht
    subst hXl
    simp [Try.results55, RetOK, RetP, backA, upd_at, plainB, getP, isOwn, anyOwn, isP]

def eqIntSR (args : List AV) (r : AV) : Prop := ∃ l m : List Int, args = [ints l, ints m] ∧ l.length ≤ 1099511627776 ∧ m.length ≤ 1099511627776 ∧ r = .bool (decide (l = m))

theorem eqIntS_ctr : CtrOK Try.prog 48 (pureC eqIntSR) := by
  refine ctr_pure' Try.func48 rfl rfl Try.ntmps48 ?_
  rintro _ _ ⟨l, m, rfl, hl, hm, rfl⟩
  refine ⟨by simp, fun κ hκ => ?_⟩
  have hbig := bigW_gt
  rw [argEnv_eq]
  simp only [envA]
  have hΓ := noCtx_ok Try.prog
  repeat' (first | refine wS fun K hK => ?_ | refine wB ?_ | ((first | refine wR hΓ ?_ | refine wD hΓ fun B hB => ?_); simp (config := { maxSteps := 2000000 }) only [go_sem]) | ((repeat ((fail_if_success (refine hK _ ?_)); clear hK K)); refine hK _ ?_; clear hK K) | (refine w1 ?_; simp only [xs, xi, Nat.reduceEqDiff, reduceCtorEq]) | (refine wC (fun hb => ?_) fun hb => ?_ <;> (try simp only [xb, reduceCtorEq] at hb)) | (refine w2 (fun hc => ?_) (fun hc => ?_) <;> (try simp only [xc] at hc) <;> (try simp only [go_sem, hc]) <;> (try simp only [xb] at hc)) | refine wI ?_ | refine ex_idx (by omega) ?_ | fail)
  · have : l ≠ m := fun e => by subst e; omega
    simp [Try.results48, RetOK, upd_at, plainB, this]
  refine CW.loop (ι := Nat) (fun k => [(0, ints l), (1, ints m), (5, I k)]) (fun k => k ≤ l.length ∧ l.take k = m.take k) (fun k => l.length - k) 0 ?_ ?_
  · refine ⟨by (simp only [xe, xj, Nat.reduceEqDiff]; (try simp [view, viewL_map]); (try omega)), by simp⟩
  rintro k ⟨hk, ht⟩
  simp only [envOf]
  repeat' (first | refine wS fun K hK => ?_ | refine wB ?_ | ((first | refine wR hΓ ?_ | refine wD hΓ fun B hB => ?_); simp (config := { maxSteps := 2000000 }) only [go_sem]) | ((repeat ((fail_if_success (refine hK _ ?_)); clear hK K)); refine hK _ ?_; clear hK K) | (refine w1 ?_; simp only [xs, xi, Nat.reduceEqDiff, reduceCtorEq]) | (refine wC (fun hb => ?_) fun hb => ?_ <;> (try simp only [xb, reduceCtorEq] at hb)) | (refine w2 (fun hc => ?_) (fun hc => ?_) <;> (try simp only [xc] at hc) <;> (try simp only [go_sem, hc]) <;> (try simp only [xb] at hc)) | refine wI ?_ | refine ex_idx (by omega) ?_ | fail)
  · have : l ≠ m := fun e => hb (by simp only [e])
    simp [Try.results48, RetOK, upd_at, plainB, this]
  · exact ⟨k + 1, by (simp only [xe, xj, Nat.reduceEqDiff]; (try simp [view, viewL_map]); (try omega)), ⟨by omega, take_succ_eq (by omega) (by omega) ht hb⟩, by omega⟩
  · have : l = m := by rwa [List.take_of_length_le (by omega), List.take_of_length_le (by omega)] at ht
    subst this
    simp [Try.results48, RetOK, RetP, backA, upd_at, plainB, getP, isOwn, anyOwn, isP]

end Go.Proofs.Ytljoonlcpiagjaa

namespace Go.Proofs.Ytljoonlcpiagjaa
set_option linter.unusedSimpArgs false
set_option linter.unusedVariables false
set_option maxRecDepth 8000
set_option maxHeartbeats 2000000
open Go Go.RowKit AV

end Go.Proofs.Ytljoonlcpiagjaa

namespace Go.Proofs.Ytljoonlcpiagjaa
set_option linter.unusedSimpArgs false
set_option linter.unusedVariables false
set_option maxRecDepth 8000
set_option maxHeartbeats 2000000
open Go Go.RowKit AV

end Go.Proofs.Ytljoonlcpiagjaa
