/- An expression backwards in the reference, walked by the engine. -/
import Derived.Test.YtboandkjhdaobaaGrpE
import Derived.Test.YtboandkjhdaobaaBack
import Derived.Test.YtboandkjhdaobaaEngMin
namespace Go.Proofs.Ytboandkjhdaobaa
set_option linter.unusedSimpArgs false
set_option linter.unusedVariables false
set_option maxRecDepth 8000
set_option maxHeartbeats 2000000
open Go Go.RowKit AV

def sbackR (N : Nat) (args : List AV) (r : AV) : Prop := ∃ x : Ex, args = [ints x.steps] ∧ x.wf ∧ x.steps.length ≤ N ∧ r = oints (backX x).steps

theorem l2Back_step (N : Nat) (hN : N ≤ 1048576) (ih : CtrOK Try.prog 174 (pureC (sbackR (N - 1)))) : CtrOK Try.prog 174 (pureC (sbackR N)) := by
  have l2BackI_ctr := ih
  refine ctr_pure' Try.func174 rfl rfl Try.ntmps174 ?_
  rintro _ _ ⟨x, rfl, hw, hl, rfl⟩
  refine ⟨by simp, fun κ hκ => ?_⟩
  have hbig := bigW_gt
  rw [argEnv_eq]
  simp only [envA]
  have hΓ := ctxOf_ok (P := Try.prog) (cx l2Halves_ctr <| cx l2BackI_ctr <| cx l2Join_ctr <| cx0)
  have hpos := x.steps_pos
  have e1 : ((x.steps.length : Nat) : Int) - 1 = ((x.steps.length - 1 : Nat) : Int) := by omega
  have hlast := steps_get (x := x) (by omega)
  have hop := op_wf hw
  repeat' (first | refine wS fun K hK => ?_ | refine wB ?_ | ((first | refine wR hΓ ?_ | refine wD hΓ fun B hB => ?_); simp (config := { maxSteps := 2000000 }) only [go_sem, e1, hlast]) | ((repeat ((fail_if_success (refine hK _ ?_)); clear hK K)); refine hK _ ?_; clear hK K) | (refine w1 ?_; simp only [xs, xi, Nat.reduceEqDiff, reduceCtorEq]) | (refine wC (fun hb => ?_) fun hb => ?_ <;> (try simp only [xb, reduceCtorEq] at hb)) | (refine w2 (fun hc => ?_) (fun hc => ?_) <;> (try simp only [xc] at hc) <;> (try simp only [go_sem, hc, e1, hlast]) <;> (try simp only [xb] at hc)) | refine wI ?_ | refine ex_idx (by omega) ?_ | fail)
  · cases x with
    | leaf n => have := hw.2; simp [Ex.op] at hb; omega
    | thn a b => simp [Ex.op] at hb
    | pls a b => simp [Ex.op] at hb
    | str a =>
      have hlen : (Ex.str a).steps.length = a.steps.length + 1 := by simp only [Ex.steps, List.length_append, List.length_cons, List.length_nil]
      have hpa := a.steps_pos
      have ht : (Ex.str a).steps.take ((Ex.str a).steps.length - 1) = a.steps := by rw [hlen]; simp [Ex.steps]
      have hla := backX_len a
      simp only [← List.map_take, ht]
      (first | refine wA rfl _ (⟨a, rfl, hw, by omega, rfl⟩) ?_ | refine dA rfl _ (⟨a, rfl, hw, by omega, rfl⟩) ?_); simp (config := { maxSteps := 2000000 }) only [go_sem]
      repeat' (first | refine wS fun K hK => ?_ | refine wB ?_ | ((first | refine wR hΓ ?_ | refine wD hΓ fun B hB => ?_); simp (config := { maxSteps := 2000000 }) only [go_sem]) | ((repeat ((fail_if_success (refine hK _ ?_)); clear hK K)); refine hK _ ?_; clear hK K) | (refine w1 ?_; simp only [xs, xi, Nat.reduceEqDiff, reduceCtorEq]) | (refine wC (fun hb => ?_) fun hb => ?_ <;> (try simp only [xb, reduceCtorEq] at hb)) | (refine w2 (fun hc => ?_) (fun hc => ?_) <;> (try simp only [xc] at hc) <;> (try simp only [go_sem, hc]) <;> (try simp only [xb] at hc)) | refine wI ?_ | refine ex_idx (by omega) ?_ | fail)
      have e : (backX (.str a)).steps = (backX a).steps ++ [21] := rfl
      rw [e]
      simp [Try.results174, RetOK, RetP, backA, upd_at, plainB, getP, isOwn, anyOwn, isP]
  · cases x with
    | leaf n => have := hw.2; simp [Ex.op] at hb; omega
    | thn a b => simp [Ex.op] at hb
    | str a => simp [Ex.op] at hb
    | pls a b =>
      have hlen : (Ex.pls a b).steps.length = a.steps.length + b.steps.length + 1 := by simp only [Ex.steps, List.length_append, List.length_cons, List.length_nil]; omega
      have hpa := a.steps_pos
      have hpb := b.steps_pos
      have hla := backX_len a
      have hlb := backX_len b
      (first | refine wA rfl _ (⟨a, b, 20, rfl, hw.1, hw.2, by show (Ex.pls a b).steps.length ≤ _; omega, rfl⟩) ?_ | refine dA rfl _ (⟨a, b, 20, rfl, hw.1, hw.2, by show (Ex.pls a b).steps.length ≤ _; omega, rfl⟩) ?_); simp (config := { maxSteps := 2000000 }) only [go_sem]
      repeat' (first | refine wS fun K hK => ?_ | refine wB ?_ | ((first | refine wR hΓ ?_ | refine wD hΓ fun B hB => ?_); simp (config := { maxSteps := 2000000 }) only [go_sem]) | ((repeat ((fail_if_success (refine hK _ ?_)); clear hK K)); refine hK _ ?_; clear hK K) | (refine w1 ?_; simp only [xs, xi, Nat.reduceEqDiff, reduceCtorEq]) | (refine wC (fun hb => ?_) fun hb => ?_ <;> (try simp only [xb, reduceCtorEq] at hb)) | (refine w2 (fun hc => ?_) (fun hc => ?_) <;> (try simp only [xc] at hc) <;> (try simp only [go_sem, hc]) <;> (try simp only [xb] at hc)) | refine wI ?_ | refine ex_idx (by omega) ?_ | fail)
      (first | refine wA rfl _ (⟨a, rfl, hw.1, by omega, rfl⟩) ?_ | refine dA rfl _ (⟨a, rfl, hw.1, by omega, rfl⟩) ?_); simp (config := { maxSteps := 2000000 }) only [go_sem]
      repeat' (first | refine wS fun K hK => ?_ | refine wB ?_ | ((first | refine wR hΓ ?_ | refine wD hΓ fun B hB => ?_); simp (config := { maxSteps := 2000000 }) only [go_sem]) | ((repeat ((fail_if_success (refine hK _ ?_)); clear hK K)); refine hK _ ?_; clear hK K) | (refine w1 ?_; simp only [xs, xi, Nat.reduceEqDiff, reduceCtorEq]) | (refine wC (fun hb => ?_) fun hb => ?_ <;> (try simp only [xb, reduceCtorEq] at hb)) | (refine w2 (fun hc => ?_) (fun hc => ?_) <;> (try simp only [xc] at hc) <;> (try simp only [go_sem, hc]) <;> (try simp only [xb] at hc)) | refine wI ?_ | refine ex_idx (by omega) ?_ | fail)
      (first | refine wA rfl _ (⟨b, rfl, hw.2, by omega, rfl⟩) ?_ | refine dA rfl _ (⟨b, rfl, hw.2, by omega, rfl⟩) ?_); simp (config := { maxSteps := 2000000 }) only [go_sem]
      repeat' (first | refine wS fun K hK => ?_ | refine wB ?_ | ((first | refine wR hΓ ?_ | refine wD hΓ fun B hB => ?_); simp (config := { maxSteps := 2000000 }) only [go_sem]) | ((repeat ((fail_if_success (refine hK _ ?_)); clear hK K)); refine hK _ ?_; clear hK K) | (refine w1 ?_; simp only [xs, xi, Nat.reduceEqDiff, reduceCtorEq]) | (refine wC (fun hb => ?_) fun hb => ?_ <;> (try simp only [xb, reduceCtorEq] at hb)) | (refine w2 (fun hc => ?_) (fun hc => ?_) <;> (try simp only [xc] at hc) <;> (try simp only [go_sem, hc]) <;> (try simp only [xb] at hc)) | refine wI ?_ | refine ex_idx (by omega) ?_ | fail)
      (first | refine wA rfl _ (⟨(backX a).steps, (backX b).steps, 20, by simp [view_I, view], by omega, by omega, rfl⟩) ?_ | refine dA rfl _ (⟨(backX a).steps, (backX b).steps, 20, by simp [view_I, view], by omega, by omega, rfl⟩) ?_); simp (config := { maxSteps := 2000000 }) only [go_sem]
      repeat' (first | refine wS fun K hK => ?_ | refine wB ?_ | ((first | refine wR hΓ ?_ | refine wD hΓ fun B hB => ?_); simp (config := { maxSteps := 2000000 }) only [go_sem]) | ((repeat ((fail_if_success (refine hK _ ?_)); clear hK K)); refine hK _ ?_; clear hK K) | (refine w1 ?_; simp only [xs, xi, Nat.reduceEqDiff, reduceCtorEq]) | (refine wC (fun hb => ?_) fun hb => ?_ <;> (try simp only [xb, reduceCtorEq] at hb)) | (refine w2 (fun hc => ?_) (fun hc => ?_) <;> (try simp only [xc] at hc) <;> (try simp only [go_sem, hc]) <;> (try simp only [xb] at hc)) | refine wI ?_ | refine ex_idx (by omega) ?_ | fail)
      simp [Try.results174, RetOK, RetP, backA, upd_at, plainB, getP, isOwn, anyOwn, isP]
      simp [backX, Ex.steps]
  · cases x with
    | leaf n => have := hw.2; simp [Ex.op] at hb; omega
    | pls a b => simp [Ex.op] at hb
    | str a => simp [Ex.op] at hb
    | thn a b =>
      have hlen : (Ex.thn a b).steps.length = a.steps.length + b.steps.length + 1 := by simp only [Ex.steps, List.length_append, List.length_cons, List.length_nil]; omega
      have hpa := a.steps_pos
      have hpb := b.steps_pos
      have hla := backX_len a
      have hlb := backX_len b
      (first | refine wA rfl _ (⟨a, b, 19, rfl, hw.1, hw.2, by show (Ex.thn a b).steps.length ≤ _; omega, rfl⟩) ?_ | refine dA rfl _ (⟨a, b, 19, rfl, hw.1, hw.2, by show (Ex.thn a b).steps.length ≤ _; omega, rfl⟩) ?_); simp (config := { maxSteps := 2000000 }) only [go_sem]
      repeat' (first | refine wS fun K hK => ?_ | refine wB ?_ | ((first | refine wR hΓ ?_ | refine wD hΓ fun B hB => ?_); simp (config := { maxSteps := 2000000 }) only [go_sem]) | ((repeat ((fail_if_success (refine hK _ ?_)); clear hK K)); refine hK _ ?_; clear hK K) | (refine w1 ?_; simp only [xs, xi, Nat.reduceEqDiff, reduceCtorEq]) | (refine wC (fun hb => ?_) fun hb => ?_ <;> (try simp only [xb, reduceCtorEq] at hb)) | (refine w2 (fun hc => ?_) (fun hc => ?_) <;> (try simp only [xc] at hc) <;> (try simp only [go_sem, hc]) <;> (try simp only [xb] at hc)) | refine wI ?_ | refine ex_idx (by omega) ?_ | fail)
      (first | refine wA rfl _ (⟨b, rfl, hw.2, by omega, rfl⟩) ?_ | refine dA rfl _ (⟨b, rfl, hw.2, by omega, rfl⟩) ?_); simp (config := { maxSteps := 2000000 }) only [go_sem]
      repeat' (first | refine wS fun K hK => ?_ | refine wB ?_ | ((first | refine wR hΓ ?_ | refine wD hΓ fun B hB => ?_); simp (config := { maxSteps := 2000000 }) only [go_sem]) | ((repeat ((fail_if_success (refine hK _ ?_)); clear hK K)); refine hK _ ?_; clear hK K) | (refine w1 ?_; simp only [xs, xi, Nat.reduceEqDiff, reduceCtorEq]) | (refine wC (fun hb => ?_) fun hb => ?_ <;> (try simp only [xb, reduceCtorEq] at hb)) | (refine w2 (fun hc => ?_) (fun hc => ?_) <;> (try simp only [xc] at hc) <;> (try simp only [go_sem, hc]) <;> (try simp only [xb] at hc)) | refine wI ?_ | refine ex_idx (by omega) ?_ | fail)
      (first | refine wA rfl _ (⟨a, rfl, hw.1, by omega, rfl⟩) ?_ | refine dA rfl _ (⟨a, rfl, hw.1, by omega, rfl⟩) ?_); simp (config := { maxSteps := 2000000 }) only [go_sem]
      repeat' (first | refine wS fun K hK => ?_ | refine wB ?_ | ((first | refine wR hΓ ?_ | refine wD hΓ fun B hB => ?_); simp (config := { maxSteps := 2000000 }) only [go_sem]) | ((repeat ((fail_if_success (refine hK _ ?_)); clear hK K)); refine hK _ ?_; clear hK K) | (refine w1 ?_; simp only [xs, xi, Nat.reduceEqDiff, reduceCtorEq]) | (refine wC (fun hb => ?_) fun hb => ?_ <;> (try simp only [xb, reduceCtorEq] at hb)) | (refine w2 (fun hc => ?_) (fun hc => ?_) <;> (try simp only [xc] at hc) <;> (try simp only [go_sem, hc]) <;> (try simp only [xb] at hc)) | refine wI ?_ | refine ex_idx (by omega) ?_ | fail)
      (first | refine wA rfl _ (⟨(backX b).steps, (backX a).steps, 19, by simp [view_I, view], by omega, by omega, rfl⟩) ?_ | refine dA rfl _ (⟨(backX b).steps, (backX a).steps, 19, by simp [view_I, view], by omega, by omega, rfl⟩) ?_); simp (config := { maxSteps := 2000000 }) only [go_sem]
      repeat' (first | refine wS fun K hK => ?_ | refine wB ?_ | ((first | refine wR hΓ ?_ | refine wD hΓ fun B hB => ?_); simp (config := { maxSteps := 2000000 }) only [go_sem]) | ((repeat ((fail_if_success (refine hK _ ?_)); clear hK K)); refine hK _ ?_; clear hK K) | (refine w1 ?_; simp only [xs, xi, Nat.reduceEqDiff, reduceCtorEq]) | (refine wC (fun hb => ?_) fun hb => ?_ <;> (try simp only [xb, reduceCtorEq] at hb)) | (refine w2 (fun hc => ?_) (fun hc => ?_) <;> (try simp only [xc] at hc) <;> (try simp only [go_sem, hc]) <;> (try simp only [xb] at hc)) | refine wI ?_ | refine ex_idx (by omega) ?_ | fail)
      simp [Try.results174, RetOK, RetP, backA, upd_at, plainB, getP, isOwn, anyOwn, isP]
      simp [backX, Ex.steps]
  · cases x with
    | leaf n =>
      have e : (backX (.leaf n)).steps = (Ex.leaf n).steps := rfl
      rw [e]
      simp [Try.results174, RetOK, RetP, backA, upd_at, plainB, getP, isOwn, anyOwn, isP]
    | thn a b => simp [Ex.op] at *
    | pls a b => simp [Ex.op] at *
    | str a => simp [Ex.op] at *

theorem l2Back_all : ∀ N : Nat, N ≤ 1048576 → CtrOK Try.prog 174 (pureC (sbackR N))
  | 0, _ => l2Back_step 0 (by omega) ⟨⟨_, _, Try.func174, rfl, rfl⟩, fun args r args' ⟨_, x, _, _, h, _⟩ => by have := x.steps_pos; omega⟩
  | N + 1, h => l2Back_step (N + 1) h (l2Back_all N (by omega))
theorem l2Back_ctr : CtrOK Try.prog 174 (pureC (sbackR 1048576)) := l2Back_all 1048576 (by omega)

theorem specKatBack_ctr : CtrOK Try.prog 145 (pureC katBackR) := by
  refine ctr_pure' Try.func145 rfl rfl Try.ntmps145 ?_
  rintro _ _ ⟨e, rfl, hl, rfl⟩
  refine ⟨by simp, fun κ hκ => ?_⟩
  have hbig := bigW_gt
  rw [argEnv_eq]
  simp only [envA]
  have hΓ := ctxOf_ok (P := Try.prog) (cx specKatValid_ctr <| cx l2Back_ctr <| cx0)
  repeat' (first | refine wS fun K hK => ?_ | refine wB ?_ | ((first | refine wR hΓ ?_ | refine wD hΓ fun B hB => ?_); simp (config := { maxSteps := 2000000 }) only [go_sem]) | ((repeat ((fail_if_success (refine hK _ ?_)); clear hK K)); refine hK _ ?_; clear hK K) | (refine w1 ?_; simp only [xs, xi, Nat.reduceEqDiff, reduceCtorEq]) | (refine wC (fun hb => ?_) fun hb => ?_ <;> (try simp only [xb, reduceCtorEq] at hb)) | (refine w2 (fun hc => ?_) (fun hc => ?_) <;> (try simp only [xc] at hc) <;> (try simp only [go_sem, hc]) <;> (try simp only [xb] at hc)) | refine wI ?_ | refine ex_idx (by omega) ?_ | fail)
  (first | refine wA rfl _ (⟨e, rfl, by omega, rfl⟩) ?_ | refine dA rfl _ (⟨e, rfl, by omega, rfl⟩) ?_); simp (config := { maxSteps := 2000000 }) only [go_sem]
  cases hkb : katB e
  · repeat' (first | refine wS fun K hK => ?_ | refine wB ?_ | ((first | refine wR hΓ ?_ | refine wD hΓ fun B hB => ?_); simp (config := { maxSteps := 2000000 }) only [go_sem]) | ((repeat ((fail_if_success (refine hK _ ?_)); clear hK K)); refine hK _ ?_; clear hK K) | (refine w1 ?_; simp only [xs, xi, Nat.reduceEqDiff, reduceCtorEq]) | (refine wC (fun hb => ?_) fun hb => ?_ <;> (try simp only [xb, reduceCtorEq] at hb)) | (refine w2 (fun hc => ?_) (fun hc => ?_) <;> (try simp only [xc] at hc) <;> (try simp only [go_sem, hc]) <;> (try simp only [xb] at hc)) | refine wI ?_ | refine ex_idx (by omega) ?_ | fail)
    rw [backL_no hkb]
    simp [Try.results145, RetOK, RetP, backA, upd_at, plainB, getP, isOwn, anyOwn, isP]
  · repeat' (first | refine wS fun K hK => ?_ | refine wB ?_ | ((first | refine wR hΓ ?_ | refine wD hΓ fun B hB => ?_); simp (config := { maxSteps := 2000000 }) only [go_sem]) | ((repeat ((fail_if_success (refine hK _ ?_)); clear hK K)); refine hK _ ?_; clear hK K) | (refine w1 ?_; simp only [xs, xi, Nat.reduceEqDiff, reduceCtorEq]) | (refine wC (fun hb => ?_) fun hb => ?_ <;> (try simp only [xb, reduceCtorEq] at hb)) | (refine w2 (fun hc => ?_) (fun hc => ?_) <;> (try simp only [xc] at hc) <;> (try simp only [go_sem, hc]) <;> (try simp only [xb] at hc)) | refine wI ?_ | refine ex_idx (by omega) ?_ | fail)
    obtain ⟨x, hw, rfl, hxl⟩ := (katB_true.1 hkb).ex
    (first | refine wA rfl _ (⟨x, rfl, hw, by omega, rfl⟩) ?_ | refine dA rfl _ (⟨x, rfl, hw, by omega, rfl⟩) ?_); simp (config := { maxSteps := 2000000 }) only [go_sem]
    repeat' (first | refine wS fun K hK => ?_ | refine wB ?_ | ((first | refine wR hΓ ?_ | refine wD hΓ fun B hB => ?_); simp (config := { maxSteps := 2000000 }) only [go_sem]) | ((repeat ((fail_if_success (refine hK _ ?_)); clear hK K)); refine hK _ ?_; clear hK K) | (refine w1 ?_; simp only [xs, xi, Nat.reduceEqDiff, reduceCtorEq]) | (refine wC (fun hb => ?_) fun hb => ?_ <;> (try simp only [xb, reduceCtorEq] at hb)) | (refine w2 (fun hc => ?_) (fun hc => ?_) <;> (try simp only [xc] at hc) <;> (try simp only [go_sem, hc]) <;> (try simp only [xb] at hc)) | refine wI ?_ | refine ex_idx (by omega) ?_ | fail)
    rw [backL_yes hw hkb]
    simp [Try.results145, RetOK, RetP, backA, upd_at, plainB, getP, isOwn, anyOwn, isP]

end Go.Proofs.Ytboandkjhdaobaa
