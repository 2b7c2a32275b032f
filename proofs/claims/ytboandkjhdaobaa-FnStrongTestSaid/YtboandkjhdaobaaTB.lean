/- Tests below tests, in the reference and in the program; triples and the test that holds behind. Walked by the engine. -/
import Derived.Test.YtboandkjhdaobaaW2
import Derived.Test.YtboandkjhdaobaaR7a
import Derived.Test.YtboandkjhdaobaaEngMin
namespace Go.Proofs.Ytboandkjhdaobaa
set_option linter.unusedSimpArgs false
set_option linter.unusedVariables false
set_option maxRecDepth 8000
set_option maxHeartbeats 2000000
open Go Go.RowKit AV

def belowB (a b : Int) : Bool := decide (0 ≤ a ∧ a ≤ 15) && (decide (0 ≤ b ∧ b ≤ 15) && decide (a.toNat &&& b.toNat = a.toNat))
def belowR (args : List AV) (r : AV) : Prop := ∃ a b : Int, args = [I a, I b] ∧ r = .bool (belowB a b)
theorem andNot_zero {a b : Int} (ha : 0 ≤ a ∧ a ≤ 15) (hb : 0 ≤ b ∧ b ≤ 15) : decide (bits BinOp.andNot IntKind.i64 a b = 0) = decide (a.toNat &&& b.toNat = a.toNat) := by
  have hd : ∀ x y : Fin 16, decide (bits BinOp.andNot IntKind.i64 (x.val : Int) (y.val : Int) = 0) = decide (x.val &&& y.val = x.val) := by decide
  have := hd ⟨a.toNat, by omega⟩ ⟨b.toNat, by omega⟩
  have h1 : ((a.toNat : Nat) : Int) = a := by omega
  have h2 : ((b.toNat : Nat) : Int) = b := by omega
  simpa only [h1, h2] using this

theorem implTestBelow_ctr : CtrOK Try.prog 74 (pureC belowR) := by
  refine ctr_pure' Try.func74 rfl rfl Try.ntmps74 ?_
  rintro _ _ ⟨a, b, rfl, rfl⟩
  refine ⟨by simp, fun κ hκ => ?_⟩
  have hbig := bigW_gt
  rw [argEnv_eq]
  simp only [envA]
  have hΓ := ctxOf_ok (P := Try.prog) (cx implTestValid_ctr <| cx0)
  have hB : belowB a b = (decide (0 ≤ a ∧ a ≤ 15) && (decide (0 ≤ b ∧ b ≤ 15) && decide (a.toNat &&& b.toNat = a.toNat))) := rfl
  repeat' (first | refine wS fun K hK => ?_ | refine wB ?_ | ((first | refine wR hΓ ?_ | refine wD hΓ fun B hB => ?_); simp (config := { maxSteps := 2000000 }) only [go_sem]) | ((repeat ((fail_if_success (refine hK _ ?_)); clear hK K)); refine hK _ ?_; clear hK K) | (refine w1 ?_; simp only [xs, xi, Nat.reduceEqDiff, reduceCtorEq]) | (refine wC (fun hb => ?_) fun hb => ?_ <;> (try simp only [xb, reduceCtorEq] at hb)) | (refine w2 (fun hc => ?_) (fun hc => ?_) <;> (try simp only [xc] at hc) <;> (try simp only [go_sem, hc]) <;> (try simp only [xb] at hc)) | refine wI ?_ | refine ex_idx (by omega) ?_ | fail)
  obtain ⟨T, hT⟩ : ∃ T, decide (0 ≤ a ∧ a ≤ 15) = T := ⟨_, rfl⟩
  rw [hT] at hB
  (first | refine wA rfl ?_ ?_ ?_ | refine dA rfl ?_ ?_ ?_); exact (.bool T); exact (⟨a, rfl, by rw [hT]⟩); simp (config := { maxSteps := 2000000 }) only [go_sem]
  cases T with
  | false =>
    simp (config := { maxSteps := 2000000 }) only [go_sem]
    repeat' (first | refine wS fun K hK => ?_ | refine wB ?_ | ((first | refine wR hΓ ?_ | refine wD hΓ fun B hB => ?_); simp (config := { maxSteps := 2000000 }) only [go_sem]) | ((repeat ((fail_if_success (refine hK _ ?_)); clear hK K)); refine hK _ ?_; clear hK K) | (refine w1 ?_; simp only [xs, xi, Nat.reduceEqDiff, reduceCtorEq]) | (refine wC (fun hb => ?_) fun hb => ?_ <;> (try simp only [xb, reduceCtorEq] at hb)) | (refine w2 (fun hc => ?_) (fun hc => ?_) <;> (try simp only [xc] at hc) <;> (try simp only [go_sem, hc]) <;> (try simp only [xb] at hc)) | refine wI ?_ | refine ex_idx (by omega) ?_ | fail)
    rw [hB]
    simp [Try.results74, RetOK, RetP, backA, upd_at, plainB, getP, isOwn, anyOwn, isP]
  | true =>
    simp (config := { maxSteps := 2000000 }) only [go_sem]
    repeat' (first | refine wS fun K hK => ?_ | refine wB ?_ | ((first | refine wR hΓ ?_ | refine wD hΓ fun B hB => ?_); simp (config := { maxSteps := 2000000 }) only [go_sem]) | ((repeat ((fail_if_success (refine hK _ ?_)); clear hK K)); refine hK _ ?_; clear hK K) | (refine w1 ?_; simp only [xs, xi, Nat.reduceEqDiff, reduceCtorEq]) | (refine wC (fun hb => ?_) fun hb => ?_ <;> (try simp only [xb, reduceCtorEq] at hb)) | (refine w2 (fun hc => ?_) (fun hc => ?_) <;> (try simp only [xc] at hc) <;> (try simp only [go_sem, hc]) <;> (try simp only [xb] at hc)) | refine wI ?_ | refine ex_idx (by omega) ?_ | fail)
    obtain ⟨S, hS⟩ : ∃ T, decide (0 ≤ b ∧ b ≤ 15) = T := ⟨_, rfl⟩
    rw [hS] at hB
    (first | refine wA rfl ?_ ?_ ?_ | refine dA rfl ?_ ?_ ?_); exact (.bool S); exact (⟨b, rfl, by rw [hS]⟩); simp (config := { maxSteps := 2000000 }) only [go_sem]
    cases S with
    | false =>
      simp (config := { maxSteps := 2000000 }) only [go_sem]
      repeat' (first | refine wS fun K hK => ?_ | refine wB ?_ | ((first | refine wR hΓ ?_ | refine wD hΓ fun B hB => ?_); simp (config := { maxSteps := 2000000 }) only [go_sem]) | ((repeat ((fail_if_success (refine hK _ ?_)); clear hK K)); refine hK _ ?_; clear hK K) | (refine w1 ?_; simp only [xs, xi, Nat.reduceEqDiff, reduceCtorEq]) | (refine wC (fun hb => ?_) fun hb => ?_ <;> (try simp only [xb, reduceCtorEq] at hb)) | (refine w2 (fun hc => ?_) (fun hc => ?_) <;> (try simp only [xc] at hc) <;> (try simp only [go_sem, hc]) <;> (try simp only [xb] at hc)) | refine wI ?_ | refine ex_idx (by omega) ?_ | fail)
      rw [hB]
      simp [Try.results74, RetOK, RetP, backA, upd_at, plainB, getP, isOwn, anyOwn, isP]
    | true =>
      have h1 := of_decide_eq_true hT
      have h2 := of_decide_eq_true hS
      rw [← andNot_zero h1 h2] at hB
      simp (config := { maxSteps := 2000000 }) only [go_sem]
      repeat' (first | refine wS fun K hK => ?_ | refine wB ?_ | ((first | refine wR hΓ ?_ | refine wD hΓ fun B hB => ?_); simp (config := { maxSteps := 2000000 }) only [go_sem]) | ((repeat ((fail_if_success (refine hK _ ?_)); clear hK K)); refine hK _ ?_; clear hK K) | (refine w1 ?_; simp only [xs, xi, Nat.reduceEqDiff, reduceCtorEq]) | (refine wC (fun hb => ?_) fun hb => ?_ <;> (try simp only [xb, reduceCtorEq] at hb)) | (refine w2 (fun hc => ?_) (fun hc => ?_) <;> (try simp only [xc] at hc) <;> (try simp only [go_sem, hc]) <;> (try simp only [xb] at hc)) | refine wI ?_ | refine ex_idx (by omega) ?_ | fail)
      rw [hB]
      simp only [Bool.true_and]
      simp [Try.results74, RetOK, RetP, backA, upd_at, plainB, getP, isOwn, anyOwn, isP]

end Go.Proofs.Ytboandkjhdaobaa
