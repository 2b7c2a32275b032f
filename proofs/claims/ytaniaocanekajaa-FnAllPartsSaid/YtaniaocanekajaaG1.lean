/- The program's PartsOf, BeginsWith and TraceValid, walked by the engine. -/
import Derived.Test.YtaniaocanekajaaF1
import Derived.Test.YtaniaocanekajaaD7
import Derived.Test.YtaniaocanekajaaGrpJ
import Derived.Test.YtaniaocanekajaaEngMin
namespace Go.Proofs.Ytaniaocanekajaa
set_option linter.unusedSimpArgs false
set_option linter.unusedVariables false
set_option maxRecDepth 8000
set_option maxHeartbeats 2000000
open Go Go.RowKit AV

def partsOfIR (args : List AV) (r : AV) : Prop := ∃ (e : List Int) (atom act : Int), args = [ints e, I atom, I act] ∧ e.length ≤ 1048576 ∧ r = oorows (partsOfD e atom act)

theorem implPartsOf_ctr : CtrOK Try.prog 18 (pureC partsOfIR) := by
  refine ctr_pure' Try.func18 rfl rfl Try.ntmps18 ?_
  rintro _ _ ⟨e, atom, act, rfl, hl, rfl⟩
  refine ⟨by simp, fun κ hκ => ?_⟩
  have hbig := bigW_gt
  rw [argEnv_eq]
  simp only [envA]
  have hΓ := ctxOf_ok (P := Try.prog) (cx implKatValid_ctr <| cx isAtom_ctr <| cx isAct_ctr <| cx build_ctr <| cx tparts_ctr <| cx0)
  repeat' (first | refine wS fun K hK => ?_ | refine wB ?_ | ((first | refine wR hΓ ?_ | refine wD hΓ fun B hB => ?_); simp (config := { maxSteps := 2000000 }) only [go_sem]) | ((repeat ((fail_if_success (refine hK _ ?_)); clear hK K)); refine hK _ ?_; clear hK K) | (refine w1 ?_; simp only [xs, xi, Nat.reduceEqDiff, reduceCtorEq]) | (refine wC (fun hb => ?_) fun hb => ?_ <;> (try simp only [xb, reduceCtorEq] at hb)) | (refine w2 (fun hc => ?_) (fun hc => ?_) <;> (try simp only [xc] at hc) <;> (try simp only [go_sem, hc]) <;> (try simp only [xb] at hc)) | refine wI ?_ | refine ex_idx (by omega) ?_ | fail)
  (first | refine wA rfl _ (⟨e, rfl, by omega, rfl⟩) ?_ | refine dA rfl _ (⟨e, rfl, by omega, rfl⟩) ?_); simp (config := { maxSteps := 2000000 }) only [go_sem]
  repeat' (first | refine wS fun K hK => ?_ | refine wB ?_ | ((first | refine wR hΓ ?_ | refine wD hΓ fun B hB => ?_); simp (config := { maxSteps := 2000000 }) only [go_sem]) | ((repeat ((fail_if_success (refine hK _ ?_)); clear hK K)); refine hK _ ?_; clear hK K) | (refine w1 ?_; simp only [xs, xi, Nat.reduceEqDiff, reduceCtorEq]) | (refine wC (fun hb => ?_) fun hb => ?_ <;> (try simp only [xb, reduceCtorEq] at hb)) | (refine w2 (fun hc => ?_) (fun hc => ?_) <;> (try simp only [xc] at hc) <;> (try simp only [go_sem, hc]) <;> (try simp only [xb] at hc)) | refine wI ?_ | refine ex_idx (by omega) ?_ | fail)
  · (first | refine wA rfl _ (⟨atom, rfl, rfl⟩) ?_ | refine dA rfl _ (⟨atom, rfl, rfl⟩) ?_); simp (config := { maxSteps := 2000000 }) only [go_sem]
    repeat' (first | refine wS fun K hK => ?_ | refine wB ?_ | ((first | refine wR hΓ ?_ | refine wD hΓ fun B hB => ?_); simp (config := { maxSteps := 2000000 }) only [go_sem]) | ((repeat ((fail_if_success (refine hK _ ?_)); clear hK K)); refine hK _ ?_; clear hK K) | (refine w1 ?_; simp only [xs, xi, Nat.reduceEqDiff, reduceCtorEq]) | (refine wC (fun hb => ?_) fun hb => ?_ <;> (try simp only [xb, reduceCtorEq] at hb)) | (refine w2 (fun hc => ?_) (fun hc => ?_) <;> (try simp only [xc] at hc) <;> (try simp only [go_sem, hc]) <;> (try simp only [xb] at hc)) | refine wI ?_ | refine ex_idx (by omega) ?_ | fail)
    · (first | refine wA rfl _ (⟨act, rfl, rfl⟩) ?_ | refine dA rfl _ (⟨act, rfl, rfl⟩) ?_); simp (config := { maxSteps := 2000000 }) only [go_sem]
      repeat' (first | refine wS fun K hK => ?_ | refine wB ?_ | ((first | refine wR hΓ ?_ | refine wD hΓ fun B hB => ?_); simp (config := { maxSteps := 2000000 }) only [go_sem]) | ((repeat ((fail_if_success (refine hK _ ?_)); clear hK K)); refine hK _ ?_; clear hK K) | (refine w1 ?_; simp only [xs, xi, Nat.reduceEqDiff, reduceCtorEq]) | (refine wC (fun hb => ?_) fun hb => ?_ <;> (try simp only [xb, reduceCtorEq] at hb)) | (refine w2 (fun hc => ?_) (fun hc => ?_) <;> (try simp only [xc] at hc) <;> (try simp only [go_sem, hc]) <;> (try simp only [xb] at hc)) | refine wI ?_ | refine ex_idx (by omega) ?_ | fail)
      · rw [partsOfD_no (fun h => absurd h.2.2 ‹¬ (16 ≤ act ∧ act ≤ 18)›)]
        simp [Try.results18, RetOK, RetP, backA, upd_at, plainB, getP, isOwn, anyOwn, isP]
      · have hk := ‹katB e = true›
        have ha := ‹0 ≤ atom ∧ atom ≤ 3›
        have hac := ‹16 ≤ act ∧ act ≤ 18›
        obtain ⟨x, hw, rfl, h40⟩ := katB_tree hk
        have hpd := partsOfD_yes hw hk ha hac
        have hat : ((atom.toNat : Nat) : Int) = atom := by omega
        (first | refine wA rfl _ (⟨x, rfl, hw, by omega, (treeA_eq x).symm⟩) ?_ | refine dA rfl _ (⟨x, rfl, hw, by omega, (treeA_eq x).symm⟩) ?_); simp (config := { maxSteps := 2000000 }) only [go_sem]
        repeat' (first | refine wS fun K hK => ?_ | refine wB ?_ | ((first | refine wR hΓ ?_ | refine wD hΓ fun B hB => ?_); simp (config := { maxSteps := 2000000 }) only [go_sem]) | ((repeat ((fail_if_success (refine hK _ ?_)); clear hK K)); refine hK _ ?_; clear hK K) | (refine w1 ?_; simp only [xs, xi, Nat.reduceEqDiff, reduceCtorEq]) | (refine wC (fun hb => ?_) fun hb => ?_ <;> (try simp only [xb, reduceCtorEq] at hb)) | (refine w2 (fun hc => ?_) (fun hc => ?_) <;> (try simp only [xc] at hc) <;> (try simp only [go_sem, hc]) <;> (try simp only [xb] at hc)) | refine wI ?_ | refine ex_idx (by omega) ?_ | fail)
        (first | refine wA rfl _ (⟨x, atom.toNat, act, by rw [treeA_eq, hat], hw, by omega, by omega, hac.1, hac.2, rfl⟩) ?_ | refine dA rfl _ (⟨x, atom.toNat, act, by rw [treeA_eq, hat], hw, by omega, by omega, hac.1, hac.2, rfl⟩) ?_); simp (config := { maxSteps := 2000000 }) only [go_sem]
        repeat' (first | refine wS fun K hK => ?_ | refine wB ?_ | ((first | refine wR hΓ ?_ | refine wD hΓ fun B hB => ?_); simp (config := { maxSteps := 2000000 }) only [go_sem]) | ((repeat ((fail_if_success (refine hK _ ?_)); clear hK K)); refine hK _ ?_; clear hK K) | (refine w1 ?_; simp only [xs, xi, Nat.reduceEqDiff, reduceCtorEq]) | (refine wC (fun hb => ?_) fun hb => ?_ <;> (try simp only [xb, reduceCtorEq] at hb)) | (refine w2 (fun hc => ?_) (fun hc => ?_) <;> (try simp only [xc] at hc) <;> (try simp only [go_sem, hc]) <;> (try simp only [xb] at hc)) | refine wI ?_ | refine ex_idx (by omega) ?_ | fail)
        rw [hpd]
        simp [Try.results18, RetOK, RetP, backA, upd_at, plainB, getP, isOwn, anyOwn, isP]
    · rw [partsOfD_no (fun h => absurd h.2.1 ‹¬ (0 ≤ atom ∧ atom ≤ 3)›)]
      simp [Try.results18, RetOK, RetP, backA, upd_at, plainB, getP, isOwn, anyOwn, isP]
  · rw [partsOfD_no (fun h => by have := ‹katB e = false›; simp [this] at h)]
    simp [Try.results18, RetOK, RetP, backA, upd_at, plainB, getP, isOwn, anyOwn, isP]

end Go.Proofs.Ytaniaocanekajaa
