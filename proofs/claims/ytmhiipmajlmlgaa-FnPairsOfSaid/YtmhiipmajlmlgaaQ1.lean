/- Two automata together, in the program. Walked by the engine. -/
import Derived.Test.YtmhiipmajlmlgaaG4
import Derived.Test.YtmhiipmajlmlgaaGrpU
import Derived.Test.YtmhiipmajlmlgaaEngVw
import Derived.Test.YtmhiipmajlmlgaaPairsP
import Derived.Test.YtmhiipmajlmlgaaEngMin
namespace Go.Proofs.Ytmhiipmajlmlgaa
set_option linter.unusedSimpArgs false
set_option linter.unusedVariables false
set_option maxRecDepth 8000
set_option maxHeartbeats 2000000
open Go Go.RowKit AV

attribute [local go_sem] List.cons.injEq Prod.mk.injEq List.drop_zero List.drop_succ_cons List.take_zero List.take_succ_cons List.take_nil

def autoVR (args : List AV) (r : AV) : Prop := ∃ e : List Int, args = [ints e] ∧ e.length ≤ 1048576 ∧ r = agg [ints (autD e).ends, rows (autD e).next]
theorem implAutoOfV_ctr : CtrOK Try.prog 13 (pureC autoVR) := ctr_view implAutoOf_ctr fun args x ⟨e, h1, h2, h3⟩ =>
  ⟨agg [oints (autD e).ends, oorows (autD e).next], ⟨e, h1, h2, rfl⟩, rfl, by rw [h3]; simp [view, viewL, viewL_map, view_I, Function.comp_def]⟩

theorem stF_auto : stF Try.prog 31 0 = some 0 := by kernel_rfl
attribute [local go_sem] stF_auto

abbrev togA (A B : AutoD) : AV := agg [ints A.ends, rows A.next, ints B.ends, rows B.next]
def autosR (args : List AV) (r : AV) : Prop := ∃ e f : List Int, args = [ints e, ints f] ∧ e.length ≤ 1048576 ∧ f.length ≤ 1048576 ∧ r = .tup [togA (autD e) (autD f), .bool (decide ((autD e).ends.length ≠ 0) && decide ((autD f).ends.length ≠ 0))]
theorem autosOf_ctr : CtrOK Try.prog 37 (pureC autosR) := by
  refine ctr_many Try.func37 rfl rfl Try.ntmps37 ?_
  rintro _ _ ⟨e, f, rfl, he, hf, rfl⟩
  refine ⟨by simp, fun κ hκ => ?_⟩
  have hbig := bigW_gt
  rw [argEnv_eq]
  simp only [envA]
  have hΓ := ctxOf_ok (P := Try.prog) (cx implAutoOfV_ctr <| cx0)
  obtain ⟨A, hA⟩ : ∃ A, autD e = A := ⟨_, rfl⟩
  obtain ⟨C, hC⟩ : ∃ A, autD f = A := ⟨_, rfl⟩
  rw [hA, hC]
  repeat' (first | refine wS fun K hK => ?_ | refine wB ?_ | ((first | refine wX hΓ ?_ | refine wV hΓ fun B hB => ?_); simp (config := { maxSteps := 2000000 }) only [go_sem]) | ((repeat ((fail_if_success (refine hK _ ?_)); clear hK K)); refine hK _ ?_; clear hK K) | (refine w1 ?_; simp only [xs, xi, Nat.reduceEqDiff, reduceCtorEq, retM_ret, retM_normal, retML_ret, retML_normal]) | (refine wC (fun hb => ?_) fun hb => ?_ <;> (try simp only [xb, reduceCtorEq] at hb)) | (refine w2 (fun hc => ?_) (fun hc => ?_) <;> (try simp only [xc] at hc) <;> (try simp only [go_sem, hc]) <;> (try simp only [xb] at hc)) | refine wI ?_ | refine ex_idx (by omega) ?_ | fail)
  (first | refine wA rfl ?_ ?_ ?_ | refine dA rfl ?_ ?_ ?_); exact (agg [ints A.ends, rows A.next]); exact (⟨e, rfl, he, by rw [hA]⟩); simp (config := { maxSteps := 2000000 }) only [go_sem]
  repeat' (first | refine wS fun K hK => ?_ | refine wB ?_ | ((first | refine wX hΓ ?_ | refine wV hΓ fun B hB => ?_); simp (config := { maxSteps := 2000000 }) only [go_sem]) | ((repeat ((fail_if_success (refine hK _ ?_)); clear hK K)); refine hK _ ?_; clear hK K) | (refine w1 ?_; simp only [xs, xi, Nat.reduceEqDiff, reduceCtorEq, retM_ret, retM_normal, retML_ret, retML_normal]) | (refine wC (fun hb => ?_) fun hb => ?_ <;> (try simp only [xb, reduceCtorEq] at hb)) | (refine w2 (fun hc => ?_) (fun hc => ?_) <;> (try simp only [xc] at hc) <;> (try simp only [go_sem, hc]) <;> (try simp only [xb] at hc)) | refine wI ?_ | refine ex_idx (by omega) ?_ | fail)
  (first | refine wA rfl ?_ ?_ ?_ | refine dA rfl ?_ ?_ ?_); exact (agg [ints C.ends, rows C.next]); exact (⟨f, rfl, hf, by rw [hC]⟩); simp (config := { maxSteps := 2000000 }) only [go_sem]
  repeat' (first | refine wS fun K hK => ?_ | refine wB ?_ | ((first | refine wX hΓ ?_ | refine wV hΓ fun B hB => ?_); simp (config := { maxSteps := 2000000 }) only [go_sem]) | ((repeat ((fail_if_success (refine hK _ ?_)); clear hK K)); refine hK _ ?_; clear hK K) | (refine w1 ?_; simp only [xs, xi, Nat.reduceEqDiff, reduceCtorEq, retM_ret, retM_normal, retML_ret, retML_normal]) | (refine wC (fun hb => ?_) fun hb => ?_ <;> (try simp only [xb, reduceCtorEq] at hb)) | (refine w2 (fun hc => ?_) (fun hc => ?_) <;> (try simp only [xc] at hc) <;> (try simp only [go_sem, hc]) <;> (try simp only [xb] at hc)) | refine wI ?_ | refine ex_idx (by omega) ?_ | fail)
  · rw [show (decide (A.ends.length ≠ 0) && decide (C.ends.length ≠ 0)) = decide (0 < (C.ends.length : Int)) by
      rw [decide_eq_true (show A.ends.length ≠ 0 by omega), Bool.true_and]; exact decide_eq_decide.2 (by omega)]
    (rw [Try.results37]; refine ⟨_, rfl, by decide, by decide, by decide, ?_⟩; simp [ResL, ResI, upd_at, plainB, Ty_aggT_53, Ty_szT_53, togA])
  · rw [show (decide (A.ends.length ≠ 0) && decide (C.ends.length ≠ 0)) = false by
      rw [decide_eq_false (show ¬ A.ends.length ≠ 0 by omega), Bool.false_and]]
    (rw [Try.results37]; refine ⟨_, rfl, by decide, by decide, by decide, ?_⟩; simp [ResL, ResI, upd_at, plainB, Ty_aggT_53, Ty_szT_53, togA])

def togNextR (args : List AV) (r : AV) : Prop := ∃ (A B : AutoD) (p : Nat × Nat) (m : Nat), args = [togA A B, agg [I (p.1 : Int), I (p.2 : Int)], I (m : Int)] ∧ AutoOK A ∧ AutoOK B ∧ p.1 < 1048576 ∧ p.2 < 1048576 ∧ m < 12 ∧ r = agg [I ((stepP A B p m).1 : Int), I ((stepP A B p m).2 : Int)]
theorem togNext_ctr : CtrOK Try.prog 88 (pureC togNextR) := by
  refine ctr_pure' Try.func88 rfl rfl Try.ntmps88 ?_
  rintro _ _ ⟨A, C, p, m, rfl, hA, hC, h1, h2, hm, rfl⟩
  refine ⟨by simp, fun κ hκ => ?_⟩
  have hbig := bigW_gt
  rw [argEnv_eq]
  simp only [envA]
  have hΓ := ctxOf_ok (P := Try.prog) (cx behindSet_ctr <| cx0)
  obtain ⟨x, y⟩ := p
  dsimp only at h1 h2 ⊢
  obtain ⟨u, hu⟩ : ∃ u, behF A x m = u := ⟨_, rfl⟩
  obtain ⟨v, hv⟩ : ∃ v, behF C y m = v := ⟨_, rfl⟩
  rw [show (stepP A C (x, y) m).1 = u from hu, show (stepP A C (x, y) m).2 = v from hv]
  repeat' (first | refine wS fun K hK => ?_ | refine wB ?_ | ((first | refine wX hΓ ?_ | refine wV hΓ fun B hB => ?_); simp (config := { maxSteps := 2000000 }) only [go_sem]) | ((repeat ((fail_if_success (refine hK _ ?_)); clear hK K)); refine hK _ ?_; clear hK K) | (refine w1 ?_; simp only [xs, xi, Nat.reduceEqDiff, reduceCtorEq, retM_ret, retM_normal, retML_ret, retML_normal]) | (refine wC (fun hb => ?_) fun hb => ?_ <;> (try simp only [xb, reduceCtorEq] at hb)) | (refine w2 (fun hc => ?_) (fun hc => ?_) <;> (try simp only [xc] at hc) <;> (try simp only [go_sem, hc]) <;> (try simp only [xb] at hc)) | refine wI ?_ | refine ex_idx (by omega) ?_ | fail)
  (first | refine wA rfl ?_ ?_ ?_ | refine dA rfl ?_ ?_ ?_); exact (I (u : Int)); exact (⟨A, x, m, by simp [autA], hA, h1, hm, by rw [hu]⟩); simp (config := { maxSteps := 2000000 }) only [go_sem]
  repeat' (first | refine wS fun K hK => ?_ | refine wB ?_ | ((first | refine wX hΓ ?_ | refine wV hΓ fun B hB => ?_); simp (config := { maxSteps := 2000000 }) only [go_sem]) | ((repeat ((fail_if_success (refine hK _ ?_)); clear hK K)); refine hK _ ?_; clear hK K) | (refine w1 ?_; simp only [xs, xi, Nat.reduceEqDiff, reduceCtorEq, retM_ret, retM_normal, retML_ret, retML_normal]) | (refine wC (fun hb => ?_) fun hb => ?_ <;> (try simp only [xb, reduceCtorEq] at hb)) | (refine w2 (fun hc => ?_) (fun hc => ?_) <;> (try simp only [xc] at hc) <;> (try simp only [go_sem, hc]) <;> (try simp only [xb] at hc)) | refine wI ?_ | refine ex_idx (by omega) ?_ | fail)
  (first | refine wA rfl ?_ ?_ ?_ | refine dA rfl ?_ ?_ ?_); exact (I (v : Int)); exact (⟨C, y, m, by simp [autA], hC, h2, hm, by rw [hv]⟩); simp (config := { maxSteps := 2000000 }) only [go_sem]
  repeat' (first | refine wS fun K hK => ?_ | refine wB ?_ | ((first | refine wX hΓ ?_ | refine wV hΓ fun B hB => ?_); simp (config := { maxSteps := 2000000 }) only [go_sem]) | ((repeat ((fail_if_success (refine hK _ ?_)); clear hK K)); refine hK _ ?_; clear hK K) | (refine w1 ?_; simp only [xs, xi, Nat.reduceEqDiff, reduceCtorEq, retM_ret, retM_normal, retML_ret, retML_normal]) | (refine wC (fun hb => ?_) fun hb => ?_ <;> (try simp only [xb, reduceCtorEq] at hb)) | (refine w2 (fun hc => ?_) (fun hc => ?_) <;> (try simp only [xc] at hc) <;> (try simp only [go_sem, hc]) <;> (try simp only [xb] at hc)) | refine wI ?_ | refine ex_idx (by omega) ?_ | fail)
  (rw [Try.results88]; exact retOK_box Ty_aggT_60 Ty_szT_60 (by simp [upd_at]))

end Go.Proofs.Ytmhiipmajlmlgaa
