/- Two automata together, in the program. Walked by the engine. -/
import Derived.Test.YtmhiipmajlmlgaaGreatG4
import Derived.Test.YtmhiipmajlmlgaaGreatGrpU
import Derived.Test.YtmhiipmajlmlgaaGreatEngVw
import Derived.Test.YtmhiipmajlmlgaaGreatGrpR
import Derived.Test.YtmhiipmajlmlgaaGreatEngMin
namespace Go.Proofs.YtmhiipmajlmlgaaGreat
set_option linter.unusedSimpArgs false
set_option linter.unusedVariables false
set_option maxRecDepth 8000
set_option maxHeartbeats 2000000
open Go Go.RowKit AV

attribute [local go_sem] List.cons.injEq Prod.mk.injEq List.drop_zero List.drop_succ_cons List.take_zero List.take_succ_cons List.take_nil

def autoVR (args : List AV) (r : AV) : Prop := ∃ e : List Int, args = [ints e] ∧ e.length ≤ 1048576 ∧ r = agg [ints (autD e).ends, rows (autD e).next]
theorem implAutoOfV_ctr : CtrOK Tryz.prog 6 (pureC autoVR) := ctr_view implAutoOf_ctr fun args x ⟨e, h1, h2, h3⟩ =>
  ⟨agg [oints (autD e).ends, oorows (autD e).next], ⟨e, h1, h2, rfl⟩, rfl, by rw [h3]; simp [view, viewL, viewL_map, view_I, Function.comp_def]⟩

theorem stF_auto : stF Tryz.prog 27 0 = some 0 := by kernel_rfl
attribute [local go_sem] stF_auto

abbrev togA (A B : AutoD) : AV := agg [ints A.ends, rows A.next, ints B.ends, rows B.next]
def autosR (args : List AV) (r : AV) : Prop := ∃ e f : List Int, args = [ints e, ints f] ∧ e.length ≤ 1048576 ∧ f.length ≤ 1048576 ∧ r = .tup [togA (autD e) (autD f), .bool (decide ((autD e).ends.length ≠ 0) && decide ((autD f).ends.length ≠ 0))]
theorem autosOf_ctr : CtrOK Tryz.prog 86 (pureC autosR) := by
  refine ctr_many Tryz.func86 rfl rfl Tryz.ntmps86 ?_
  rintro _ _ ⟨e, f, rfl, he, hf, rfl⟩
  refine ⟨by simp, fun κ hκ => ?_⟩
  have hbig := bigW_gt
  rw [argEnv_eq]
  simp only [envA]
  have hΓ := ctxOf_ok (P := Tryz.prog) (cx implAutoOfV_ctr <| cx0)
  obtain ⟨A, hA⟩ : ∃ A, autD e = A := ⟨_, rfl⟩
  obtain ⟨C, hC⟩ : ∃ A, autD f = A := ⟨_, rfl⟩
  rw [hA, hC]
  repeat' (first | exact hb.elim | refine wS fun K hK => ?_ | refine wB ?_ | refine uX hΓ ?_ | refine uV hΓ fun B hB => ?_ | ((repeat ((fail_if_success (refine hK _ ?_)); clear hK K)); refine hK _ ?_; clear hK K) | refine u1 ?_ | refine uC (fun hb => ?_) fun hb => ?_ | refine u2 (fun hc => ?_) fun hc => ?_ | refine wI ?_ | refine ex_idx (by omega) ?_ | exact True.intro | fail)
  (first | refine wA rfl ?_ ?_ ?_ | refine dA rfl ?_ ?_ ?_); exact (agg [ints A.ends, rows A.next]); exact (⟨e, rfl, he, by rw [hA]⟩); simp (maxSteps := 2000000) only [go_sem]
  repeat' (first | exact hb.elim | refine wS fun K hK => ?_ | refine wB ?_ | refine uX hΓ ?_ | refine uV hΓ fun B hB => ?_ | ((repeat ((fail_if_success (refine hK _ ?_)); clear hK K)); refine hK _ ?_; clear hK K) | refine u1 ?_ | refine uC (fun hb => ?_) fun hb => ?_ | refine u2 (fun hc => ?_) fun hc => ?_ | refine wI ?_ | refine ex_idx (by omega) ?_ | exact True.intro | fail)
  (first | refine wA rfl ?_ ?_ ?_ | refine dA rfl ?_ ?_ ?_); exact (agg [ints C.ends, rows C.next]); exact (⟨f, rfl, hf, by rw [hC]⟩); simp (maxSteps := 2000000) only [go_sem]
  repeat' (first | exact hb.elim | refine wS fun K hK => ?_ | refine wB ?_ | refine uX hΓ ?_ | refine uV hΓ fun B hB => ?_ | ((repeat ((fail_if_success (refine hK _ ?_)); clear hK K)); refine hK _ ?_; clear hK K) | refine u1 ?_ | refine uC (fun hb => ?_) fun hb => ?_ | refine u2 (fun hc => ?_) fun hc => ?_ | refine wI ?_ | refine ex_idx (by omega) ?_ | exact True.intro | fail)
  · rw [show (decide (A.ends.length ≠ 0) && decide (C.ends.length ≠ 0)) = decide (0 < (C.ends.length : Int)) by
      rw [decide_eq_true (show A.ends.length ≠ 0 by omega), Bool.true_and]; exact decide_eq_decide.2 (by omega)]
    (rw [Tryz.results86]; refine ⟨_, rfl, by decide, by decide, by decide, ?_⟩; simp [ResL, ResI, upd_at, plainB, Ty_aggT_94, Ty_szT_94, togA])
  · rw [show (decide (A.ends.length ≠ 0) && decide (C.ends.length ≠ 0)) = false by
      rw [decide_eq_false (show ¬ A.ends.length ≠ 0 by omega), Bool.false_and]]
    (rw [Tryz.results86]; refine ⟨_, rfl, by decide, by decide, by decide, ?_⟩; simp [ResL, ResI, upd_at, plainB, Ty_aggT_94, Ty_szT_94, togA])

def apartR (args : List AV) (r : AV) : Prop := ∃ (A B : AutoD) (p : Nat × Nat), args = [togA A B, agg [I (p.1 : Int), I (p.2 : Int)]] ∧ AutoOK A ∧ AutoOK B ∧ p.1 < 1048576 ∧ p.2 < 1048576 ∧ r = I ((finP A B p : Nat) : Int)
theorem apart_ctr : CtrOK Tryz.prog 88 (pureC apartR) := by
  refine ctr_pure' Tryz.func88 rfl rfl Tryz.ntmps88 ?_
  rintro _ _ ⟨A, C, p, rfl, hA, hC, h1, h2, rfl⟩
  refine ⟨by simp, fun κ hκ => ?_⟩
  have hbig := bigW_gt
  rw [argEnv_eq]
  simp only [envA]
  have hΓ := ctxOf_ok (P := Tryz.prog) (cx endsOf_ctr <| cx0)
  obtain ⟨x, y⟩ := p
  dsimp only at h1 h2 ⊢
  have e1 := hA.endF_lt x
  have e2 := hC.endF_lt y
  obtain ⟨u, hu⟩ : ∃ u, endF A x = u := ⟨_, rfl⟩
  obtain ⟨v, hv⟩ : ∃ v, endF C y = v := ⟨_, rfl⟩
  rw [show finP A C (x, y) = u ^^^ v by rw [← hu, ← hv]; rfl]
  rw [hu] at e1
  rw [hv] at e2
  repeat' (first | exact hb.elim | refine wS fun K hK => ?_ | refine wB ?_ | refine uX hΓ ?_ | refine uV hΓ fun B hB => ?_ | ((repeat ((fail_if_success (refine hK _ ?_)); clear hK K)); refine hK _ ?_; clear hK K) | refine u1 ?_ | refine uC (fun hb => ?_) fun hb => ?_ | refine u2 (fun hc => ?_) fun hc => ?_ | refine wI ?_ | refine ex_idx (by omega) ?_ | exact True.intro | fail)
  (first | refine wA rfl ?_ ?_ ?_ | refine dA rfl ?_ ?_ ?_); exact (I (u : Int)); exact (⟨A, x, by simp [autA], hA, h1, by rw [hu]⟩); simp (maxSteps := 2000000) only [go_sem]
  repeat' (first | exact hb.elim | refine wS fun K hK => ?_ | refine wB ?_ | refine uX hΓ ?_ | refine uV hΓ fun B hB => ?_ | ((repeat ((fail_if_success (refine hK _ ?_)); clear hK K)); refine hK _ ?_; clear hK K) | refine u1 ?_ | refine uC (fun hb => ?_) fun hb => ?_ | refine u2 (fun hc => ?_) fun hc => ?_ | refine wI ?_ | refine ex_idx (by omega) ?_ | exact True.intro | fail)
  (first | refine wA rfl ?_ ?_ ?_ | refine dA rfl ?_ ?_ ?_); exact (I (v : Int)); exact (⟨C, y, by simp [autA], hC, h2, by rw [hv]⟩); simp (maxSteps := 2000000) only [go_sem]
  repeat' (first | exact hb.elim | refine wS fun K hK => ?_ | refine wB ?_ | refine uX hΓ ?_ | refine uV hΓ fun B hB => ?_ | ((repeat ((fail_if_success (refine hK _ ?_)); clear hK K)); refine hK _ ?_; clear hK K) | refine u1 ?_ | refine uC (fun hb => ?_) fun hb => ?_ | refine u2 (fun hc => ?_) fun hc => ?_ | refine wI ?_ | refine ex_idx (by omega) ?_ | exact True.intro | fail)
  simp [Tryz.results88, RetOK, RetP, backA, upd_at, plainB, getP, isOwn, anyOwn, isP]

def togNextR (args : List AV) (r : AV) : Prop := ∃ (A B : AutoD) (p : Nat × Nat) (m : Nat), args = [togA A B, agg [I (p.1 : Int), I (p.2 : Int)], I (m : Int)] ∧ AutoOK A ∧ AutoOK B ∧ p.1 < 1048576 ∧ p.2 < 1048576 ∧ m < 12 ∧ r = agg [I ((stepP A B p m).1 : Int), I ((stepP A B p m).2 : Int)]
theorem togNext_ctr : CtrOK Tryz.prog 89 (pureC togNextR) := by
  refine ctr_pure' Tryz.func89 rfl rfl Tryz.ntmps89 ?_
  rintro _ _ ⟨A, C, p, m, rfl, hA, hC, h1, h2, hm, rfl⟩
  refine ⟨by simp, fun κ hκ => ?_⟩
  have hbig := bigW_gt
  rw [argEnv_eq]
  simp only [envA]
  have hΓ := ctxOf_ok (P := Tryz.prog) (cx behindSet_ctr <| cx0)
  obtain ⟨x, y⟩ := p
  dsimp only at h1 h2 ⊢
  obtain ⟨u, hu⟩ : ∃ u, behF A x m = u := ⟨_, rfl⟩
  obtain ⟨v, hv⟩ : ∃ v, behF C y m = v := ⟨_, rfl⟩
  rw [show (stepP A C (x, y) m).1 = u from hu, show (stepP A C (x, y) m).2 = v from hv]
  repeat' (first | exact hb.elim | refine wS fun K hK => ?_ | refine wB ?_ | refine uX hΓ ?_ | refine uV hΓ fun B hB => ?_ | ((repeat ((fail_if_success (refine hK _ ?_)); clear hK K)); refine hK _ ?_; clear hK K) | refine u1 ?_ | refine uC (fun hb => ?_) fun hb => ?_ | refine u2 (fun hc => ?_) fun hc => ?_ | refine wI ?_ | refine ex_idx (by omega) ?_ | exact True.intro | fail)
  (first | refine wA rfl ?_ ?_ ?_ | refine dA rfl ?_ ?_ ?_); exact (I (u : Int)); exact (⟨A, x, m, by simp [autA], hA, h1, hm, by rw [hu]⟩); simp (maxSteps := 2000000) only [go_sem]
  repeat' (first | exact hb.elim | refine wS fun K hK => ?_ | refine wB ?_ | refine uX hΓ ?_ | refine uV hΓ fun B hB => ?_ | ((repeat ((fail_if_success (refine hK _ ?_)); clear hK K)); refine hK _ ?_; clear hK K) | refine u1 ?_ | refine uC (fun hb => ?_) fun hb => ?_ | refine u2 (fun hc => ?_) fun hc => ?_ | refine wI ?_ | refine ex_idx (by omega) ?_ | exact True.intro | fail)
  (first | refine wA rfl ?_ ?_ ?_ | refine dA rfl ?_ ?_ ?_); exact (I (v : Int)); exact (⟨C, y, m, by simp [autA], hC, h2, hm, by rw [hv]⟩); simp (maxSteps := 2000000) only [go_sem]
  repeat' (first | exact hb.elim | refine wS fun K hK => ?_ | refine wB ?_ | refine uX hΓ ?_ | refine uV hΓ fun B hB => ?_ | ((repeat ((fail_if_success (refine hK _ ?_)); clear hK K)); refine hK _ ?_; clear hK K) | refine u1 ?_ | refine uC (fun hb => ?_) fun hb => ?_ | refine u2 (fun hc => ?_) fun hc => ?_ | refine wI ?_ | refine ex_idx (by omega) ?_ | exact True.intro | fail)
  (rw [Tryz.results89]; exact retOK_box Ty_aggT_99 Ty_szT_99 (by simp [upd_at]))

end Go.Proofs.YtmhiipmajlmlgaaGreat
