/- The traces of an expression that are short, in the program: TracesOf, TracesMany. Walked by the engine. -/
import Derived.Test.YtehdfifncbokeaaDL
import Derived.Test.YtehdfifncbokeaaCU3
import Derived.Test.YtehdfifncbokeaaTrsP
import Derived.Test.YtehdfifncbokeaaEngMin
namespace Go.Proofs.Ytehdfifncbokeaa
set_option linter.unusedSimpArgs false
set_option linter.unusedVariables false
set_option maxRecDepth 8000
set_option maxHeartbeats 2000000
open Go Go.RowKit AV

attribute [local go_sem] List.nil_prefix

noncomputable def notIn (x : Ex) (t : List Int) : Bool := !lgB t x 0 (t.length / 2)
def tof1R (args : List AV) (r : AV) : Prop := ∃ x : Ex, x.wf ∧ x.steps.length ≤ 40 ∧ predDR TraceOK [.pbox [treeA x]] (notIn x) args r
theorem tof1_ctr : CtrOK Try.prog 27 (pureC tof1R) := by
  refine ctr_pure' Try.func27 rfl rfl Try.ntmps27 ?_
  rintro _ _ ⟨x, hw, hl, t, ht, rfl, rfl⟩
  refine ⟨by simp, fun κ hκ => ?_⟩
  have hbig := bigW_gt
  rw [argEnv_eq]
  simp only [envA]
  have hΓ := ctxOf_ok (P := Try.prog) (cx traceInI_ctr <| cx0)
  obtain ⟨lx, tx⟩ : ∃ l, treeA x = .pbox l := ⟨_, treeA_eq x⟩
  rw [tx]
  repeat' (first | exact hb.elim | refine wS fun K hK => ?_ | refine wB ?_ | refine uR hΓ ?_ | refine uD hΓ fun B hB => ?_ | ((repeat ((fail_if_success (refine hK _ ?_)); clear hK K)); refine hK _ ?_; clear hK K) | refine u1 ?_ | refine uC (fun hb => ?_) fun hb => ?_ | refine u2 (fun hc => ?_) fun hc => ?_ | refine wI ?_ | refine ex_idx (by omega) ?_ | exact True.intro | fail)
  (first | refine wA rfl ?_ ?_ ?_ | refine dA rfl ?_ ?_ ?_); exact (.bool (lgB t x 0 (t.length / 2))); exact (⟨x, t, by rw [tx], hw, hl, ht, rfl⟩); simp (maxSteps := 2000000) only [go_sem]
  repeat' (first | exact hb.elim | refine wS fun K hK => ?_ | refine wB ?_ | refine uR hΓ ?_ | refine uD hΓ fun B hB => ?_ | ((repeat ((fail_if_success (refine hK _ ?_)); clear hK K)); refine hK _ ?_; clear hK K) | refine u1 ?_ | refine uC (fun hb => ?_) fun hb => ?_ | refine u2 (fun hc => ?_) fun hc => ?_ | refine wI ?_ | refine ex_idx (by omega) ?_ | exact True.intro | fail)
  simp [Try.results27, RetOK, RetP, backA, upd_at, plainB, getP, isOwn, anyOwn, isP]
  exact .inl rfl

def delToR (args : List AV) (r : AV) : Prop := ∃ x : Ex, (x.wf ∧ x.steps.length ≤ 40) ∧ settR (delR TraceOK [.pbox [treeA x]] (notIn x)) args r
theorem delTo_ctr : CtrOK Try.prog 25 (takeC delToR) := by
  have h : ∀ x : Ex, x.wf ∧ x.steps.length ≤ 40 → CtrOK Try.prog 25 (takeC (settR (delR TraceOK [.pbox [treeA x]] (notIn x)))) := fun x hx =>
    settle_ctr (del_gen TraceOK [.pbox [treeA x]] (notIn x) rfl ⟨tof1_ctr.1, fun args r args' ⟨h1, h2⟩ => tof1_ctr.2 args r args' ⟨h1, x, hx.1, hx.2, h2⟩⟩)
  exact ⟨(h (.leaf 0) ⟨⟨by omega, by omega⟩, by simp [Ex.steps]⟩).1, fun args r args' ⟨h1, x, hx, h2⟩ => (h x hx).2 args r args' ⟨h1, h2⟩⟩

noncomputable def tofL (e : List Int) (m : Int) : LL := if katB e = true ∧ 0 ≤ m ∧ m ≤ 2 then keepL (notIn (exOf e)) (allTr m.toNat 4) else []
def tofR (args : List AV) (r : AV) : Prop := ∃ (e : List Int) (m : Int), args = [ints e, I m] ∧ e.length ≤ 1048576 ∧ r = .own ((tofL e m).map ints)
theorem implTracesOf_ctr : CtrOK Try.prog 12 (pureC tofR) := by
  refine ctr_pure' Try.func12 rfl rfl Try.ntmps12 ?_
  rintro _ _ ⟨e, m, rfl, hl, rfl⟩
  refine ⟨by simp, fun κ hκ => ?_⟩
  have hbig := bigW_gt
  rw [argEnv_eq]
  simp only [envA]
  have hΓ := ctxOf_ok (P := Try.prog) (cx implKatValid_ctr <| cx build_ctr <| cx allTr_ctr <| cx delTo_ctr <| cx0)
  cases hV : katB e with
  | false =>
    have hT : tofL e m = [] := if_neg (by rw [hV]; simp)
    rw [hT]
    repeat' (first | exact hb.elim | refine wS fun K hK => ?_ | refine wB ?_ | refine uR hΓ ?_ | refine uD hΓ fun B hB => ?_ | ((repeat ((fail_if_success (refine hK _ ?_)); clear hK K)); refine hK _ ?_; clear hK K) | refine u1 ?_ | refine uC (fun hb => ?_) fun hb => ?_ | refine u2 (fun hc => ?_) fun hc => ?_ | refine wI ?_ | refine ex_idx (by omega) ?_ | exact True.intro | fail)
    (first | refine wA rfl ?_ ?_ ?_ | refine dA rfl ?_ ?_ ?_); exact (.bool false); exact (⟨e, rfl, by omega, by rw [hV]⟩); simp (maxSteps := 2000000) only [go_sem]
    repeat' (first | exact hb.elim | refine wS fun K hK => ?_ | refine wB ?_ | refine uR hΓ ?_ | refine uD hΓ fun B hB => ?_ | ((repeat ((fail_if_success (refine hK _ ?_)); clear hK K)); refine hK _ ?_; clear hK K) | refine u1 ?_ | refine uC (fun hb => ?_) fun hb => ?_ | refine u2 (fun hc => ?_) fun hc => ?_ | refine wI ?_ | refine ex_idx (by omega) ?_ | exact True.intro | fail)
    all_goals try (exfalso; first | exact absurd ‹true = false› (by decide) | exact absurd ‹false = true› (by decide) | exact absurd rfl ‹¬ true = true› | exact absurd trivial ‹¬ True› | omega)
    simp [Try.results12, RetOK, RetP, backA, upd_at, plainB, getP, isOwn, anyOwn, isP]
  | true =>
    by_cases hm : 0 ≤ m ∧ m ≤ 2
    rotate_left
    · have hT : tofL e m = [] := if_neg (fun h => hm h.2)
      rw [hT]
      repeat' (first | exact hb.elim | refine wS fun K hK => ?_ | refine wB ?_ | refine uR hΓ ?_ | refine uD hΓ fun B hB => ?_ | ((repeat ((fail_if_success (refine hK _ ?_)); clear hK K)); refine hK _ ?_; clear hK K) | refine u1 ?_ | refine uC (fun hb => ?_) fun hb => ?_ | refine u2 (fun hc => ?_) fun hc => ?_ | refine wI ?_ | refine ex_idx (by omega) ?_ | exact True.intro | fail)
      (first | refine wA rfl ?_ ?_ ?_ | refine dA rfl ?_ ?_ ?_); exact (.bool true); exact (⟨e, rfl, by omega, by rw [hV]⟩); simp (maxSteps := 2000000) only [go_sem]
      repeat' (first | exact hb.elim | refine wS fun K hK => ?_ | refine wB ?_ | refine uR hΓ ?_ | refine uD hΓ fun B hB => ?_ | ((repeat ((fail_if_success (refine hK _ ?_)); clear hK K)); refine hK _ ?_; clear hK K) | refine u1 ?_ | refine uC (fun hb => ?_) fun hb => ?_ | refine u2 (fun hc => ?_) fun hc => ?_ | refine wI ?_ | refine ex_idx (by omega) ?_ | exact True.intro | fail)
      all_goals try (exfalso; first | exact absurd ‹true = false› (by decide) | exact absurd ‹false = true› (by decide) | exact absurd rfl ‹¬ true = true› | exact absurd trivial ‹¬ True› | omega)
      all_goals (simp [Try.results12, RetOK, RetP, backA, upd_at, plainB, getP, isOwn, anyOwn, isP])
    obtain ⟨k, rfl⟩ : ∃ k : Nat, m = (k : Int) := ⟨m.toNat, by omega⟩
    obtain ⟨x, hw, rfl, h40⟩ := katB_tree hV
    obtain ⟨lx, tx⟩ : ∃ l, treeA x = .pbox l := ⟨_, treeA_eq x⟩
    have hT : tofL x.steps (k : Int) = keepL (notIn x) (allTr k 4) := by unfold tofL; rw [if_pos ⟨hV, hm⟩, exOf_steps hw, Int.toNat_natCast]
    rw [hT]
    have hlen := allTr_len k 4
    have hpk : 13 ^ k ≤ 169 := Nat.pow_le_pow_right (n := 13) (by omega) (show k ≤ 2 by omega)
    repeat' (first | exact hb.elim | refine wS fun K hK => ?_ | refine wB ?_ | refine uR hΓ ?_ | refine uD hΓ fun B hB => ?_ | ((repeat ((fail_if_success (refine hK _ ?_)); clear hK K)); refine hK _ ?_; clear hK K) | refine u1 ?_ | refine uC (fun hb => ?_) fun hb => ?_ | refine u2 (fun hc => ?_) fun hc => ?_ | refine wI ?_ | refine ex_idx (by omega) ?_ | exact True.intro | fail)
    (first | refine wA rfl ?_ ?_ ?_ | refine dA rfl ?_ ?_ ?_); exact (.bool true); exact (⟨x.steps, rfl, by omega, by rw [hV]⟩); simp (maxSteps := 2000000) only [go_sem]
    repeat' (first | exact hb.elim | refine wS fun K hK => ?_ | refine wB ?_ | refine uR hΓ ?_ | refine uD hΓ fun B hB => ?_ | ((repeat ((fail_if_success (refine hK _ ?_)); clear hK K)); refine hK _ ?_; clear hK K) | refine u1 ?_ | refine uC (fun hb => ?_) fun hb => ?_ | refine u2 (fun hc => ?_) fun hc => ?_ | refine wI ?_ | refine ex_idx (by omega) ?_ | exact True.intro | fail)
    all_goals try (exfalso; first | exact absurd ‹true = false› (by decide) | exact absurd ‹false = true› (by decide) | exact absurd rfl ‹¬ true = true› | exact absurd trivial ‹¬ True› | omega)
    (first | refine wA rfl ?_ ?_ ?_ | refine dA rfl ?_ ?_ ?_); exact (.pbox lx); exact (⟨x, rfl, hw, by omega, tx.symm⟩); simp (maxSteps := 2000000) only [go_sem]
    repeat' (first | exact hb.elim | refine wS fun K hK => ?_ | refine wB ?_ | refine uR hΓ ?_ | refine uD hΓ fun B hB => ?_ | ((repeat ((fail_if_success (refine hK _ ?_)); clear hK K)); refine hK _ ?_; clear hK K) | refine u1 ?_ | refine uC (fun hb => ?_) fun hb => ?_ | refine u2 (fun hc => ?_) fun hc => ?_ | refine wI ?_ | refine ex_idx (by omega) ?_ | exact True.intro | fail)
    (first | refine wA rfl _ (⟨k, rfl, by omega, rfl⟩) ?_ | refine dA rfl _ (⟨k, rfl, by omega, rfl⟩) ?_); simp (maxSteps := 2000000) only [go_sem]
    repeat' (first | exact hb.elim | refine wS fun K hK => ?_ | refine wB ?_ | refine uR hΓ ?_ | refine uD hΓ fun B hB => ?_ | ((repeat ((fail_if_success (refine hK _ ?_)); clear hK K)); refine hK _ ?_; clear hK K) | refine u1 ?_ | refine uC (fun hb => ?_) fun hb => ?_ | refine u2 (fun hc => ?_) fun hc => ?_ | refine wI ?_ | refine ex_idx (by omega) ?_ | exact True.intro | fail)
    (first | refine W_askT rfl _ (⟨x, ⟨hw, h40⟩, allTr k 4, [.fn 27 [.pbox [.pbox lx]]], rfl, rfl, allTr k 4, by rw [tx], by omega, fun t ht => (allTr_ok (by omega) ht).1, rfl⟩) ?_ | refine D_askT rfl _ (⟨x, ⟨hw, h40⟩, allTr k 4, [.fn 27 [.pbox [.pbox lx]]], rfl, rfl, allTr k 4, by rw [tx], by omega, fun t ht => (allTr_ok (by omega) ht).1, rfl⟩) ?_); simp (maxSteps := 2000000) only [go_sem]
    repeat' (first | exact hb.elim | refine wS fun K hK => ?_ | refine wB ?_ | refine uR hΓ ?_ | refine uD hΓ fun B hB => ?_ | ((repeat ((fail_if_success (refine hK _ ?_)); clear hK K)); refine hK _ ?_; clear hK K) | refine u1 ?_ | refine uC (fun hb => ?_) fun hb => ?_ | refine u2 (fun hc => ?_) fun hc => ?_ | refine wI ?_ | refine ex_idx (by omega) ?_ | exact True.intro | fail)
    simp [Try.results12, RetOK, RetP, backA, upd_at, plainB, getP, isOwn, anyOwn, isP]

end Go.Proofs.Ytehdfifncbokeaa
