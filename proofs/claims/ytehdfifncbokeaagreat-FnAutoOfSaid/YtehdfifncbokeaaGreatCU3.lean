/- Whether a trace is one of an expression, in the program: the parts put together. Walked by the engine. -/
import Derived.Test.YtehdfifncbokeaaGreatGrpW
import Derived.Test.YtehdfifncbokeaaGreatG1
import Derived.Test.YtehdfifncbokeaaGreatEngMin
namespace Go.Proofs.YtehdfifncbokeaaGreat
set_option linter.unusedSimpArgs false
set_option linter.unusedVariables false
set_option maxRecDepth 8000
set_option maxHeartbeats 2000000
open Go Go.RowKit AV

attribute [local go_sem] List.nil_prefix

theorem find_step (N : Nat) (hi : CtrOK Tryz.prog 63 (effC (inR (N - 1)))) : CtrOK Tryz.prog 80 (effC (inR N)) :=
  ⟨(findLeaf_step N hi).1, fun args r args' h => by
    obtain ⟨T, x, a, b, h1, h2, h3, h4⟩ := h
    cases x with
    | leaf n => exact (findLeaf_step N hi).2 args r args' ⟨T, n, a, b, h1, h2, h3, h4⟩
    | thn y z => exact (findThn_step N hi).2 args r args' ⟨T, y, z, a, b, h1, h2, h3, h4⟩
    | pls y z => exact (findPls_step N hi).2 args r args' ⟨T, y, z, a, b, h1, h2, h3, h4⟩
    | str y => exact (findStr_step N hi).2 args r args' ⟨T, y, a, b, h1, h2, h3, h4⟩⟩
theorem in_all : ∀ N : Nat, CtrOK Tryz.prog 63 (effC (inR N))
  | 0 => in_step 0 (find_step 0 ⟨⟨_, _, Tryz.func63, rfl, rfl⟩, fun args r args' ⟨_, x, _, _, _, ⟨_, h, _⟩, _⟩ => by have := x.steps_pos; omega⟩)
  | N + 1 => in_step (N + 1) (find_step (N + 1) (in_all N))
theorem cin_ctr : CtrOK Tryz.prog 63 (effC (inR 4096)) := in_all 4096

def traceInIR (args : List AV) (r : AV) : Prop := ∃ (x : Ex) (t : List Int), args = [treeA x, ints t] ∧ x.wf ∧ x.steps.length ≤ 40 ∧ TraceOK t ∧ r = .bool (lgB t x 0 (t.length / 2))
theorem traceInI_ctr : CtrOK Tryz.prog 36 (pureC traceInIR) := by
  refine ctr_pure' Tryz.func36 rfl rfl Tryz.ntmps36 ?_
  rintro _ _ ⟨x, t, rfl, hw, hl, ht, rfl⟩
  refine ⟨by simp, fun κ hκ => ?_⟩
  have hbig := bigW_gt
  rw [argEnv_eq]
  simp only [envA]
  have hΓ := ctxOf_ok (P := Tryz.prog) (cx cin_ctr <| cx0)
  obtain ⟨lx, tx⟩ : ∃ l, treeA x = .pbox l := ⟨_, treeA_eq x⟩
  rw [tx]
  have hlen := ht.len
  have hodd := ht.odd
  refine CW.seqK fun K hK => ?_
  repeat' (first | exact hb.elim | refine wB ?_ | refine uR hΓ ?_ | refine uD hΓ fun B hB => ?_ | refine u1 ?_ | refine uC (fun hb => ?_) fun hb => ?_ | refine u2 (fun hc => ?_) fun hc => ?_ | refine wI ?_ | refine ex_idx (by omega) ?_ | exact True.intro | fail)
  (refine hK _ ?_; clear hK K)
  refine CW.seqK fun K hK => ?_
  repeat' (first | exact hb.elim | refine wB ?_ | refine uR hΓ ?_ | refine uD hΓ fun B hB => ?_ | refine u1 ?_ | refine uC (fun hb => ?_) fun hb => ?_ | refine u2 (fun hc => ?_) fun hc => ?_ | refine wI ?_ | refine ex_idx (by omega) ?_ | exact True.intro | fail)
  (refine hK _ ?_; clear hK K)
  refine CW.memoClose 5 [1] kF (gF t) [] (by simp [upd_at, getP, kids, kF, gF]) ?_
  refine CW.weaken (LeL.le (L := [(5, .box [ints t, .memo kF (gF t)]), (0, .pbox lx), (1, ints t)]) (by simp [LeL, upd_at, Wr.app, isOwn, anyOwn, kill_upd, killV, setP, kids, withKids])) ?_
  simp only [envOf]
  repeat' (first | exact hb.elim | refine wS fun K hK => ?_ | refine wB ?_ | refine uR hΓ ?_ | refine uD hΓ fun B hB => ?_ | ((repeat ((fail_if_success (refine hK _ ?_)); clear hK K)); refine hK _ ?_; clear hK K) | refine u1 ?_ | refine uC (fun hb => ?_) fun hb => ?_ | refine u2 (fun hc => ?_) fun hc => ?_ | refine wI ?_ | refine ex_idx (by omega) ?_ | exact True.intro | fail)
  (first | refine W_askE rfl _ _ (⟨t, x, 0, t.length / 2, by simp [tx], ⟨hw, by omega, by omega, by omega, hlen, ht.trV⟩, rfl, rfl⟩) ?_ | refine D_askE rfl _ _ (⟨t, x, 0, t.length / 2, by simp [tx], ⟨hw, by omega, by omega, by omega, hlen, ht.trV⟩, rfl, rfl⟩) ?_); simp (maxSteps := 2000000) only [go_sem]
  repeat' (first | exact hb.elim | refine wS fun K hK => ?_ | refine wB ?_ | refine uR hΓ ?_ | refine uD hΓ fun B hB => ?_ | ((repeat ((fail_if_success (refine hK _ ?_)); clear hK K)); refine hK _ ?_; clear hK K) | refine u1 ?_ | refine uC (fun hb => ?_) fun hb => ?_ | refine u2 (fun hc => ?_) fun hc => ?_ | refine wI ?_ | refine ex_idx (by omega) ?_ | exact True.intro | fail)
  simp [Tryz.results36, RetOK, RetP, backA, upd_at, plainB, getP, isOwn, anyOwn, isP]

def traceInR (args : List AV) (r : AV) : Prop := ∃ e t : List Int, args = [ints e, ints t] ∧ e.length ≤ 1048576 ∧ t.length ≤ 1048576 ∧ r = .bool (trcB e t)
theorem implTraceIn_ctr : CtrOK Tryz.prog 12 (pureC traceInR) := by
  refine ctr_pure' Tryz.func12 rfl rfl Tryz.ntmps12 ?_
  rintro _ _ ⟨e, t, rfl, he, ht, rfl⟩
  refine ⟨by simp, fun κ hκ => ?_⟩
  have hbig := bigW_gt
  rw [argEnv_eq]
  simp only [envA]
  have hΓ := ctxOf_ok (P := Tryz.prog) (cx implKatValid_ctr <| cx implTraceValid_ctr <| cx build_ctr <| cx traceInI_ctr <| cx0)
  obtain ⟨V, hV⟩ : ∃ V, katB e = V := ⟨_, rfl⟩
  obtain ⟨W, hW⟩ : ∃ W, traceOKB t = W := ⟨_, rfl⟩
  obtain ⟨R, hR⟩ : ∃ R, trcB e t = R := ⟨_, rfl⟩
  rw [hR]
  repeat' (first | exact hb.elim | refine wS fun K hK => ?_ | refine wB ?_ | refine uR hΓ ?_ | refine uD hΓ fun B hB => ?_ | ((repeat ((fail_if_success (refine hK _ ?_)); clear hK K)); refine hK _ ?_; clear hK K) | refine u1 ?_ | refine uC (fun hb => ?_) fun hb => ?_ | refine u2 (fun hc => ?_) fun hc => ?_ | refine wI ?_ | refine ex_idx (by omega) ?_ | exact True.intro | fail)
  (first | refine wA rfl ?_ ?_ ?_ | refine dA rfl ?_ ?_ ?_); exact (.bool V); exact (⟨e, rfl, by omega, by rw [hV]⟩); simp (maxSteps := 2000000) only [go_sem]
  cases V with
  | false =>
    have : R = false := by
      cases R with
      | false => rfl
      | true => have := (trcB_true.1 hR).1; rw [hV] at this; cases this
    subst this
    repeat' (first | exact hb.elim | refine wS fun K hK => ?_ | refine wB ?_ | refine uR hΓ ?_ | refine uD hΓ fun B hB => ?_ | ((repeat ((fail_if_success (refine hK _ ?_)); clear hK K)); refine hK _ ?_; clear hK K) | refine u1 ?_ | refine uC (fun hb => ?_) fun hb => ?_ | refine u2 (fun hc => ?_) fun hc => ?_ | refine wI ?_ | refine ex_idx (by omega) ?_ | exact True.intro | fail)
    all_goals try (exfalso; first | exact absurd ‹true = false› (by decide) | exact absurd ‹false = true› (by decide) | exact absurd rfl ‹¬ true = true› | exact absurd trivial ‹¬ True› | omega)
    simp [Tryz.results12, RetOK, RetP, backA, upd_at, plainB, getP, isOwn, anyOwn, isP]
  | true =>
    repeat' (first | exact hb.elim | refine wS fun K hK => ?_ | refine wB ?_ | refine uR hΓ ?_ | refine uD hΓ fun B hB => ?_ | ((repeat ((fail_if_success (refine hK _ ?_)); clear hK K)); refine hK _ ?_; clear hK K) | refine u1 ?_ | refine uC (fun hb => ?_) fun hb => ?_ | refine u2 (fun hc => ?_) fun hc => ?_ | refine wI ?_ | refine ex_idx (by omega) ?_ | exact True.intro | fail)
    all_goals try (exfalso; first | exact absurd ‹true = false› (by decide) | exact absurd ‹false = true› (by decide) | exact absurd rfl ‹¬ true = true› | exact absurd trivial ‹¬ True› | omega)
    (first | refine wA rfl ?_ ?_ ?_ | refine dA rfl ?_ ?_ ?_); exact (.bool W); exact (⟨t, rfl, by omega, by rw [hW]⟩); simp (maxSteps := 2000000) only [go_sem]
    cases W with
    | false =>
      have : R = false := by
        cases R with
        | false => rfl
        | true => have := traceOKB_true.2 (trcB_true.1 hR).2.1; rw [hW] at this; cases this
      subst this
      repeat' (first | exact hb.elim | refine wS fun K hK => ?_ | refine wB ?_ | refine uR hΓ ?_ | refine uD hΓ fun B hB => ?_ | ((repeat ((fail_if_success (refine hK _ ?_)); clear hK K)); refine hK _ ?_; clear hK K) | refine u1 ?_ | refine uC (fun hb => ?_) fun hb => ?_ | refine u2 (fun hc => ?_) fun hc => ?_ | refine wI ?_ | refine ex_idx (by omega) ?_ | exact True.intro | fail)
      all_goals try (exfalso; first | exact absurd ‹true = false› (by decide) | exact absurd ‹false = true› (by decide) | exact absurd rfl ‹¬ true = true› | exact absurd trivial ‹¬ True› | omega)
      simp [Tryz.results12, RetOK, RetP, backA, upd_at, plainB, getP, isOwn, anyOwn, isP]
    | true =>
      have hT := traceOKB_true.1 hW
      obtain ⟨x, hw, rfl, h40⟩ := katB_tree hV
      obtain ⟨lx, tx⟩ : ∃ l, treeA x = .pbox l := ⟨_, treeA_eq x⟩
      have hRx : R = lgB t x 0 (t.length / 2) := by
        rw [← hR, Bool.eq_iff_iff, trcB_true, lgB_true, exOf_steps hw]
        exact ⟨fun h => h.2.2, fun h => ⟨hV, hT, h⟩⟩
      repeat' (first | exact hb.elim | refine wS fun K hK => ?_ | refine wB ?_ | refine uR hΓ ?_ | refine uD hΓ fun B hB => ?_ | ((repeat ((fail_if_success (refine hK _ ?_)); clear hK K)); refine hK _ ?_; clear hK K) | refine u1 ?_ | refine uC (fun hb => ?_) fun hb => ?_ | refine u2 (fun hc => ?_) fun hc => ?_ | refine wI ?_ | refine ex_idx (by omega) ?_ | exact True.intro | fail)
      all_goals try (exfalso; first | exact absurd ‹true = false› (by decide) | exact absurd ‹false = true› (by decide) | exact absurd rfl ‹¬ true = true› | exact absurd trivial ‹¬ True› | omega)
      (first | refine wA rfl ?_ ?_ ?_ | refine dA rfl ?_ ?_ ?_); exact (.pbox lx); exact (⟨x, rfl, hw, by omega, tx.symm⟩); simp (maxSteps := 2000000) only [go_sem]
      repeat' (first | exact hb.elim | refine wS fun K hK => ?_ | refine wB ?_ | refine uR hΓ ?_ | refine uD hΓ fun B hB => ?_ | ((repeat ((fail_if_success (refine hK _ ?_)); clear hK K)); refine hK _ ?_; clear hK K) | refine u1 ?_ | refine uC (fun hb => ?_) fun hb => ?_ | refine u2 (fun hc => ?_) fun hc => ?_ | refine wI ?_ | refine ex_idx (by omega) ?_ | exact True.intro | fail)
      (first | refine wA rfl ?_ ?_ ?_ | refine dA rfl ?_ ?_ ?_); exact (.bool R); exact (⟨x, t, by rw [tx], hw, h40, hT, by rw [hRx]⟩); simp (maxSteps := 2000000) only [go_sem]
      repeat' (first | exact hb.elim | refine wS fun K hK => ?_ | refine wB ?_ | refine uR hΓ ?_ | refine uD hΓ fun B hB => ?_ | ((repeat ((fail_if_success (refine hK _ ?_)); clear hK K)); refine hK _ ?_; clear hK K) | refine u1 ?_ | refine uC (fun hb => ?_) fun hb => ?_ | refine u2 (fun hc => ?_) fun hc => ?_ | refine wI ?_ | refine ex_idx (by omega) ?_ | exact True.intro | fail)
      simp [Tryz.results12, RetOK, RetP, backA, upd_at, plainB, getP, isOwn, anyOwn, isP]

end Go.Proofs.YtehdfifncbokeaaGreat
