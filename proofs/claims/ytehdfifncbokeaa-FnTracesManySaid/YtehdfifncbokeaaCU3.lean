/- Whether a trace is one of an expression, in the program: the parts put together. Walked by the engine. -/
import Derived.Test.YtehdfifncbokeaaGrpW
import Derived.Test.YtehdfifncbokeaaG1
import Derived.Test.YtehdfifncbokeaaEngMin
namespace Go.Proofs.Ytehdfifncbokeaa
set_option linter.unusedSimpArgs false
set_option linter.unusedVariables false
set_option maxRecDepth 8000
set_option maxHeartbeats 2000000
open Go Go.RowKit AV

attribute [local go_sem] List.nil_prefix

theorem find_step (N : Nat) (hi : CtrOK Try.prog 41 (effC (inR (N - 1)))) : CtrOK Try.prog 48 (effC (inR N)) :=
  ⟨(findLeaf_step N hi).1, fun args r args' h => by
    obtain ⟨T, x, a, b, h1, h2, h3, h4⟩ := h
    cases x with
    | leaf n => exact (findLeaf_step N hi).2 args r args' ⟨T, n, a, b, h1, h2, h3, h4⟩
    | thn y z => exact (findThn_step N hi).2 args r args' ⟨T, y, z, a, b, h1, h2, h3, h4⟩
    | pls y z => exact (findPls_step N hi).2 args r args' ⟨T, y, z, a, b, h1, h2, h3, h4⟩
    | str y => exact (findStr_step N hi).2 args r args' ⟨T, y, a, b, h1, h2, h3, h4⟩⟩
theorem in_all : ∀ N : Nat, CtrOK Try.prog 41 (effC (inR N))
  | 0 => in_step 0 (find_step 0 ⟨⟨_, _, Try.func41, rfl, rfl⟩, fun args r args' ⟨_, x, _, _, _, ⟨_, h, _⟩, _⟩ => by have := x.steps_pos; omega⟩)
  | N + 1 => in_step (N + 1) (find_step (N + 1) (in_all N))
theorem cin_ctr : CtrOK Try.prog 41 (effC (inR 4096)) := in_all 4096

def traceInIR (args : List AV) (r : AV) : Prop := ∃ (x : Ex) (t : List Int), args = [treeA x, ints t] ∧ x.wf ∧ x.steps.length ≤ 40 ∧ TraceOK t ∧ r = .bool (lgB t x 0 (t.length / 2))
theorem traceInI_ctr : CtrOK Try.prog 28 (pureC traceInIR) := by
  refine ctr_pure' Try.func28 rfl rfl Try.ntmps28 ?_
  rintro _ _ ⟨x, t, rfl, hw, hl, ht, rfl⟩
  refine ⟨by simp, fun κ hκ => ?_⟩
  have hbig := bigW_gt
  rw [argEnv_eq]
  simp only [envA]
  have hΓ := ctxOf_ok (P := Try.prog) (cx cin_ctr <| cx0)
  obtain ⟨lx, tx⟩ : ∃ l, treeA x = .pbox l := ⟨_, treeA_eq x⟩
  rw [tx]
  have hlen := ht.len
  have hodd := ht.odd
  refine CW.seqK fun K hK => ?_
  repeat' (first | exact hb.elim | refine wB ?_ | refine uR hΓ ?_ | refine uD hΓ fun B hB => ?_ | refine u1 ?_ | refine uC (fun hb => ?_) fun hb => ?_ | refine u2 (fun hc => ?_) fun hc => ?_ | refine wI ?_ | refine ex_idx (by omega) ?_ | exact True.intro | fail)
  (refine hK _ ?_; clear hK K)
  refine CW.seqK fun K hK => ?_
  repeat' (first | exact hb.elim | refine wB ?_ | refine uR hΓ ?_ | refine uD hΓ fun B hB => ?_ | refine u1 ?_ | refine uC (fun hb => ?_) fun hb => ?_ | refine u2 (fun hc => ?_) fun hc => ?_ | refine wI ?_ | refine ex_idx (by omega) ?_ | exact True.intro | fail)
  (refine hK _ ?_; clear hK K)
  refine CW.memoClose 5 [1] kF (gF t) [] (by simp [upd_at, getP, kids, kF, gF]) ?_
  refine CW.weaken (LeL.le (L := [(5, .box [ints t, .memo kF (gF t)]), (0, .pbox lx), (1, ints t)]) (by simp [LeL, upd_at, Wr.app, isOwn, anyOwn, kill_upd, killV, setP, kids, withKids])) ?_
  simp only [envOf]
  repeat' (first | exact hb.elim | refine wS fun K hK => ?_ | refine wB ?_ | refine uR hΓ ?_ | refine uD hΓ fun B hB => ?_ | ((repeat ((fail_if_success (refine hK _ ?_)); clear hK K)); refine hK _ ?_; clear hK K) | refine u1 ?_ | refine uC (fun hb => ?_) fun hb => ?_ | refine u2 (fun hc => ?_) fun hc => ?_ | refine wI ?_ | refine ex_idx (by omega) ?_ | exact True.intro | fail)
  (first | refine W_askE rfl _ _ (⟨t, x, 0, t.length / 2, by simp [tx], ⟨hw, by omega, by omega, by omega, hlen, ht.trV⟩, rfl, rfl⟩) ?_ | refine D_askE rfl _ _ (⟨t, x, 0, t.length / 2, by simp [tx], ⟨hw, by omega, by omega, by omega, hlen, ht.trV⟩, rfl, rfl⟩) ?_); simp (maxSteps := 2000000) only [go_sem]
  repeat' (first | exact hb.elim | refine wS fun K hK => ?_ | refine wB ?_ | refine uR hΓ ?_ | refine uD hΓ fun B hB => ?_ | ((repeat ((fail_if_success (refine hK _ ?_)); clear hK K)); refine hK _ ?_; clear hK K) | refine u1 ?_ | refine uC (fun hb => ?_) fun hb => ?_ | refine u2 (fun hc => ?_) fun hc => ?_ | refine wI ?_ | refine ex_idx (by omega) ?_ | exact True.intro | fail)
  simp [Try.results28, RetOK, RetP, backA, upd_at, plainB, getP, isOwn, anyOwn, isP]

end Go.Proofs.Ytehdfifncbokeaa
