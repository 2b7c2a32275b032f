/- Traces joined by the reference. Walked by the engine. -/
import Derived.Test.YtboandkjhdaobaaGrpS
import Derived.Test.YtboandkjhdaobaaDrawP4
import Derived.Test.YtboandkjhdaobaaGrpK
import Derived.Test.YtboandkjhdaobaaGrpJ
import Derived.Test.YtboandkjhdaobaaEngMin
namespace Go.Proofs.Ytboandkjhdaobaa
set_option linter.unusedSimpArgs false
set_option linter.unusedVariables false
set_option maxRecDepth 8000
set_option maxHeartbeats 2000000
open Go Go.RowKit AV

attribute [local go_sem] List.nil_prefix

def glueXR (args : List AV) (r : AV) (args' : List AV) : Prop := ∃ (bs : List Nat) (p : Nat) (a b : List Int), args = [rdr bs p, oints a, ints b] ∧ CodeOK bs ∧ p < 1099511000000 ∧ 1 ≤ a.length ∧ a.length ≤ 1048576 ∧ b.length ≤ 1048576 ∧ r = oints (glueX bs p a b).1 ∧ args' = [rdr bs (glueX bs p a b).2]
theorem glue_ctr : CtrOK Try.prog 179 (effC glueXR) := by
  refine ctr_lend' Try.func179 rfl rfl Try.ntmps179 ?_
  rintro _ _ _ ⟨bs, p, a, b, rfl, hcd, hp, ha1, ha, hbl, rfl, rfl⟩
  refine ⟨_, rfl, by simp, by simp, fun κ hκ => ?_⟩
  have hbig := bigW_gt
  rw [argEnv_eq]
  simp only [envA]
  have hΓ := ctxOf_ok (P := Try.prog) (cx pick_ctr <| cx0)
  have e1 : ((a.length : Nat) : Int) - 1 = ((a.length - 1 : Nat) : Int) := by omega
  have htk : allP ((List.map I a).take (a.length - 1)) = true := by rw [← List.map_take]; exact allP_ints _
  repeat' (first | refine wS fun K hK => ?_ | refine wB ?_ | ((first | refine wQ hΓ ?_ | refine wD hΓ fun B hB => ?_); simp (config := { maxSteps := 2000000 }) only [go_sem, e1, htk]) | ((repeat ((fail_if_success (refine hK _ ?_)); clear hK K)); refine hK _ ?_; clear hK K) | (refine w1 ?_; simp only [xs, xi, Nat.reduceEqDiff, reduceCtorEq, retL_ret, retL_normal]) | (refine wC (fun hb => ?_) fun hb => ?_ <;> (try simp only [xb, reduceCtorEq] at hb)) | (refine w2 (fun hc => ?_) (fun hc => ?_) <;> (try simp only [xc] at hc) <;> (try simp only [go_sem, hc, e1, htk]) <;> (try simp only [xb] at hc)) | refine wI ?_ | refine ex_idx (by omega) ?_ | fail)
  · (first | refine W_askE rfl _ _ (⟨bs, p, 3, rfl, hcd, by omega, by omega, rfl, rfl⟩) ?_ | refine D_askE rfl _ _ (⟨bs, p, 3, rfl, hcd, by omega, by omega, rfl, rfl⟩) ?_); simp (config := { maxSteps := 2000000 }) only [go_sem]
    repeat' (first | refine wS fun K hK => ?_ | refine wB ?_ | ((first | refine wQ hΓ ?_ | refine wD hΓ fun B hB => ?_); simp (config := { maxSteps := 2000000 }) only [go_sem]) | ((repeat ((fail_if_success (refine hK _ ?_)); clear hK K)); refine hK _ ?_; clear hK K) | (refine w1 ?_; simp only [xs, xi, Nat.reduceEqDiff, reduceCtorEq, retL_ret, retL_normal]) | (refine wC (fun hb => ?_) fun hb => ?_ <;> (try simp only [xb, reduceCtorEq] at hb)) | (refine w2 (fun hc => ?_) (fun hc => ?_) <;> (try simp only [xc] at hc) <;> (try simp only [go_sem, hc]) <;> (try simp only [xb] at hc)) | refine wI ?_ | refine ex_idx (by omega) ?_ | fail)
    · have hX : glueX bs p a b = (a, p + 1) := by unfold glueX; rw [if_pos (by omega), if_pos (by omega)]
      rw [hX]
      simp [Try.results179, RetL, upd_at, plainB, isOwn, anyOwn, view, viewL_map, view_I, List.map_take]
    · have hX : glueX bs p a b = (a.take (a.length - 1) ++ b, p + 1) := by unfold glueX; rw [if_pos (by omega), if_neg (by omega)]
      rw [hX]
      simp [Try.results179, RetL, upd_at, plainB, isOwn, anyOwn, view, viewL_map, view_I, List.map_take]
  · have hX : glueX bs p a b = (a.take (a.length - 1) ++ b, p) := by unfold glueX; rw [if_neg (by omega)]
    rw [hX]
    simp [Try.results179, RetL, upd_at, plainB, isOwn, anyOwn, view, viewL_map, view_I, List.map_take]

end Go.Proofs.Ytboandkjhdaobaa
