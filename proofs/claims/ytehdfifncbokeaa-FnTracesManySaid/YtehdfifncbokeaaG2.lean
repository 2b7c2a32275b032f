/- The program's TraceBy, walked by the engine; slices.ContainsFunc at rows of integers. -/
import Derived.Test.YtehdfifncbokeaaF2
import Derived.Test.YtehdfifncbokeaaG1
import Derived.Test.YtehdfifncbokeaaGrpH
import Derived.Test.YtehdfifncbokeaaEngMin
namespace Go.Proofs.Ytehdfifncbokeaa
set_option linter.unusedSimpArgs false
set_option linter.unusedVariables false
set_option maxRecDepth 8000
set_option maxHeartbeats 2000000
open Go Go.RowKit AV

def predDR (D : List Int → Prop) (caps : List AV) (q : List Int → Bool) (args : List AV) (r : AV) : Prop := ∃ x : List Int, D x ∧ args = ints x :: caps ∧ r = .bool (q x)
def idxDR (D : List Int → Prop) (f : Nat) (caps : List AV) (q : List Int → Bool) (args : List AV) (r : AV) : Prop := ∃ l : LL, args = [rows l, .fn f caps] ∧ l.length ≤ 1099511627776 ∧ (∀ x ∈ l, D x) ∧ r = .num .i64 (idxF q 0 l)
theorem idx_genD (D : List Int → Prop) (f : Nat) (caps : List AV) (q : List Int → Bool) (hcp : allP caps = true) (hf_ctr : CtrOK Try.prog f (pureC (predDR D caps q))) : CtrOK Try.prog 39 (pureC (idxDR D f caps q)) := by
  refine ctr_pure' Try.func39 rfl rfl Try.ntmps39 ?_
  rintro _ _ ⟨l, rfl, hl, hx, rfl⟩
  refine ⟨by simp, fun κ hκ => ?_⟩
  have hbig := bigW_gt
  rw [argEnv_eq]
  simp only [envA]
  have hΓ := ctxOf_ok (P := Try.prog) (cx hf_ctr <| cx0)
  repeat' (first | refine wS fun K hK => ?_ | refine wB ?_ | ((first | refine wR hΓ ?_ | refine wD hΓ fun B hB => ?_); simp (maxSteps := 2000000) only [go_sem, hcp]) | ((repeat ((fail_if_success (refine hK _ ?_)); clear hK K)); refine hK _ ?_; clear hK K) | (refine w1 ?_; simp only [xs, xi, Nat.reduceEqDiff, reduceCtorEq]) | (refine wC (fun hb => ?_) fun hb => ?_ <;> (try simp only [xb, reduceCtorEq] at hb)) | (refine w2 (fun hc => ?_) (fun hc => ?_) <;> (try simp only [xc] at hc) <;> (try simp only [go_sem, hc, hcp]) <;> (try simp only [xb] at hc)) | refine wI ?_ | refine ex_idx (by omega) ?_ | fail)
  refine CW.loop (ι := Nat) (fun k => [(0, rows l), (1, .fn f caps), (6, rows l), (7, I l.length), (8, I k)]) (fun k => k ≤ l.length ∧ idxF q 0 l = idxF q k (l.drop k)) (fun k => l.length - k) 0 ?_ ?_
  · exact ⟨by (simp only [xe, xj, Nat.reduceEqDiff]; (try simp [view, viewL_map]); (try omega)), by omega, rfl⟩
  rintro k ⟨hk, hi⟩
  simp only [envOf]
  repeat' (first | refine wS fun K hK => ?_ | refine wB ?_ | ((first | refine wR hΓ ?_ | refine wD hΓ fun B hB => ?_); simp (maxSteps := 2000000) only [go_sem, hcp]) | ((repeat ((fail_if_success (refine hK _ ?_)); clear hK K)); refine hK _ ?_; clear hK K) | (refine w1 ?_; simp only [xs, xi, Nat.reduceEqDiff, reduceCtorEq]) | (refine wC (fun hb => ?_) fun hb => ?_ <;> (try simp only [xb, reduceCtorEq] at hb)) | (refine w2 (fun hc => ?_) (fun hc => ?_) <;> (try simp only [xc] at hc) <;> (try simp only [go_sem, hc, hcp]) <;> (try simp only [xb] at hc)) | refine wI ?_ | refine ex_idx (by omega) ?_ | fail)
  · have hkl : k < l.length := by omega
    have hxk := hx _ (List.getElem_mem hkl)
    (first | refine W_askP (rel := predDR D caps q) (by simp [ctxOf]) _ (⟨_, hxk, rfl, rfl⟩) ?_ | refine D_askP (rel := predDR D caps q) (by simp [ctxOf]) _ (⟨_, hxk, rfl, rfl⟩) ?_); simp (maxSteps := 2000000) only [go_sem]
    repeat' (first | refine wS fun K hK => ?_ | refine wB ?_ | ((first | refine wR hΓ ?_ | refine wD hΓ fun B hB => ?_); simp (maxSteps := 2000000) only [go_sem, hcp]) | ((repeat ((fail_if_success (refine hK _ ?_)); clear hK K)); refine hK _ ?_; clear hK K) | (refine w1 ?_; simp only [xs, xi, Nat.reduceEqDiff, reduceCtorEq]) | (refine wC (fun hb => ?_) fun hb => ?_ <;> (try simp only [xb, reduceCtorEq] at hb)) | (refine w2 (fun hc => ?_) (fun hc => ?_) <;> (try simp only [xc] at hc) <;> (try simp only [go_sem, hc, hcp]) <;> (try simp only [xb] at hc)) | refine wI ?_ | refine ex_idx (by omega) ?_ | fail)
    · have hq : q l[k] = true := by assumption
      rw [hi, idxF_hit hkl hq]
      simp [Try.results39, RetOK, RetP, backA, upd_at, plainB, getP, isOwn, anyOwn, isP]
    · have hq : q l[k] = false := by simp_all
      refine ⟨k + 1, by (simp only [xe, xj, Nat.reduceEqDiff]; (try simp [view, viewL_map]); (try omega)), ⟨by omega, ?_⟩, by omega⟩
      have := idxF_skip (n := 0) hkl hq
      simp only [Nat.zero_add] at this
      rw [hi, this]
  · have hke : l.drop k = [] := List.drop_eq_nil_of_le (by omega)
    rw [hi, hke]
    simp [Try.results39, RetOK, RetP, backA, upd_at, plainB, getP, isOwn, anyOwn, isP]
    simp [idxF]

end Go.Proofs.Ytehdfifncbokeaa
