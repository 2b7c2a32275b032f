/- Small expressions and tests that are drawn. Walked by the engine. -/
import Derived.Test.YtmhiipmajlmlgaaR9p
import Derived.Test.YtmhiipmajlmlgaaGrpS
import Derived.Test.YtmhiipmajlmlgaaGrpD
import Derived.Test.YtmhiipmajlmlgaaDrawP7
import Derived.Test.YtmhiipmajlmlgaaEngMin
namespace Go.Proofs.Ytmhiipmajlmlgaa
set_option linter.unusedSimpArgs false
set_option linter.unusedVariables false
set_option maxRecDepth 8000
set_option maxHeartbeats 2000000
open Go Go.RowKit AV

attribute [local go_sem] List.nil_prefix

def katActsR (args : List AV) (r : AV) : Prop := ∃ e : List Int, args = [ints e] ∧ e.length ≤ 1048576 ∧ r = I (katActsI e)
theorem specKatActs_ctr : CtrOK Try.prog 114 (pureC katActsR) := by
  refine ctr_pure' Try.func114 rfl rfl Try.ntmps114 ?_
  rintro _ _ ⟨e, rfl, he, rfl⟩
  refine ⟨by simp, fun κ hκ => ?_⟩
  have hbig := bigW_gt
  rw [argEnv_eq]
  simp only [envA]
  have hΓ := ctxOf_ok (P := Try.prog) (cx specKatValid_ctr <| cx l1In_ctr <| cx0)
  repeat' (first | refine wS fun K hK => ?_ | refine wB ?_ | ((first | refine wR hΓ ?_ | refine wD hΓ fun B hB => ?_); simp (config := { maxSteps := 2000000 }) only [go_sem]) | ((repeat ((fail_if_success (refine hK _ ?_)); clear hK K)); refine hK _ ?_; clear hK K) | (refine w1 ?_; simp only [xs, xi, Nat.reduceEqDiff, reduceCtorEq, retM_ret, retM_normal, retML_ret, retML_normal, retL_ret, retL_normal]) | (refine wC (fun hb => ?_) fun hb => ?_ <;> (try simp only [xb, reduceCtorEq] at hb)) | (refine w2 (fun hc => ?_) (fun hc => ?_) <;> (try simp only [xc] at hc) <;> (try simp only [go_sem, hc]) <;> (try simp only [xb] at hc)) | refine wI ?_ | refine ex_idx (by omega) ?_ | fail)
  cases hk : katB e with
  | false =>
    (first | refine wA rfl ?_ ?_ ?_ | refine dA rfl ?_ ?_ ?_); exact (.bool false); exact (⟨e, rfl, by omega, by rw [hk]⟩); simp (config := { maxSteps := 2000000 }) only [go_sem]
    repeat' (first | refine wS fun K hK => ?_ | refine wB ?_ | ((first | refine wR hΓ ?_ | refine wD hΓ fun B hB => ?_); simp (config := { maxSteps := 2000000 }) only [go_sem]) | ((repeat ((fail_if_success (refine hK _ ?_)); clear hK K)); refine hK _ ?_; clear hK K) | (refine w1 ?_; simp only [xs, xi, Nat.reduceEqDiff, reduceCtorEq, retM_ret, retM_normal, retML_ret, retML_normal, retL_ret, retL_normal]) | (refine wC (fun hb => ?_) fun hb => ?_ <;> (try simp only [xb, reduceCtorEq] at hb)) | (refine w2 (fun hc => ?_) (fun hc => ?_) <;> (try simp only [xc] at hc) <;> (try simp only [go_sem, hc]) <;> (try simp only [xb] at hc)) | refine wI ?_ | refine ex_idx (by omega) ?_ | fail)
    rw [katActsI_no hk]
    simp [Try.results114, RetOK, RetP, backA, upd_at, plainB, getP, isOwn, anyOwn, isP]
  | true =>
    (first | refine wA rfl ?_ ?_ ?_ | refine dA rfl ?_ ?_ ?_); exact (.bool true); exact (⟨e, rfl, by omega, by rw [hk]⟩); simp (config := { maxSteps := 2000000 }) only [go_sem]
    repeat' (first | refine wS fun K hK => ?_ | refine wB ?_ | ((first | refine wR hΓ ?_ | refine wD hΓ fun B hB => ?_); simp (config := { maxSteps := 2000000 }) only [go_sem]) | ((repeat ((fail_if_success (refine hK _ ?_)); clear hK K)); refine hK _ ?_; clear hK K) | (refine w1 ?_; simp only [xs, xi, Nat.reduceEqDiff, reduceCtorEq, retM_ret, retM_normal, retML_ret, retML_normal, retL_ret, retL_normal]) | (refine wC (fun hb => ?_) fun hb => ?_ <;> (try simp only [xb, reduceCtorEq] at hb)) | (refine w2 (fun hc => ?_) (fun hc => ?_) <;> (try simp only [xc] at hc) <;> (try simp only [go_sem, hc]) <;> (try simp only [xb] at hc)) | refine wI ?_ | refine ex_idx (by omega) ?_ | fail)
    have hf : ∀ k, k ≤ e.length → actsF (e.take k) ≤ k := fun k hk => by
      have := List.length_filter_le actsB (e.take k)
      unfold actsF; simp at this; omega
    refine CW.loop (ι := Nat) (fun k => [(0, ints e), (3, I (actsF (e.take k) : Nat)), (4, I (k : Nat))]) (fun k => k ≤ e.length) (fun k => e.length - k) 0 ?_ ?_
    · exact ⟨by ((simp only [xe, xj, Nat.reduceEqDiff]; (try simp [view, viewL_map]); (try omega)); try simp [actsF]), by omega⟩
    rintro k hkl
    simp only [envOf]
    have hfk := hf k hkl
    repeat' (first | refine wS fun K hK => ?_ | refine wB ?_ | ((first | refine wR hΓ ?_ | refine wD hΓ fun B hB => ?_); simp (config := { maxSteps := 2000000 }) only [go_sem]) | ((repeat ((fail_if_success (refine hK _ ?_)); clear hK K)); refine hK _ ?_; clear hK K) | (refine w1 ?_; simp only [xs, xi, Nat.reduceEqDiff, reduceCtorEq, retM_ret, retM_normal, retML_ret, retML_normal, retL_ret, retL_normal]) | (refine wC (fun hb => ?_) fun hb => ?_ <;> (try simp only [xb, reduceCtorEq] at hb)) | (refine w2 (fun hc => ?_) (fun hc => ?_) <;> (try simp only [xc] at hc) <;> (try simp only [go_sem, hc]) <;> (try simp only [xb] at hc)) | refine wI ?_ | refine ex_idx (by omega) ?_ | fail)
    · have hk2 : k < e.length := by omega
      have hs : actsF (e.take (k + 1)) = actsF (e.take k) + (actsB e[k]).toNat := by
        unfold actsF
        rw [List.take_succ_eq_append_getElem hk2, List.filter_append, List.length_append]
        cases h : actsB e[k] <;> simp [h]
      have hlt : actsF (e.take (k + 1)) ≤ k + 1 := hf (k + 1) (by omega)
      cases hT : actsB e[k] with
      | false =>
        rw [hT] at hs
        (first | refine wA rfl ?_ ?_ ?_ | refine dA rfl ?_ ?_ ?_); exact (.bool false); exact (⟨e[k], 16, 18, rfl, by rw [← hT]; rfl⟩); simp (config := { maxSteps := 2000000 }) only [go_sem]
        repeat' (first | refine wS fun K hK => ?_ | refine wB ?_ | ((first | refine wR hΓ ?_ | refine wD hΓ fun B hB => ?_); simp (config := { maxSteps := 2000000 }) only [go_sem]) | ((repeat ((fail_if_success (refine hK _ ?_)); clear hK K)); refine hK _ ?_; clear hK K) | (refine w1 ?_; simp only [xs, xi, Nat.reduceEqDiff, reduceCtorEq, retM_ret, retM_normal, retML_ret, retML_normal, retL_ret, retL_normal]) | (refine wC (fun hb => ?_) fun hb => ?_ <;> (try simp only [xb, reduceCtorEq] at hb)) | (refine w2 (fun hc => ?_) (fun hc => ?_) <;> (try simp only [xc] at hc) <;> (try simp only [go_sem, hc]) <;> (try simp only [xb] at hc)) | refine wI ?_ | refine ex_idx (by omega) ?_ | fail)
        exact ⟨k + 1, by ((simp only [xe, xj, Nat.reduceEqDiff]; (try simp [view, viewL_map]); (try omega)); try (rw [hs]; simp)), by omega, by omega⟩
      | true =>
        rw [hT] at hs
        (first | refine wA rfl ?_ ?_ ?_ | refine dA rfl ?_ ?_ ?_); exact (.bool true); exact (⟨e[k], 16, 18, rfl, by rw [← hT]; rfl⟩); simp (config := { maxSteps := 2000000 }) only [go_sem]
        repeat' (first | refine wS fun K hK => ?_ | refine wB ?_ | ((first | refine wR hΓ ?_ | refine wD hΓ fun B hB => ?_); simp (config := { maxSteps := 2000000 }) only [go_sem]) | ((repeat ((fail_if_success (refine hK _ ?_)); clear hK K)); refine hK _ ?_; clear hK K) | (refine w1 ?_; simp only [xs, xi, Nat.reduceEqDiff, reduceCtorEq, retM_ret, retM_normal, retML_ret, retML_normal, retL_ret, retL_normal]) | (refine wC (fun hb => ?_) fun hb => ?_ <;> (try simp only [xb, reduceCtorEq] at hb)) | (refine w2 (fun hc => ?_) (fun hc => ?_) <;> (try simp only [xc] at hc) <;> (try simp only [go_sem, hc]) <;> (try simp only [xb] at hc)) | refine wI ?_ | refine ex_idx (by omega) ?_ | fail)
        exact ⟨k + 1, by ((simp only [xe, xj, Nat.reduceEqDiff]; (try simp [view, viewL_map]); (try omega)); try (rw [hs]; simp)), by omega, by omega⟩
    · rw [katActsI_yes hk]
      have : e.take k = e := List.take_of_length_le (by omega)
      rw [this]
      simp [Try.results114, RetOK, RetP, backA, upd_at, plainB, getP, isOwn, anyOwn, isP]

def smallXR (args : List AV) (r : AV) (args' : List AV) : Prop := ∃ (bs : List Nat) (p n : Nat), args = [rdr bs p, I (n : Int)] ∧ CodeOK bs ∧ p < 1000000000 ∧ n < 1099511627776 ∧ r = oints (smallX bs p n).1 ∧ args' = [rdr bs (smallX bs p n).2]
theorem small_ctr : CtrOK Try.prog 83 (effC smallXR) := by
  refine ctr_lend' Try.func83 rfl rfl Try.ntmps83 ?_
  rintro _ _ _ ⟨bs, p, n, rfl, hcd, hp, hn, rfl, rfl⟩
  refine ⟨_, rfl, by simp, by simp, fun κ hκ => ?_⟩
  have hbig := bigW_gt
  rw [argEnv_eq]
  simp only [envA]
  have hΓ := ctxOf_ok (P := Try.prog) (cx prog_ctr <| cx specKatActs_ctr <| cx0)
  have k2 := progX_len bs p 3 n
  have hX : smallX bs p n = (if 4 < katActsI (progX bs p 3 n).1 then [16, 17, 20, 21] else (progX bs p 3 n).1, (progX bs p 3 n).2) := rfl
  obtain ⟨⟨e, p1⟩, hE⟩ : ∃ o, progX bs p 3 n = o := ⟨_, rfl⟩
  rw [hE] at k2 hX
  dsimp only at k2 hX
  obtain ⟨c, hc0⟩ : ∃ c, katActsI e = c := ⟨_, rfl⟩
  rw [hc0] at hX
  repeat' (first | refine wS fun K hK => ?_ | refine wB ?_ | ((first | refine wR hΓ ?_ | refine wD hΓ fun B hB => ?_); simp (config := { maxSteps := 2000000 }) only [go_sem]) | ((repeat ((fail_if_success (refine hK _ ?_)); clear hK K)); refine hK _ ?_; clear hK K) | (refine w1 ?_; simp only [xs, xi, Nat.reduceEqDiff, reduceCtorEq, retM_ret, retM_normal, retML_ret, retML_normal, retL_ret, retL_normal]) | (refine wC (fun hb => ?_) fun hb => ?_ <;> (try simp only [xb, reduceCtorEq] at hb)) | (refine w2 (fun hc => ?_) (fun hc => ?_) <;> (try simp only [xc] at hc) <;> (try simp only [go_sem, hc]) <;> (try simp only [xb] at hc)) | refine wI ?_ | refine ex_idx (by omega) ?_ | fail)
  (first | refine W_askE rfl _ _ (⟨bs, p, 3, n, rfl, hcd, by omega, by omega, hn, rfl, rfl⟩) ?_ | refine D_askE rfl _ _ (⟨bs, p, 3, n, rfl, hcd, by omega, by omega, hn, rfl, rfl⟩) ?_); simp (config := { maxSteps := 2000000 }) only [go_sem]
  rw [hE]
  dsimp only
  repeat' (first | refine wS fun K hK => ?_ | refine wB ?_ | ((first | refine wR hΓ ?_ | refine wD hΓ fun B hB => ?_); simp (config := { maxSteps := 2000000 }) only [go_sem]) | ((repeat ((fail_if_success (refine hK _ ?_)); clear hK K)); refine hK _ ?_; clear hK K) | (refine w1 ?_; simp only [xs, xi, Nat.reduceEqDiff, reduceCtorEq, retM_ret, retM_normal, retML_ret, retML_normal, retL_ret, retL_normal]) | (refine wC (fun hb => ?_) fun hb => ?_ <;> (try simp only [xb, reduceCtorEq] at hb)) | (refine w2 (fun hc => ?_) (fun hc => ?_) <;> (try simp only [xc] at hc) <;> (try simp only [go_sem, hc]) <;> (try simp only [xb] at hc)) | refine wI ?_ | refine ex_idx (by omega) ?_ | fail)
  (first | refine wA rfl ?_ ?_ ?_ | refine dA rfl ?_ ?_ ?_); exact (I c); exact (⟨e, by simp [view, viewL_map, view_I], by omega, by rw [hc0]⟩); simp (config := { maxSteps := 2000000 }) only [go_sem]
  repeat' (first | refine wS fun K hK => ?_ | refine wB ?_ | ((first | refine wR hΓ ?_ | refine wD hΓ fun B hB => ?_); simp (config := { maxSteps := 2000000 }) only [go_sem]) | ((repeat ((fail_if_success (refine hK _ ?_)); clear hK K)); refine hK _ ?_; clear hK K) | (refine w1 ?_; simp only [xs, xi, Nat.reduceEqDiff, reduceCtorEq, retM_ret, retM_normal, retML_ret, retML_normal, retL_ret, retL_normal]) | (refine wC (fun hb => ?_) fun hb => ?_ <;> (try simp only [xb, reduceCtorEq] at hb)) | (refine w2 (fun hc => ?_) (fun hc => ?_) <;> (try simp only [xc] at hc) <;> (try simp only [go_sem, hc]) <;> (try simp only [xb] at hc)) | refine wI ?_ | refine ex_idx (by omega) ?_ | fail)
  · rw [if_pos (by omega)] at hX
    rw [hX]
    simp [Try.results83, RetL, upd_at, plainB, isOwn, anyOwn]
  · rw [if_neg (by omega)] at hX
    rw [hX]
    simp [Try.results83, RetL, upd_at, plainB, isOwn, anyOwn]

end Go.Proofs.Ytmhiipmajlmlgaa
