/- Two expressions that are often equal, drawn. Walked by the engine. -/
import Derived.Test.YtmhiipmajlmlgaaR21
import Derived.Test.YtmhiipmajlmlgaaR4
import Derived.Test.YtmhiipmajlmlgaaEngSt
import Derived.Test.YtmhiipmajlmlgaaEngMin
namespace Go.Proofs.Ytmhiipmajlmlgaa
set_option linter.unusedSimpArgs false
set_option linter.unusedVariables false
set_option maxRecDepth 8000
set_option maxHeartbeats 2000000
open Go Go.RowKit AV

attribute [local go_sem] List.nil_prefix wpOpsS_cons wpOpsS_nil KOpsS_app rdGS appOf rdAppS List.drop_zero List.drop_succ_cons List.take_zero List.take_succ_cons List.take_nil

def lawsR (args : List AV) (r : AV) (args' : List AV) : Prop := ∃ (bs : List Nat) (p : Nat), args = [rdr bs p] ∧ CodeOK bs ∧ p < 100000000 ∧ r = .tup [ints (lawsX bs p).1, ints (lawsX bs p).2.1] ∧ args' = [rdr bs (lawsX bs p).2.2]
theorem laws_ctr : CtrOK Try.prog 35 (effC lawsR) := by
  refine ctr_lend' Try.func35 rfl rfl Try.ntmps35 ?_
  rintro _ _ _ ⟨bs, p, rfl, hcd, hp, rfl, rfl⟩
  refine ⟨_, rfl, by simp, by simp, fun κ hκ => ?_⟩
  have hbig := bigW_gt
  rw [argEnv_eq]
  simp only [envA]
  have hΓ := ctxOf_ok (P := Try.prog) (cx small_ctr <| cx leaf_ctr <| cx specKatValid_ctr <| cx pick_ctr <| cx l2Join_ctr <| cx test_ctr <| cx specKatWhile_ctr <| cx0)
  have k1 := smallX_p bs p 14
  have k2 := smallX_len bs p 14
  obtain ⟨⟨e, p1⟩, hE⟩ : ∃ o, smallX bs p 14 = o := ⟨_, rfl⟩
  obtain ⟨⟨f, p2⟩, hF⟩ : ∃ o, leafX bs p1 = o := ⟨_, rfl⟩
  obtain ⟨⟨g, p3⟩, hG⟩ : ∃ o, leafX bs p2 = o := ⟨_, rfl⟩
  have k3 := leafX_p bs p1
  have k4 := leafX_len bs p1
  have k5 := leafX_p bs p2
  have k6 := leafX_len bs p2
  rw [hF] at k3 k4
  rw [hG] at k5 k6
  rw [hE] at k1 k2
  dsimp only at k1 k2 k3 k4 k5 k6
  have hX : lawsX bs p = if katB e = true ∧ e.length ≤ 9 then lawX bs (pickX bs p3 9) e f g (p3 + 1) else (e, f, p3) := by
    unfold lawsX
    rw [hE]
    dsimp only
    rw [hF]
    dsimp only
    rw [hG]
  refine CW.seqK fun K hK => ?_
  repeat' (first | refine wB ?_ | ((first | refine wX hΓ ?_ | refine wV hΓ fun B hB => ?_); simp (config := { maxSteps := 2000000 }) only [go_sem]) | (refine w1 ?_; simp only [xs, xi, Nat.reduceEqDiff, reduceCtorEq, retM_ret, retM_normal, retML_ret, retML_normal, retL_ret, retL_normal]) | (refine wC (fun hb => ?_) fun hb => ?_ <;> (try simp only [xb, reduceCtorEq] at hb)) | (refine w2 (fun hc => ?_) (fun hc => ?_) <;> (try simp only [xc] at hc) <;> (try simp only [go_sem, hc]) <;> (try simp only [xb] at hc)) | refine wI ?_ | refine ex_idx (by omega) ?_ | fail)
  (refine hK _ ?_; clear hK K)
  refine CW.seqK fun K hK => ?_
  repeat' (first | refine wB ?_ | ((first | refine wX hΓ ?_ | refine wV hΓ fun B hB => ?_); simp (config := { maxSteps := 2000000 }) only [go_sem]) | (refine w1 ?_; simp only [xs, xi, Nat.reduceEqDiff, reduceCtorEq, retM_ret, retM_normal, retML_ret, retML_normal, retL_ret, retL_normal]) | (refine wC (fun hb => ?_) fun hb => ?_ <;> (try simp only [xb, reduceCtorEq] at hb)) | (refine w2 (fun hc => ?_) (fun hc => ?_) <;> (try simp only [xc] at hc) <;> (try simp only [go_sem, hc]) <;> (try simp only [xb] at hc)) | refine wI ?_ | refine ex_idx (by omega) ?_ | fail)
  (first | refine W_askE rfl _ _ (⟨bs, p, 14, rfl, hcd, by omega, by omega, rfl, rfl⟩) ?_ | refine D_askE rfl _ _ (⟨bs, p, 14, rfl, hcd, by omega, by omega, rfl, rfl⟩) ?_); simp (config := { maxSteps := 2000000 }) only [go_sem]
  rw [hE]
  dsimp only
  repeat' (first | refine wB ?_ | ((first | refine wX hΓ ?_ | refine wV hΓ fun B hB => ?_); simp (config := { maxSteps := 2000000 }) only [go_sem]) | (refine w1 ?_; simp only [xs, xi, Nat.reduceEqDiff, reduceCtorEq, retM_ret, retM_normal, retML_ret, retML_normal, retL_ret, retL_normal]) | (refine wC (fun hb => ?_) fun hb => ?_ <;> (try simp only [xb, reduceCtorEq] at hb)) | (refine w2 (fun hc => ?_) (fun hc => ?_) <;> (try simp only [xc] at hc) <;> (try simp only [go_sem, hc]) <;> (try simp only [xb] at hc)) | refine wI ?_ | refine ex_idx (by omega) ?_ | fail)
  (refine hK _ ?_; clear hK K)
  refine CW.seqK fun K hK => ?_
  repeat' (first | refine wB ?_ | ((first | refine wX hΓ ?_ | refine wV hΓ fun B hB => ?_); simp (config := { maxSteps := 2000000 }) only [go_sem]) | (refine w1 ?_; simp only [xs, xi, Nat.reduceEqDiff, reduceCtorEq, retM_ret, retM_normal, retML_ret, retML_normal, retL_ret, retL_normal]) | (refine wC (fun hb => ?_) fun hb => ?_ <;> (try simp only [xb, reduceCtorEq] at hb)) | (refine w2 (fun hc => ?_) (fun hc => ?_) <;> (try simp only [xc] at hc) <;> (try simp only [go_sem, hc]) <;> (try simp only [xb] at hc)) | refine wI ?_ | refine ex_idx (by omega) ?_ | fail)
  (first | refine W_askE rfl _ _ (⟨bs, p1, rfl, hcd, by omega, rfl, rfl⟩) ?_ | refine D_askE rfl _ _ (⟨bs, p1, rfl, hcd, by omega, rfl, rfl⟩) ?_); simp (config := { maxSteps := 2000000 }) only [go_sem]
  rw [hF]
  dsimp only
  repeat' (first | refine wB ?_ | ((first | refine wX hΓ ?_ | refine wV hΓ fun B hB => ?_); simp (config := { maxSteps := 2000000 }) only [go_sem]) | (refine w1 ?_; simp only [xs, xi, Nat.reduceEqDiff, reduceCtorEq, retM_ret, retM_normal, retML_ret, retML_normal, retL_ret, retL_normal]) | (refine wC (fun hb => ?_) fun hb => ?_ <;> (try simp only [xb, reduceCtorEq] at hb)) | (refine w2 (fun hc => ?_) (fun hc => ?_) <;> (try simp only [xc] at hc) <;> (try simp only [go_sem, hc]) <;> (try simp only [xb] at hc)) | refine wI ?_ | refine ex_idx (by omega) ?_ | fail)
  (refine hK _ ?_; clear hK K)
  refine CW.seqK fun K hK => ?_
  repeat' (first | refine wB ?_ | ((first | refine wX hΓ ?_ | refine wV hΓ fun B hB => ?_); simp (config := { maxSteps := 2000000 }) only [go_sem]) | (refine w1 ?_; simp only [xs, xi, Nat.reduceEqDiff, reduceCtorEq, retM_ret, retM_normal, retML_ret, retML_normal, retL_ret, retL_normal]) | (refine wC (fun hb => ?_) fun hb => ?_ <;> (try simp only [xb, reduceCtorEq] at hb)) | (refine w2 (fun hc => ?_) (fun hc => ?_) <;> (try simp only [xc] at hc) <;> (try simp only [go_sem, hc]) <;> (try simp only [xb] at hc)) | refine wI ?_ | refine ex_idx (by omega) ?_ | fail)
  (first | refine W_askE rfl _ _ (⟨bs, p2, rfl, hcd, by omega, rfl, rfl⟩) ?_ | refine D_askE rfl _ _ (⟨bs, p2, rfl, hcd, by omega, rfl, rfl⟩) ?_); simp (config := { maxSteps := 2000000 }) only [go_sem]
  rw [hG]
  dsimp only
  repeat' (first | refine wB ?_ | ((first | refine wX hΓ ?_ | refine wV hΓ fun B hB => ?_); simp (config := { maxSteps := 2000000 }) only [go_sem]) | (refine w1 ?_; simp only [xs, xi, Nat.reduceEqDiff, reduceCtorEq, retM_ret, retM_normal, retML_ret, retML_normal, retL_ret, retL_normal]) | (refine wC (fun hb => ?_) fun hb => ?_ <;> (try simp only [xb, reduceCtorEq] at hb)) | (refine w2 (fun hc => ?_) (fun hc => ?_) <;> (try simp only [xc] at hc) <;> (try simp only [go_sem, hc]) <;> (try simp only [xb] at hc)) | refine wI ?_ | refine ex_idx (by omega) ?_ | fail)
  (refine hK _ ?_; clear hK K)
  refine CW.frz 4 [] (oints e) (by simp [upd_at, getP]) rfl ?_
  simp (config := { maxSteps := 2000000 }) only [go_sem]
  refine CW.frz 5 [] (oints f) (by simp [upd_at, getP]) rfl ?_
  simp (config := { maxSteps := 2000000 }) only [go_sem]
  refine CW.frz 6 [] (oints g) (by simp [upd_at, getP]) rfl ?_
  simp (config := { maxSteps := 2000000 }) only [go_sem]
  repeat' (first | refine wS fun K hK => ?_ | refine wB ?_ | ((first | refine wX hΓ ?_ | refine wV hΓ fun B hB => ?_); simp (config := { maxSteps := 2000000 }) only [go_sem]) | ((repeat ((fail_if_success (refine hK _ ?_)); clear hK K)); refine hK _ ?_; clear hK K) | (refine w1 ?_; simp only [xs, xi, Nat.reduceEqDiff, reduceCtorEq, retM_ret, retM_normal, retML_ret, retML_normal, retL_ret, retL_normal]) | (refine wC (fun hb => ?_) fun hb => ?_ <;> (try simp only [xb, reduceCtorEq] at hb)) | (refine w2 (fun hc => ?_) (fun hc => ?_) <;> (try simp only [xc] at hc) <;> (try simp only [go_sem, hc]) <;> (try simp only [xb] at hc)) | refine wI ?_ | refine ex_idx (by omega) ?_ | fail)
  obtain ⟨V, hV⟩ : ∃ V, katB e = V := ⟨_, rfl⟩
  rw [hV] at hX
  have hwy : V = true → ∀ t : Int, 0 ≤ t ∧ t < 16 → e.length ≤ 9 → whB t e = true := fun h t ht h9 => whB_yes ht (by rw [hV, h]) h9
  (first | refine wA rfl ?_ ?_ ?_ | refine dA rfl ?_ ?_ ?_); exact (.bool V); exact (⟨e, by simp [view, viewL_map, view_I], by omega, by rw [hV]⟩); simp (config := { maxSteps := 2000000 }) only [go_sem]
  cases V with
  | false =>
    rw [if_neg (fun h => by cases h.1)] at hX
    repeat' (first | refine wS fun K hK => ?_ | refine wB ?_ | ((first | refine wX hΓ ?_ | refine wV hΓ fun B hB => ?_); simp (config := { maxSteps := 2000000 }) only [go_sem]) | ((repeat ((fail_if_success (refine hK _ ?_)); clear hK K)); refine hK _ ?_; clear hK K) | (refine w1 ?_; simp only [xs, xi, Nat.reduceEqDiff, reduceCtorEq, retM_ret, retM_normal, retML_ret, retML_normal, retL_ret, retL_normal]) | (refine wC (fun hb => ?_) fun hb => ?_ <;> (try simp only [xb, reduceCtorEq] at hb)) | (refine w2 (fun hc => ?_) (fun hc => ?_) <;> (try simp only [xc] at hc) <;> (try simp only [go_sem, hc]) <;> (try simp only [xb] at hc)) | refine wI ?_ | refine ex_idx (by omega) ?_ | fail)
    all_goals try (exfalso; exact absurd hc (by decide))
    rw [hX]
    simp [Try.results35, RetL, upd_at, plainB, isOwn, anyOwn]
    exact ⟨_, _, ⟨rfl, rfl⟩, rfl, rfl, .inl rfl, .inl rfl⟩
  | true =>
    have hwy := hwy rfl
    by_cases h9 : e.length ≤ 9
    rotate_left
    · rw [if_neg (fun h => h9 h.2)] at hX
      repeat' (first | refine wS fun K hK => ?_ | refine wB ?_ | ((first | refine wX hΓ ?_ | refine wV hΓ fun B hB => ?_); simp (config := { maxSteps := 2000000 }) only [go_sem]) | ((repeat ((fail_if_success (refine hK _ ?_)); clear hK K)); refine hK _ ?_; clear hK K) | (refine w1 ?_; simp only [xs, xi, Nat.reduceEqDiff, reduceCtorEq, retM_ret, retM_normal, retML_ret, retML_normal, retL_ret, retL_normal]) | (refine wC (fun hb => ?_) fun hb => ?_ <;> (try simp only [xb, reduceCtorEq] at hb)) | (refine w2 (fun hc => ?_) (fun hc => ?_) <;> (try simp only [xc] at hc) <;> (try simp only [go_sem, hc]) <;> (try simp only [xb] at hc)) | refine wI ?_ | refine ex_idx (by omega) ?_ | fail)
      all_goals try (exfalso; omega)
      all_goals try (exfalso; exact absurd hc (by decide))
      rw [hX]
      simp [Try.results35, RetL, upd_at, plainB, isOwn, anyOwn]
      exact ⟨_, _, ⟨rfl, rfl⟩, rfl, rfl, .inl rfl, .inl rfl⟩
    rw [if_pos ⟨rfl, h9⟩] at hX
    have pb := pickX_lt (bs := bs) (p := p3) (n := 9) (by omega)
    obtain ⟨k, hk⟩ : ∃ k, pickX bs p3 9 = k := ⟨_, rfl⟩
    rw [hk] at hX pb
    repeat' (first | refine wS fun K hK => ?_ | refine wB ?_ | ((first | refine wX hΓ ?_ | refine wV hΓ fun B hB => ?_); simp (config := { maxSteps := 2000000 }) only [go_sem]) | ((repeat ((fail_if_success (refine hK _ ?_)); clear hK K)); refine hK _ ?_; clear hK K) | (refine w1 ?_; simp only [xs, xi, Nat.reduceEqDiff, reduceCtorEq, retM_ret, retM_normal, retML_ret, retML_normal, retL_ret, retL_normal]) | (refine wC (fun hb => ?_) fun hb => ?_ <;> (try simp only [xb, reduceCtorEq] at hb)) | (refine w2 (fun hc => ?_) (fun hc => ?_) <;> (try simp only [xc] at hc) <;> (try simp only [go_sem, hc]) <;> (try simp only [xb] at hc)) | refine wI ?_ | refine ex_idx (by omega) ?_ | fail)
    all_goals try (exfalso; omega)
    all_goals try (exfalso; exact absurd hc (by decide))
    have hst : List.map I e ++ [num IntKind.i64 21] = List.map I (e ++ [21]) := by simp
    rw [hst]
    (first | refine W_askE rfl _ _ (⟨bs, p3, 9, rfl, hcd, by omega, by omega, rfl, rfl⟩) ?_ | refine D_askE rfl _ _ (⟨bs, p3, 9, rfl, hcd, by omega, by omega, rfl, rfl⟩) ?_); simp (config := { maxSteps := 2000000 }) only [go_sem]
    rw [hk]
    repeat' (first | refine wB ?_ | ((first | refine wX hΓ ?_ | refine wV hΓ fun B hB => ?_); simp (config := { maxSteps := 2000000 }) only [go_sem]) | (refine w1 ?_; simp only [xs, xi, Nat.reduceEqDiff, reduceCtorEq, retM_ret, retM_normal, retML_ret, retML_normal, retL_ret, retL_normal]) | (refine wC (fun hb => ?_) fun hb => ?_ <;> (try simp only [xb, reduceCtorEq] at hb)) | (refine w2 (fun hc => ?_) (fun hc => ?_) <;> (try simp only [xc] at hc) <;> (try simp only [go_sem, hc]) <;> (try simp only [xb] at hc)) | refine wI ?_ | refine ex_idx (by omega) ?_ | fail)
    have hSl : (e ++ [21]).length = e.length + 1 := by simp
    obtain ⟨S, hS⟩ : ∃ S, e ++ [21] = S := ⟨_, rfl⟩
    rw [hS] at hSl ⊢
    (refine hK _ ?_; clear hK K)
    refine CW.weaken (LeL.le (L := [(0, rdr bs (p3 + 1)), (4, ints e), (5, ints f), (6, ints g), (7, oints S), (32, I (k : Nat))]) (by (simp only [xe, xj, Nat.reduceEqDiff]; (try simp [view, viewL_map]); (try omega)))) ?_
    simp only [envOf]
    have hk9 : k = 0 ∨ k = 1 ∨ k = 2 ∨ k = 3 ∨ k = 4 ∨ k = 5 ∨ k = 6 ∨ k = 7 ∨ k = 8 := by omega
    rcases hk9 with rfl | rfl | rfl | rfl | rfl | rfl | rfl | rfl | rfl
    · refine CW.frz 7 [] (oints S) (by simp [upd_at, getP]) rfl ?_
      simp (config := { maxSteps := 2000000 }) only [go_sem]
      have hX0 : lawsX bs p = (S, l2J [15] (l2J e S 19) 20, p3 + 1) := by subst hS; rw [hX]; rfl
      rw [hX0]
      repeat' (first | refine wS fun K hK => ?_ | refine wB ?_ | ((first | refine wX hΓ ?_ | refine wV hΓ fun B hB => ?_); simp (config := { maxSteps := 2000000 }) only [go_sem]) | ((repeat ((fail_if_success (refine hK _ ?_)); clear hK K)); refine hK _ ?_; clear hK K) | (refine w1 ?_; simp only [xs, xi, Nat.reduceEqDiff, reduceCtorEq, retM_ret, retM_normal, retML_ret, retML_normal, retL_ret, retL_normal]) | (refine wC (fun hb => ?_) fun hb => ?_ <;> (try simp only [xb, reduceCtorEq] at hb)) | (refine w2 (fun hc => ?_) (fun hc => ?_) <;> (try simp only [xc] at hc) <;> (try simp only [go_sem, hc]) <;> (try simp only [xb] at hc)) | refine wI ?_ | refine ex_idx (by omega) ?_ | fail)
      all_goals try (exfalso; first | exact absurd ‹true = false› (by decide) | exact absurd ‹false = true› (by decide) | exact absurd rfl ‹¬ true = true› | exact absurd trivial ‹¬ True› | omega)
      (first | refine wA rfl _ (⟨e, S, 19, by simp [view, viewL_map, view_I], by (first | (simp; done) | (simp; omega) | omega), by (first | (simp; done) | (simp; omega) | omega), rfl⟩) ?_ | refine dA rfl _ (⟨e, S, 19, by simp [view, viewL_map, view_I], by (first | (simp; done) | (simp; omega) | omega), by (first | (simp; done) | (simp; omega) | omega), rfl⟩) ?_); simp (config := { maxSteps := 2000000 }) only [go_sem]
      repeat' (first | refine wS fun K hK => ?_ | refine wB ?_ | ((first | refine wX hΓ ?_ | refine wV hΓ fun B hB => ?_); simp (config := { maxSteps := 2000000 }) only [go_sem]) | ((repeat ((fail_if_success (refine hK _ ?_)); clear hK K)); refine hK _ ?_; clear hK K) | (refine w1 ?_; simp only [xs, xi, Nat.reduceEqDiff, reduceCtorEq, retM_ret, retM_normal, retML_ret, retML_normal, retL_ret, retL_normal]) | (refine wC (fun hb => ?_) fun hb => ?_ <;> (try simp only [xb, reduceCtorEq] at hb)) | (refine w2 (fun hc => ?_) (fun hc => ?_) <;> (try simp only [xc] at hc) <;> (try simp only [go_sem, hc]) <;> (try simp only [xb] at hc)) | refine wI ?_ | refine ex_idx (by omega) ?_ | fail)
      (first | refine wA rfl _ (⟨[15], (e ++ (S ++ [19])), 20, by simp [view, viewL_map, view_I], by (first | (simp; done) | (simp; omega) | omega), by (first | (simp; done) | (simp; omega) | omega), rfl⟩) ?_ | refine dA rfl _ (⟨[15], (e ++ (S ++ [19])), 20, by simp [view, viewL_map, view_I], by (first | (simp; done) | (simp; omega) | omega), by (first | (simp; done) | (simp; omega) | omega), rfl⟩) ?_); simp (config := { maxSteps := 2000000 }) only [go_sem]
      repeat' (first | refine wS fun K hK => ?_ | refine wB ?_ | ((first | refine wX hΓ ?_ | refine wV hΓ fun B hB => ?_); simp (config := { maxSteps := 2000000 }) only [go_sem]) | ((repeat ((fail_if_success (refine hK _ ?_)); clear hK K)); refine hK _ ?_; clear hK K) | (refine w1 ?_; simp only [xs, xi, Nat.reduceEqDiff, reduceCtorEq, retM_ret, retM_normal, retML_ret, retML_normal, retL_ret, retL_normal]) | (refine wC (fun hb => ?_) fun hb => ?_ <;> (try simp only [xb, reduceCtorEq] at hb)) | (refine w2 (fun hc => ?_) (fun hc => ?_) <;> (try simp only [xc] at hc) <;> (try simp only [go_sem, hc]) <;> (try simp only [xb] at hc)) | refine wI ?_ | refine ex_idx (by omega) ?_ | fail)
      simp [Try.results35, RetL, upd_at, plainB, isOwn, anyOwn]
      refine ⟨_, _, ⟨rfl, rfl⟩, ?_, ?_, ?_, ?_⟩ <;> first | rfl | exact .inl rfl | (right; simp [view, viewL_map, view_I, l2J])
    · refine CW.frz 7 [] (oints S) (by simp [upd_at, getP]) rfl ?_
      simp (config := { maxSteps := 2000000 }) only [go_sem]
      have hX0 : lawsX bs p = (l2J e f 20 ++ [21], l2J S (l2J f S 19 ++ [21]) 19, p3 + 1) := by subst hS; rw [hX]; rfl
      rw [hX0]
      repeat' (first | refine wS fun K hK => ?_ | refine wB ?_ | ((first | refine wX hΓ ?_ | refine wV hΓ fun B hB => ?_); simp (config := { maxSteps := 2000000 }) only [go_sem]) | ((repeat ((fail_if_success (refine hK _ ?_)); clear hK K)); refine hK _ ?_; clear hK K) | (refine w1 ?_; simp only [xs, xi, Nat.reduceEqDiff, reduceCtorEq, retM_ret, retM_normal, retML_ret, retML_normal, retL_ret, retL_normal]) | (refine wC (fun hb => ?_) fun hb => ?_ <;> (try simp only [xb, reduceCtorEq] at hb)) | (refine w2 (fun hc => ?_) (fun hc => ?_) <;> (try simp only [xc] at hc) <;> (try simp only [go_sem, hc]) <;> (try simp only [xb] at hc)) | refine wI ?_ | refine ex_idx (by omega) ?_ | fail)
      all_goals try (exfalso; first | exact absurd ‹true = false› (by decide) | exact absurd ‹false = true› (by decide) | exact absurd rfl ‹¬ true = true› | exact absurd trivial ‹¬ True› | omega)
      (first | refine wA rfl _ (⟨e, f, 20, by simp [view, viewL_map, view_I], by (first | (simp; done) | (simp; omega) | omega), by (first | (simp; done) | (simp; omega) | omega), rfl⟩) ?_ | refine dA rfl _ (⟨e, f, 20, by simp [view, viewL_map, view_I], by (first | (simp; done) | (simp; omega) | omega), by (first | (simp; done) | (simp; omega) | omega), rfl⟩) ?_); simp (config := { maxSteps := 2000000 }) only [go_sem]
      repeat' (first | refine wS fun K hK => ?_ | refine wB ?_ | ((first | refine wX hΓ ?_ | refine wV hΓ fun B hB => ?_); simp (config := { maxSteps := 2000000 }) only [go_sem]) | ((repeat ((fail_if_success (refine hK _ ?_)); clear hK K)); refine hK _ ?_; clear hK K) | (refine w1 ?_; simp only [xs, xi, Nat.reduceEqDiff, reduceCtorEq, retM_ret, retM_normal, retML_ret, retML_normal, retL_ret, retL_normal]) | (refine wC (fun hb => ?_) fun hb => ?_ <;> (try simp only [xb, reduceCtorEq] at hb)) | (refine w2 (fun hc => ?_) (fun hc => ?_) <;> (try simp only [xc] at hc) <;> (try simp only [go_sem, hc]) <;> (try simp only [xb] at hc)) | refine wI ?_ | refine ex_idx (by omega) ?_ | fail)
      (first | refine wA rfl _ (⟨f, S, 19, by simp [view, viewL_map, view_I], by (first | (simp; done) | (simp; omega) | omega), by (first | (simp; done) | (simp; omega) | omega), rfl⟩) ?_ | refine dA rfl _ (⟨f, S, 19, by simp [view, viewL_map, view_I], by (first | (simp; done) | (simp; omega) | omega), by (first | (simp; done) | (simp; omega) | omega), rfl⟩) ?_); simp (config := { maxSteps := 2000000 }) only [go_sem]
      repeat' (first | refine wS fun K hK => ?_ | refine wB ?_ | ((first | refine wX hΓ ?_ | refine wV hΓ fun B hB => ?_); simp (config := { maxSteps := 2000000 }) only [go_sem]) | ((repeat ((fail_if_success (refine hK _ ?_)); clear hK K)); refine hK _ ?_; clear hK K) | (refine w1 ?_; simp only [xs, xi, Nat.reduceEqDiff, reduceCtorEq, retM_ret, retM_normal, retML_ret, retML_normal, retL_ret, retL_normal]) | (refine wC (fun hb => ?_) fun hb => ?_ <;> (try simp only [xb, reduceCtorEq] at hb)) | (refine w2 (fun hc => ?_) (fun hc => ?_) <;> (try simp only [xc] at hc) <;> (try simp only [go_sem, hc]) <;> (try simp only [xb] at hc)) | refine wI ?_ | refine ex_idx (by omega) ?_ | fail)
      (first | refine wA rfl _ (⟨S, ((f ++ (S ++ [19])) ++ [21]), 19, by simp [view, viewL_map, view_I], by (first | (simp; done) | (simp; omega) | omega), by (first | (simp; done) | (simp; omega) | omega), rfl⟩) ?_ | refine dA rfl _ (⟨S, ((f ++ (S ++ [19])) ++ [21]), 19, by simp [view, viewL_map, view_I], by (first | (simp; done) | (simp; omega) | omega), by (first | (simp; done) | (simp; omega) | omega), rfl⟩) ?_); simp (config := { maxSteps := 2000000 }) only [go_sem]
      repeat' (first | refine wS fun K hK => ?_ | refine wB ?_ | ((first | refine wX hΓ ?_ | refine wV hΓ fun B hB => ?_); simp (config := { maxSteps := 2000000 }) only [go_sem]) | ((repeat ((fail_if_success (refine hK _ ?_)); clear hK K)); refine hK _ ?_; clear hK K) | (refine w1 ?_; simp only [xs, xi, Nat.reduceEqDiff, reduceCtorEq, retM_ret, retM_normal, retML_ret, retML_normal, retL_ret, retL_normal]) | (refine wC (fun hb => ?_) fun hb => ?_ <;> (try simp only [xb, reduceCtorEq] at hb)) | (refine w2 (fun hc => ?_) (fun hc => ?_) <;> (try simp only [xc] at hc) <;> (try simp only [go_sem, hc]) <;> (try simp only [xb] at hc)) | refine wI ?_ | refine ex_idx (by omega) ?_ | fail)
      simp [Try.results35, RetL, upd_at, plainB, isOwn, anyOwn]
      refine ⟨_, _, ⟨rfl, rfl⟩, ?_, ?_, ?_, ?_⟩ <;> first | rfl | exact .inl rfl | (right; simp [view, viewL_map, view_I, l2J])
    · refine CW.frz 7 [] (oints S) (by simp [upd_at, getP]) rfl ?_
      simp (config := { maxSteps := 2000000 }) only [go_sem]
      have hX0 : lawsX bs p = (l2J (l2J e f 19 ++ [21]) e 19, l2J e (l2J f e 19 ++ [21]) 19, p3 + 1) := by subst hS; rw [hX]; rfl
      rw [hX0]
      repeat' (first | refine wS fun K hK => ?_ | refine wB ?_ | ((first | refine wX hΓ ?_ | refine wV hΓ fun B hB => ?_); simp (config := { maxSteps := 2000000 }) only [go_sem]) | ((repeat ((fail_if_success (refine hK _ ?_)); clear hK K)); refine hK _ ?_; clear hK K) | (refine w1 ?_; simp only [xs, xi, Nat.reduceEqDiff, reduceCtorEq, retM_ret, retM_normal, retML_ret, retML_normal, retL_ret, retL_normal]) | (refine wC (fun hb => ?_) fun hb => ?_ <;> (try simp only [xb, reduceCtorEq] at hb)) | (refine w2 (fun hc => ?_) (fun hc => ?_) <;> (try simp only [xc] at hc) <;> (try simp only [go_sem, hc]) <;> (try simp only [xb] at hc)) | refine wI ?_ | refine ex_idx (by omega) ?_ | fail)
      all_goals try (exfalso; first | exact absurd ‹true = false› (by decide) | exact absurd ‹false = true› (by decide) | exact absurd rfl ‹¬ true = true› | exact absurd trivial ‹¬ True› | omega)
      (first | refine wA rfl _ (⟨e, f, 19, by simp [view, viewL_map, view_I], by (first | (simp; done) | (simp; omega) | omega), by (first | (simp; done) | (simp; omega) | omega), rfl⟩) ?_ | refine dA rfl _ (⟨e, f, 19, by simp [view, viewL_map, view_I], by (first | (simp; done) | (simp; omega) | omega), by (first | (simp; done) | (simp; omega) | omega), rfl⟩) ?_); simp (config := { maxSteps := 2000000 }) only [go_sem]
      repeat' (first | refine wS fun K hK => ?_ | refine wB ?_ | ((first | refine wX hΓ ?_ | refine wV hΓ fun B hB => ?_); simp (config := { maxSteps := 2000000 }) only [go_sem]) | ((repeat ((fail_if_success (refine hK _ ?_)); clear hK K)); refine hK _ ?_; clear hK K) | (refine w1 ?_; simp only [xs, xi, Nat.reduceEqDiff, reduceCtorEq, retM_ret, retM_normal, retML_ret, retML_normal, retL_ret, retL_normal]) | (refine wC (fun hb => ?_) fun hb => ?_ <;> (try simp only [xb, reduceCtorEq] at hb)) | (refine w2 (fun hc => ?_) (fun hc => ?_) <;> (try simp only [xc] at hc) <;> (try simp only [go_sem, hc]) <;> (try simp only [xb] at hc)) | refine wI ?_ | refine ex_idx (by omega) ?_ | fail)
      (first | refine wA rfl _ (⟨((e ++ (f ++ [19])) ++ [21]), e, 19, by simp [view, viewL_map, view_I], by (first | (simp; done) | (simp; omega) | omega), by (first | (simp; done) | (simp; omega) | omega), rfl⟩) ?_ | refine dA rfl _ (⟨((e ++ (f ++ [19])) ++ [21]), e, 19, by simp [view, viewL_map, view_I], by (first | (simp; done) | (simp; omega) | omega), by (first | (simp; done) | (simp; omega) | omega), rfl⟩) ?_); simp (config := { maxSteps := 2000000 }) only [go_sem]
      repeat' (first | refine wS fun K hK => ?_ | refine wB ?_ | ((first | refine wX hΓ ?_ | refine wV hΓ fun B hB => ?_); simp (config := { maxSteps := 2000000 }) only [go_sem]) | ((repeat ((fail_if_success (refine hK _ ?_)); clear hK K)); refine hK _ ?_; clear hK K) | (refine w1 ?_; simp only [xs, xi, Nat.reduceEqDiff, reduceCtorEq, retM_ret, retM_normal, retML_ret, retML_normal, retL_ret, retL_normal]) | (refine wC (fun hb => ?_) fun hb => ?_ <;> (try simp only [xb, reduceCtorEq] at hb)) | (refine w2 (fun hc => ?_) (fun hc => ?_) <;> (try simp only [xc] at hc) <;> (try simp only [go_sem, hc]) <;> (try simp only [xb] at hc)) | refine wI ?_ | refine ex_idx (by omega) ?_ | fail)
      (first | refine wA rfl _ (⟨f, e, 19, by simp [view, viewL_map, view_I], by (first | (simp; done) | (simp; omega) | omega), by (first | (simp; done) | (simp; omega) | omega), rfl⟩) ?_ | refine dA rfl _ (⟨f, e, 19, by simp [view, viewL_map, view_I], by (first | (simp; done) | (simp; omega) | omega), by (first | (simp; done) | (simp; omega) | omega), rfl⟩) ?_); simp (config := { maxSteps := 2000000 }) only [go_sem]
      repeat' (first | refine wS fun K hK => ?_ | refine wB ?_ | ((first | refine wX hΓ ?_ | refine wV hΓ fun B hB => ?_); simp (config := { maxSteps := 2000000 }) only [go_sem]) | ((repeat ((fail_if_success (refine hK _ ?_)); clear hK K)); refine hK _ ?_; clear hK K) | (refine w1 ?_; simp only [xs, xi, Nat.reduceEqDiff, reduceCtorEq, retM_ret, retM_normal, retML_ret, retML_normal, retL_ret, retL_normal]) | (refine wC (fun hb => ?_) fun hb => ?_ <;> (try simp only [xb, reduceCtorEq] at hb)) | (refine w2 (fun hc => ?_) (fun hc => ?_) <;> (try simp only [xc] at hc) <;> (try simp only [go_sem, hc]) <;> (try simp only [xb] at hc)) | refine wI ?_ | refine ex_idx (by omega) ?_ | fail)
      (first | refine wA rfl _ (⟨e, ((f ++ (e ++ [19])) ++ [21]), 19, by simp [view, viewL_map, view_I], by (first | (simp; done) | (simp; omega) | omega), by (first | (simp; done) | (simp; omega) | omega), rfl⟩) ?_ | refine dA rfl _ (⟨e, ((f ++ (e ++ [19])) ++ [21]), 19, by simp [view, viewL_map, view_I], by (first | (simp; done) | (simp; omega) | omega), by (first | (simp; done) | (simp; omega) | omega), rfl⟩) ?_); simp (config := { maxSteps := 2000000 }) only [go_sem]
      repeat' (first | refine wS fun K hK => ?_ | refine wB ?_ | ((first | refine wX hΓ ?_ | refine wV hΓ fun B hB => ?_); simp (config := { maxSteps := 2000000 }) only [go_sem]) | ((repeat ((fail_if_success (refine hK _ ?_)); clear hK K)); refine hK _ ?_; clear hK K) | (refine w1 ?_; simp only [xs, xi, Nat.reduceEqDiff, reduceCtorEq, retM_ret, retM_normal, retML_ret, retML_normal, retL_ret, retL_normal]) | (refine wC (fun hb => ?_) fun hb => ?_ <;> (try simp only [xb, reduceCtorEq] at hb)) | (refine w2 (fun hc => ?_) (fun hc => ?_) <;> (try simp only [xc] at hc) <;> (try simp only [go_sem, hc]) <;> (try simp only [xb] at hc)) | refine wI ?_ | refine ex_idx (by omega) ?_ | fail)
      simp [Try.results35, RetL, upd_at, plainB, isOwn, anyOwn]
      refine ⟨_, _, ⟨rfl, rfl⟩, ?_, ?_, ?_, ?_⟩ <;> first | rfl | exact .inl rfl | (right; simp [view, viewL_map, view_I, l2J])
    · refine CW.frz 7 [] (oints S) (by simp [upd_at, getP]) rfl ?_
      simp (config := { maxSteps := 2000000 }) only [go_sem]
      have hX0 : lawsX bs p = (l2J e (l2J f g 20) 19, l2J (l2J e f 19) (l2J e g 19) 20, p3 + 1) := by subst hS; rw [hX]; rfl
      rw [hX0]
      repeat' (first | refine wS fun K hK => ?_ | refine wB ?_ | ((first | refine wX hΓ ?_ | refine wV hΓ fun B hB => ?_); simp (config := { maxSteps := 2000000 }) only [go_sem]) | ((repeat ((fail_if_success (refine hK _ ?_)); clear hK K)); refine hK _ ?_; clear hK K) | (refine w1 ?_; simp only [xs, xi, Nat.reduceEqDiff, reduceCtorEq, retM_ret, retM_normal, retML_ret, retML_normal, retL_ret, retL_normal]) | (refine wC (fun hb => ?_) fun hb => ?_ <;> (try simp only [xb, reduceCtorEq] at hb)) | (refine w2 (fun hc => ?_) (fun hc => ?_) <;> (try simp only [xc] at hc) <;> (try simp only [go_sem, hc]) <;> (try simp only [xb] at hc)) | refine wI ?_ | refine ex_idx (by omega) ?_ | fail)
      all_goals try (exfalso; first | exact absurd ‹true = false› (by decide) | exact absurd ‹false = true› (by decide) | exact absurd rfl ‹¬ true = true› | exact absurd trivial ‹¬ True› | omega)
      (first | refine wA rfl _ (⟨f, g, 20, by simp [view, viewL_map, view_I], by (first | (simp; done) | (simp; omega) | omega), by (first | (simp; done) | (simp; omega) | omega), rfl⟩) ?_ | refine dA rfl _ (⟨f, g, 20, by simp [view, viewL_map, view_I], by (first | (simp; done) | (simp; omega) | omega), by (first | (simp; done) | (simp; omega) | omega), rfl⟩) ?_); simp (config := { maxSteps := 2000000 }) only [go_sem]
      repeat' (first | refine wS fun K hK => ?_ | refine wB ?_ | ((first | refine wX hΓ ?_ | refine wV hΓ fun B hB => ?_); simp (config := { maxSteps := 2000000 }) only [go_sem]) | ((repeat ((fail_if_success (refine hK _ ?_)); clear hK K)); refine hK _ ?_; clear hK K) | (refine w1 ?_; simp only [xs, xi, Nat.reduceEqDiff, reduceCtorEq, retM_ret, retM_normal, retML_ret, retML_normal, retL_ret, retL_normal]) | (refine wC (fun hb => ?_) fun hb => ?_ <;> (try simp only [xb, reduceCtorEq] at hb)) | (refine w2 (fun hc => ?_) (fun hc => ?_) <;> (try simp only [xc] at hc) <;> (try simp only [go_sem, hc]) <;> (try simp only [xb] at hc)) | refine wI ?_ | refine ex_idx (by omega) ?_ | fail)
      (first | refine wA rfl _ (⟨e, (f ++ (g ++ [20])), 19, by simp [view, viewL_map, view_I], by (first | (simp; done) | (simp; omega) | omega), by (first | (simp; done) | (simp; omega) | omega), rfl⟩) ?_ | refine dA rfl _ (⟨e, (f ++ (g ++ [20])), 19, by simp [view, viewL_map, view_I], by (first | (simp; done) | (simp; omega) | omega), by (first | (simp; done) | (simp; omega) | omega), rfl⟩) ?_); simp (config := { maxSteps := 2000000 }) only [go_sem]
      repeat' (first | refine wS fun K hK => ?_ | refine wB ?_ | ((first | refine wX hΓ ?_ | refine wV hΓ fun B hB => ?_); simp (config := { maxSteps := 2000000 }) only [go_sem]) | ((repeat ((fail_if_success (refine hK _ ?_)); clear hK K)); refine hK _ ?_; clear hK K) | (refine w1 ?_; simp only [xs, xi, Nat.reduceEqDiff, reduceCtorEq, retM_ret, retM_normal, retML_ret, retML_normal, retL_ret, retL_normal]) | (refine wC (fun hb => ?_) fun hb => ?_ <;> (try simp only [xb, reduceCtorEq] at hb)) | (refine w2 (fun hc => ?_) (fun hc => ?_) <;> (try simp only [xc] at hc) <;> (try simp only [go_sem, hc]) <;> (try simp only [xb] at hc)) | refine wI ?_ | refine ex_idx (by omega) ?_ | fail)
      (first | refine wA rfl _ (⟨e, f, 19, by simp [view, viewL_map, view_I], by (first | (simp; done) | (simp; omega) | omega), by (first | (simp; done) | (simp; omega) | omega), rfl⟩) ?_ | refine dA rfl _ (⟨e, f, 19, by simp [view, viewL_map, view_I], by (first | (simp; done) | (simp; omega) | omega), by (first | (simp; done) | (simp; omega) | omega), rfl⟩) ?_); simp (config := { maxSteps := 2000000 }) only [go_sem]
      repeat' (first | refine wS fun K hK => ?_ | refine wB ?_ | ((first | refine wX hΓ ?_ | refine wV hΓ fun B hB => ?_); simp (config := { maxSteps := 2000000 }) only [go_sem]) | ((repeat ((fail_if_success (refine hK _ ?_)); clear hK K)); refine hK _ ?_; clear hK K) | (refine w1 ?_; simp only [xs, xi, Nat.reduceEqDiff, reduceCtorEq, retM_ret, retM_normal, retML_ret, retML_normal, retL_ret, retL_normal]) | (refine wC (fun hb => ?_) fun hb => ?_ <;> (try simp only [xb, reduceCtorEq] at hb)) | (refine w2 (fun hc => ?_) (fun hc => ?_) <;> (try simp only [xc] at hc) <;> (try simp only [go_sem, hc]) <;> (try simp only [xb] at hc)) | refine wI ?_ | refine ex_idx (by omega) ?_ | fail)
      (first | refine wA rfl _ (⟨e, g, 19, by simp [view, viewL_map, view_I], by (first | (simp; done) | (simp; omega) | omega), by (first | (simp; done) | (simp; omega) | omega), rfl⟩) ?_ | refine dA rfl _ (⟨e, g, 19, by simp [view, viewL_map, view_I], by (first | (simp; done) | (simp; omega) | omega), by (first | (simp; done) | (simp; omega) | omega), rfl⟩) ?_); simp (config := { maxSteps := 2000000 }) only [go_sem]
      repeat' (first | refine wS fun K hK => ?_ | refine wB ?_ | ((first | refine wX hΓ ?_ | refine wV hΓ fun B hB => ?_); simp (config := { maxSteps := 2000000 }) only [go_sem]) | ((repeat ((fail_if_success (refine hK _ ?_)); clear hK K)); refine hK _ ?_; clear hK K) | (refine w1 ?_; simp only [xs, xi, Nat.reduceEqDiff, reduceCtorEq, retM_ret, retM_normal, retML_ret, retML_normal, retL_ret, retL_normal]) | (refine wC (fun hb => ?_) fun hb => ?_ <;> (try simp only [xb, reduceCtorEq] at hb)) | (refine w2 (fun hc => ?_) (fun hc => ?_) <;> (try simp only [xc] at hc) <;> (try simp only [go_sem, hc]) <;> (try simp only [xb] at hc)) | refine wI ?_ | refine ex_idx (by omega) ?_ | fail)
      (first | refine wA rfl _ (⟨(e ++ (f ++ [19])), (e ++ (g ++ [19])), 20, by simp [view, viewL_map, view_I], by (first | (simp; done) | (simp; omega) | omega), by (first | (simp; done) | (simp; omega) | omega), rfl⟩) ?_ | refine dA rfl _ (⟨(e ++ (f ++ [19])), (e ++ (g ++ [19])), 20, by simp [view, viewL_map, view_I], by (first | (simp; done) | (simp; omega) | omega), by (first | (simp; done) | (simp; omega) | omega), rfl⟩) ?_); simp (config := { maxSteps := 2000000 }) only [go_sem]
      repeat' (first | refine wS fun K hK => ?_ | refine wB ?_ | ((first | refine wX hΓ ?_ | refine wV hΓ fun B hB => ?_); simp (config := { maxSteps := 2000000 }) only [go_sem]) | ((repeat ((fail_if_success (refine hK _ ?_)); clear hK K)); refine hK _ ?_; clear hK K) | (refine w1 ?_; simp only [xs, xi, Nat.reduceEqDiff, reduceCtorEq, retM_ret, retM_normal, retML_ret, retML_normal, retL_ret, retL_normal]) | (refine wC (fun hb => ?_) fun hb => ?_ <;> (try simp only [xb, reduceCtorEq] at hb)) | (refine w2 (fun hc => ?_) (fun hc => ?_) <;> (try simp only [xc] at hc) <;> (try simp only [go_sem, hc]) <;> (try simp only [xb] at hc)) | refine wI ?_ | refine ex_idx (by omega) ?_ | fail)
      simp [Try.results35, RetL, upd_at, plainB, isOwn, anyOwn]
      refine ⟨_, _, ⟨rfl, rfl⟩, ?_, ?_, ?_, ?_⟩ <;> first | rfl | exact .inl rfl | (right; simp [view, viewL_map, view_I, l2J])
    · refine CW.frz 7 [] (oints S) (by simp [upd_at, getP]) rfl ?_
      simp (config := { maxSteps := 2000000 }) only [go_sem]
      have hX0 : lawsX bs p = (e, l2J e e 20, p3 + 1) := by subst hS; rw [hX]; rfl
      rw [hX0]
      repeat' (first | refine wS fun K hK => ?_ | refine wB ?_ | ((first | refine wX hΓ ?_ | refine wV hΓ fun B hB => ?_); simp (config := { maxSteps := 2000000 }) only [go_sem]) | ((repeat ((fail_if_success (refine hK _ ?_)); clear hK K)); refine hK _ ?_; clear hK K) | (refine w1 ?_; simp only [xs, xi, Nat.reduceEqDiff, reduceCtorEq, retM_ret, retM_normal, retML_ret, retML_normal, retL_ret, retL_normal]) | (refine wC (fun hb => ?_) fun hb => ?_ <;> (try simp only [xb, reduceCtorEq] at hb)) | (refine w2 (fun hc => ?_) (fun hc => ?_) <;> (try simp only [xc] at hc) <;> (try simp only [go_sem, hc]) <;> (try simp only [xb] at hc)) | refine wI ?_ | refine ex_idx (by omega) ?_ | fail)
      all_goals try (exfalso; first | exact absurd ‹true = false› (by decide) | exact absurd ‹false = true› (by decide) | exact absurd rfl ‹¬ true = true› | exact absurd trivial ‹¬ True› | omega)
      (first | refine wA rfl _ (⟨e, e, 20, by simp [view, viewL_map, view_I], by (first | (simp; done) | (simp; omega) | omega), by (first | (simp; done) | (simp; omega) | omega), rfl⟩) ?_ | refine dA rfl _ (⟨e, e, 20, by simp [view, viewL_map, view_I], by (first | (simp; done) | (simp; omega) | omega), by (first | (simp; done) | (simp; omega) | omega), rfl⟩) ?_); simp (config := { maxSteps := 2000000 }) only [go_sem]
      repeat' (first | refine wS fun K hK => ?_ | refine wB ?_ | ((first | refine wX hΓ ?_ | refine wV hΓ fun B hB => ?_); simp (config := { maxSteps := 2000000 }) only [go_sem]) | ((repeat ((fail_if_success (refine hK _ ?_)); clear hK K)); refine hK _ ?_; clear hK K) | (refine w1 ?_; simp only [xs, xi, Nat.reduceEqDiff, reduceCtorEq, retM_ret, retM_normal, retML_ret, retML_normal, retL_ret, retL_normal]) | (refine wC (fun hb => ?_) fun hb => ?_ <;> (try simp only [xb, reduceCtorEq] at hb)) | (refine w2 (fun hc => ?_) (fun hc => ?_) <;> (try simp only [xc] at hc) <;> (try simp only [go_sem, hc]) <;> (try simp only [xb] at hc)) | refine wI ?_ | refine ex_idx (by omega) ?_ | fail)
      simp [Try.results35, RetL, upd_at, plainB, isOwn, anyOwn]
      refine ⟨_, _, ⟨rfl, rfl⟩, ?_, ?_, ?_, ?_⟩ <;> first | rfl | exact .inl rfl | (right; simp [view, viewL_map, view_I, l2J])
    · have hX0 : lawsX bs p = (S ++ [21], S, p3 + 1) := by subst hS; rw [hX]; rfl
      rw [hX0]
      refine CW.block ?_
      refine CW.seqK fun K hK => ?_
      repeat' (first | refine wB ?_ | ((first | refine wX hΓ ?_ | refine wV hΓ fun B hB => ?_); simp (config := { maxSteps := 2000000 }) only [go_sem]) | (refine w1 ?_; simp only [xs, xi, Nat.reduceEqDiff, reduceCtorEq, retM_ret, retM_normal, retML_ret, retML_normal, retL_ret, retL_normal]) | (refine wC (fun hb => ?_) fun hb => ?_ <;> (try simp only [xb, reduceCtorEq] at hb)) | (refine w2 (fun hc => ?_) (fun hc => ?_) <;> (try simp only [xc] at hc) <;> (try simp only [go_sem, hc]) <;> (try simp only [xb] at hc)) | refine wI ?_ | refine ex_idx (by omega) ?_ | fail)
      (refine hK _ ?_; clear hK K)
      (refine wC (fun hb => ?_) fun hb => ?_ <;> (try simp only [xb, reduceCtorEq] at hb))
      · exfalso; omega
      refine CW.seqK fun K hK => ?_
      repeat' (first | refine wB ?_ | ((first | refine wX hΓ ?_ | refine wV hΓ fun B hB => ?_); simp (config := { maxSteps := 2000000 }) only [go_sem]) | (refine w1 ?_; simp only [xs, xi, Nat.reduceEqDiff, reduceCtorEq, retM_ret, retM_normal, retML_ret, retML_normal, retL_ret, retL_normal]) | (refine wC (fun hb => ?_) fun hb => ?_ <;> (try simp only [xb, reduceCtorEq] at hb)) | (refine w2 (fun hc => ?_) (fun hc => ?_) <;> (try simp only [xc] at hc) <;> (try simp only [go_sem, hc]) <;> (try simp only [xb] at hc)) | refine wI ?_ | refine ex_idx (by omega) ?_ | fail)
      (refine hK _ ?_; clear hK K)
      (refine wC (fun hb => ?_) fun hb => ?_ <;> (try simp only [xb, reduceCtorEq] at hb))
      · exfalso; omega
      refine CW.seqK fun K hK => ?_
      repeat' (first | refine wB ?_ | ((first | refine wX hΓ ?_ | refine wV hΓ fun B hB => ?_); simp (config := { maxSteps := 2000000 }) only [go_sem]) | (refine w1 ?_; simp only [xs, xi, Nat.reduceEqDiff, reduceCtorEq, retM_ret, retM_normal, retML_ret, retML_normal, retL_ret, retL_normal]) | (refine wC (fun hb => ?_) fun hb => ?_ <;> (try simp only [xb, reduceCtorEq] at hb)) | (refine w2 (fun hc => ?_) (fun hc => ?_) <;> (try simp only [xc] at hc) <;> (try simp only [go_sem, hc]) <;> (try simp only [xb] at hc)) | refine wI ?_ | refine ex_idx (by omega) ?_ | fail)
      (refine hK _ ?_; clear hK K)
      (refine wC (fun hb => ?_) fun hb => ?_ <;> (try simp only [xb, reduceCtorEq] at hb))
      · exfalso; omega
      refine CW.seqK fun K hK => ?_
      repeat' (first | refine wB ?_ | ((first | refine wX hΓ ?_ | refine wV hΓ fun B hB => ?_); simp (config := { maxSteps := 2000000 }) only [go_sem]) | (refine w1 ?_; simp only [xs, xi, Nat.reduceEqDiff, reduceCtorEq, retM_ret, retM_normal, retML_ret, retML_normal, retL_ret, retL_normal]) | (refine wC (fun hb => ?_) fun hb => ?_ <;> (try simp only [xb, reduceCtorEq] at hb)) | (refine w2 (fun hc => ?_) (fun hc => ?_) <;> (try simp only [xc] at hc) <;> (try simp only [go_sem, hc]) <;> (try simp only [xb] at hc)) | refine wI ?_ | refine ex_idx (by omega) ?_ | fail)
      (refine hK _ ?_; clear hK K)
      (refine wC (fun hb => ?_) fun hb => ?_ <;> (try simp only [xb, reduceCtorEq] at hb))
      · exfalso; omega
      refine CW.seqK fun K hK => ?_
      repeat' (first | refine wB ?_ | ((first | refine wX hΓ ?_ | refine wV hΓ fun B hB => ?_); simp (config := { maxSteps := 2000000 }) only [go_sem]) | (refine w1 ?_; simp only [xs, xi, Nat.reduceEqDiff, reduceCtorEq, retM_ret, retM_normal, retML_ret, retML_normal, retL_ret, retL_normal]) | (refine wC (fun hb => ?_) fun hb => ?_ <;> (try simp only [xb, reduceCtorEq] at hb)) | (refine w2 (fun hc => ?_) (fun hc => ?_) <;> (try simp only [xc] at hc) <;> (try simp only [go_sem, hc]) <;> (try simp only [xb] at hc)) | refine wI ?_ | refine ex_idx (by omega) ?_ | fail)
      (refine hK _ ?_; clear hK K)
      (refine wC (fun hb => ?_) fun hb => ?_ <;> (try simp only [xb, reduceCtorEq] at hb))
      · exfalso; omega
      refine CW.seqK fun K hK => ?_
      repeat' (first | refine wB ?_ | ((first | refine wX hΓ ?_ | refine wV hΓ fun B hB => ?_); simp (config := { maxSteps := 2000000 }) only [go_sem]) | (refine w1 ?_; simp only [xs, xi, Nat.reduceEqDiff, reduceCtorEq, retM_ret, retM_normal, retML_ret, retML_normal, retL_ret, retL_normal]) | (refine wC (fun hb => ?_) fun hb => ?_ <;> (try simp only [xb, reduceCtorEq] at hb)) | (refine w2 (fun hc => ?_) (fun hc => ?_) <;> (try simp only [xc] at hc) <;> (try simp only [go_sem, hc]) <;> (try simp only [xb] at hc)) | refine wI ?_ | refine ex_idx (by omega) ?_ | fail)
      (refine hK _ ?_; clear hK K)
      (refine wC (fun hb => ?_) fun hb => ?_ <;> (try simp only [xb, reduceCtorEq] at hb))
      rotate_left
      · exfalso; omega
      refine CW.seqK fun K hK => ?_
      refine CW.regS hΓ (by rw [hκ]; decide) ?_
      simp (config := { maxSteps := 2000000 }) only [go_sem]
      refine ⟨⟨by simp [view], by omega⟩, ?_⟩
      (refine hK _ ?_; clear hK K)
      repeat' (first | refine wS fun K hK => ?_ | refine wB ?_ | ((first | refine wX hΓ ?_ | refine wV hΓ fun B hB => ?_); simp (config := { maxSteps := 2000000 }) only [go_sem]) | ((repeat ((fail_if_success (refine hK _ ?_)); clear hK K)); refine hK _ ?_; clear hK K) | (refine w1 ?_; simp only [xs, xi, Nat.reduceEqDiff, reduceCtorEq, retM_ret, retM_normal, retML_ret, retML_normal, retL_ret, retL_normal]) | (refine wC (fun hb => ?_) fun hb => ?_ <;> (try simp only [xb, reduceCtorEq] at hb)) | (refine w2 (fun hc => ?_) (fun hc => ?_) <;> (try simp only [xc] at hc) <;> (try simp only [go_sem, hc]) <;> (try simp only [xb] at hc)) | refine wI ?_ | refine ex_idx (by omega) ?_ | fail)
      simp [Try.results35, RetL, upd_at, plainB, isOwn, anyOwn]
      refine ⟨_, _, ⟨rfl, rfl⟩, ?_, ?_, ?_, ?_⟩ <;> first | rfl | exact .inl rfl | (left; simp [view, viewL_map, view_I, l2J]; done) | (right; simp [view, viewL_map, view_I, l2J])
    · have ht16 := testX_ge bs (p3 + 1)
      obtain ⟨⟨t, p4⟩, hT⟩ : ∃ o, testX bs (p3 + 1) 0 = o := ⟨_, rfl⟩
      have hX0 : lawsX bs p = (whL t e, l2J (whL t e) [15 - t] 19, p4) := by rw [hX]; show ((whL (testX bs (p3 + 1) 0).1 e, l2J (whL (testX bs (p3 + 1) 0).1 e) [15 - (testX bs (p3 + 1) 0).1] 19, (testX bs (p3 + 1) 0).2) : List Int × List Int × Nat) = _; rw [hT]
      rw [hX0]
      rw [hT] at ht16
      dsimp only at ht16
      have hw := hwy t ht16 h9
      have hwl := whL_len t e
      have hwn : (whL t e)[(whL t e).length - 2]'(by omega) = 15 - t := by simp [whL]
      refine CW.frz 7 [] (oints S) (by simp [upd_at, getP]) rfl ?_
      simp (config := { maxSteps := 2000000 }) only [go_sem]
      refine CW.block ?_
      refine CW.seqK fun K hK => ?_
      repeat' (first | refine wB ?_ | ((first | refine wX hΓ ?_ | refine wV hΓ fun B hB => ?_); simp (config := { maxSteps := 2000000 }) only [go_sem]) | (refine w1 ?_; simp only [xs, xi, Nat.reduceEqDiff, reduceCtorEq, retM_ret, retM_normal, retML_ret, retML_normal, retL_ret, retL_normal]) | (refine wC (fun hb => ?_) fun hb => ?_ <;> (try simp only [xb, reduceCtorEq] at hb)) | (refine w2 (fun hc => ?_) (fun hc => ?_) <;> (try simp only [xc] at hc) <;> (try simp only [go_sem, hc]) <;> (try simp only [xb] at hc)) | refine wI ?_ | refine ex_idx (by omega) ?_ | fail)
      (refine hK _ ?_; clear hK K)
      (refine wC (fun hb => ?_) fun hb => ?_ <;> (try simp only [xb, reduceCtorEq] at hb))
      · exfalso; omega
      refine CW.seqK fun K hK => ?_
      repeat' (first | refine wB ?_ | ((first | refine wX hΓ ?_ | refine wV hΓ fun B hB => ?_); simp (config := { maxSteps := 2000000 }) only [go_sem]) | (refine w1 ?_; simp only [xs, xi, Nat.reduceEqDiff, reduceCtorEq, retM_ret, retM_normal, retML_ret, retML_normal, retL_ret, retL_normal]) | (refine wC (fun hb => ?_) fun hb => ?_ <;> (try simp only [xb, reduceCtorEq] at hb)) | (refine w2 (fun hc => ?_) (fun hc => ?_) <;> (try simp only [xc] at hc) <;> (try simp only [go_sem, hc]) <;> (try simp only [xb] at hc)) | refine wI ?_ | refine ex_idx (by omega) ?_ | fail)
      (refine hK _ ?_; clear hK K)
      (refine wC (fun hb => ?_) fun hb => ?_ <;> (try simp only [xb, reduceCtorEq] at hb))
      · exfalso; omega
      refine CW.seqK fun K hK => ?_
      repeat' (first | refine wB ?_ | ((first | refine wX hΓ ?_ | refine wV hΓ fun B hB => ?_); simp (config := { maxSteps := 2000000 }) only [go_sem]) | (refine w1 ?_; simp only [xs, xi, Nat.reduceEqDiff, reduceCtorEq, retM_ret, retM_normal, retML_ret, retML_normal, retL_ret, retL_normal]) | (refine wC (fun hb => ?_) fun hb => ?_ <;> (try simp only [xb, reduceCtorEq] at hb)) | (refine w2 (fun hc => ?_) (fun hc => ?_) <;> (try simp only [xc] at hc) <;> (try simp only [go_sem, hc]) <;> (try simp only [xb] at hc)) | refine wI ?_ | refine ex_idx (by omega) ?_ | fail)
      (refine hK _ ?_; clear hK K)
      (refine wC (fun hb => ?_) fun hb => ?_ <;> (try simp only [xb, reduceCtorEq] at hb))
      · exfalso; omega
      refine CW.seqK fun K hK => ?_
      repeat' (first | refine wB ?_ | ((first | refine wX hΓ ?_ | refine wV hΓ fun B hB => ?_); simp (config := { maxSteps := 2000000 }) only [go_sem]) | (refine w1 ?_; simp only [xs, xi, Nat.reduceEqDiff, reduceCtorEq, retM_ret, retM_normal, retML_ret, retML_normal, retL_ret, retL_normal]) | (refine wC (fun hb => ?_) fun hb => ?_ <;> (try simp only [xb, reduceCtorEq] at hb)) | (refine w2 (fun hc => ?_) (fun hc => ?_) <;> (try simp only [xc] at hc) <;> (try simp only [go_sem, hc]) <;> (try simp only [xb] at hc)) | refine wI ?_ | refine ex_idx (by omega) ?_ | fail)
      (refine hK _ ?_; clear hK K)
      (refine wC (fun hb => ?_) fun hb => ?_ <;> (try simp only [xb, reduceCtorEq] at hb))
      · exfalso; omega
      refine CW.seqK fun K hK => ?_
      repeat' (first | refine wB ?_ | ((first | refine wX hΓ ?_ | refine wV hΓ fun B hB => ?_); simp (config := { maxSteps := 2000000 }) only [go_sem]) | (refine w1 ?_; simp only [xs, xi, Nat.reduceEqDiff, reduceCtorEq, retM_ret, retM_normal, retML_ret, retML_normal, retL_ret, retL_normal]) | (refine wC (fun hb => ?_) fun hb => ?_ <;> (try simp only [xb, reduceCtorEq] at hb)) | (refine w2 (fun hc => ?_) (fun hc => ?_) <;> (try simp only [xc] at hc) <;> (try simp only [go_sem, hc]) <;> (try simp only [xb] at hc)) | refine wI ?_ | refine ex_idx (by omega) ?_ | fail)
      (refine hK _ ?_; clear hK K)
      (refine wC (fun hb => ?_) fun hb => ?_ <;> (try simp only [xb, reduceCtorEq] at hb))
      · exfalso; omega
      refine CW.seqK fun K hK => ?_
      repeat' (first | refine wB ?_ | ((first | refine wX hΓ ?_ | refine wV hΓ fun B hB => ?_); simp (config := { maxSteps := 2000000 }) only [go_sem]) | (refine w1 ?_; simp only [xs, xi, Nat.reduceEqDiff, reduceCtorEq, retM_ret, retM_normal, retML_ret, retML_normal, retL_ret, retL_normal]) | (refine wC (fun hb => ?_) fun hb => ?_ <;> (try simp only [xb, reduceCtorEq] at hb)) | (refine w2 (fun hc => ?_) (fun hc => ?_) <;> (try simp only [xc] at hc) <;> (try simp only [go_sem, hc]) <;> (try simp only [xb] at hc)) | refine wI ?_ | refine ex_idx (by omega) ?_ | fail)
      (refine hK _ ?_; clear hK K)
      (refine wC (fun hb => ?_) fun hb => ?_ <;> (try simp only [xb, reduceCtorEq] at hb))
      · exfalso; omega
      refine CW.seqK fun K hK => ?_
      repeat' (first | refine wB ?_ | ((first | refine wX hΓ ?_ | refine wV hΓ fun B hB => ?_); simp (config := { maxSteps := 2000000 }) only [go_sem]) | (refine w1 ?_; simp only [xs, xi, Nat.reduceEqDiff, reduceCtorEq, retM_ret, retM_normal, retML_ret, retML_normal, retL_ret, retL_normal]) | (refine wC (fun hb => ?_) fun hb => ?_ <;> (try simp only [xb, reduceCtorEq] at hb)) | (refine w2 (fun hc => ?_) (fun hc => ?_) <;> (try simp only [xc] at hc) <;> (try simp only [go_sem, hc]) <;> (try simp only [xb] at hc)) | refine wI ?_ | refine ex_idx (by omega) ?_ | fail)
      (refine hK _ ?_; clear hK K)
      (refine wC (fun hb => ?_) fun hb => ?_ <;> (try simp only [xb, reduceCtorEq] at hb))
      rotate_left
      · exfalso; omega
      refine CW.seqK fun K hK => ?_
      repeat' (first | refine wB ?_ | ((first | refine wX hΓ ?_ | refine wV hΓ fun B hB => ?_); simp (config := { maxSteps := 2000000 }) only [go_sem]) | (refine w1 ?_; simp only [xs, xi, Nat.reduceEqDiff, reduceCtorEq, retM_ret, retM_normal, retML_ret, retML_normal, retL_ret, retL_normal]) | (refine wC (fun hb => ?_) fun hb => ?_ <;> (try simp only [xb, reduceCtorEq] at hb)) | (refine w2 (fun hc => ?_) (fun hc => ?_) <;> (try simp only [xc] at hc) <;> (try simp only [go_sem, hc]) <;> (try simp only [xb] at hc)) | refine wI ?_ | refine ex_idx (by omega) ?_ | fail)
      (first | refine W_askE rfl _ _ (⟨bs, p3 + 1, 0, rfl, hcd, by omega, by omega, rfl, rfl⟩) ?_ | refine D_askE rfl _ _ (⟨bs, p3 + 1, 0, rfl, hcd, by omega, by omega, rfl, rfl⟩) ?_); simp (config := { maxSteps := 2000000 }) only [go_sem]
      rw [hT]
      dsimp only
      repeat' (first | refine wB ?_ | ((first | refine wX hΓ ?_ | refine wV hΓ fun B hB => ?_); simp (config := { maxSteps := 2000000 }) only [go_sem]) | (refine w1 ?_; simp only [xs, xi, Nat.reduceEqDiff, reduceCtorEq, retM_ret, retM_normal, retML_ret, retML_normal, retL_ret, retL_normal]) | (refine wC (fun hb => ?_) fun hb => ?_ <;> (try simp only [xb, reduceCtorEq] at hb)) | (refine w2 (fun hc => ?_) (fun hc => ?_) <;> (try simp only [xc] at hc) <;> (try simp only [go_sem, hc]) <;> (try simp only [xb] at hc)) | refine wI ?_ | refine ex_idx (by omega) ?_ | fail)
      (first | refine wA rfl ?_ ?_ ?_ | refine dA rfl ?_ ?_ ?_); exact (.tup [oints (whL t e), .bool true]); exact (⟨t, e, by simp [view, viewL_map, view_I], by omega, by rw [hw, if_pos rfl]⟩); simp (config := { maxSteps := 2000000 }) only [go_sem]
      repeat' (first | refine wB ?_ | ((first | refine wX hΓ ?_ | refine wV hΓ fun B hB => ?_); simp (config := { maxSteps := 2000000 }) only [go_sem]) | (refine w1 ?_; simp only [xs, xi, Nat.reduceEqDiff, reduceCtorEq, retM_ret, retM_normal, retML_ret, retML_normal, retL_ret, retL_normal]) | (refine wC (fun hb => ?_) fun hb => ?_ <;> (try simp only [xb, reduceCtorEq] at hb)) | (refine w2 (fun hc => ?_) (fun hc => ?_) <;> (try simp only [xc] at hc) <;> (try simp only [go_sem, hc]) <;> (try simp only [xb] at hc)) | refine wI ?_ | refine ex_idx (by omega) ?_ | fail)
      (refine hK _ ?_; clear hK K)
      refine CW.frz 8 [] (oints (whL t e)) (by simp [upd_at, getP]) rfl ?_
      simp (config := { maxSteps := 2000000 }) only [go_sem]
      repeat' (first | refine wS fun K hK => ?_ | refine wB ?_ | ((first | refine wX hΓ ?_ | refine wV hΓ fun B hB => ?_); simp (config := { maxSteps := 2000000 }) only [go_sem]) | ((repeat ((fail_if_success (refine hK _ ?_)); clear hK K)); refine hK _ ?_; clear hK K) | (refine w1 ?_; simp only [xs, xi, Nat.reduceEqDiff, reduceCtorEq, retM_ret, retM_normal, retML_ret, retML_normal, retL_ret, retL_normal]) | (refine wC (fun hb => ?_) fun hb => ?_ <;> (try simp only [xb, reduceCtorEq] at hb)) | (refine w2 (fun hc => ?_) (fun hc => ?_) <;> (try simp only [xc] at hc) <;> (try simp only [go_sem, hc]) <;> (try simp only [xb] at hc)) | refine wI ?_ | refine ex_idx (by omega) ?_ | fail)
      all_goals try (exfalso; first | exact absurd ‹true = false› (by decide) | exact absurd ‹false = true› (by decide) | exact absurd rfl ‹¬ true = true› | exact absurd trivial ‹¬ True› | omega)
      have hidx : (((whL t e).length : Int) - 2).toNat = (whL t e).length - 2 := by omega
      simp only [hidx, hwn]
      (first | refine wA rfl _ (⟨whL t e, [15 - t], 19, by simp [view, viewL_map, view_I], by omega, by simp, rfl⟩) ?_ | refine dA rfl _ (⟨whL t e, [15 - t], 19, by simp [view, viewL_map, view_I], by omega, by simp, rfl⟩) ?_); simp (config := { maxSteps := 2000000 }) only [go_sem]
      repeat' (first | refine wS fun K hK => ?_ | refine wB ?_ | ((first | refine wX hΓ ?_ | refine wV hΓ fun B hB => ?_); simp (config := { maxSteps := 2000000 }) only [go_sem]) | ((repeat ((fail_if_success (refine hK _ ?_)); clear hK K)); refine hK _ ?_; clear hK K) | (refine w1 ?_; simp only [xs, xi, Nat.reduceEqDiff, reduceCtorEq, retM_ret, retM_normal, retML_ret, retML_normal, retL_ret, retL_normal]) | (refine wC (fun hb => ?_) fun hb => ?_ <;> (try simp only [xb, reduceCtorEq] at hb)) | (refine w2 (fun hc => ?_) (fun hc => ?_) <;> (try simp only [xc] at hc) <;> (try simp only [go_sem, hc]) <;> (try simp only [xb] at hc)) | refine wI ?_ | refine ex_idx (by omega) ?_ | fail)
      simp [Try.results35, RetL, upd_at, plainB, isOwn, anyOwn]
      refine ⟨_, _, ⟨rfl, rfl⟩, ?_, ?_, ?_, ?_⟩ <;> first | rfl | exact .inl rfl | (right; simp [view, viewL_map, view_I, l2J])
    · refine CW.frz 7 [] (oints S) (by simp [upd_at, getP]) rfl ?_
      simp (config := { maxSteps := 2000000 }) only [go_sem]
      have hX0 : lawsX bs p = (l2J e f 19, l2J f e 19, p3 + 1) := by subst hS; rw [hX]; rfl
      rw [hX0]
      repeat' (first | refine wS fun K hK => ?_ | refine wB ?_ | ((first | refine wX hΓ ?_ | refine wV hΓ fun B hB => ?_); simp (config := { maxSteps := 2000000 }) only [go_sem]) | ((repeat ((fail_if_success (refine hK _ ?_)); clear hK K)); refine hK _ ?_; clear hK K) | (refine w1 ?_; simp only [xs, xi, Nat.reduceEqDiff, reduceCtorEq, retM_ret, retM_normal, retML_ret, retML_normal, retL_ret, retL_normal]) | (refine wC (fun hb => ?_) fun hb => ?_ <;> (try simp only [xb, reduceCtorEq] at hb)) | (refine w2 (fun hc => ?_) (fun hc => ?_) <;> (try simp only [xc] at hc) <;> (try simp only [go_sem, hc]) <;> (try simp only [xb] at hc)) | refine wI ?_ | refine ex_idx (by omega) ?_ | fail)
      all_goals try (exfalso; first | exact absurd ‹true = false› (by decide) | exact absurd ‹false = true› (by decide) | exact absurd rfl ‹¬ true = true› | exact absurd trivial ‹¬ True› | omega)
      (first | refine wA rfl _ (⟨e, f, 19, by simp [view, viewL_map, view_I], by (first | (simp; done) | (simp; omega) | omega), by (first | (simp; done) | (simp; omega) | omega), rfl⟩) ?_ | refine dA rfl _ (⟨e, f, 19, by simp [view, viewL_map, view_I], by (first | (simp; done) | (simp; omega) | omega), by (first | (simp; done) | (simp; omega) | omega), rfl⟩) ?_); simp (config := { maxSteps := 2000000 }) only [go_sem]
      repeat' (first | refine wS fun K hK => ?_ | refine wB ?_ | ((first | refine wX hΓ ?_ | refine wV hΓ fun B hB => ?_); simp (config := { maxSteps := 2000000 }) only [go_sem]) | ((repeat ((fail_if_success (refine hK _ ?_)); clear hK K)); refine hK _ ?_; clear hK K) | (refine w1 ?_; simp only [xs, xi, Nat.reduceEqDiff, reduceCtorEq, retM_ret, retM_normal, retML_ret, retML_normal, retL_ret, retL_normal]) | (refine wC (fun hb => ?_) fun hb => ?_ <;> (try simp only [xb, reduceCtorEq] at hb)) | (refine w2 (fun hc => ?_) (fun hc => ?_) <;> (try simp only [xc] at hc) <;> (try simp only [go_sem, hc]) <;> (try simp only [xb] at hc)) | refine wI ?_ | refine ex_idx (by omega) ?_ | fail)
      (first | refine wA rfl _ (⟨f, e, 19, by simp [view, viewL_map, view_I], by (first | (simp; done) | (simp; omega) | omega), by (first | (simp; done) | (simp; omega) | omega), rfl⟩) ?_ | refine dA rfl _ (⟨f, e, 19, by simp [view, viewL_map, view_I], by (first | (simp; done) | (simp; omega) | omega), by (first | (simp; done) | (simp; omega) | omega), rfl⟩) ?_); simp (config := { maxSteps := 2000000 }) only [go_sem]
      repeat' (first | refine wS fun K hK => ?_ | refine wB ?_ | ((first | refine wX hΓ ?_ | refine wV hΓ fun B hB => ?_); simp (config := { maxSteps := 2000000 }) only [go_sem]) | ((repeat ((fail_if_success (refine hK _ ?_)); clear hK K)); refine hK _ ?_; clear hK K) | (refine w1 ?_; simp only [xs, xi, Nat.reduceEqDiff, reduceCtorEq, retM_ret, retM_normal, retML_ret, retML_normal, retL_ret, retL_normal]) | (refine wC (fun hb => ?_) fun hb => ?_ <;> (try simp only [xb, reduceCtorEq] at hb)) | (refine w2 (fun hc => ?_) (fun hc => ?_) <;> (try simp only [xc] at hc) <;> (try simp only [go_sem, hc]) <;> (try simp only [xb] at hc)) | refine wI ?_ | refine ex_idx (by omega) ?_ | fail)
      simp [Try.results35, RetL, upd_at, plainB, isOwn, anyOwn]
      refine ⟨_, _, ⟨rfl, rfl⟩, ?_, ?_, ?_, ?_⟩ <;> first | rfl | exact .inl rfl | (right; simp [view, viewL_map, view_I, l2J])
    · refine CW.frz 7 [] (oints S) (by simp [upd_at, getP]) rfl ?_
      simp (config := { maxSteps := 2000000 }) only [go_sem]
      obtain ⟨⟨w, p4⟩, hW⟩ : ∃ o, smallX bs (p3 + 1) 14 = o := ⟨_, rfl⟩
      have hX0 : lawsX bs p = (e, w, p4) := by rw [hX, ← hW]; rfl
      rw [hX0]
      repeat' (first | refine wS fun K hK => ?_ | refine wB ?_ | ((first | refine wX hΓ ?_ | refine wV hΓ fun B hB => ?_); simp (config := { maxSteps := 2000000 }) only [go_sem]) | ((repeat ((fail_if_success (refine hK _ ?_)); clear hK K)); refine hK _ ?_; clear hK K) | (refine w1 ?_; simp only [xs, xi, Nat.reduceEqDiff, reduceCtorEq, retM_ret, retM_normal, retML_ret, retML_normal, retL_ret, retL_normal]) | (refine wC (fun hb => ?_) fun hb => ?_ <;> (try simp only [xb, reduceCtorEq] at hb)) | (refine w2 (fun hc => ?_) (fun hc => ?_) <;> (try simp only [xc] at hc) <;> (try simp only [go_sem, hc]) <;> (try simp only [xb] at hc)) | refine wI ?_ | refine ex_idx (by omega) ?_ | fail)
      all_goals try (exfalso; first | exact absurd ‹true = false› (by decide) | exact absurd ‹false = true› (by decide) | exact absurd rfl ‹¬ true = true› | exact absurd trivial ‹¬ True› | omega)
      (first | refine W_askE rfl _ _ (⟨bs, p3 + 1, 14, rfl, hcd, by omega, by omega, rfl, rfl⟩) ?_ | refine D_askE rfl _ _ (⟨bs, p3 + 1, 14, rfl, hcd, by omega, by omega, rfl, rfl⟩) ?_); simp (config := { maxSteps := 2000000 }) only [go_sem]
      rw [hW]
      dsimp only
      repeat' (first | refine wS fun K hK => ?_ | refine wB ?_ | ((first | refine wX hΓ ?_ | refine wV hΓ fun B hB => ?_); simp (config := { maxSteps := 2000000 }) only [go_sem]) | ((repeat ((fail_if_success (refine hK _ ?_)); clear hK K)); refine hK _ ?_; clear hK K) | (refine w1 ?_; simp only [xs, xi, Nat.reduceEqDiff, reduceCtorEq, retM_ret, retM_normal, retML_ret, retML_normal, retL_ret, retL_normal]) | (refine wC (fun hb => ?_) fun hb => ?_ <;> (try simp only [xb, reduceCtorEq] at hb)) | (refine w2 (fun hc => ?_) (fun hc => ?_) <;> (try simp only [xc] at hc) <;> (try simp only [go_sem, hc]) <;> (try simp only [xb] at hc)) | refine wI ?_ | refine ex_idx (by omega) ?_ | fail)
      rw [hX0]
      simp [Try.results35, RetL, upd_at, plainB, isOwn, anyOwn]
      refine ⟨_, _, ⟨rfl, rfl⟩, ?_, ?_, ?_, ?_⟩ <;> first | rfl | exact .inl rfl | (right; simp [view, viewL_map, view_I, l2J])

def drawPOR (args : List AV) (r : AV) : Prop := ∃ bs : List Nat, args = [byts bs] ∧ bs.length ≤ 1099511627776 ∧ (∀ b ∈ bs, b < 256) ∧ r = .tup [ints (lawsX (bs.take 2000) 0).1, ints (lawsX (bs.take 2000) 0).2.1]
theorem drawPairsOf_ctr : CtrOK Try.prog 8 (pureC drawPOR) := by
  refine ctr_many Try.func8 rfl rfl Try.ntmps8 ?_
  rintro _ _ ⟨bs, rfl, hl, hb256, rfl⟩
  refine ⟨by simp, fun κ hκ => ?_⟩
  have hbig := bigW_gt
  rw [argEnv_eq]
  simp only [envA]
  have hΓ := ctxOf_ok (P := Try.prog) (cx open_ctr <| cx laws_ctr <| cx0)
  have hcd : CodeOK (bs.take 2000) := ⟨by simp; omega, fun b hb => hb256 b (List.mem_of_mem_take hb)⟩
  obtain ⟨⟨e, t, p1⟩, hD⟩ : ∃ o, lawsX (bs.take 2000) 0 = o := ⟨_, rfl⟩
  rw [hD]
  repeat' (first | refine wS fun K hK => ?_ | refine wB ?_ | ((first | refine wX hΓ ?_ | refine wV hΓ fun B hB => ?_); simp (config := { maxSteps := 2000000 }) only [go_sem]) | ((repeat ((fail_if_success (refine hK _ ?_)); clear hK K)); refine hK _ ?_; clear hK K) | (refine w1 ?_; simp only [xs, xi, Nat.reduceEqDiff, reduceCtorEq, retM_ret, retM_normal, retML_ret, retML_normal, retL_ret, retL_normal]) | (refine wC (fun hb => ?_) fun hb => ?_ <;> (try simp only [xb, reduceCtorEq] at hb)) | (refine w2 (fun hc => ?_) (fun hc => ?_) <;> (try simp only [xc] at hc) <;> (try simp only [go_sem, hc]) <;> (try simp only [xb] at hc)) | refine wI ?_ | refine ex_idx (by omega) ?_ | fail)
  (first | refine wA rfl _ (⟨bs, rfl, hl, rfl⟩) ?_ | refine dA rfl _ (⟨bs, rfl, hl, rfl⟩) ?_); simp (config := { maxSteps := 2000000 }) only [go_sem]
  repeat' (first | refine wS fun K hK => ?_ | refine wB ?_ | ((first | refine wX hΓ ?_ | refine wV hΓ fun B hB => ?_); simp (config := { maxSteps := 2000000 }) only [go_sem]) | ((repeat ((fail_if_success (refine hK _ ?_)); clear hK K)); refine hK _ ?_; clear hK K) | (refine w1 ?_; simp only [xs, xi, Nat.reduceEqDiff, reduceCtorEq, retM_ret, retM_normal, retML_ret, retML_normal, retL_ret, retL_normal]) | (refine wC (fun hb => ?_) fun hb => ?_ <;> (try simp only [xb, reduceCtorEq] at hb)) | (refine w2 (fun hc => ?_) (fun hc => ?_) <;> (try simp only [xc] at hc) <;> (try simp only [go_sem, hc]) <;> (try simp only [xb] at hc)) | refine wI ?_ | refine ex_idx (by omega) ?_ | fail)
  (first | refine W_askE rfl _ _ (⟨bs.take 2000, 0, rfl, hcd, by omega, rfl, rfl⟩) ?_ | refine D_askE rfl _ _ (⟨bs.take 2000, 0, rfl, hcd, by omega, rfl, rfl⟩) ?_); simp (config := { maxSteps := 2000000 }) only [go_sem]
  rw [hD]
  dsimp only
  repeat' (first | refine wS fun K hK => ?_ | refine wB ?_ | ((first | refine wX hΓ ?_ | refine wV hΓ fun B hB => ?_); simp (config := { maxSteps := 2000000 }) only [go_sem]) | ((repeat ((fail_if_success (refine hK _ ?_)); clear hK K)); refine hK _ ?_; clear hK K) | (refine w1 ?_; simp only [xs, xi, Nat.reduceEqDiff, reduceCtorEq, retM_ret, retM_normal, retML_ret, retML_normal, retL_ret, retL_normal]) | (refine wC (fun hb => ?_) fun hb => ?_ <;> (try simp only [xb, reduceCtorEq] at hb)) | (refine w2 (fun hc => ?_) (fun hc => ?_) <;> (try simp only [xc] at hc) <;> (try simp only [go_sem, hc]) <;> (try simp only [xb] at hc)) | refine wI ?_ | refine ex_idx (by omega) ?_ | fail)
  (rw [Try.results8]; refine ⟨_, rfl, by decide, by decide, by decide, ?_⟩; simp [ResL, ResI, upd_at, plainB])

end Go.Proofs.Ytmhiipmajlmlgaa
