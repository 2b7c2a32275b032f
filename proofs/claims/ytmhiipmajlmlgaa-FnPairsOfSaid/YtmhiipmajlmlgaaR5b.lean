/- The reference's draws of programs (depth 1), walked by the engine. -/
import Derived.Test.YtmhiipmajlmlgaaR5
import Derived.Test.YtmhiipmajlmlgaaEngMin
namespace Go.Proofs.Ytmhiipmajlmlgaa
set_option linter.unusedSimpArgs false
set_option linter.unusedVariables false
set_option maxRecDepth 8000
set_option maxHeartbeats 2000000
open Go Go.RowKit AV

attribute [local go_sem] List.nil_prefix

theorem while1_ctr : CtrOK Try.prog 124 (effC (whileXR 1 1099509000000)) := by
  refine ctr_lend' Try.func124 rfl rfl Try.ntmps124 ?_
  rintro _ _ _ ⟨bs, p, rfl, hcd, hp, rfl, rfl⟩
  refine ⟨_, rfl, by simp, by simp, fun κ hκ => ?_⟩
  have hbig := bigW_gt
  rw [argEnv_eq]
  simp only [envA]
  have hΓ := ctxOf_ok (P := Try.prog) (cx pick_ctr <| cx test_ctr <| cx specKatThen_ctr <| cx specKatIf_ctr <| cx specKatWhile_ctr <| cx while0_ctr <| cx0)
  have hk := pickX_lt (bs := bs) (p := p + 1) (n := 2) (by decide)
  have hk3 := pickX_lt (bs := bs) (p := p) (n := 3) (by decide)
  obtain ⟨k0, hk0⟩ : ∃ k, pickX bs (p + 1) 2 = k := ⟨_, rfl⟩
  rw [hk0] at hk
  have hKO : KatOK [16 + (pickX bs p 3 : Int)] := KatOK.leaf (by omega)
  have hW : whileX bs 1 p = wloopX bs (whileX bs 0) true (1 + k0) [16 + (pickX bs p 3 : Int)] (p + 2) := by rw [whileX, hk0]
  obtain ⟨⟨S, p2⟩, hS⟩ : ∃ o, whileX bs 1 p = o := ⟨_, rfl⟩
  rw [hS] at hW
  rw [hS]
  dsimp only
  repeat' (first | refine wS fun K hK => ?_ | refine wB ?_ | ((first | refine wX hΓ ?_ | refine wV hΓ fun B hB => ?_); simp (config := { maxSteps := 2000000 }) only [go_sem]) | ((repeat ((fail_if_success (refine hK _ ?_)); clear hK K)); refine hK _ ?_; clear hK K) | (refine w1 ?_; simp only [xs, xi, Nat.reduceEqDiff, reduceCtorEq, retL_ret, retL_normal]) | (refine wC (fun hb => ?_) fun hb => ?_ <;> (try simp only [xb, reduceCtorEq] at hb)) | (refine w2 (fun hc => ?_) (fun hc => ?_) <;> (try simp only [xc] at hc) <;> (try simp only [go_sem, hc]) <;> (try simp only [xb] at hc)) | refine wI ?_ | refine ex_idx (by omega) ?_ | fail)
  (first | refine W_askE rfl _ _ (⟨bs, p, 3, rfl, hcd, by omega, by omega, rfl, rfl⟩) ?_ | refine D_askE rfl _ _ (⟨bs, p, 3, rfl, hcd, by omega, by omega, rfl, rfl⟩) ?_); simp (config := { maxSteps := 2000000 }) only [go_sem]
  repeat' (first | refine wS fun K hK => ?_ | refine wB ?_ | ((first | refine wX hΓ ?_ | refine wV hΓ fun B hB => ?_); simp (config := { maxSteps := 2000000 }) only [go_sem]) | ((repeat ((fail_if_success (refine hK _ ?_)); clear hK K)); refine hK _ ?_; clear hK K) | (refine w1 ?_; simp only [xs, xi, Nat.reduceEqDiff, reduceCtorEq, retL_ret, retL_normal]) | (refine wC (fun hb => ?_) fun hb => ?_ <;> (try simp only [xb, reduceCtorEq] at hb)) | (refine w2 (fun hc => ?_) (fun hc => ?_) <;> (try simp only [xc] at hc) <;> (try simp only [go_sem, hc]) <;> (try simp only [xb] at hc)) | refine wI ?_ | refine ex_idx (by omega) ?_ | fail)
  (first | refine W_askE rfl _ _ (⟨bs, p + 1, 2, rfl, hcd, by omega, by omega, rfl, rfl⟩) ?_ | refine D_askE rfl _ _ (⟨bs, p + 1, 2, rfl, hcd, by omega, by omega, rfl, rfl⟩) ?_); simp (config := { maxSteps := 2000000 }) only [go_sem]
  rw [hk0]
  repeat' (first | refine wS fun K hK => ?_ | refine wB ?_ | ((first | refine wX hΓ ?_ | refine wV hΓ fun B hB => ?_); simp (config := { maxSteps := 2000000 }) only [go_sem]) | ((repeat ((fail_if_success (refine hK _ ?_)); clear hK K)); refine hK _ ?_; clear hK K) | (refine w1 ?_; simp only [xs, xi, Nat.reduceEqDiff, reduceCtorEq, retL_ret, retL_normal]) | (refine wC (fun hb => ?_) fun hb => ?_ <;> (try simp only [xb, reduceCtorEq] at hb)) | (refine w2 (fun hc => ?_) (fun hc => ?_) <;> (try simp only [xc] at hc) <;> (try simp only [go_sem, hc]) <;> (try simp only [xb] at hc)) | refine wI ?_ | refine ex_idx (by omega) ?_ | fail)
  refine CW.loop (ι := Nat × List Int × Nat) (fun x => [(0, rdr bs x.2.2), (1, I 1), (5, oints x.2.1), (6, I (x.1 : Int))]) (fun x => wloopX bs (whileX bs 0) true x.1 x.2.1 x.2.2 = (S, p2) ∧ KatOK x.2.1 ∧ x.2.2 + 59 * x.1 ≤ p + 2 + 59 * (1 + k0)) (fun x => x.1) (1 + k0, [16 + (pickX bs p 3 : Int)], p + 2) ?_ ?_
  · exact ⟨by (simp only [xe, xj, Nat.reduceEqDiff]; (try simp [view, viewL_map]); (try omega)), hW.symm, hKO, by dsimp only; omega⟩
  rintro ⟨k, out, q⟩ ⟨hkl, hok, hq⟩
  dsimp only at hkl hok hq
  have hol := hok.1
  simp only [envOf]
  repeat' (first | refine wS fun K hK => ?_ | refine wB ?_ | ((first | refine wX hΓ ?_ | refine wV hΓ fun B hB => ?_); simp (config := { maxSteps := 2000000 }) only [go_sem]) | ((repeat ((fail_if_success (refine hK _ ?_)); clear hK K)); refine hK _ ?_; clear hK K) | (refine w1 ?_; simp only [xs, xi, Nat.reduceEqDiff, reduceCtorEq, retL_ret, retL_normal]) | (refine wC (fun hb => ?_) fun hb => ?_ <;> (try simp only [xb, reduceCtorEq] at hb)) | (refine w2 (fun hc => ?_) (fun hc => ?_) <;> (try simp only [xc] at hc) <;> (try simp only [go_sem, hc]) <;> (try simp only [xb] at hc)) | refine wI ?_ | refine ex_idx (by omega) ?_ | fail)
  rotate_left
  · have hk00 : k = 0 := by omega
    subst hk00
    simp only [wloopX, Prod.mk.injEq] at hkl
    obtain ⟨rfl, rfl⟩ := hkl
    simp [Try.results124, RetL, upd_at, plainB, isOwn, anyOwn]
  obtain ⟨j, rfl⟩ : ∃ j, k = j + 1 := ⟨k - 1, by omega⟩
  have e1 : ((j + 1 : Nat) : Int) - 1 = (j : Int) := by omega
  have hst : wloopX bs (whileX bs 0) true j (wstepX bs (whileX bs 0) true out q).1 (wstepX bs (whileX bs 0) true out q).2 = (S, p2) := hkl
  have hso := wstepX_ok (bs := bs) (rec := (whileX bs 0)) (d := true) (p := q) hok
  have hsp : (wstepX bs (whileX bs 0) true out q).2 = (nextX bs (whileX bs 0) true q).2 + 1 := rfl
  have hnp := nextX_p (bs := bs) (rec := (whileX bs 0)) (d := true) (p := q) (C := 24) (whileX_p0 bs)
  have hno : KatOK (nextX bs (whileX bs 0) true q).1 := nextX_ok
  have hq3 := pickX_lt (bs := bs) (p := q) (n := 3) (by decide)
  obtain ⟨c3, hc3⟩ : ∃ c, pickX bs q 3 = c := ⟨_, rfl⟩
  rw [hc3] at hq3
  (first | refine W_askE rfl _ _ (⟨bs, q, 3, rfl, hcd, by omega, by omega, rfl, rfl⟩) ?_ | refine D_askE rfl _ _ (⟨bs, q, 3, rfl, hcd, by omega, by omega, rfl, rfl⟩) ?_); simp (config := { maxSteps := 2000000 }) only [go_sem]
  rw [hc3]
  repeat' (first | refine wS fun K hK => ?_ | refine wB ?_ | ((first | refine wX hΓ ?_ | refine wV hΓ fun B hB => ?_); simp (config := { maxSteps := 2000000 }) only [go_sem]) | ((repeat ((fail_if_success (refine hK _ ?_)); clear hK K)); refine hK _ ?_; clear hK K) | (refine w1 ?_; simp only [xs, xi, Nat.reduceEqDiff, reduceCtorEq, retL_ret, retL_normal]) | (refine wC (fun hb => ?_) fun hb => ?_ <;> (try simp only [xb, reduceCtorEq] at hb)) | (refine w2 (fun hc => ?_) (fun hc => ?_) <;> (try simp only [xc] at hc) <;> (try simp only [go_sem, hc]) <;> (try simp only [xb] at hc)) | refine wI ?_ | refine ex_idx (by omega) ?_ | fail)
  all_goals try (exfalso; omega)
  (first | refine W_askE rfl _ _ (⟨bs, q + 1, 3, rfl, hcd, by omega, by omega, rfl, rfl⟩) ?_ | refine D_askE rfl _ _ (⟨bs, q + 1, 3, rfl, hcd, by omega, by omega, rfl, rfl⟩) ?_); simp (config := { maxSteps := 2000000 }) only [go_sem]
  repeat' (first | refine wS fun K hK => ?_ | refine wB ?_ | ((first | refine wX hΓ ?_ | refine wV hΓ fun B hB => ?_); simp (config := { maxSteps := 2000000 }) only [go_sem]) | ((repeat ((fail_if_success (refine hK _ ?_)); clear hK K)); refine hK _ ?_; clear hK K) | (refine w1 ?_; simp only [xs, xi, Nat.reduceEqDiff, reduceCtorEq, retL_ret, retL_normal]) | (refine wC (fun hb => ?_) fun hb => ?_ <;> (try simp only [xb, reduceCtorEq] at hb)) | (refine w2 (fun hc => ?_) (fun hc => ?_) <;> (try simp only [xc] at hc) <;> (try simp only [go_sem, hc]) <;> (try simp only [xb] at hc)) | refine wI ?_ | refine ex_idx (by omega) ?_ | fail)
  all_goals try (exfalso; omega)
  · have hP : pickX bs (q + 1) 3 = 0 := by omega
    have t1 := testX_p bs (q + 2) 0
    obtain ⟨⟨tt, p3⟩, ht⟩ : ∃ o, testX bs (q + 2) 0 = o := ⟨_, rfl⟩
    rw [ht] at t1
    dsimp only at t1
    (first | refine W_askE rfl _ _ (⟨bs, q + 2, 0, rfl, hcd, by omega, by omega, rfl, rfl⟩) ?_ | refine D_askE rfl _ _ (⟨bs, q + 2, 0, rfl, hcd, by omega, by omega, rfl, rfl⟩) ?_); simp (config := { maxSteps := 2000000 }) only [go_sem]
    rw [ht]
    dsimp only
    repeat' (first | refine wS fun K hK => ?_ | refine wB ?_ | ((first | refine wX hΓ ?_ | refine wV hΓ fun B hB => ?_); simp (config := { maxSteps := 2000000 }) only [go_sem]) | ((repeat ((fail_if_success (refine hK _ ?_)); clear hK K)); refine hK _ ?_; clear hK K) | (refine w1 ?_; simp only [xs, xi, Nat.reduceEqDiff, reduceCtorEq, retL_ret, retL_normal]) | (refine wC (fun hb => ?_) fun hb => ?_ <;> (try simp only [xb, reduceCtorEq] at hb)) | (refine w2 (fun hc => ?_) (fun hc => ?_) <;> (try simp only [xc] at hc) <;> (try simp only [go_sem, hc]) <;> (try simp only [xb] at hc)) | refine wI ?_ | refine ex_idx (by omega) ?_ | fail)
    have a1 := whileX_p0 bs p3
    have a2 := (whileX_ok bs 0 p3).1
    obtain ⟨⟨A, p4⟩, hA⟩ : ∃ o, whileX bs 0 p3 = o := ⟨_, rfl⟩
    rw [hA] at a1 a2
    dsimp only at a1 a2
    (first | refine W_askE rfl _ _ (⟨bs, p3, rfl, hcd, by omega, rfl, rfl⟩) ?_ | refine D_askE rfl _ _ (⟨bs, p3, rfl, hcd, by omega, rfl, rfl⟩) ?_); simp (config := { maxSteps := 2000000 }) only [go_sem]
    rw [hA]
    dsimp only
    repeat' (first | refine wS fun K hK => ?_ | refine wB ?_ | ((first | refine wX hΓ ?_ | refine wV hΓ fun B hB => ?_); simp (config := { maxSteps := 2000000 }) only [go_sem]) | ((repeat ((fail_if_success (refine hK _ ?_)); clear hK K)); refine hK _ ?_; clear hK K) | (refine w1 ?_; simp only [xs, xi, Nat.reduceEqDiff, reduceCtorEq, retL_ret, retL_normal]) | (refine wC (fun hb => ?_) fun hb => ?_ <;> (try simp only [xb, reduceCtorEq] at hb)) | (refine w2 (fun hc => ?_) (fun hc => ?_) <;> (try simp only [xc] at hc) <;> (try simp only [go_sem, hc]) <;> (try simp only [xb] at hc)) | refine wI ?_ | refine ex_idx (by omega) ?_ | fail)
    have b1 := whileX_p0 bs p4
    have b2 := (whileX_ok bs 0 p4).1
    obtain ⟨⟨B2, p5⟩, hB2⟩ : ∃ o, whileX bs 0 p4 = o := ⟨_, rfl⟩
    rw [hB2] at b1 b2
    dsimp only at b1 b2
    (first | refine W_askE rfl _ _ (⟨bs, p4, rfl, hcd, by omega, rfl, rfl⟩) ?_ | refine D_askE rfl _ _ (⟨bs, p4, rfl, hcd, by omega, rfl, rfl⟩) ?_); simp (config := { maxSteps := 2000000 }) only [go_sem]
    rw [hB2]
    dsimp only
    repeat' (first | refine wS fun K hK => ?_ | refine wB ?_ | ((first | refine wX hΓ ?_ | refine wV hΓ fun B hB => ?_); simp (config := { maxSteps := 2000000 }) only [go_sem]) | ((repeat ((fail_if_success (refine hK _ ?_)); clear hK K)); refine hK _ ?_; clear hK K) | (refine w1 ?_; simp only [xs, xi, Nat.reduceEqDiff, reduceCtorEq, retL_ret, retL_normal]) | (refine wC (fun hb => ?_) fun hb => ?_ <;> (try simp only [xb, reduceCtorEq] at hb)) | (refine w2 (fun hc => ?_) (fun hc => ?_) <;> (try simp only [xc] at hc) <;> (try simp only [go_sem, hc]) <;> (try simp only [xb] at hc)) | refine wI ?_ | refine ex_idx (by omega) ?_ | fail)
    obtain ⟨Y, hY⟩ : ∃ Y, ifL tt A B2 = Y := ⟨_, rfl⟩
    obtain ⟨U, hU⟩ : ∃ U, ifB tt A B2 = U := ⟨_, rfl⟩
    (first | refine wA rfl ?_ ?_ ?_ | refine dA rfl ?_ ?_ ?_); exact (.tup [oints (if U then Y else []), .bool U]); exact (⟨tt, A, B2, rfl, by omega, by omega, by rw [hU, hY]⟩); simp (config := { maxSteps := 2000000 }) only [go_sem]
    cases U
    · repeat' (first | refine wS fun K hK => ?_ | refine wB ?_ | ((first | refine wX hΓ ?_ | refine wV hΓ fun B hB => ?_); simp (config := { maxSteps := 2000000 }) only [go_sem]) | ((repeat ((fail_if_success (refine hK _ ?_)); clear hK K)); refine hK _ ?_; clear hK K) | (refine w1 ?_; simp only [xs, xi, Nat.reduceEqDiff, reduceCtorEq, retL_ret, retL_normal]) | (refine wC (fun hb => ?_) fun hb => ?_ <;> (try simp only [xb, reduceCtorEq] at hb)) | (refine w2 (fun hc => ?_) (fun hc => ?_) <;> (try simp only [xc] at hc) <;> (try simp only [go_sem, hc]) <;> (try simp only [xb] at hc)) | refine wI ?_ | refine ex_idx (by omega) ?_ | fail)
      have hN : nextX bs (whileX bs 0) true q = ([16 + (c3 : Int)], p5) := by unfold nextX; simp only [Bool.false_eq_true, false_and, if_false, if_true, true_and, eq_self, hc3, hP, ht, hA, hB2, hU, hY]
      rw [hN] at hnp hsp hno
      dsimp only at hnp hsp hno
      have hnl := hno.1
      obtain ⟨T, hT⟩ : ∃ T, thB out [16 + (c3 : Int)] = T := ⟨_, rfl⟩
      (first | refine wA rfl ?_ ?_ ?_ | refine dA rfl ?_ ?_ ?_); exact (.tup [oints (if T then out ++ ([16 + (c3 : Int)] ++ [19]) else []), .bool T]); exact (⟨out, [16 + (c3 : Int)], rfl, by omega, by omega, by rw [hT]⟩); simp (config := { maxSteps := 2000000 }) only [go_sem]
      repeat' (first | refine wS fun K hK => ?_ | refine wB ?_ | ((first | refine wX hΓ ?_ | refine wV hΓ fun B hB => ?_); simp (config := { maxSteps := 2000000 }) only [go_sem]) | ((repeat ((fail_if_success (refine hK _ ?_)); clear hK K)); refine hK _ ?_; clear hK K) | (refine w1 ?_; simp only [xs, xi, Nat.reduceEqDiff, reduceCtorEq, retL_ret, retL_normal]) | (refine wC (fun hb => ?_) fun hb => ?_ <;> (try simp only [xb, reduceCtorEq] at hb)) | (refine w2 (fun hc => ?_) (fun hc => ?_) <;> (try simp only [xc] at hc) <;> (try simp only [go_sem, hc]) <;> (try simp only [xb] at hc)) | refine wI ?_ | refine ex_idx (by omega) ?_ | fail)
      have hS2 : wstepX bs (whileX bs 0) true out q = (if pickX bs (p5) 4 = 0 then [16 + (c3 : Int)] else if T then out ++ ([16 + (c3 : Int)] ++ [19]) else out, p5 + 1) := by unfold wstepX; rw [hN]; dsimp only; rw [hT]
      rw [hS2] at hst hso
      dsimp only at hst hso
      cases T
      · (first | refine W_askE rfl _ _ (⟨bs, p5, 4, rfl, hcd, by omega, by omega, rfl, rfl⟩) ?_ | refine D_askE rfl _ _ (⟨bs, p5, 4, rfl, hcd, by omega, by omega, rfl, rfl⟩) ?_); simp (config := { maxSteps := 2000000 }) only [go_sem]
        repeat' (first | refine wS fun K hK => ?_ | refine wB ?_ | ((first | refine wX hΓ ?_ | refine wV hΓ fun B hB => ?_); simp (config := { maxSteps := 2000000 }) only [go_sem, e1]) | ((repeat ((fail_if_success (refine hK _ ?_)); clear hK K)); refine hK _ ?_; clear hK K) | (refine w1 ?_; simp only [xs, xi, Nat.reduceEqDiff, reduceCtorEq, retL_ret, retL_normal]) | (refine wC (fun hb => ?_) fun hb => ?_ <;> (try simp only [xb, reduceCtorEq] at hb)) | (refine w2 (fun hc => ?_) (fun hc => ?_) <;> (try simp only [xc] at hc) <;> (try simp only [go_sem, hc, e1]) <;> (try simp only [xb] at hc)) | refine wI ?_ | refine ex_idx (by omega) ?_ | fail)
        · rw [if_pos (by omega)] at hst hso
          exact ⟨(j, [16 + (c3 : Int)], p5 + 1), by (simp only [xe, xj, Nat.reduceEqDiff]; (try simp [view, viewL_map]); (try omega)), ⟨hst, hso, by dsimp only; omega⟩, by dsimp only; omega⟩
        · rw [if_neg (by omega), if_neg (by decide)] at hst hso
          exact ⟨(j, out, p5 + 1), by (simp only [xe, xj, Nat.reduceEqDiff]; (try simp [view, viewL_map]); (try omega)), ⟨hst, hso, by dsimp only; omega⟩, by dsimp only; omega⟩
      · (first | refine W_askE rfl _ _ (⟨bs, p5, 4, rfl, hcd, by omega, by omega, rfl, rfl⟩) ?_ | refine D_askE rfl _ _ (⟨bs, p5, 4, rfl, hcd, by omega, by omega, rfl, rfl⟩) ?_); simp (config := { maxSteps := 2000000 }) only [go_sem]
        repeat' (first | refine wS fun K hK => ?_ | refine wB ?_ | ((first | refine wX hΓ ?_ | refine wV hΓ fun B hB => ?_); simp (config := { maxSteps := 2000000 }) only [go_sem, e1]) | ((repeat ((fail_if_success (refine hK _ ?_)); clear hK K)); refine hK _ ?_; clear hK K) | (refine w1 ?_; simp only [xs, xi, Nat.reduceEqDiff, reduceCtorEq, retL_ret, retL_normal]) | (refine wC (fun hb => ?_) fun hb => ?_ <;> (try simp only [xb, reduceCtorEq] at hb)) | (refine w2 (fun hc => ?_) (fun hc => ?_) <;> (try simp only [xc] at hc) <;> (try simp only [go_sem, hc, e1]) <;> (try simp only [xb] at hc)) | refine wI ?_ | refine ex_idx (by omega) ?_ | fail)
        · rw [if_pos (by omega)] at hst hso
          exact ⟨(j, [16 + (c3 : Int)], p5 + 1), by (simp only [xe, xj, Nat.reduceEqDiff]; (try simp [view, viewL_map]); (try omega)), ⟨hst, hso, by dsimp only; omega⟩, by dsimp only; omega⟩
        · rw [if_neg (by omega), if_pos rfl] at hst hso
          exact ⟨(j, out ++ ([16 + (c3 : Int)] ++ [19]), p5 + 1), by (simp only [xe, xj, Nat.reduceEqDiff]; (try simp [view, viewL_map]); (try omega)), ⟨hst, hso, by dsimp only; omega⟩, by dsimp only; omega⟩
    · repeat' (first | refine wS fun K hK => ?_ | refine wB ?_ | ((first | refine wX hΓ ?_ | refine wV hΓ fun B hB => ?_); simp (config := { maxSteps := 2000000 }) only [go_sem]) | ((repeat ((fail_if_success (refine hK _ ?_)); clear hK K)); refine hK _ ?_; clear hK K) | (refine w1 ?_; simp only [xs, xi, Nat.reduceEqDiff, reduceCtorEq, retL_ret, retL_normal]) | (refine wC (fun hb => ?_) fun hb => ?_ <;> (try simp only [xb, reduceCtorEq] at hb)) | (refine w2 (fun hc => ?_) (fun hc => ?_) <;> (try simp only [xc] at hc) <;> (try simp only [go_sem, hc]) <;> (try simp only [xb] at hc)) | refine wI ?_ | refine ex_idx (by omega) ?_ | fail)
      have hN : nextX bs (whileX bs 0) true q = (Y, p5) := by unfold nextX; simp only [Bool.false_eq_true, false_and, if_false, if_true, true_and, eq_self, hc3, hP, ht, hA, hB2, hU, hY]
      rw [hN] at hnp hsp hno
      dsimp only at hnp hsp hno
      have hnl := hno.1
      obtain ⟨T, hT⟩ : ∃ T, thB out Y = T := ⟨_, rfl⟩
      (first | refine wA rfl ?_ ?_ ?_ | refine dA rfl ?_ ?_ ?_); exact (.tup [oints (if T then out ++ (Y ++ [19]) else []), .bool T]); exact (⟨out, Y, rfl, by omega, by omega, by rw [hT]⟩); simp (config := { maxSteps := 2000000 }) only [go_sem]
      repeat' (first | refine wS fun K hK => ?_ | refine wB ?_ | ((first | refine wX hΓ ?_ | refine wV hΓ fun B hB => ?_); simp (config := { maxSteps := 2000000 }) only [go_sem]) | ((repeat ((fail_if_success (refine hK _ ?_)); clear hK K)); refine hK _ ?_; clear hK K) | (refine w1 ?_; simp only [xs, xi, Nat.reduceEqDiff, reduceCtorEq, retL_ret, retL_normal]) | (refine wC (fun hb => ?_) fun hb => ?_ <;> (try simp only [xb, reduceCtorEq] at hb)) | (refine w2 (fun hc => ?_) (fun hc => ?_) <;> (try simp only [xc] at hc) <;> (try simp only [go_sem, hc]) <;> (try simp only [xb] at hc)) | refine wI ?_ | refine ex_idx (by omega) ?_ | fail)
      have hS2 : wstepX bs (whileX bs 0) true out q = (if pickX bs (p5) 4 = 0 then Y else if T then out ++ (Y ++ [19]) else out, p5 + 1) := by unfold wstepX; rw [hN]; dsimp only; rw [hT]
      rw [hS2] at hst hso
      dsimp only at hst hso
      cases T
      · (first | refine W_askE rfl _ _ (⟨bs, p5, 4, rfl, hcd, by omega, by omega, rfl, rfl⟩) ?_ | refine D_askE rfl _ _ (⟨bs, p5, 4, rfl, hcd, by omega, by omega, rfl, rfl⟩) ?_); simp (config := { maxSteps := 2000000 }) only [go_sem]
        repeat' (first | refine wS fun K hK => ?_ | refine wB ?_ | ((first | refine wX hΓ ?_ | refine wV hΓ fun B hB => ?_); simp (config := { maxSteps := 2000000 }) only [go_sem, e1]) | ((repeat ((fail_if_success (refine hK _ ?_)); clear hK K)); refine hK _ ?_; clear hK K) | (refine w1 ?_; simp only [xs, xi, Nat.reduceEqDiff, reduceCtorEq, retL_ret, retL_normal]) | (refine wC (fun hb => ?_) fun hb => ?_ <;> (try simp only [xb, reduceCtorEq] at hb)) | (refine w2 (fun hc => ?_) (fun hc => ?_) <;> (try simp only [xc] at hc) <;> (try simp only [go_sem, hc, e1]) <;> (try simp only [xb] at hc)) | refine wI ?_ | refine ex_idx (by omega) ?_ | fail)
        · rw [if_pos (by omega)] at hst hso
          exact ⟨(j, Y, p5 + 1), by (simp only [xe, xj, Nat.reduceEqDiff]; (try simp [view, viewL_map]); (try omega)), ⟨hst, hso, by dsimp only; omega⟩, by dsimp only; omega⟩
        · rw [if_neg (by omega), if_neg (by decide)] at hst hso
          exact ⟨(j, out, p5 + 1), by (simp only [xe, xj, Nat.reduceEqDiff]; (try simp [view, viewL_map]); (try omega)), ⟨hst, hso, by dsimp only; omega⟩, by dsimp only; omega⟩
      · (first | refine W_askE rfl _ _ (⟨bs, p5, 4, rfl, hcd, by omega, by omega, rfl, rfl⟩) ?_ | refine D_askE rfl _ _ (⟨bs, p5, 4, rfl, hcd, by omega, by omega, rfl, rfl⟩) ?_); simp (config := { maxSteps := 2000000 }) only [go_sem]
        repeat' (first | refine wS fun K hK => ?_ | refine wB ?_ | ((first | refine wX hΓ ?_ | refine wV hΓ fun B hB => ?_); simp (config := { maxSteps := 2000000 }) only [go_sem, e1]) | ((repeat ((fail_if_success (refine hK _ ?_)); clear hK K)); refine hK _ ?_; clear hK K) | (refine w1 ?_; simp only [xs, xi, Nat.reduceEqDiff, reduceCtorEq, retL_ret, retL_normal]) | (refine wC (fun hb => ?_) fun hb => ?_ <;> (try simp only [xb, reduceCtorEq] at hb)) | (refine w2 (fun hc => ?_) (fun hc => ?_) <;> (try simp only [xc] at hc) <;> (try simp only [go_sem, hc, e1]) <;> (try simp only [xb] at hc)) | refine wI ?_ | refine ex_idx (by omega) ?_ | fail)
        · rw [if_pos (by omega)] at hst hso
          exact ⟨(j, Y, p5 + 1), by (simp only [xe, xj, Nat.reduceEqDiff]; (try simp [view, viewL_map]); (try omega)), ⟨hst, hso, by dsimp only; omega⟩, by dsimp only; omega⟩
        · rw [if_neg (by omega), if_pos rfl] at hst hso
          exact ⟨(j, out ++ (Y ++ [19]), p5 + 1), by (simp only [xe, xj, Nat.reduceEqDiff]; (try simp [view, viewL_map]); (try omega)), ⟨hst, hso, by dsimp only; omega⟩, by dsimp only; omega⟩
  · have hP : ¬ pickX bs (q + 1) 3 = 0 := by omega
    (first | refine W_askE rfl _ _ (⟨bs, q + 2, 2, rfl, hcd, by omega, by omega, rfl, rfl⟩) ?_ | refine D_askE rfl _ _ (⟨bs, q + 2, 2, rfl, hcd, by omega, by omega, rfl, rfl⟩) ?_); simp (config := { maxSteps := 2000000 }) only [go_sem]
    repeat' (first | refine wS fun K hK => ?_ | refine wB ?_ | ((first | refine wX hΓ ?_ | refine wV hΓ fun B hB => ?_); simp (config := { maxSteps := 2000000 }) only [go_sem]) | ((repeat ((fail_if_success (refine hK _ ?_)); clear hK K)); refine hK _ ?_; clear hK K) | (refine w1 ?_; simp only [xs, xi, Nat.reduceEqDiff, reduceCtorEq, retL_ret, retL_normal]) | (refine wC (fun hb => ?_) fun hb => ?_ <;> (try simp only [xb, reduceCtorEq] at hb)) | (refine w2 (fun hc => ?_) (fun hc => ?_) <;> (try simp only [xc] at hc) <;> (try simp only [go_sem, hc]) <;> (try simp only [xb] at hc)) | refine wI ?_ | refine ex_idx (by omega) ?_ | fail)
    · have hP2 : pickX bs (q + 2) 2 = 0 := by omega
      have t1 := testX_p bs (q + 3) 0
      obtain ⟨⟨tt, p3⟩, ht⟩ : ∃ o, testX bs (q + 3) 0 = o := ⟨_, rfl⟩
      rw [ht] at t1
      dsimp only at t1
      (first | refine W_askE rfl _ _ (⟨bs, q + 3, 0, rfl, hcd, by omega, by omega, rfl, rfl⟩) ?_ | refine D_askE rfl _ _ (⟨bs, q + 3, 0, rfl, hcd, by omega, by omega, rfl, rfl⟩) ?_); simp (config := { maxSteps := 2000000 }) only [go_sem]
      rw [ht]
      dsimp only
      repeat' (first | refine wS fun K hK => ?_ | refine wB ?_ | ((first | refine wX hΓ ?_ | refine wV hΓ fun B hB => ?_); simp (config := { maxSteps := 2000000 }) only [go_sem]) | ((repeat ((fail_if_success (refine hK _ ?_)); clear hK K)); refine hK _ ?_; clear hK K) | (refine w1 ?_; simp only [xs, xi, Nat.reduceEqDiff, reduceCtorEq, retL_ret, retL_normal]) | (refine wC (fun hb => ?_) fun hb => ?_ <;> (try simp only [xb, reduceCtorEq] at hb)) | (refine w2 (fun hc => ?_) (fun hc => ?_) <;> (try simp only [xc] at hc) <;> (try simp only [go_sem, hc]) <;> (try simp only [xb] at hc)) | refine wI ?_ | refine ex_idx (by omega) ?_ | fail)
      have a1 := whileX_p0 bs p3
      have a2 := (whileX_ok bs 0 p3).1
      obtain ⟨⟨A, p4⟩, hA⟩ : ∃ o, whileX bs 0 p3 = o := ⟨_, rfl⟩
      rw [hA] at a1 a2
      dsimp only at a1 a2
      (first | refine W_askE rfl _ _ (⟨bs, p3, rfl, hcd, by omega, rfl, rfl⟩) ?_ | refine D_askE rfl _ _ (⟨bs, p3, rfl, hcd, by omega, rfl, rfl⟩) ?_); simp (config := { maxSteps := 2000000 }) only [go_sem]
      rw [hA]
      dsimp only
      repeat' (first | refine wS fun K hK => ?_ | refine wB ?_ | ((first | refine wX hΓ ?_ | refine wV hΓ fun B hB => ?_); simp (config := { maxSteps := 2000000 }) only [go_sem]) | ((repeat ((fail_if_success (refine hK _ ?_)); clear hK K)); refine hK _ ?_; clear hK K) | (refine w1 ?_; simp only [xs, xi, Nat.reduceEqDiff, reduceCtorEq, retL_ret, retL_normal]) | (refine wC (fun hb => ?_) fun hb => ?_ <;> (try simp only [xb, reduceCtorEq] at hb)) | (refine w2 (fun hc => ?_) (fun hc => ?_) <;> (try simp only [xc] at hc) <;> (try simp only [go_sem, hc]) <;> (try simp only [xb] at hc)) | refine wI ?_ | refine ex_idx (by omega) ?_ | fail)
      obtain ⟨Y, hY⟩ : ∃ Y, whL tt A = Y := ⟨_, rfl⟩
      obtain ⟨U, hU⟩ : ∃ U, whB tt A = U := ⟨_, rfl⟩
      (first | refine wA rfl ?_ ?_ ?_ | refine dA rfl ?_ ?_ ?_); exact (.tup [oints (if U then Y else []), .bool U]); exact (⟨tt, A, rfl, by omega, by rw [hU, hY]⟩); simp (config := { maxSteps := 2000000 }) only [go_sem]
      cases U
      · repeat' (first | refine wS fun K hK => ?_ | refine wB ?_ | ((first | refine wX hΓ ?_ | refine wV hΓ fun B hB => ?_); simp (config := { maxSteps := 2000000 }) only [go_sem]) | ((repeat ((fail_if_success (refine hK _ ?_)); clear hK K)); refine hK _ ?_; clear hK K) | (refine w1 ?_; simp only [xs, xi, Nat.reduceEqDiff, reduceCtorEq, retL_ret, retL_normal]) | (refine wC (fun hb => ?_) fun hb => ?_ <;> (try simp only [xb, reduceCtorEq] at hb)) | (refine w2 (fun hc => ?_) (fun hc => ?_) <;> (try simp only [xc] at hc) <;> (try simp only [go_sem, hc]) <;> (try simp only [xb] at hc)) | refine wI ?_ | refine ex_idx (by omega) ?_ | fail)
        have hN : nextX bs (whileX bs 0) true q = ([16 + (c3 : Int)], p4) := by unfold nextX; simp only [Bool.false_eq_true, false_and, if_false, if_true, true_and, eq_self, hc3, hP, hP2, ht, hA, hU, hY]
        rw [hN] at hnp hsp hno
        dsimp only at hnp hsp hno
        have hnl := hno.1
        obtain ⟨T, hT⟩ : ∃ T, thB out [16 + (c3 : Int)] = T := ⟨_, rfl⟩
        (first | refine wA rfl ?_ ?_ ?_ | refine dA rfl ?_ ?_ ?_); exact (.tup [oints (if T then out ++ ([16 + (c3 : Int)] ++ [19]) else []), .bool T]); exact (⟨out, [16 + (c3 : Int)], rfl, by omega, by omega, by rw [hT]⟩); simp (config := { maxSteps := 2000000 }) only [go_sem]
        repeat' (first | refine wS fun K hK => ?_ | refine wB ?_ | ((first | refine wX hΓ ?_ | refine wV hΓ fun B hB => ?_); simp (config := { maxSteps := 2000000 }) only [go_sem]) | ((repeat ((fail_if_success (refine hK _ ?_)); clear hK K)); refine hK _ ?_; clear hK K) | (refine w1 ?_; simp only [xs, xi, Nat.reduceEqDiff, reduceCtorEq, retL_ret, retL_normal]) | (refine wC (fun hb => ?_) fun hb => ?_ <;> (try simp only [xb, reduceCtorEq] at hb)) | (refine w2 (fun hc => ?_) (fun hc => ?_) <;> (try simp only [xc] at hc) <;> (try simp only [go_sem, hc]) <;> (try simp only [xb] at hc)) | refine wI ?_ | refine ex_idx (by omega) ?_ | fail)
        have hS2 : wstepX bs (whileX bs 0) true out q = (if pickX bs (p4) 4 = 0 then [16 + (c3 : Int)] else if T then out ++ ([16 + (c3 : Int)] ++ [19]) else out, p4 + 1) := by unfold wstepX; rw [hN]; dsimp only; rw [hT]
        rw [hS2] at hst hso
        dsimp only at hst hso
        cases T
        · (first | refine W_askE rfl _ _ (⟨bs, p4, 4, rfl, hcd, by omega, by omega, rfl, rfl⟩) ?_ | refine D_askE rfl _ _ (⟨bs, p4, 4, rfl, hcd, by omega, by omega, rfl, rfl⟩) ?_); simp (config := { maxSteps := 2000000 }) only [go_sem]
          repeat' (first | refine wS fun K hK => ?_ | refine wB ?_ | ((first | refine wX hΓ ?_ | refine wV hΓ fun B hB => ?_); simp (config := { maxSteps := 2000000 }) only [go_sem, e1]) | ((repeat ((fail_if_success (refine hK _ ?_)); clear hK K)); refine hK _ ?_; clear hK K) | (refine w1 ?_; simp only [xs, xi, Nat.reduceEqDiff, reduceCtorEq, retL_ret, retL_normal]) | (refine wC (fun hb => ?_) fun hb => ?_ <;> (try simp only [xb, reduceCtorEq] at hb)) | (refine w2 (fun hc => ?_) (fun hc => ?_) <;> (try simp only [xc] at hc) <;> (try simp only [go_sem, hc, e1]) <;> (try simp only [xb] at hc)) | refine wI ?_ | refine ex_idx (by omega) ?_ | fail)
          · rw [if_pos (by omega)] at hst hso
            exact ⟨(j, [16 + (c3 : Int)], p4 + 1), by (simp only [xe, xj, Nat.reduceEqDiff]; (try simp [view, viewL_map]); (try omega)), ⟨hst, hso, by dsimp only; omega⟩, by dsimp only; omega⟩
          · rw [if_neg (by omega), if_neg (by decide)] at hst hso
            exact ⟨(j, out, p4 + 1), by (simp only [xe, xj, Nat.reduceEqDiff]; (try simp [view, viewL_map]); (try omega)), ⟨hst, hso, by dsimp only; omega⟩, by dsimp only; omega⟩
        · (first | refine W_askE rfl _ _ (⟨bs, p4, 4, rfl, hcd, by omega, by omega, rfl, rfl⟩) ?_ | refine D_askE rfl _ _ (⟨bs, p4, 4, rfl, hcd, by omega, by omega, rfl, rfl⟩) ?_); simp (config := { maxSteps := 2000000 }) only [go_sem]
          repeat' (first | refine wS fun K hK => ?_ | refine wB ?_ | ((first | refine wX hΓ ?_ | refine wV hΓ fun B hB => ?_); simp (config := { maxSteps := 2000000 }) only [go_sem, e1]) | ((repeat ((fail_if_success (refine hK _ ?_)); clear hK K)); refine hK _ ?_; clear hK K) | (refine w1 ?_; simp only [xs, xi, Nat.reduceEqDiff, reduceCtorEq, retL_ret, retL_normal]) | (refine wC (fun hb => ?_) fun hb => ?_ <;> (try simp only [xb, reduceCtorEq] at hb)) | (refine w2 (fun hc => ?_) (fun hc => ?_) <;> (try simp only [xc] at hc) <;> (try simp only [go_sem, hc, e1]) <;> (try simp only [xb] at hc)) | refine wI ?_ | refine ex_idx (by omega) ?_ | fail)
          · rw [if_pos (by omega)] at hst hso
            exact ⟨(j, [16 + (c3 : Int)], p4 + 1), by (simp only [xe, xj, Nat.reduceEqDiff]; (try simp [view, viewL_map]); (try omega)), ⟨hst, hso, by dsimp only; omega⟩, by dsimp only; omega⟩
          · rw [if_neg (by omega), if_pos rfl] at hst hso
            exact ⟨(j, out ++ ([16 + (c3 : Int)] ++ [19]), p4 + 1), by (simp only [xe, xj, Nat.reduceEqDiff]; (try simp [view, viewL_map]); (try omega)), ⟨hst, hso, by dsimp only; omega⟩, by dsimp only; omega⟩
      · repeat' (first | refine wS fun K hK => ?_ | refine wB ?_ | ((first | refine wX hΓ ?_ | refine wV hΓ fun B hB => ?_); simp (config := { maxSteps := 2000000 }) only [go_sem]) | ((repeat ((fail_if_success (refine hK _ ?_)); clear hK K)); refine hK _ ?_; clear hK K) | (refine w1 ?_; simp only [xs, xi, Nat.reduceEqDiff, reduceCtorEq, retL_ret, retL_normal]) | (refine wC (fun hb => ?_) fun hb => ?_ <;> (try simp only [xb, reduceCtorEq] at hb)) | (refine w2 (fun hc => ?_) (fun hc => ?_) <;> (try simp only [xc] at hc) <;> (try simp only [go_sem, hc]) <;> (try simp only [xb] at hc)) | refine wI ?_ | refine ex_idx (by omega) ?_ | fail)
        have hN : nextX bs (whileX bs 0) true q = (Y, p4) := by unfold nextX; simp only [Bool.false_eq_true, false_and, if_false, if_true, true_and, eq_self, hc3, hP, hP2, ht, hA, hU, hY]
        rw [hN] at hnp hsp hno
        dsimp only at hnp hsp hno
        have hnl := hno.1
        obtain ⟨T, hT⟩ : ∃ T, thB out Y = T := ⟨_, rfl⟩
        (first | refine wA rfl ?_ ?_ ?_ | refine dA rfl ?_ ?_ ?_); exact (.tup [oints (if T then out ++ (Y ++ [19]) else []), .bool T]); exact (⟨out, Y, rfl, by omega, by omega, by rw [hT]⟩); simp (config := { maxSteps := 2000000 }) only [go_sem]
        repeat' (first | refine wS fun K hK => ?_ | refine wB ?_ | ((first | refine wX hΓ ?_ | refine wV hΓ fun B hB => ?_); simp (config := { maxSteps := 2000000 }) only [go_sem]) | ((repeat ((fail_if_success (refine hK _ ?_)); clear hK K)); refine hK _ ?_; clear hK K) | (refine w1 ?_; simp only [xs, xi, Nat.reduceEqDiff, reduceCtorEq, retL_ret, retL_normal]) | (refine wC (fun hb => ?_) fun hb => ?_ <;> (try simp only [xb, reduceCtorEq] at hb)) | (refine w2 (fun hc => ?_) (fun hc => ?_) <;> (try simp only [xc] at hc) <;> (try simp only [go_sem, hc]) <;> (try simp only [xb] at hc)) | refine wI ?_ | refine ex_idx (by omega) ?_ | fail)
        have hS2 : wstepX bs (whileX bs 0) true out q = (if pickX bs (p4) 4 = 0 then Y else if T then out ++ (Y ++ [19]) else out, p4 + 1) := by unfold wstepX; rw [hN]; dsimp only; rw [hT]
        rw [hS2] at hst hso
        dsimp only at hst hso
        cases T
        · (first | refine W_askE rfl _ _ (⟨bs, p4, 4, rfl, hcd, by omega, by omega, rfl, rfl⟩) ?_ | refine D_askE rfl _ _ (⟨bs, p4, 4, rfl, hcd, by omega, by omega, rfl, rfl⟩) ?_); simp (config := { maxSteps := 2000000 }) only [go_sem]
          repeat' (first | refine wS fun K hK => ?_ | refine wB ?_ | ((first | refine wX hΓ ?_ | refine wV hΓ fun B hB => ?_); simp (config := { maxSteps := 2000000 }) only [go_sem, e1]) | ((repeat ((fail_if_success (refine hK _ ?_)); clear hK K)); refine hK _ ?_; clear hK K) | (refine w1 ?_; simp only [xs, xi, Nat.reduceEqDiff, reduceCtorEq, retL_ret, retL_normal]) | (refine wC (fun hb => ?_) fun hb => ?_ <;> (try simp only [xb, reduceCtorEq] at hb)) | (refine w2 (fun hc => ?_) (fun hc => ?_) <;> (try simp only [xc] at hc) <;> (try simp only [go_sem, hc, e1]) <;> (try simp only [xb] at hc)) | refine wI ?_ | refine ex_idx (by omega) ?_ | fail)
          · rw [if_pos (by omega)] at hst hso
            exact ⟨(j, Y, p4 + 1), by (simp only [xe, xj, Nat.reduceEqDiff]; (try simp [view, viewL_map]); (try omega)), ⟨hst, hso, by dsimp only; omega⟩, by dsimp only; omega⟩
          · rw [if_neg (by omega), if_neg (by decide)] at hst hso
            exact ⟨(j, out, p4 + 1), by (simp only [xe, xj, Nat.reduceEqDiff]; (try simp [view, viewL_map]); (try omega)), ⟨hst, hso, by dsimp only; omega⟩, by dsimp only; omega⟩
        · (first | refine W_askE rfl _ _ (⟨bs, p4, 4, rfl, hcd, by omega, by omega, rfl, rfl⟩) ?_ | refine D_askE rfl _ _ (⟨bs, p4, 4, rfl, hcd, by omega, by omega, rfl, rfl⟩) ?_); simp (config := { maxSteps := 2000000 }) only [go_sem]
          repeat' (first | refine wS fun K hK => ?_ | refine wB ?_ | ((first | refine wX hΓ ?_ | refine wV hΓ fun B hB => ?_); simp (config := { maxSteps := 2000000 }) only [go_sem, e1]) | ((repeat ((fail_if_success (refine hK _ ?_)); clear hK K)); refine hK _ ?_; clear hK K) | (refine w1 ?_; simp only [xs, xi, Nat.reduceEqDiff, reduceCtorEq, retL_ret, retL_normal]) | (refine wC (fun hb => ?_) fun hb => ?_ <;> (try simp only [xb, reduceCtorEq] at hb)) | (refine w2 (fun hc => ?_) (fun hc => ?_) <;> (try simp only [xc] at hc) <;> (try simp only [go_sem, hc, e1]) <;> (try simp only [xb] at hc)) | refine wI ?_ | refine ex_idx (by omega) ?_ | fail)
          · rw [if_pos (by omega)] at hst hso
            exact ⟨(j, Y, p4 + 1), by (simp only [xe, xj, Nat.reduceEqDiff]; (try simp [view, viewL_map]); (try omega)), ⟨hst, hso, by dsimp only; omega⟩, by dsimp only; omega⟩
          · rw [if_neg (by omega), if_pos rfl] at hst hso
            exact ⟨(j, out ++ (Y ++ [19]), p4 + 1), by (simp only [xe, xj, Nat.reduceEqDiff]; (try simp [view, viewL_map]); (try omega)), ⟨hst, hso, by dsimp only; omega⟩, by dsimp only; omega⟩
    · have hP2 : ¬ pickX bs (q + 2) 2 = 0 := by omega
      (first | refine W_askE rfl _ _ (⟨bs, q + 3, 4, rfl, hcd, by omega, by omega, rfl, rfl⟩) ?_ | refine D_askE rfl _ _ (⟨bs, q + 3, 4, rfl, hcd, by omega, by omega, rfl, rfl⟩) ?_); simp (config := { maxSteps := 2000000 }) only [go_sem]
      repeat' (first | refine wS fun K hK => ?_ | refine wB ?_ | ((first | refine wX hΓ ?_ | refine wV hΓ fun B hB => ?_); simp (config := { maxSteps := 2000000 }) only [go_sem]) | ((repeat ((fail_if_success (refine hK _ ?_)); clear hK K)); refine hK _ ?_; clear hK K) | (refine w1 ?_; simp only [xs, xi, Nat.reduceEqDiff, reduceCtorEq, retL_ret, retL_normal]) | (refine wC (fun hb => ?_) fun hb => ?_ <;> (try simp only [xb, reduceCtorEq] at hb)) | (refine w2 (fun hc => ?_) (fun hc => ?_) <;> (try simp only [xc] at hc) <;> (try simp only [go_sem, hc]) <;> (try simp only [xb] at hc)) | refine wI ?_ | refine ex_idx (by omega) ?_ | fail)
      · have hP3 :  pickX bs (q + 3) 4 = 0 := by omega
        have hN : nextX bs (whileX bs 0) true q = ([15], q + 4) := by unfold nextX; simp only [Bool.false_eq_true, false_and, if_false, if_true, true_and, eq_self, hc3, hP, hP2, hP3]
        rw [hN] at hnp hsp hno
        dsimp only at hnp hsp hno
        have hnl := hno.1
        obtain ⟨T, hT⟩ : ∃ T, thB out [15] = T := ⟨_, rfl⟩
        (first | refine wA rfl ?_ ?_ ?_ | refine dA rfl ?_ ?_ ?_); exact (.tup [oints (if T then out ++ ([15] ++ [19]) else []), .bool T]); exact (⟨out, [15], rfl, by omega, by omega, by rw [hT]⟩); simp (config := { maxSteps := 2000000 }) only [go_sem]
        repeat' (first | refine wS fun K hK => ?_ | refine wB ?_ | ((first | refine wX hΓ ?_ | refine wV hΓ fun B hB => ?_); simp (config := { maxSteps := 2000000 }) only [go_sem]) | ((repeat ((fail_if_success (refine hK _ ?_)); clear hK K)); refine hK _ ?_; clear hK K) | (refine w1 ?_; simp only [xs, xi, Nat.reduceEqDiff, reduceCtorEq, retL_ret, retL_normal]) | (refine wC (fun hb => ?_) fun hb => ?_ <;> (try simp only [xb, reduceCtorEq] at hb)) | (refine w2 (fun hc => ?_) (fun hc => ?_) <;> (try simp only [xc] at hc) <;> (try simp only [go_sem, hc]) <;> (try simp only [xb] at hc)) | refine wI ?_ | refine ex_idx (by omega) ?_ | fail)
        have hS2 : wstepX bs (whileX bs 0) true out q = (if pickX bs (q + 4) 4 = 0 then [15] else if T then out ++ ([15] ++ [19]) else out, q + 4 + 1) := by unfold wstepX; rw [hN]; dsimp only; rw [hT]
        rw [hS2] at hst hso
        dsimp only at hst hso
        cases T
        · (first | refine W_askE rfl _ _ (⟨bs, q + 4, 4, rfl, hcd, by omega, by omega, rfl, rfl⟩) ?_ | refine D_askE rfl _ _ (⟨bs, q + 4, 4, rfl, hcd, by omega, by omega, rfl, rfl⟩) ?_); simp (config := { maxSteps := 2000000 }) only [go_sem]
          repeat' (first | refine wS fun K hK => ?_ | refine wB ?_ | ((first | refine wX hΓ ?_ | refine wV hΓ fun B hB => ?_); simp (config := { maxSteps := 2000000 }) only [go_sem, e1]) | ((repeat ((fail_if_success (refine hK _ ?_)); clear hK K)); refine hK _ ?_; clear hK K) | (refine w1 ?_; simp only [xs, xi, Nat.reduceEqDiff, reduceCtorEq, retL_ret, retL_normal]) | (refine wC (fun hb => ?_) fun hb => ?_ <;> (try simp only [xb, reduceCtorEq] at hb)) | (refine w2 (fun hc => ?_) (fun hc => ?_) <;> (try simp only [xc] at hc) <;> (try simp only [go_sem, hc, e1]) <;> (try simp only [xb] at hc)) | refine wI ?_ | refine ex_idx (by omega) ?_ | fail)
          · rw [if_pos (by omega)] at hst hso
            exact ⟨(j, [15], q + 4 + 1), by (simp only [xe, xj, Nat.reduceEqDiff]; (try simp [view, viewL_map]); (try omega)), ⟨hst, hso, by dsimp only; omega⟩, by dsimp only; omega⟩
          · rw [if_neg (by omega), if_neg (by decide)] at hst hso
            exact ⟨(j, out, q + 4 + 1), by (simp only [xe, xj, Nat.reduceEqDiff]; (try simp [view, viewL_map]); (try omega)), ⟨hst, hso, by dsimp only; omega⟩, by dsimp only; omega⟩
        · (first | refine W_askE rfl _ _ (⟨bs, q + 4, 4, rfl, hcd, by omega, by omega, rfl, rfl⟩) ?_ | refine D_askE rfl _ _ (⟨bs, q + 4, 4, rfl, hcd, by omega, by omega, rfl, rfl⟩) ?_); simp (config := { maxSteps := 2000000 }) only [go_sem]
          repeat' (first | refine wS fun K hK => ?_ | refine wB ?_ | ((first | refine wX hΓ ?_ | refine wV hΓ fun B hB => ?_); simp (config := { maxSteps := 2000000 }) only [go_sem, e1]) | ((repeat ((fail_if_success (refine hK _ ?_)); clear hK K)); refine hK _ ?_; clear hK K) | (refine w1 ?_; simp only [xs, xi, Nat.reduceEqDiff, reduceCtorEq, retL_ret, retL_normal]) | (refine wC (fun hb => ?_) fun hb => ?_ <;> (try simp only [xb, reduceCtorEq] at hb)) | (refine w2 (fun hc => ?_) (fun hc => ?_) <;> (try simp only [xc] at hc) <;> (try simp only [go_sem, hc, e1]) <;> (try simp only [xb] at hc)) | refine wI ?_ | refine ex_idx (by omega) ?_ | fail)
          · rw [if_pos (by omega)] at hst hso
            exact ⟨(j, [15], q + 4 + 1), by (simp only [xe, xj, Nat.reduceEqDiff]; (try simp [view, viewL_map]); (try omega)), ⟨hst, hso, by dsimp only; omega⟩, by dsimp only; omega⟩
          · rw [if_neg (by omega), if_pos rfl] at hst hso
            exact ⟨(j, out ++ ([15] ++ [19]), q + 4 + 1), by (simp only [xe, xj, Nat.reduceEqDiff]; (try simp [view, viewL_map]); (try omega)), ⟨hst, hso, by dsimp only; omega⟩, by dsimp only; omega⟩
      · have hP3 : ¬ pickX bs (q + 3) 4 = 0 := by omega
        have hN : nextX bs (whileX bs 0) true q = ([16 + (c3 : Int)], q + 4) := by unfold nextX; simp only [Bool.false_eq_true, false_and, if_false, if_true, true_and, eq_self, hc3, hP, hP2, hP3]
        rw [hN] at hnp hsp hno
        dsimp only at hnp hsp hno
        have hnl := hno.1
        obtain ⟨T, hT⟩ : ∃ T, thB out [16 + (c3 : Int)] = T := ⟨_, rfl⟩
        (first | refine wA rfl ?_ ?_ ?_ | refine dA rfl ?_ ?_ ?_); exact (.tup [oints (if T then out ++ ([16 + (c3 : Int)] ++ [19]) else []), .bool T]); exact (⟨out, [16 + (c3 : Int)], rfl, by omega, by omega, by rw [hT]⟩); simp (config := { maxSteps := 2000000 }) only [go_sem]
        repeat' (first | refine wS fun K hK => ?_ | refine wB ?_ | ((first | refine wX hΓ ?_ | refine wV hΓ fun B hB => ?_); simp (config := { maxSteps := 2000000 }) only [go_sem]) | ((repeat ((fail_if_success (refine hK _ ?_)); clear hK K)); refine hK _ ?_; clear hK K) | (refine w1 ?_; simp only [xs, xi, Nat.reduceEqDiff, reduceCtorEq, retL_ret, retL_normal]) | (refine wC (fun hb => ?_) fun hb => ?_ <;> (try simp only [xb, reduceCtorEq] at hb)) | (refine w2 (fun hc => ?_) (fun hc => ?_) <;> (try simp only [xc] at hc) <;> (try simp only [go_sem, hc]) <;> (try simp only [xb] at hc)) | refine wI ?_ | refine ex_idx (by omega) ?_ | fail)
        have hS2 : wstepX bs (whileX bs 0) true out q = (if pickX bs (q + 4) 4 = 0 then [16 + (c3 : Int)] else if T then out ++ ([16 + (c3 : Int)] ++ [19]) else out, q + 4 + 1) := by unfold wstepX; rw [hN]; dsimp only; rw [hT]
        rw [hS2] at hst hso
        dsimp only at hst hso
        cases T
        · (first | refine W_askE rfl _ _ (⟨bs, q + 4, 4, rfl, hcd, by omega, by omega, rfl, rfl⟩) ?_ | refine D_askE rfl _ _ (⟨bs, q + 4, 4, rfl, hcd, by omega, by omega, rfl, rfl⟩) ?_); simp (config := { maxSteps := 2000000 }) only [go_sem]
          repeat' (first | refine wS fun K hK => ?_ | refine wB ?_ | ((first | refine wX hΓ ?_ | refine wV hΓ fun B hB => ?_); simp (config := { maxSteps := 2000000 }) only [go_sem, e1]) | ((repeat ((fail_if_success (refine hK _ ?_)); clear hK K)); refine hK _ ?_; clear hK K) | (refine w1 ?_; simp only [xs, xi, Nat.reduceEqDiff, reduceCtorEq, retL_ret, retL_normal]) | (refine wC (fun hb => ?_) fun hb => ?_ <;> (try simp only [xb, reduceCtorEq] at hb)) | (refine w2 (fun hc => ?_) (fun hc => ?_) <;> (try simp only [xc] at hc) <;> (try simp only [go_sem, hc, e1]) <;> (try simp only [xb] at hc)) | refine wI ?_ | refine ex_idx (by omega) ?_ | fail)
          · rw [if_pos (by omega)] at hst hso
            exact ⟨(j, [16 + (c3 : Int)], q + 4 + 1), by (simp only [xe, xj, Nat.reduceEqDiff]; (try simp [view, viewL_map]); (try omega)), ⟨hst, hso, by dsimp only; omega⟩, by dsimp only; omega⟩
          · rw [if_neg (by omega), if_neg (by decide)] at hst hso
            exact ⟨(j, out, q + 4 + 1), by (simp only [xe, xj, Nat.reduceEqDiff]; (try simp [view, viewL_map]); (try omega)), ⟨hst, hso, by dsimp only; omega⟩, by dsimp only; omega⟩
        · (first | refine W_askE rfl _ _ (⟨bs, q + 4, 4, rfl, hcd, by omega, by omega, rfl, rfl⟩) ?_ | refine D_askE rfl _ _ (⟨bs, q + 4, 4, rfl, hcd, by omega, by omega, rfl, rfl⟩) ?_); simp (config := { maxSteps := 2000000 }) only [go_sem]
          repeat' (first | refine wS fun K hK => ?_ | refine wB ?_ | ((first | refine wX hΓ ?_ | refine wV hΓ fun B hB => ?_); simp (config := { maxSteps := 2000000 }) only [go_sem, e1]) | ((repeat ((fail_if_success (refine hK _ ?_)); clear hK K)); refine hK _ ?_; clear hK K) | (refine w1 ?_; simp only [xs, xi, Nat.reduceEqDiff, reduceCtorEq, retL_ret, retL_normal]) | (refine wC (fun hb => ?_) fun hb => ?_ <;> (try simp only [xb, reduceCtorEq] at hb)) | (refine w2 (fun hc => ?_) (fun hc => ?_) <;> (try simp only [xc] at hc) <;> (try simp only [go_sem, hc, e1]) <;> (try simp only [xb] at hc)) | refine wI ?_ | refine ex_idx (by omega) ?_ | fail)
          · rw [if_pos (by omega)] at hst hso
            exact ⟨(j, [16 + (c3 : Int)], q + 4 + 1), by (simp only [xe, xj, Nat.reduceEqDiff]; (try simp [view, viewL_map]); (try omega)), ⟨hst, hso, by dsimp only; omega⟩, by dsimp only; omega⟩
          · rw [if_neg (by omega), if_pos rfl] at hst hso
            exact ⟨(j, out ++ ([16 + (c3 : Int)] ++ [19]), q + 4 + 1), by (simp only [xe, xj, Nat.reduceEqDiff]; (try simp [view, viewL_map]); (try omega)), ⟨hst, hso, by dsimp only; omega⟩, by dsimp only; omega⟩

end Go.Proofs.Ytmhiipmajlmlgaa
