/- The reference's draw of a trace; traces joined. Walked by the engine. -/
import Derived.Test.YtboandkjhdaobaaGrpS
import Derived.Test.YtboandkjhdaobaaDrawP4
import Derived.Test.YtboandkjhdaobaaGrpK
import Derived.Test.YtboandkjhdaobaaGrpJ
import Derived.Test.YtboandkjhdaobaaEngMin
namespace Go.Proofs.Ytboandkjhdaobaa
set_option linter.unusedSimpArgs false
set_option linter.unusedVariables false
set_option maxRecDepth 8000
set_option maxHeartbeats 2000000
open Go Go.RowKit AV

attribute [local go_sem] List.nil_prefix

def traceXR (args : List AV) (r : AV) (args' : List AV) : Prop := ∃ (bs : List Nat) (p most n : Nat), args = [rdr bs p, I (most : Int), I (n : Int)] ∧ CodeOK bs ∧ p < 1099510000000 ∧ most ≤ 1000 ∧ n < 1099511627776 ∧ r = oints (traceX bs p most n).1 ∧ args' = [rdr bs (traceX bs p most n).2]
theorem trace_ctr : CtrOK Try.prog 164 (effC traceXR) := by
  refine ctr_lend' Try.func164 rfl rfl Try.ntmps164 ?_
  rintro _ _ _ ⟨bs, p, most, n, rfl, hcd, hp, hm, hn, rfl, rfl⟩
  refine ⟨_, rfl, by simp, by simp, fun κ hκ => ?_⟩
  have hbig := bigW_gt
  rw [argEnv_eq]
  simp only [envA]
  have hΓ := ctxOf_ok (P := Try.prog) (cx pick_ctr <| cx odd_ctr <| cx0)
  have hk := pickX_lt (bs := bs) (p := p + 1) (n := most + 1) (by omega)
  obtain ⟨k0, hk0⟩ : ∃ k, pickX bs (p + 1) (most + 1) = k := ⟨_, rfl⟩
  rw [hk0] at hk
  have hc4 := pickX_lt (bs := bs) (p := p) (n := 4) (by decide)
  obtain ⟨c0, hc0⟩ : ∃ k, pickX bs p 4 = k := ⟨_, rfl⟩
  rw [hc0] at hc4
  have ho1 := oddX_p bs (p + 2 + 2 * k0) n
  obtain ⟨⟨oo, p1⟩, hO⟩ : ∃ o, oddX bs (p + 2 + 2 * k0) n = o := ⟨_, rfl⟩
  rw [hO] at ho1
  dsimp only at ho1
  have hX : traceX bs p most n = if oo then
      (if pickX bs p1 4 = 0 then ([], p1 + 1)
      else if pickX bs p1 4 = 1 then (((c0 : Int) :: trkX bs (p + 2) k0) ++ [16], p1 + 1)
      else if pickX bs p1 4 = 2 then (((c0 : Int) :: trkX bs (p + 2) k0) ++ [19, 0], p1 + 1)
      else (fillX ((c0 : Int) :: trkX bs (p + 2) k0) (21 - k0), p1 + 1)) else ((c0 : Int) :: trkX bs (p + 2) k0, p1) := by
    unfold traceX; dsimp only; rw [hk0, hc0, hO]
  repeat' (first | refine wS fun K hK => ?_ | refine wB ?_ | ((first | refine wR hΓ ?_ | refine wD hΓ fun B hB => ?_); simp (config := { maxSteps := 2000000 }) only [go_sem]) | ((repeat ((fail_if_success (refine hK _ ?_)); clear hK K)); refine hK _ ?_; clear hK K) | (refine w1 ?_; simp only [xs, xi, Nat.reduceEqDiff, reduceCtorEq, retL_ret, retL_normal]) | (refine wC (fun hb => ?_) fun hb => ?_ <;> (try simp only [xb, reduceCtorEq] at hb)) | (refine w2 (fun hc => ?_) (fun hc => ?_) <;> (try simp only [xc] at hc) <;> (try simp only [go_sem, hc]) <;> (try simp only [xb] at hc)) | refine wI ?_ | refine ex_idx (by omega) ?_ | fail)
  (first | refine W_askE rfl _ _ (⟨bs, p, 4, rfl, hcd, by omega, by omega, rfl, rfl⟩) ?_ | refine D_askE rfl _ _ (⟨bs, p, 4, rfl, hcd, by omega, by omega, rfl, rfl⟩) ?_); simp (config := { maxSteps := 2000000 }) only [go_sem]
  rw [hc0]
  repeat' (first | refine wS fun K hK => ?_ | refine wB ?_ | ((first | refine wR hΓ ?_ | refine wD hΓ fun B hB => ?_); simp (config := { maxSteps := 2000000 }) only [go_sem]) | ((repeat ((fail_if_success (refine hK _ ?_)); clear hK K)); refine hK _ ?_; clear hK K) | (refine w1 ?_; simp only [xs, xi, Nat.reduceEqDiff, reduceCtorEq, retL_ret, retL_normal]) | (refine wC (fun hb => ?_) fun hb => ?_ <;> (try simp only [xb, reduceCtorEq] at hb)) | (refine w2 (fun hc => ?_) (fun hc => ?_) <;> (try simp only [xc] at hc) <;> (try simp only [go_sem, hc]) <;> (try simp only [xb] at hc)) | refine wI ?_ | refine ex_idx (by omega) ?_ | fail)
  (first | refine W_askE rfl _ _ (⟨bs, p + 1, most + 1, rfl, hcd, by omega, by omega, rfl, rfl⟩) ?_ | refine D_askE rfl _ _ (⟨bs, p + 1, most + 1, rfl, hcd, by omega, by omega, rfl, rfl⟩) ?_); simp (config := { maxSteps := 2000000 }) only [go_sem]
  rw [hk0]
  repeat' (first | refine wS fun K hK => ?_ | refine wB ?_ | ((first | refine wR hΓ ?_ | refine wD hΓ fun B hB => ?_); simp (config := { maxSteps := 2000000 }) only [go_sem]) | ((repeat ((fail_if_success (refine hK _ ?_)); clear hK K)); refine hK _ ?_; clear hK K) | (refine w1 ?_; simp only [xs, xi, Nat.reduceEqDiff, reduceCtorEq, retL_ret, retL_normal]) | (refine wC (fun hb => ?_) fun hb => ?_ <;> (try simp only [xb, reduceCtorEq] at hb)) | (refine w2 (fun hc => ?_) (fun hc => ?_) <;> (try simp only [xc] at hc) <;> (try simp only [go_sem, hc]) <;> (try simp only [xb] at hc)) | refine wI ?_ | refine ex_idx (by omega) ?_ | fail)
  refine CW.loop (ι := Nat) (fun j => [(0, rdr bs (p + 2 + 2 * j)), (1, I (most : Int)), (2, I (n : Int)), (7, oints ((c0 : Int) :: trkX bs (p + 2) j)), (8, I ((k0 - j : Nat) : Int))]) (fun j => j ≤ k0) (fun j => k0 - j) 0 ?_ ?_
  · exact ⟨by ((simp only [xe, xj, Nat.reduceEqDiff]; (try simp [view, viewL_map]); (try omega)); simp [trkX]), by omega⟩
  rintro j hj
  simp only [envOf]
  have hl := trkX_len bs (p + 2) j
  repeat' (first | refine wS fun K hK => ?_ | refine wB ?_ | ((first | refine wR hΓ ?_ | refine wD hΓ fun B hB => ?_); simp (config := { maxSteps := 2000000 }) only [go_sem]) | ((repeat ((fail_if_success (refine hK _ ?_)); clear hK K)); refine hK _ ?_; clear hK K) | (refine w1 ?_; simp only [xs, xi, Nat.reduceEqDiff, reduceCtorEq, retL_ret, retL_normal]) | (refine wC (fun hb => ?_) fun hb => ?_ <;> (try simp only [xb, reduceCtorEq] at hb)) | (refine w2 (fun hc => ?_) (fun hc => ?_) <;> (try simp only [xc] at hc) <;> (try simp only [go_sem, hc]) <;> (try simp only [xb] at hc)) | refine wI ?_ | refine ex_idx (by omega) ?_ | fail)
  · have ha := pickX_lt (bs := bs) (p := p + 2 + 2 * j) (n := 3) (by decide)
    have hb4 := pickX_lt (bs := bs) (p := p + 2 + 2 * j + 1) (n := 4) (by decide)
    have e1 : ((k0 - j : Nat) : Int) - 1 = ((k0 - (j + 1) : Nat) : Int) := by omega
    have hs : trkX bs (p + 2) (j + 1) = trkX bs (p + 2) j ++ [16 + (pickX bs (p + 2 + 2 * j) 3 : Int), (pickX bs (p + 2 + 2 * j + 1) 4 : Int)] := rfl
    (first | refine W_askE rfl _ _ (⟨bs, p + 2 + 2 * j, 3, rfl, hcd, by omega, by omega, rfl, rfl⟩) ?_ | refine D_askE rfl _ _ (⟨bs, p + 2 + 2 * j, 3, rfl, hcd, by omega, by omega, rfl, rfl⟩) ?_); simp (config := { maxSteps := 2000000 }) only [go_sem]
    repeat' (first | refine wS fun K hK => ?_ | refine wB ?_ | ((first | refine wR hΓ ?_ | refine wD hΓ fun B hB => ?_); simp (config := { maxSteps := 2000000 }) only [go_sem]) | ((repeat ((fail_if_success (refine hK _ ?_)); clear hK K)); refine hK _ ?_; clear hK K) | (refine w1 ?_; simp only [xs, xi, Nat.reduceEqDiff, reduceCtorEq, retL_ret, retL_normal]) | (refine wC (fun hb => ?_) fun hb => ?_ <;> (try simp only [xb, reduceCtorEq] at hb)) | (refine w2 (fun hc => ?_) (fun hc => ?_) <;> (try simp only [xc] at hc) <;> (try simp only [go_sem, hc]) <;> (try simp only [xb] at hc)) | refine wI ?_ | refine ex_idx (by omega) ?_ | fail)
    (first | refine W_askE rfl _ _ (⟨bs, p + 2 + 2 * j + 1, 4, rfl, hcd, by omega, by omega, rfl, rfl⟩) ?_ | refine D_askE rfl _ _ (⟨bs, p + 2 + 2 * j + 1, 4, rfl, hcd, by omega, by omega, rfl, rfl⟩) ?_); simp (config := { maxSteps := 2000000 }) only [go_sem]
    repeat' (first | refine wS fun K hK => ?_ | refine wB ?_ | ((first | refine wR hΓ ?_ | refine wD hΓ fun B hB => ?_); simp (config := { maxSteps := 2000000 }) only [go_sem, e1]) | ((repeat ((fail_if_success (refine hK _ ?_)); clear hK K)); refine hK _ ?_; clear hK K) | (refine w1 ?_; simp only [xs, xi, Nat.reduceEqDiff, reduceCtorEq, retL_ret, retL_normal]) | (refine wC (fun hb => ?_) fun hb => ?_ <;> (try simp only [xb, reduceCtorEq] at hb)) | (refine w2 (fun hc => ?_) (fun hc => ?_) <;> (try simp only [xc] at hc) <;> (try simp only [go_sem, hc, e1]) <;> (try simp only [xb] at hc)) | refine wI ?_ | refine ex_idx (by omega) ?_ | fail)
    refine ⟨j + 1, ?_, by omega, by omega⟩
    rw [hs]
    (simp only [xe, xj, Nat.reduceEqDiff]; (try simp [view, viewL_map]); (try omega))
  have hjk : j = k0 := by omega
  subst hjk
  (first | refine W_askE rfl _ _ (⟨bs, p + 2 + 2 * j, n, rfl, hcd, by omega, hn, rfl, rfl⟩) ?_ | refine D_askE rfl _ _ (⟨bs, p + 2 + 2 * j, n, rfl, hcd, by omega, hn, rfl, rfl⟩) ?_); simp (config := { maxSteps := 2000000 }) only [go_sem]
  rw [hO]
  dsimp only
  cases oo
  · repeat' (first | refine wS fun K hK => ?_ | refine wB ?_ | ((first | refine wR hΓ ?_ | refine wD hΓ fun B hB => ?_); simp (config := { maxSteps := 2000000 }) only [go_sem]) | ((repeat ((fail_if_success (refine hK _ ?_)); clear hK K)); refine hK _ ?_; clear hK K) | (refine w1 ?_; simp only [xs, xi, Nat.reduceEqDiff, reduceCtorEq, retL_ret, retL_normal]) | (refine wC (fun hb => ?_) fun hb => ?_ <;> (try simp only [xb, reduceCtorEq] at hb)) | (refine w2 (fun hc => ?_) (fun hc => ?_) <;> (try simp only [xc] at hc) <;> (try simp only [go_sem, hc]) <;> (try simp only [xb] at hc)) | refine wI ?_ | refine ex_idx (by omega) ?_ | fail)
    rw [if_neg (by decide)] at hX
    rw [hX]
    simp [Try.results164, RetL, upd_at, plainB, isOwn, anyOwn]
  · rw [if_pos rfl] at hX
    have hk5 := pickX_lt (bs := bs) (p := p1) (n := 4) (by decide)
    obtain ⟨c, hc⟩ : ∃ c, pickX bs p1 4 = c := ⟨_, rfl⟩
    rw [hc] at hX hk5
    repeat' (first | refine wS fun K hK => ?_ | refine wB ?_ | ((first | refine wR hΓ ?_ | refine wD hΓ fun B hB => ?_); simp (config := { maxSteps := 2000000 }) only [go_sem]) | ((repeat ((fail_if_success (refine hK _ ?_)); clear hK K)); refine hK _ ?_; clear hK K) | (refine w1 ?_; simp only [xs, xi, Nat.reduceEqDiff, reduceCtorEq, retL_ret, retL_normal]) | (refine wC (fun hb => ?_) fun hb => ?_ <;> (try simp only [xb, reduceCtorEq] at hb)) | (refine w2 (fun hc => ?_) (fun hc => ?_) <;> (try simp only [xc] at hc) <;> (try simp only [go_sem, hc]) <;> (try simp only [xb] at hc)) | refine wI ?_ | refine ex_idx (by omega) ?_ | fail)
    (first | refine W_askE rfl _ _ (⟨bs, p1, 4, rfl, hcd, by omega, by omega, rfl, rfl⟩) ?_ | refine D_askE rfl _ _ (⟨bs, p1, 4, rfl, hcd, by omega, by omega, rfl, rfl⟩) ?_); simp (config := { maxSteps := 2000000 }) only [go_sem]
    rw [hc]
    repeat' (first | refine wS fun K hK => ?_ | refine wB ?_ | ((first | refine wR hΓ ?_ | refine wD hΓ fun B hB => ?_); simp (config := { maxSteps := 2000000 }) only [go_sem]) | ((repeat ((fail_if_success (refine hK _ ?_)); clear hK K)); refine hK _ ?_; clear hK K) | (refine w1 ?_; simp only [xs, xi, Nat.reduceEqDiff, reduceCtorEq, retL_ret, retL_normal]) | (refine wC (fun hb => ?_) fun hb => ?_ <;> (try simp only [xb, reduceCtorEq] at hb)) | (refine w2 (fun hc => ?_) (fun hc => ?_) <;> (try simp only [xc] at hc) <;> (try simp only [go_sem, hc]) <;> (try simp only [xb] at hc)) | refine wI ?_ | refine ex_idx (by omega) ?_ | fail)
    · rw [hX, if_pos (by omega)]
      simp [Try.results164, RetL, upd_at, plainB, isOwn, anyOwn]
    · rw [hX, if_neg (by omega), if_pos (by omega)]
      simp [Try.results164, RetL, upd_at, plainB, isOwn, anyOwn]
    · rw [hX, if_neg (by omega), if_neg (by omega), if_pos (by omega)]
      simp [Try.results164, RetL, upd_at, plainB, isOwn, anyOwn]
    · rw [if_neg (by omega), if_neg (by omega), if_neg (by omega)] at hX
      obtain ⟨out, hout⟩ : ∃ out, (c0 : Int) :: trkX bs (p + 2) j = out := ⟨_, rfl⟩
      have hol : out.length = 1 + 2 * j := by rw [← hout]; simp only [List.length_cons]; omega
      rw [hout] at hX ⊢
      refine CW.loop (ι := Nat) (fun i => [(0, rdr bs (p1 + 1)), (7, oints (fillX out i))]) (fun i => i ≤ 21 - j) (fun i => 21 - j - i) 0 ?_ ?_
      · exact ⟨by ((simp only [xe, xj, Nat.reduceEqDiff]; (try simp [view, viewL_map]); (try omega)); simp [fillX]), by omega⟩
      rintro i hi
      simp only [envOf]
      have hfl := fillX_len out i
      repeat' (first | refine wS fun K hK => ?_ | refine wB ?_ | ((first | refine wR hΓ ?_ | refine wD hΓ fun B hB => ?_); simp (config := { maxSteps := 2000000 }) only [go_sem]) | ((repeat ((fail_if_success (refine hK _ ?_)); clear hK K)); refine hK _ ?_; clear hK K) | (refine w1 ?_; simp only [xs, xi, Nat.reduceEqDiff, reduceCtorEq, retL_ret, retL_normal]) | (refine wC (fun hb => ?_) fun hb => ?_ <;> (try simp only [xb, reduceCtorEq] at hb)) | (refine w2 (fun hc => ?_) (fun hc => ?_) <;> (try simp only [xc] at hc) <;> (try simp only [go_sem, hc]) <;> (try simp only [xb] at hc)) | refine wI ?_ | refine ex_idx (by omega) ?_ | fail)
      · refine ⟨i + 1, ?_, by omega, by omega⟩
        rw [show fillX out (i + 1) = fillX out i ++ [16, 0] from rfl]
        (simp only [xe, xj, Nat.reduceEqDiff]; (try simp [view, viewL_map]); (try omega))
      · have hi2 : i = 21 - j := by omega
        rw [hX, ← hi2]
        simp [Try.results164, RetL, upd_at, plainB, isOwn, anyOwn]

end Go.Proofs.Ytboandkjhdaobaa
