/- The reference's draw of an automaton and a trace. Walked by the engine. -/
import Derived.Test.YtljoonlcpiagjaaR9
import Derived.Test.YtljoonlcpiagjaaR10
import Derived.Test.YtljoonlcpiagjaaR14
import Derived.Test.YtljoonlcpiagjaaX1
import Derived.Test.YtljoonlcpiagjaaEngMin
namespace Go.Proofs.Ytljoonlcpiagjaa
set_option linter.unusedSimpArgs false
set_option linter.unusedVariables false
set_option maxRecDepth 8000
set_option maxHeartbeats 2000000
open Go Go.RowKit AV

attribute [local go_sem] List.nil_prefix

noncomputable def triedX (bs : List Nat) (p : Nat) : AutoD × List Int × Nat :=
  let d := autoX bs p 6 14
  if shBD d.1 = true then
    if pickX bs d.2 3 = 0 then
      if pickX bs (d.2 + 1) 3 = 0 then (d.1, (shTD d.1).set 0 (pickX bs (d.2 + 2) 4 : Int), d.2 + 3)
      else (d.1, shTD d.1, d.2 + 2)
    else (d.1, (traceX bs (d.2 + 1) 3 12).1, (traceX bs (d.2 + 1) 3 12).2)
  else (d.1, (traceX bs d.2 3 12).1, (traceX bs d.2 3 12).2)
theorem triedX_1 (bs : List Nat) (p : Nat) : (triedX bs p).1 = (autoX bs p 6 14).1 := by
  unfold triedX
  dsimp only
  split
  · split
    · split <;> rfl
    · rfl
  · rfl
theorem shTD_pos {D : AutoD} (h : shBD D = true) : 0 < (shTD D).length := by
  unfold shBD at h
  rw [Bool.and_eq_true] at h
  obtain ⟨e1, e2⟩ := shD_yes h.1 (sh_spec (behF D) 1 (endF D))
  have hs := sh_spec (behF D) 1 (endF D)
  rw [h.2] at hs
  rw [e1]
  rcases hs with ⟨_, m, d, hm, hd, e⟩ | ⟨h, _, _⟩
  · rw [e, trcL_len]; omega
  · cases h
theorem shTD_len' (D : AutoD) : (shTD D).length ≤ 41 := by
  unfold shTD
  split
  · exact (sh_spec (behF D) 1 (endF D)).len
  · simp

def triedXR (args : List AV) (r : AV) (args' : List AV) : Prop := ∃ (bs : List Nat) (p : Nat), args = [rdr bs p] ∧ CodeOK bs ∧ p < 1000000000 ∧ r = .tup [agg [ints (triedX bs p).1.ends, rows (triedX bs p).1.next], oints (triedX bs p).2.1] ∧ args' = [rdr bs (triedX bs p).2.2]
theorem tried_ctr : CtrOK Try.prog 87 (effC triedXR) := by
  refine ctr_manyL Try.func87 rfl rfl Try.ntmps87 ?_
  rintro _ _ _ ⟨bs, p, rfl, hcd, hp, rfl, rfl⟩
  refine ⟨_, rfl, by simp, by simp, fun κ hκ => ?_⟩
  have hbig := bigW_gt
  rw [argEnv_eq]
  simp only [envA]
  have hΓ := ctxOf_ok (P := Try.prog) (cx auto_ctr <| cx specShortTrace_ctr <| cx pick_ctr <| cx trace_ctr <| cx0)
  have hX : triedX bs p = if shBD (autoX bs p 6 14).1 = true then
    if pickX bs (autoX bs p 6 14).2 3 = 0 then
      if pickX bs ((autoX bs p 6 14).2 + 1) 3 = 0 then ((autoX bs p 6 14).1, (shTD (autoX bs p 6 14).1).set 0 (pickX bs ((autoX bs p 6 14).2 + 2) 4 : Int), (autoX bs p 6 14).2 + 3)
      else ((autoX bs p 6 14).1, shTD (autoX bs p 6 14).1, (autoX bs p 6 14).2 + 2)
    else ((autoX bs p 6 14).1, (traceX bs ((autoX bs p 6 14).2 + 1) 3 12).1, (traceX bs ((autoX bs p 6 14).2 + 1) 3 12).2)
  else ((autoX bs p 6 14).1, (traceX bs (autoX bs p 6 14).2 3 12).1, (traceX bs (autoX bs p 6 14).2 3 12).2) := rfl
  have hp1 := autoX_p bs p 6 14 (by omega)
  have hsm := autoX_small bs p 6 14 (by omega)
  obtain ⟨⟨D, p1⟩, hD⟩ : ∃ o, autoX bs p 6 14 = o := ⟨_, rfl⟩
  rw [hD] at hp1 hsm hX
  dsimp only at hp1 hsm hX
  obtain ⟨h1, h2, h3⟩ := hsm.e6
  have hTl := shTD_len' D
  have hTp := fun h => shTD_pos (D := D) h
  obtain ⟨T, hT⟩ : ∃ T, shTD D = T := ⟨_, rfl⟩
  obtain ⟨B, hBe⟩ : ∃ B, shBD D = B := ⟨_, rfl⟩
  rw [hT, hBe] at hX
  rw [hT] at hTl
  rw [hT, hBe] at hTp
  repeat' (first | refine wS fun K hK => ?_ | refine wB ?_ | ((first | refine wX hΓ ?_ | refine CW.drwL hΓ Try_mixed [30] 0 (by rw [hκ]; rfl) (by kernel_rfl) (by kernel_rfl) fun v0 B hB => ?_); simp (config := { maxSteps := 2000000 }) only [go_sem]) | ((repeat ((fail_if_success (refine hK _ ?_)); clear hK K)); refine hK _ ?_; clear hK K) | (refine w1 ?_; simp only [xs, xi, Nat.reduceEqDiff, reduceCtorEq, retM_ret, retM_normal, retML_ret, retML_normal]) | (refine wC (fun hb => ?_) fun hb => ?_ <;> (try simp only [xb, reduceCtorEq] at hb)) | (refine w2 (fun hc => ?_) (fun hc => ?_) <;> (try simp only [xc] at hc) <;> (try simp only [go_sem, hc]) <;> (try simp only [xb] at hc)) | refine wI ?_ | refine ex_idx (by omega) ?_ | fail)
  (first | refine W_askE rfl _ _ (⟨bs, p, 6, 14, rfl, hcd, by omega, by omega, by omega, by omega, rfl, rfl⟩) ?_ | refine D_askE rfl _ _ (⟨bs, p, 6, 14, rfl, hcd, by omega, by omega, by omega, by omega, rfl, rfl⟩) ?_); simp (config := { maxSteps := 2000000 }) only [go_sem]
  rw [hD]
  dsimp only
  repeat' (first | refine wS fun K hK => ?_ | refine wB ?_ | ((first | refine wX hΓ ?_ | refine CW.drwL hΓ Try_mixed [30] 0 (by rw [hκ]; rfl) (by kernel_rfl) (by kernel_rfl) fun v0 B hB => ?_); simp (config := { maxSteps := 2000000 }) only [go_sem]) | ((repeat ((fail_if_success (refine hK _ ?_)); clear hK K)); refine hK _ ?_; clear hK K) | (refine w1 ?_; simp only [xs, xi, Nat.reduceEqDiff, reduceCtorEq, retM_ret, retM_normal, retML_ret, retML_normal]) | (refine wC (fun hb => ?_) fun hb => ?_ <;> (try simp only [xb, reduceCtorEq] at hb)) | (refine w2 (fun hc => ?_) (fun hc => ?_) <;> (try simp only [xc] at hc) <;> (try simp only [go_sem, hc]) <;> (try simp only [xb] at hc)) | refine wI ?_ | refine ex_idx (by omega) ?_ | fail)
  (first | refine wA rfl ?_ ?_ ?_ | refine dA rfl ?_ ?_ ?_); exact (.tup [oints T, .bool B]); exact (⟨D, rfl, h1, h2, h3, by rw [hT, hBe]⟩); simp (config := { maxSteps := 2000000 }) only [go_sem]
  repeat' (first | refine wS fun K hK => ?_ | refine wB ?_ | ((first | refine wX hΓ ?_ | refine CW.drwL hΓ Try_mixed [30] 0 (by rw [hκ]; rfl) (by kernel_rfl) (by kernel_rfl) fun v0 B hB => ?_); simp (config := { maxSteps := 2000000 }) only [go_sem]) | ((repeat ((fail_if_success (refine hK _ ?_)); clear hK K)); refine hK _ ?_; clear hK K) | (refine w1 ?_; simp only [xs, xi, Nat.reduceEqDiff, reduceCtorEq, retM_ret, retM_normal, retML_ret, retML_normal]) | (refine wC (fun hb => ?_) fun hb => ?_ <;> (try simp only [xb, reduceCtorEq] at hb)) | (refine w2 (fun hc => ?_) (fun hc => ?_) <;> (try simp only [xc] at hc) <;> (try simp only [go_sem, hc]) <;> (try simp only [xb] at hc)) | refine wI ?_ | refine ex_idx (by omega) ?_ | fail)
  · rw [if_pos hc] at hX
    have hTp := hTp hc
    (first | refine W_askE rfl _ _ (⟨bs, p1, 3, rfl, hcd, by omega, by omega, rfl, rfl⟩) ?_ | refine D_askE rfl _ _ (⟨bs, p1, 3, rfl, hcd, by omega, by omega, rfl, rfl⟩) ?_); simp (config := { maxSteps := 2000000 }) only [go_sem]
    repeat' (first | refine wS fun K hK => ?_ | refine wB ?_ | ((first | refine wX hΓ ?_ | refine CW.drwL hΓ Try_mixed [30] 0 (by rw [hκ]; rfl) (by kernel_rfl) (by kernel_rfl) fun v0 B hB => ?_); simp (config := { maxSteps := 2000000 }) only [go_sem]) | ((repeat ((fail_if_success (refine hK _ ?_)); clear hK K)); refine hK _ ?_; clear hK K) | (refine w1 ?_; simp only [xs, xi, Nat.reduceEqDiff, reduceCtorEq, retM_ret, retM_normal, retML_ret, retML_normal]) | (refine wC (fun hb => ?_) fun hb => ?_ <;> (try simp only [xb, reduceCtorEq] at hb)) | (refine w2 (fun hc => ?_) (fun hc => ?_) <;> (try simp only [xc] at hc) <;> (try simp only [go_sem, hc]) <;> (try simp only [xb] at hc)) | refine wI ?_ | refine ex_idx (by omega) ?_ | fail)
    · rw [if_pos (by omega)] at hX
      (first | refine W_askE rfl _ _ (⟨bs, p1 + 1, 3, rfl, hcd, by omega, by omega, rfl, rfl⟩) ?_ | refine D_askE rfl _ _ (⟨bs, p1 + 1, 3, rfl, hcd, by omega, by omega, rfl, rfl⟩) ?_); simp (config := { maxSteps := 2000000 }) only [go_sem]
      repeat' (first | refine wS fun K hK => ?_ | refine wB ?_ | ((first | refine wX hΓ ?_ | refine CW.drwL hΓ Try_mixed [30] 0 (by rw [hκ]; rfl) (by kernel_rfl) (by kernel_rfl) fun v0 B hB => ?_); simp (config := { maxSteps := 2000000 }) only [go_sem]) | ((repeat ((fail_if_success (refine hK _ ?_)); clear hK K)); refine hK _ ?_; clear hK K) | (refine w1 ?_; simp only [xs, xi, Nat.reduceEqDiff, reduceCtorEq, retM_ret, retM_normal, retML_ret, retML_normal]) | (refine wC (fun hb => ?_) fun hb => ?_ <;> (try simp only [xb, reduceCtorEq] at hb)) | (refine w2 (fun hc => ?_) (fun hc => ?_) <;> (try simp only [xc] at hc) <;> (try simp only [go_sem, hc]) <;> (try simp only [xb] at hc)) | refine wI ?_ | refine ex_idx (by omega) ?_ | fail)
      · rw [if_pos (by omega)] at hX
        (first | refine W_askE rfl _ _ (⟨bs, p1 + 2, 4, rfl, hcd, by omega, by omega, rfl, rfl⟩) ?_ | refine D_askE rfl _ _ (⟨bs, p1 + 2, 4, rfl, hcd, by omega, by omega, rfl, rfl⟩) ?_); simp (config := { maxSteps := 2000000 }) only [go_sem]
        repeat' (first | refine wS fun K hK => ?_ | refine wB ?_ | ((first | refine wX hΓ ?_ | refine CW.drwL hΓ Try_mixed [30] 0 (by rw [hκ]; rfl) (by kernel_rfl) (by kernel_rfl) fun v0 B hB => ?_); simp (config := { maxSteps := 2000000 }) only [go_sem]) | ((repeat ((fail_if_success (refine hK _ ?_)); clear hK K)); refine hK _ ?_; clear hK K) | (refine w1 ?_; simp only [xs, xi, Nat.reduceEqDiff, reduceCtorEq, retM_ret, retM_normal, retML_ret, retML_normal]) | (refine wC (fun hb => ?_) fun hb => ?_ <;> (try simp only [xb, reduceCtorEq] at hb)) | (refine w2 (fun hc => ?_) (fun hc => ?_) <;> (try simp only [xc] at hc) <;> (try simp only [go_sem, hc]) <;> (try simp only [xb] at hc)) | refine wI ?_ | refine ex_idx (by omega) ?_ | fail)
        have eS : (List.map I T).set 0 (num IntKind.i64 (pickX bs (p1 + 2) 4 : Int)) = List.map I (T.set 0 (pickX bs (p1 + 2) 4 : Int)) := List.map_set.symm
        rw [hX]
        generalize pickX bs (p1 + 2) 4 = q at *
        (rw [Try.results87]; refine ⟨by simp [upd_at] <;> omega, by simp [isOwn, anyOwn], _, rfl, by decide, by decide, by decide, ?_⟩; simp [ResL, ResI, upd_at, plainB, Ty_aggT_26, Ty_szT_26])
      · rw [if_neg (by omega)] at hX
        rw [hX]
        (rw [Try.results87]; refine ⟨by simp [upd_at] <;> omega, by simp [isOwn, anyOwn], _, rfl, by decide, by decide, by decide, ?_⟩; simp [ResL, ResI, upd_at, plainB, Ty_aggT_26, Ty_szT_26])
    · rw [if_neg (by omega)] at hX
      (first | refine W_askE rfl _ _ (⟨bs, p1 + 1, 3, 12, rfl, hcd, by omega, by omega, by omega, rfl, rfl⟩) ?_ | refine D_askE rfl _ _ (⟨bs, p1 + 1, 3, 12, rfl, hcd, by omega, by omega, by omega, rfl, rfl⟩) ?_); simp (config := { maxSteps := 2000000 }) only [go_sem]
      repeat' (first | refine wS fun K hK => ?_ | refine wB ?_ | ((first | refine wX hΓ ?_ | refine CW.drwL hΓ Try_mixed [30] 0 (by rw [hκ]; rfl) (by kernel_rfl) (by kernel_rfl) fun v0 B hB => ?_); simp (config := { maxSteps := 2000000 }) only [go_sem]) | ((repeat ((fail_if_success (refine hK _ ?_)); clear hK K)); refine hK _ ?_; clear hK K) | (refine w1 ?_; simp only [xs, xi, Nat.reduceEqDiff, reduceCtorEq, retM_ret, retM_normal, retML_ret, retML_normal]) | (refine wC (fun hb => ?_) fun hb => ?_ <;> (try simp only [xb, reduceCtorEq] at hb)) | (refine w2 (fun hc => ?_) (fun hc => ?_) <;> (try simp only [xc] at hc) <;> (try simp only [go_sem, hc]) <;> (try simp only [xb] at hc)) | refine wI ?_ | refine ex_idx (by omega) ?_ | fail)
      rw [hX]
      (rw [Try.results87]; refine ⟨by simp [upd_at] <;> omega, by simp [isOwn, anyOwn], _, rfl, by decide, by decide, by decide, ?_⟩; simp [ResL, ResI, upd_at, plainB, Ty_aggT_26, Ty_szT_26])
  · rw [if_neg (by simp [hc])] at hX
    (first | refine W_askE rfl _ _ (⟨bs, p1, 3, 12, rfl, hcd, by omega, by omega, by omega, rfl, rfl⟩) ?_ | refine D_askE rfl _ _ (⟨bs, p1, 3, 12, rfl, hcd, by omega, by omega, by omega, rfl, rfl⟩) ?_); simp (config := { maxSteps := 2000000 }) only [go_sem]
    repeat' (first | refine wS fun K hK => ?_ | refine wB ?_ | ((first | refine wX hΓ ?_ | refine CW.drwL hΓ Try_mixed [30] 0 (by rw [hκ]; rfl) (by kernel_rfl) (by kernel_rfl) fun v0 B hB => ?_); simp (config := { maxSteps := 2000000 }) only [go_sem]) | ((repeat ((fail_if_success (refine hK _ ?_)); clear hK K)); refine hK _ ?_; clear hK K) | (refine w1 ?_; simp only [xs, xi, Nat.reduceEqDiff, reduceCtorEq, retM_ret, retM_normal, retML_ret, retML_normal]) | (refine wC (fun hb => ?_) fun hb => ?_ <;> (try simp only [xb, reduceCtorEq] at hb)) | (refine w2 (fun hc => ?_) (fun hc => ?_) <;> (try simp only [xc] at hc) <;> (try simp only [go_sem, hc]) <;> (try simp only [xb] at hc)) | refine wI ?_ | refine ex_idx (by omega) ?_ | fail)
    rw [hX]
    (rw [Try.results87]; refine ⟨by simp [upd_at] <;> omega, by simp [isOwn, anyOwn], _, rfl, by decide, by decide, by decide, ?_⟩; simp [ResL, ResI, upd_at, plainB, Ty_aggT_26, Ty_szT_26])

noncomputable def drawRunR (args : List AV) (r : AV) : Prop := ∃ bs : List Nat, args = [byts bs] ∧ bs.length ≤ 1099511627776 ∧ (∀ b ∈ bs, b < 256) ∧ r = .tup [agg [ints (triedX (bs.take 2000) 0).1.ends, rows (triedX (bs.take 2000) 0).1.next], ints (triedX (bs.take 2000) 0).2.1]
theorem drawAutoRun_ctr : CtrOK Try.prog 30 (pureC drawRunR) := by
  refine ctr_many Try.func30 rfl rfl Try.ntmps30 ?_
  rintro _ _ ⟨bs, rfl, hl, hb256, rfl⟩
  refine ⟨by simp, fun κ hκ => ?_⟩
  have hbig := bigW_gt
  rw [argEnv_eq]
  simp only [envA]
  have hΓ := ctxOf_ok (P := Try.prog) (cx open_ctr <| cx tried_ctr <| cx0)
  have hcd := code_ok hb256
  obtain ⟨⟨D, t, p1⟩, hD⟩ : ∃ o, triedX (bs.take 2000) 0 = o := ⟨_, rfl⟩
  simp only [hD]
  repeat' (first | refine wS fun K hK => ?_ | refine wB ?_ | ((first | refine wX hΓ ?_ | refine CW.drwL hΓ Try_mixed [30] 0 (by rw [hκ]; rfl) (by kernel_rfl) (by kernel_rfl) fun v0 B hB => ?_); simp (config := { maxSteps := 2000000 }) only [go_sem]) | ((repeat ((fail_if_success (refine hK _ ?_)); clear hK K)); refine hK _ ?_; clear hK K) | (refine w1 ?_; simp only [xs, xi, Nat.reduceEqDiff, reduceCtorEq, retM_ret, retM_normal, retML_ret, retML_normal]) | (refine wC (fun hb => ?_) fun hb => ?_ <;> (try simp only [xb, reduceCtorEq] at hb)) | (refine w2 (fun hc => ?_) (fun hc => ?_) <;> (try simp only [xc] at hc) <;> (try simp only [go_sem, hc]) <;> (try simp only [xb] at hc)) | refine wI ?_ | refine ex_idx (by omega) ?_ | fail)
  (first | refine wA rfl _ (⟨bs, rfl, hl, rfl⟩) ?_ | refine dA rfl _ (⟨bs, rfl, hl, rfl⟩) ?_); simp (config := { maxSteps := 2000000 }) only [go_sem]
  repeat' (first | refine wS fun K hK => ?_ | refine wB ?_ | ((first | refine wX hΓ ?_ | refine CW.drwL hΓ Try_mixed [30] 0 (by rw [hκ]; rfl) (by kernel_rfl) (by kernel_rfl) fun v0 B hB => ?_); simp (config := { maxSteps := 2000000 }) only [go_sem]) | ((repeat ((fail_if_success (refine hK _ ?_)); clear hK K)); refine hK _ ?_; clear hK K) | (refine w1 ?_; simp only [xs, xi, Nat.reduceEqDiff, reduceCtorEq, retM_ret, retM_normal, retML_ret, retML_normal]) | (refine wC (fun hb => ?_) fun hb => ?_ <;> (try simp only [xb, reduceCtorEq] at hb)) | (refine w2 (fun hc => ?_) (fun hc => ?_) <;> (try simp only [xc] at hc) <;> (try simp only [go_sem, hc]) <;> (try simp only [xb] at hc)) | refine wI ?_ | refine ex_idx (by omega) ?_ | fail)
  (first | refine W_askE rfl _ _ (⟨bs.take 2000, 0, rfl, hcd, by omega, rfl, rfl⟩) ?_ | refine D_askE rfl _ _ (⟨bs.take 2000, 0, rfl, hcd, by omega, rfl, rfl⟩) ?_); simp (config := { maxSteps := 2000000 }) only [go_sem]
  rw [hD]
  dsimp only
  repeat' (first | refine wS fun K hK => ?_ | refine wB ?_ | ((first | refine wX hΓ ?_ | refine CW.drwL hΓ Try_mixed [30] 0 (by rw [hκ]; rfl) (by kernel_rfl) (by kernel_rfl) fun v0 B hB => ?_); simp (config := { maxSteps := 2000000 }) only [go_sem]) | ((repeat ((fail_if_success (refine hK _ ?_)); clear hK K)); refine hK _ ?_; clear hK K) | (refine w1 ?_; simp only [xs, xi, Nat.reduceEqDiff, reduceCtorEq, retM_ret, retM_normal, retML_ret, retML_normal]) | (refine wC (fun hb => ?_) fun hb => ?_ <;> (try simp only [xb, reduceCtorEq] at hb)) | (refine w2 (fun hc => ?_) (fun hc => ?_) <;> (try simp only [xc] at hc) <;> (try simp only [go_sem, hc]) <;> (try simp only [xb] at hc)) | refine wI ?_ | refine ex_idx (by omega) ?_ | fail)
  (rw [Try.results30]; refine ⟨_, rfl, by decide, by decide, by decide, ?_⟩; simp [ResL, ResI, upd_at, plainB, view, viewL_map, view_I, Ty_aggT_26, Ty_szT_26])

end Go.Proofs.Ytljoonlcpiagjaa
