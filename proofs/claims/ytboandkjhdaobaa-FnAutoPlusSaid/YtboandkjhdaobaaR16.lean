/- The reference's draw of an expression and a trace. Walked by the engine. -/
import Derived.Test.YtboandkjhdaobaaR15
import Derived.Test.YtboandkjhdaobaaR14
import Derived.Test.YtboandkjhdaobaaR3
import Derived.Test.YtboandkjhdaobaaGrpS
import Derived.Test.YtboandkjhdaobaaGrpC
import Derived.Test.YtboandkjhdaobaaEngMin
namespace Go.Proofs.Ytboandkjhdaobaa
set_option linter.unusedSimpArgs false
set_option linter.unusedVariables false
set_option maxRecDepth 8000
set_option maxHeartbeats 2000000
open Go Go.RowKit AV

attribute [local go_sem] List.nil_prefix

def toldXR (args : List AV) (r : AV) (args' : List AV) : Prop := ∃ (bs : List Nat) (p parts : Nat), args = [rdr bs p, I (parts : Int)] ∧ CodeOK bs ∧ p < 1000000000 ∧ parts ≤ 1000 ∧ r = .tup [ints (toldX bs p parts).1, oints (toldX bs p parts).2.1] ∧ args' = [rdr bs (toldX bs p parts).2.2]
theorem told_ctr : CtrOK Try.prog 119 (effC toldXR) := by
  refine ctr_lend' Try.func119 rfl rfl Try.ntmps119 ?_
  rintro _ _ _ ⟨bs, p, parts, rfl, hcd, hp, hpa, rfl, rfl⟩
  refine ⟨_, rfl, by simp, by simp, fun κ hκ => ?_⟩
  have hbig := bigW_gt
  rw [argEnv_eq]
  simp only [envA]
  have hΓ := ctxOf_ok (P := Try.prog) (cx pick_ctr <| cx kat_ctr <| cx specKatValid_ctr <| cx trace_ctr <| cx of_ctr <| cx0)
  have k1 := katX_p bs p parts 12
  have k2 := katX_len bs p parts 12
  obtain ⟨⟨e, p1⟩, hE⟩ : ∃ o, katX bs p parts 12 = o := ⟨_, rfl⟩
  rw [hE] at k1 k2
  dsimp only at k1 k2
  have hX : toldX bs p parts = if katB e = false then (e, (traceX bs p1 3 12).1, (traceX bs p1 3 12).2)
      else if pickX bs p1 3 = 0 then (e, (traceX bs (p1 + 1) 3 12).1, (traceX bs (p1 + 1) 3 12).2)
      else
        let t := ofX bs (exOf e) 2 (p1 + 1)
        let u := if 41 < t.1.length then t.1.take 41 else t.1
        if pickX bs t.2 5 = 0 then (e, u.set (pickX bs (t.2 + 1) (u.length / 2 + 1) * 2) (pickX bs (t.2 + 2) 4 : Int), t.2 + 3)
        else (e, u, t.2 + 1) := by unfold toldX; rw [hE]
  refine CW.seqK fun K hK => ?_
  repeat' (first | refine wB ?_ | ((first | refine CW.regG hΓ [9, 21, 23, 31, 34, 43] [29] 179 0 (by rw [hκ]; rfl) (by kernel_rfl) (fun v0 => ?_) | refine CW.drwL hΓ Try_mixed [9, 16, 21, 23, 31, 34, 43] 0 (by rw [hκ]; rfl) (by kernel_rfl) (by kernel_rfl) fun v0 B hB => ?_); simp (config := { maxSteps := 2000000 }) only [go_sem]) | (refine w1 ?_; simp only [xs, xi, Nat.reduceEqDiff, reduceCtorEq, retL_ret, retL_normal]) | (refine wC (fun hb => ?_) fun hb => ?_ <;> (try simp only [xb, reduceCtorEq] at hb)) | (refine w2 (fun hc => ?_) (fun hc => ?_) <;> (try simp only [xc] at hc) <;> (try simp only [go_sem, hc]) <;> (try simp only [xb] at hc)) | refine wI ?_ | refine ex_idx (by omega) ?_ | fail)
  (refine hK _ ?_; clear hK K)
  refine CW.seqK fun K hK => ?_
  repeat' (first | refine wB ?_ | ((first | refine CW.regG hΓ [9, 21, 23, 31, 34, 43] [29] 179 0 (by rw [hκ]; rfl) (by kernel_rfl) (fun v0 => ?_) | refine CW.drwL hΓ Try_mixed [9, 16, 21, 23, 31, 34, 43] 0 (by rw [hκ]; rfl) (by kernel_rfl) (by kernel_rfl) fun v0 B hB => ?_); simp (config := { maxSteps := 2000000 }) only [go_sem]) | (refine w1 ?_; simp only [xs, xi, Nat.reduceEqDiff, reduceCtorEq, retL_ret, retL_normal]) | (refine wC (fun hb => ?_) fun hb => ?_ <;> (try simp only [xb, reduceCtorEq] at hb)) | (refine w2 (fun hc => ?_) (fun hc => ?_) <;> (try simp only [xc] at hc) <;> (try simp only [go_sem, hc]) <;> (try simp only [xb] at hc)) | refine wI ?_ | refine ex_idx (by omega) ?_ | fail)
  (first | refine W_askE rfl _ _ (⟨bs, p, parts, 12, rfl, hcd, by omega, hpa, by omega, rfl, rfl⟩) ?_ | refine D_askE rfl _ _ (⟨bs, p, parts, 12, rfl, hcd, by omega, hpa, by omega, rfl, rfl⟩) ?_); simp (config := { maxSteps := 2000000 }) only [go_sem]
  rw [hE]
  dsimp only
  repeat' (first | refine wB ?_ | ((first | refine CW.regG hΓ [9, 21, 23, 31, 34, 43] [29] 179 0 (by rw [hκ]; rfl) (by kernel_rfl) (fun v0 => ?_) | refine CW.drwL hΓ Try_mixed [9, 16, 21, 23, 31, 34, 43] 0 (by rw [hκ]; rfl) (by kernel_rfl) (by kernel_rfl) fun v0 B hB => ?_); simp (config := { maxSteps := 2000000 }) only [go_sem]) | (refine w1 ?_; simp only [xs, xi, Nat.reduceEqDiff, reduceCtorEq, retL_ret, retL_normal]) | (refine wC (fun hb => ?_) fun hb => ?_ <;> (try simp only [xb, reduceCtorEq] at hb)) | (refine w2 (fun hc => ?_) (fun hc => ?_) <;> (try simp only [xc] at hc) <;> (try simp only [go_sem, hc]) <;> (try simp only [xb] at hc)) | refine wI ?_ | refine ex_idx (by omega) ?_ | fail)
  (refine hK _ ?_; clear hK K)
  refine CW.frz 6 [] (oints e) (by simp [upd_at, getP]) rfl ?_
  simp (config := { maxSteps := 2000000 }) only [go_sem]
  repeat' (first | refine wS fun K hK => ?_ | refine wB ?_ | ((first | refine CW.regG hΓ [9, 21, 23, 31, 34, 43] [29] 179 0 (by rw [hκ]; rfl) (by kernel_rfl) (fun v0 => ?_) | refine CW.drwL hΓ Try_mixed [9, 16, 21, 23, 31, 34, 43] 0 (by rw [hκ]; rfl) (by kernel_rfl) (by kernel_rfl) fun v0 B hB => ?_); simp (config := { maxSteps := 2000000 }) only [go_sem]) | ((repeat ((fail_if_success (refine hK _ ?_)); clear hK K)); refine hK _ ?_; clear hK K) | (refine w1 ?_; simp only [xs, xi, Nat.reduceEqDiff, reduceCtorEq, retL_ret, retL_normal]) | (refine wC (fun hb => ?_) fun hb => ?_ <;> (try simp only [xb, reduceCtorEq] at hb)) | (refine w2 (fun hc => ?_) (fun hc => ?_) <;> (try simp only [xc] at hc) <;> (try simp only [go_sem, hc]) <;> (try simp only [xb] at hc)) | refine wI ?_ | refine ex_idx (by omega) ?_ | fail)
  (first | refine wA rfl _ (⟨e, by simp [view], by omega, rfl⟩) ?_ | refine dA rfl _ (⟨e, by simp [view], by omega, rfl⟩) ?_); simp (config := { maxSteps := 2000000 }) only [go_sem]
  repeat' (first | refine wS fun K hK => ?_ | refine wB ?_ | ((first | refine CW.regG hΓ [9, 21, 23, 31, 34, 43] [29] 179 0 (by rw [hκ]; rfl) (by kernel_rfl) (fun v0 => ?_) | refine CW.drwL hΓ Try_mixed [9, 16, 21, 23, 31, 34, 43] 0 (by rw [hκ]; rfl) (by kernel_rfl) (by kernel_rfl) fun v0 B hB => ?_); simp (config := { maxSteps := 2000000 }) only [go_sem]) | ((repeat ((fail_if_success (refine hK _ ?_)); clear hK K)); refine hK _ ?_; clear hK K) | (refine w1 ?_; simp only [xs, xi, Nat.reduceEqDiff, reduceCtorEq, retL_ret, retL_normal]) | (refine wC (fun hb => ?_) fun hb => ?_ <;> (try simp only [xb, reduceCtorEq] at hb)) | (refine w2 (fun hc => ?_) (fun hc => ?_) <;> (try simp only [xc] at hc) <;> (try simp only [go_sem, hc]) <;> (try simp only [xb] at hc)) | refine wI ?_ | refine ex_idx (by omega) ?_ | fail)
  · obtain ⟨x, hw, rfl, h40⟩ := katB_tree hc
    rw [if_neg (by simp [hc]), exOf_steps hw] at hX
    (first | refine W_askE rfl _ _ (⟨bs, p1, 3, rfl, hcd, by omega, by omega, rfl, rfl⟩) ?_ | refine D_askE rfl _ _ (⟨bs, p1, 3, rfl, hcd, by omega, by omega, rfl, rfl⟩) ?_); simp (config := { maxSteps := 2000000 }) only [go_sem]
    repeat' (first | refine wS fun K hK => ?_ | refine wB ?_ | ((first | refine CW.regG hΓ [9, 21, 23, 31, 34, 43] [29] 179 0 (by rw [hκ]; rfl) (by kernel_rfl) (fun v0 => ?_) | refine CW.drwL hΓ Try_mixed [9, 16, 21, 23, 31, 34, 43] 0 (by rw [hκ]; rfl) (by kernel_rfl) (by kernel_rfl) fun v0 B hB => ?_); simp (config := { maxSteps := 2000000 }) only [go_sem]) | ((repeat ((fail_if_success (refine hK _ ?_)); clear hK K)); refine hK _ ?_; clear hK K) | (refine w1 ?_; simp only [xs, xi, Nat.reduceEqDiff, reduceCtorEq, retL_ret, retL_normal]) | (refine wC (fun hb => ?_) fun hb => ?_ <;> (try simp only [xb, reduceCtorEq] at hb)) | (refine w2 (fun hc => ?_) (fun hc => ?_) <;> (try simp only [xc] at hc) <;> (try simp only [go_sem, hc]) <;> (try simp only [xb] at hc)) | refine wI ?_ | refine ex_idx (by omega) ?_ | fail)
    · rw [if_pos (by omega)] at hX
      (first | refine W_askE rfl _ _ (⟨bs, p1 + 1, 3, 12, rfl, hcd, by omega, by omega, by omega, rfl, rfl⟩) ?_ | refine D_askE rfl _ _ (⟨bs, p1 + 1, 3, 12, rfl, hcd, by omega, by omega, by omega, rfl, rfl⟩) ?_); simp (config := { maxSteps := 2000000 }) only [go_sem]
      repeat' (first | refine wS fun K hK => ?_ | refine wB ?_ | ((first | refine CW.regG hΓ [9, 21, 23, 31, 34, 43] [29] 179 0 (by rw [hκ]; rfl) (by kernel_rfl) (fun v0 => ?_) | refine CW.drwL hΓ Try_mixed [9, 16, 21, 23, 31, 34, 43] 0 (by rw [hκ]; rfl) (by kernel_rfl) (by kernel_rfl) fun v0 B hB => ?_); simp (config := { maxSteps := 2000000 }) only [go_sem]) | ((repeat ((fail_if_success (refine hK _ ?_)); clear hK K)); refine hK _ ?_; clear hK K) | (refine w1 ?_; simp only [xs, xi, Nat.reduceEqDiff, reduceCtorEq, retL_ret, retL_normal]) | (refine wC (fun hb => ?_) fun hb => ?_ <;> (try simp only [xb, reduceCtorEq] at hb)) | (refine w2 (fun hc => ?_) (fun hc => ?_) <;> (try simp only [xc] at hc) <;> (try simp only [go_sem, hc]) <;> (try simp only [xb] at hc)) | refine wI ?_ | refine ex_idx (by omega) ?_ | fail)
      rw [hX]
      simp [Try.results119, RetL, upd_at, plainB, isOwn, anyOwn]
      exact ⟨_, _, ⟨rfl, rfl⟩, rfl, rfl, .inl rfl, .inl rfl⟩
    · rw [if_neg (by omega)] at hX
      have f1 := ofX_p9 bs x (deep := 2) (p1 + 1) (by omega)
      have f2 := ofX_odd bs x 2 (p1 + 1)
      obtain ⟨⟨t, q⟩, hT⟩ : ∃ o, ofX bs x 2 (p1 + 1) = o := ⟨_, rfl⟩
      rw [hT] at f1 f2
      simp only [hT] at hX
      dsimp only at f1 f2
      (first | refine W_askE rfl _ _ (⟨bs, x, 2, p1 + 1, rfl, hw, by omega, by omega, hcd, by omega, rfl, rfl⟩) ?_ | refine D_askE rfl _ _ (⟨bs, x, 2, p1 + 1, rfl, hw, by omega, by omega, hcd, by omega, rfl, rfl⟩) ?_); simp (config := { maxSteps := 2000000 }) only [go_sem]
      rw [hT]
      dsimp only
      repeat' (first | refine wS fun K hK => ?_ | refine wB ?_ | ((first | refine CW.regG hΓ [9, 21, 23, 31, 34, 43] [29] 179 0 (by rw [hκ]; rfl) (by kernel_rfl) (fun v0 => ?_) | refine CW.drwL hΓ Try_mixed [9, 16, 21, 23, 31, 34, 43] 0 (by rw [hκ]; rfl) (by kernel_rfl) (by kernel_rfl) fun v0 B hB => ?_); simp (config := { maxSteps := 2000000 }) only [go_sem]) | ((repeat ((fail_if_success (refine hK _ ?_)); clear hK K)); refine hK _ ?_; clear hK K) | (refine w1 ?_; simp only [xs, xi, Nat.reduceEqDiff, reduceCtorEq, retL_ret, retL_normal]) | (refine wC (fun hb => ?_) fun hb => ?_ <;> (try simp only [xb, reduceCtorEq] at hb)) | (refine w2 (fun hc => ?_) (fun hc => ?_) <;> (try simp only [xc] at hc) <;> (try simp only [go_sem, hc]) <;> (try simp only [xb] at hc)) | refine wI ?_ | refine ex_idx (by omega) ?_ | fail)
      · rw [if_pos (show 41 < t.length by omega)] at hX
        have hu : (t.take 41).length = 41 := by simp; omega
        rw [show List.take (Int.toNat 41) (List.map I t) = List.map I (t.take 41) from by simp [List.map_take]]
        generalize t.take 41 = u at *
        (first | refine W_askE rfl _ _ (⟨bs, q, 5, rfl, hcd, by omega, by omega, rfl, rfl⟩) ?_ | refine D_askE rfl _ _ (⟨bs, q, 5, rfl, hcd, by omega, by omega, rfl, rfl⟩) ?_); simp (config := { maxSteps := 2000000 }) only [go_sem]
        repeat' (first | refine wS fun K hK => ?_ | refine wB ?_ | ((first | refine CW.regG hΓ [9, 21, 23, 31, 34, 43] [29] 179 0 (by rw [hκ]; rfl) (by kernel_rfl) (fun v0 => ?_) | refine CW.drwL hΓ Try_mixed [9, 16, 21, 23, 31, 34, 43] 0 (by rw [hκ]; rfl) (by kernel_rfl) (by kernel_rfl) fun v0 B hB => ?_); simp (config := { maxSteps := 2000000 }) only [go_sem]) | ((repeat ((fail_if_success (refine hK _ ?_)); clear hK K)); refine hK _ ?_; clear hK K) | (refine w1 ?_; simp only [xs, xi, Nat.reduceEqDiff, reduceCtorEq, retL_ret, retL_normal]) | (refine wC (fun hb => ?_) fun hb => ?_ <;> (try simp only [xb, reduceCtorEq] at hb)) | (refine w2 (fun hc => ?_) (fun hc => ?_) <;> (try simp only [xc] at hc) <;> (try simp only [go_sem, hc]) <;> (try simp only [xb] at hc)) | refine wI ?_ | refine ex_idx (by omega) ?_ | fail)
        · rw [if_pos (by omega)] at hX
          have eL : ((u.length : Int) / 2 + 1) = ((u.length / 2 + 1 : Nat) : Int) := by omega
          have pb := pickX_lt (bs := bs) (p := q + 1) (n := u.length / 2 + 1) (by omega)
          obtain ⟨a, ha⟩ : ∃ a, pickX bs (q + 1) (u.length / 2 + 1) = a := ⟨_, rfl⟩
          rw [ha] at hX pb
          rw [eL]
          (first | refine W_askE rfl _ _ (⟨bs, q + 1, u.length / 2 + 1, rfl, hcd, by omega, by omega, rfl, rfl⟩) ?_ | refine D_askE rfl _ _ (⟨bs, q + 1, u.length / 2 + 1, rfl, hcd, by omega, by omega, rfl, rfl⟩) ?_); simp (config := { maxSteps := 2000000 }) only [go_sem]
          rw [ha]
          repeat' (first | refine wS fun K hK => ?_ | refine wB ?_ | ((first | refine CW.regG hΓ [9, 21, 23, 31, 34, 43] [29] 179 0 (by rw [hκ]; rfl) (by kernel_rfl) (fun v0 => ?_) | refine CW.drwL hΓ Try_mixed [9, 16, 21, 23, 31, 34, 43] 0 (by rw [hκ]; rfl) (by kernel_rfl) (by kernel_rfl) fun v0 B hB => ?_); simp (config := { maxSteps := 2000000 }) only [go_sem]) | ((repeat ((fail_if_success (refine hK _ ?_)); clear hK K)); refine hK _ ?_; clear hK K) | (refine w1 ?_; simp only [xs, xi, Nat.reduceEqDiff, reduceCtorEq, retL_ret, retL_normal]) | (refine wC (fun hb => ?_) fun hb => ?_ <;> (try simp only [xb, reduceCtorEq] at hb)) | (refine w2 (fun hc => ?_) (fun hc => ?_) <;> (try simp only [xc] at hc) <;> (try simp only [go_sem, hc]) <;> (try simp only [xb] at hc)) | refine wI ?_ | refine ex_idx (by omega) ?_ | fail)
          (first | refine W_askE rfl _ _ (⟨bs, q + 2, 4, rfl, hcd, by omega, by omega, rfl, rfl⟩) ?_ | refine D_askE rfl _ _ (⟨bs, q + 2, 4, rfl, hcd, by omega, by omega, rfl, rfl⟩) ?_); simp (config := { maxSteps := 2000000 }) only [go_sem]
          repeat' (first | refine wS fun K hK => ?_ | refine wB ?_ | ((first | refine CW.regG hΓ [9, 21, 23, 31, 34, 43] [29] 179 0 (by rw [hκ]; rfl) (by kernel_rfl) (fun v0 => ?_) | refine CW.drwL hΓ Try_mixed [9, 16, 21, 23, 31, 34, 43] 0 (by rw [hκ]; rfl) (by kernel_rfl) (by kernel_rfl) fun v0 B hB => ?_); simp (config := { maxSteps := 2000000 }) only [go_sem]) | ((repeat ((fail_if_success (refine hK _ ?_)); clear hK K)); refine hK _ ?_; clear hK K) | (refine w1 ?_; simp only [xs, xi, Nat.reduceEqDiff, reduceCtorEq, retL_ret, retL_normal]) | (refine wC (fun hb => ?_) fun hb => ?_ <;> (try simp only [xb, reduceCtorEq] at hb)) | (refine w2 (fun hc => ?_) (fun hc => ?_) <;> (try simp only [xc] at hc) <;> (try simp only [go_sem, hc]) <;> (try simp only [xb] at hc)) | refine wI ?_ | refine ex_idx (by omega) ?_ | fail)
          have eA : ((a : Int) * 2).toNat = a * 2 := by omega
          have eS : (List.map I u).set (a * 2) (num IntKind.i64 (pickX bs (q + 2) 4 : Int)) = List.map I (u.set (a * 2) (pickX bs (q + 2) 4 : Int)) := List.map_set.symm
          rw [eA, eS, hX]
          generalize u.set (a * 2) (pickX bs (q + 2) 4 : Int) = w
          simp [Try.results119, RetL, upd_at, plainB, isOwn, anyOwn]
          refine ⟨by omega, _, _, ⟨rfl, rfl⟩, rfl, rfl, .inl rfl, .inl rfl⟩
        · rw [if_neg (by omega)] at hX
          rw [hX]
          simp [Try.results119, RetL, upd_at, plainB, isOwn, anyOwn]
          exact ⟨_, _, ⟨rfl, rfl⟩, rfl, rfl, .inl rfl, .inl rfl⟩
      · rw [if_neg (show ¬ 41 < t.length by omega)] at hX
        obtain ⟨u, hut⟩ : ∃ u, t = u := ⟨_, rfl⟩
        rw [hut] at hX f2 ⊢
        have hu : u.length ≤ 41 := by rw [← hut]; omega
        (first | refine W_askE rfl _ _ (⟨bs, q, 5, rfl, hcd, by omega, by omega, rfl, rfl⟩) ?_ | refine D_askE rfl _ _ (⟨bs, q, 5, rfl, hcd, by omega, by omega, rfl, rfl⟩) ?_); simp (config := { maxSteps := 2000000 }) only [go_sem]
        repeat' (first | refine wS fun K hK => ?_ | refine wB ?_ | ((first | refine CW.regG hΓ [9, 21, 23, 31, 34, 43] [29] 179 0 (by rw [hκ]; rfl) (by kernel_rfl) (fun v0 => ?_) | refine CW.drwL hΓ Try_mixed [9, 16, 21, 23, 31, 34, 43] 0 (by rw [hκ]; rfl) (by kernel_rfl) (by kernel_rfl) fun v0 B hB => ?_); simp (config := { maxSteps := 2000000 }) only [go_sem]) | ((repeat ((fail_if_success (refine hK _ ?_)); clear hK K)); refine hK _ ?_; clear hK K) | (refine w1 ?_; simp only [xs, xi, Nat.reduceEqDiff, reduceCtorEq, retL_ret, retL_normal]) | (refine wC (fun hb => ?_) fun hb => ?_ <;> (try simp only [xb, reduceCtorEq] at hb)) | (refine w2 (fun hc => ?_) (fun hc => ?_) <;> (try simp only [xc] at hc) <;> (try simp only [go_sem, hc]) <;> (try simp only [xb] at hc)) | refine wI ?_ | refine ex_idx (by omega) ?_ | fail)
        · rw [if_pos (by omega)] at hX
          have eL : ((u.length : Int) / 2 + 1) = ((u.length / 2 + 1 : Nat) : Int) := by omega
          have pb := pickX_lt (bs := bs) (p := q + 1) (n := u.length / 2 + 1) (by omega)
          obtain ⟨a, ha⟩ : ∃ a, pickX bs (q + 1) (u.length / 2 + 1) = a := ⟨_, rfl⟩
          rw [ha] at hX pb
          rw [eL]
          (first | refine W_askE rfl _ _ (⟨bs, q + 1, u.length / 2 + 1, rfl, hcd, by omega, by omega, rfl, rfl⟩) ?_ | refine D_askE rfl _ _ (⟨bs, q + 1, u.length / 2 + 1, rfl, hcd, by omega, by omega, rfl, rfl⟩) ?_); simp (config := { maxSteps := 2000000 }) only [go_sem]
          rw [ha]
          repeat' (first | refine wS fun K hK => ?_ | refine wB ?_ | ((first | refine CW.regG hΓ [9, 21, 23, 31, 34, 43] [29] 179 0 (by rw [hκ]; rfl) (by kernel_rfl) (fun v0 => ?_) | refine CW.drwL hΓ Try_mixed [9, 16, 21, 23, 31, 34, 43] 0 (by rw [hκ]; rfl) (by kernel_rfl) (by kernel_rfl) fun v0 B hB => ?_); simp (config := { maxSteps := 2000000 }) only [go_sem]) | ((repeat ((fail_if_success (refine hK _ ?_)); clear hK K)); refine hK _ ?_; clear hK K) | (refine w1 ?_; simp only [xs, xi, Nat.reduceEqDiff, reduceCtorEq, retL_ret, retL_normal]) | (refine wC (fun hb => ?_) fun hb => ?_ <;> (try simp only [xb, reduceCtorEq] at hb)) | (refine w2 (fun hc => ?_) (fun hc => ?_) <;> (try simp only [xc] at hc) <;> (try simp only [go_sem, hc]) <;> (try simp only [xb] at hc)) | refine wI ?_ | refine ex_idx (by omega) ?_ | fail)
          (first | refine W_askE rfl _ _ (⟨bs, q + 2, 4, rfl, hcd, by omega, by omega, rfl, rfl⟩) ?_ | refine D_askE rfl _ _ (⟨bs, q + 2, 4, rfl, hcd, by omega, by omega, rfl, rfl⟩) ?_); simp (config := { maxSteps := 2000000 }) only [go_sem]
          repeat' (first | refine wS fun K hK => ?_ | refine wB ?_ | ((first | refine CW.regG hΓ [9, 21, 23, 31, 34, 43] [29] 179 0 (by rw [hκ]; rfl) (by kernel_rfl) (fun v0 => ?_) | refine CW.drwL hΓ Try_mixed [9, 16, 21, 23, 31, 34, 43] 0 (by rw [hκ]; rfl) (by kernel_rfl) (by kernel_rfl) fun v0 B hB => ?_); simp (config := { maxSteps := 2000000 }) only [go_sem]) | ((repeat ((fail_if_success (refine hK _ ?_)); clear hK K)); refine hK _ ?_; clear hK K) | (refine w1 ?_; simp only [xs, xi, Nat.reduceEqDiff, reduceCtorEq, retL_ret, retL_normal]) | (refine wC (fun hb => ?_) fun hb => ?_ <;> (try simp only [xb, reduceCtorEq] at hb)) | (refine w2 (fun hc => ?_) (fun hc => ?_) <;> (try simp only [xc] at hc) <;> (try simp only [go_sem, hc]) <;> (try simp only [xb] at hc)) | refine wI ?_ | refine ex_idx (by omega) ?_ | fail)
          have eA : ((a : Int) * 2).toNat = a * 2 := by omega
          have eS : (List.map I u).set (a * 2) (num IntKind.i64 (pickX bs (q + 2) 4 : Int)) = List.map I (u.set (a * 2) (pickX bs (q + 2) 4 : Int)) := List.map_set.symm
          rw [eA, eS, hX]
          generalize u.set (a * 2) (pickX bs (q + 2) 4 : Int) = w
          simp [Try.results119, RetL, upd_at, plainB, isOwn, anyOwn]
          refine ⟨by omega, _, _, ⟨rfl, rfl⟩, rfl, rfl, .inl rfl, .inl rfl⟩
        · rw [if_neg (by omega)] at hX
          rw [hX]
          simp [Try.results119, RetL, upd_at, plainB, isOwn, anyOwn]
          exact ⟨_, _, ⟨rfl, rfl⟩, rfl, rfl, .inl rfl, .inl rfl⟩
  · rw [if_pos hc] at hX
    (first | refine W_askE rfl _ _ (⟨bs, p1, 3, 12, rfl, hcd, by omega, by omega, by omega, rfl, rfl⟩) ?_ | refine D_askE rfl _ _ (⟨bs, p1, 3, 12, rfl, hcd, by omega, by omega, by omega, rfl, rfl⟩) ?_); simp (config := { maxSteps := 2000000 }) only [go_sem]
    repeat' (first | refine wS fun K hK => ?_ | refine wB ?_ | ((first | refine CW.regG hΓ [9, 21, 23, 31, 34, 43] [29] 179 0 (by rw [hκ]; rfl) (by kernel_rfl) (fun v0 => ?_) | refine CW.drwL hΓ Try_mixed [9, 16, 21, 23, 31, 34, 43] 0 (by rw [hκ]; rfl) (by kernel_rfl) (by kernel_rfl) fun v0 B hB => ?_); simp (config := { maxSteps := 2000000 }) only [go_sem]) | ((repeat ((fail_if_success (refine hK _ ?_)); clear hK K)); refine hK _ ?_; clear hK K) | (refine w1 ?_; simp only [xs, xi, Nat.reduceEqDiff, reduceCtorEq, retL_ret, retL_normal]) | (refine wC (fun hb => ?_) fun hb => ?_ <;> (try simp only [xb, reduceCtorEq] at hb)) | (refine w2 (fun hc => ?_) (fun hc => ?_) <;> (try simp only [xc] at hc) <;> (try simp only [go_sem, hc]) <;> (try simp only [xb] at hc)) | refine wI ?_ | refine ex_idx (by omega) ?_ | fail)
    rw [hX]
    simp [Try.results119, RetL, upd_at, plainB, isOwn, anyOwn]
    exact ⟨_, _, ⟨rfl, rfl⟩, rfl, rfl, .inl rfl, .inl rfl⟩

end Go.Proofs.Ytboandkjhdaobaa
