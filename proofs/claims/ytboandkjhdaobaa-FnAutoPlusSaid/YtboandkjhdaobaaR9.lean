/- The reference's draw of an automaton, walked by the engine. -/
import Derived.Test.YtboandkjhdaobaaR9p
import Derived.Test.YtboandkjhdaobaaGrpM
import Derived.Test.YtboandkjhdaobaaGrpL
import Derived.Test.YtboandkjhdaobaaGrpK
import Derived.Test.YtboandkjhdaobaaEngMin
namespace Go.Proofs.Ytboandkjhdaobaa
set_option linter.unusedSimpArgs false
set_option linter.unusedVariables false
set_option maxRecDepth 8000
set_option maxHeartbeats 2000000
open Go Go.RowKit AV

attribute [local go_sem] List.nil_prefix wpOpsY_cons wpOpsY_nil KOpsY_app rdGM minOf rdMin rdMinN wpOpsDR_cons wpOpsDR_nil KOpsR_app rdLR lentMv lentCall

def autoXR (args : List AV) (r : AV) (args' : List AV) : Prop := ∃ (bs : List Nat) (p most n : Nat), args = [rdr bs p, I (most : Int), I (n : Int)] ∧ CodeOK bs ∧ p < 1099507000000 ∧ 1 ≤ most ∧ most ≤ 10 ∧ n < 1099511627776 ∧ r = agg [ints (autoX bs p most n).1.ends, rows (autoX bs p most n).1.next] ∧ args' = [rdr bs (autoX bs p most n).2]
theorem auto_ctr : CtrOK Try.prog 118 (effC autoXR) := by
  refine ctr_lend' Try.func118 rfl rfl Try.ntmps118 ?_
  rintro _ _ _ ⟨bs, p, most, n, rfl, hcd, hp, hm, hm10, hn, rfl, rfl⟩
  refine ⟨_, rfl, by simp, by simp, fun κ hκ => ?_⟩
  have hbig := bigW_gt
  rw [argEnv_eq]
  simp only [envA]
  have hΓ := ctxOf_ok (P := Try.prog) (cx pick_ctr <| cx odd_ctr <| cx prog_ctr <| cx specAutoOf_ctr <| cx0)
  refine CW.retF ?_
  have hBok := baseX_ok bs p most hm
  have hBp := baseX_p bs p most hm
  have hBl := baseX_len bs p most hm
  have hE := progX_p bs p 4 0
  have hEl := progX_len bs p 4 0
  have hX : autoX bs p most n = if (oddX bs (baseX bs p most).2 n).1 then (spoilX (pickX bs (oddX bs (baseX bs p most).2 n).2 4) (baseX bs p most).1, (oddX bs (baseX bs p most).2 n).2 + 1) else ((baseX bs p most).1, (oddX bs (baseX bs p most).2 n).2) := rfl
  obtain ⟨⟨D, q⟩, hB⟩ : ∃ o, baseX bs p most = o := ⟨_, rfl⟩
  rw [hB] at hBok hBp hBl hX
  dsimp only at hBok hBp hBl hX
  have hBo := oddX_p bs q n
  obtain ⟨⟨oo, q1⟩, hO⟩ : ∃ o, oddX bs q n = o := ⟨_, rfl⟩
  rw [hO] at hBo hX
  dsimp only at hBo hX
  obtain ⟨⟨D2, q2⟩, hA2⟩ : ∃ o, autoX bs p most n = o := ⟨_, rfl⟩
  rw [hA2] at hX
  rw [hA2]
  dsimp only
  refine CW.seqK fun K hK => ?_
  repeat' (first | refine wB ?_ | ((first | refine wR hΓ ?_ | refine CW.drwL hΓ Try_mixed [46, 48] 0 (by rw [hκ]; rfl) (by kernel_rfl) (by kernel_rfl) fun v0 B hB => ?_); simp (config := { maxSteps := 2000000 }) only [go_sem]) | (refine w1 ?_; simp only [xs, xi, Nat.reduceEqDiff, reduceCtorEq, retL_ret, retL_normal, retF_L_ret, retF_L_normal, retF_Q_ret, retF_Q_normal, retF_M_ret, retF_M_normal, retF_ML_ret, retF_ML_normal]) | (refine wC (fun hb => ?_) fun hb => ?_ <;> (try simp only [xb, reduceCtorEq] at hb)) | (refine w2 (fun hc => ?_) (fun hc => ?_) <;> (try simp only [xc] at hc) <;> (try simp only [go_sem, hc]) <;> (try simp only [xb] at hc)) | refine wI ?_ | refine ex_idx (by omega) ?_ | fail)
  (refine hK _ ?_; clear hK K)
  refine CW.seqK fun K hK => ?_
  repeat' (first | refine wB ?_ | ((first | refine wR hΓ ?_ | refine CW.drwL hΓ Try_mixed [46, 48] 0 (by rw [hκ]; rfl) (by kernel_rfl) (by kernel_rfl) fun v0 B hB => ?_); simp (config := { maxSteps := 2000000 }) only [go_sem]) | (refine w1 ?_; simp only [xs, xi, Nat.reduceEqDiff, reduceCtorEq, retL_ret, retL_normal, retF_L_ret, retF_L_normal, retF_Q_ret, retF_Q_normal, retF_M_ret, retF_M_normal, retF_ML_ret, retF_ML_normal]) | (refine wC (fun hb => ?_) fun hb => ?_ <;> (try simp only [xb, reduceCtorEq] at hb)) | (refine w2 (fun hc => ?_) (fun hc => ?_) <;> (try simp only [xc] at hc) <;> (try simp only [go_sem, hc]) <;> (try simp only [xb] at hc)) | refine wI ?_ | refine ex_idx (by omega) ?_ | fail)
  (first | refine W_askE rfl _ _ (⟨bs, p, 4, 0, rfl, hcd, by omega, by omega, by omega, rfl, rfl⟩) ?_ | refine D_askE rfl _ _ (⟨bs, p, 4, 0, rfl, hcd, by omega, by omega, by omega, rfl, rfl⟩) ?_); simp (config := { maxSteps := 2000000 }) only [go_sem]
  have hb0 : ∀ q0, q0 = (progX bs p 4 0).2 ∧ (most < (autD (progX bs p 4 0).1).ends.length ∨ (autD (progX bs p 4 0).1).ends.length = 0) ∨ q0 = (progX bs p 4 0).2 + 1 ∧ ¬ (most < (autD (progX bs p 4 0).1).ends.length ∨ (autD (progX bs p 4 0).1).ends.length = 0) ∧ pickX bs (progX bs p 4 0).2 3 = 0 → D = rndX bs (q0 + 1) (1 + pickX bs q0 (min most 4)) (1 + pickX bs q0 (min most 4)) ∧ q = q0 + 1 + 26 * (1 + pickX bs q0 (min most 4)) := by
    intro q0 h
    refine Prod.mk.inj ?_
    rw [← hB]
    unfold baseX
    dsimp only
    rcases h with ⟨rfl, h⟩ | ⟨rfl, h1, h2⟩
    · rw [if_pos h]
    · rw [if_neg h1, if_pos h2]
  have hb1 : ¬ (most < (autD (progX bs p 4 0).1).ends.length ∨ (autD (progX bs p 4 0).1).ends.length = 0) → ¬ pickX bs (progX bs p 4 0).2 3 = 0 → D = autD (progX bs p 4 0).1 ∧ q = (progX bs p 4 0).2 + 1 := by
    intro h1 h2
    refine Prod.mk.inj ?_
    rw [← hB]
    unfold baseX
    dsimp only
    rw [if_neg h1, if_neg h2]
  obtain ⟨⟨E, p1⟩, hPX⟩ : ∃ o, progX bs p 4 0 = o := ⟨_, rfl⟩
  rw [hPX] at hE hEl hb0 hb1 ⊢
  dsimp only at hE hEl hb0 hb1 ⊢
  (first | refine wA rfl _ (⟨E, by simp [view_I, view], by omega, rfl⟩) ?_ | refine dA rfl _ (⟨E, by simp [view_I, view], by omega, rfl⟩) ?_); simp (config := { maxSteps := 2000000 }) only [go_sem]
  obtain ⟨A, hA⟩ : ∃ A, autD E = A := ⟨_, rfl⟩
  rw [hA] at hb0 hb1 ⊢
  repeat' (first | refine wB ?_ | ((first | refine wR hΓ ?_ | refine CW.drwL hΓ Try_mixed [46, 48] 0 (by rw [hκ]; rfl) (by kernel_rfl) (by kernel_rfl) fun v0 B hB => ?_); simp (config := { maxSteps := 2000000 }) only [go_sem]) | (refine w1 ?_; simp only [xs, xi, Nat.reduceEqDiff, reduceCtorEq, retL_ret, retL_normal, retF_L_ret, retF_L_normal, retF_Q_ret, retF_Q_normal, retF_M_ret, retF_M_normal, retF_ML_ret, retF_ML_normal]) | (refine wC (fun hb => ?_) fun hb => ?_ <;> (try simp only [xb, reduceCtorEq] at hb)) | (refine w2 (fun hc => ?_) (fun hc => ?_) <;> (try simp only [xc] at hc) <;> (try simp only [go_sem, hc]) <;> (try simp only [xb] at hc)) | refine wI ?_ | refine ex_idx (by omega) ?_ | fail)
  (refine hK _ ?_; clear hK K)
  refine CW.seqM (ι := Unit) (fun _ => [(0, rdr bs q), (1, I (most : Int)), (2, I (n : Int)), (6, box [own [], own []]), (7, box [oints D.ends, oorows D.next])]) (fun _ => True) ?_ ?_
  · -- behind the first part
    rintro _ _
    simp only [envOf]
    refine CW.seqM (ι := Unit) (fun _ => [(0, rdr bs q2), (1, I (most : Int)), (2, I (n : Int)), (6, box [own [], own []]), (7, pbox [ints D2.ends, rows D2.next])]) (fun _ => True) ?_ ?_
    · rintro _ _
      simp only [envOf]
      have hS2 : SmallA D2 ∧ ∀ x ∈ D2.next, ∀ y ∈ x, y ≤ 2 ^ D2.ends.length := by
        cases oo
        · rw [if_neg (by decide)] at hX
          injection hX with e1 e2
          subst e1
          exact ⟨hBok.small, hBok.le⟩
        · rw [if_pos rfl] at hX
          injection hX with e1 e2
          subst e1
          exact spoilX_small hBok _
      obtain ⟨⟨hs1, hs2, hs3⟩, hle⟩ := hS2
      have hpw : (1 : Int) ≤ 2 ^ D2.ends.length ∧ (2 : Int) ^ D2.ends.length ≤ 1024 := pow_bd10 hs1
      refine CW.seqK fun K hK => ?_
      repeat' (first | refine wS fun K hK => ?_ | refine wB ?_ | ((first | refine wR hΓ ?_ | refine CW.drwL hΓ Try_mixed [46, 48] 0 (by rw [hκ]; rfl) (by kernel_rfl) (by kernel_rfl) fun v0 B hB => ?_); simp (config := { maxSteps := 2000000 }) only [go_sem]) | ((repeat ((fail_if_success (refine hK _ ?_)); clear hK K)); refine hK _ ?_; clear hK K) | (refine w1 ?_; simp only [xs, xi, Nat.reduceEqDiff, reduceCtorEq, retL_ret, retL_normal, retF_L_ret, retF_L_normal, retF_Q_ret, retF_Q_normal, retF_M_ret, retF_M_normal, retF_ML_ret, retF_ML_normal]) | (refine wC (fun hb => ?_) fun hb => ?_ <;> (try simp only [xb, reduceCtorEq] at hb)) | (refine w2 (fun hc => ?_) (fun hc => ?_) <;> (try simp only [xc] at hc) <;> (try simp only [go_sem, hc]) <;> (try simp only [xb] at hc)) | refine wI ?_ | refine ex_idx (by omega) ?_ | fail)
      refine CW.loop (ι := Nat) (fun k => [(0, rdr bs q2), (6, box [own [], own []]), (7, pbox [ints D2.ends, rows D2.next]), (12, I k)]) (fun k => k ≤ D2.next.length) (fun k => D2.next.length - k) 0 ?_ ?_
      · exact ⟨by (simp only [xe, xj, Nat.reduceEqDiff]; (try simp [view, viewL_map]); (try omega)), by omega⟩
      rintro k hk
      simp only [envOf]
      repeat' (first | refine wS fun K hK => ?_ | refine wB ?_ | ((first | refine wR hΓ ?_ | refine CW.drwL hΓ Try_mixed [46, 48] 0 (by rw [hκ]; rfl) (by kernel_rfl) (by kernel_rfl) fun v0 B hB => ?_); simp (config := { maxSteps := 2000000 }) only [go_sem]) | ((repeat ((fail_if_success (refine hK _ ?_)); clear hK K)); refine hK _ ?_; clear hK K) | (refine w1 ?_; simp only [xs, xi, Nat.reduceEqDiff, reduceCtorEq, retL_ret, retL_normal, retF_L_ret, retF_L_normal, retF_Q_ret, retF_Q_normal, retF_M_ret, retF_M_normal, retF_ML_ret, retF_ML_normal]) | (refine wC (fun hb => ?_) fun hb => ?_ <;> (try simp only [xb, reduceCtorEq] at hb)) | (refine w2 (fun hc => ?_) (fun hc => ?_) <;> (try simp only [xc] at hc) <;> (try simp only [go_sem, hc]) <;> (try simp only [xb] at hc)) | refine wI ?_ | refine ex_idx (by omega) ?_ | fail)
      · have hkl : k < D2.next.length := by omega
        have hr := hs3 _ (List.getElem_mem hkl)
        refine CW.loop (ι := Nat) (fun j => [(0, rdr bs q2), (6, box [own [], own []]), (7, pbox [ints D2.ends, rows D2.next]), (12, I k), (13, I j)]) (fun j => j ≤ D2.next[k].length) (fun j => D2.next[k].length - j) 0 ?_ ?_
        · exact ⟨by (simp only [xe, xj, Nat.reduceEqDiff]; (try simp [view, viewL_map]); (try omega)), by omega⟩
        rintro j hj
        simp only [envOf]
        repeat' (first | refine wS fun K hK => ?_ | refine wB ?_ | ((first | refine wR hΓ ?_ | refine CW.drwL hΓ Try_mixed [46, 48] 0 (by rw [hκ]; rfl) (by kernel_rfl) (by kernel_rfl) fun v0 B hB => ?_); simp (config := { maxSteps := 2000000 }) only [go_sem]) | ((repeat ((fail_if_success (refine hK _ ?_)); clear hK K)); refine hK _ ?_; clear hK K) | (refine w1 ?_; simp only [xs, xi, Nat.reduceEqDiff, reduceCtorEq, retL_ret, retL_normal, retF_L_ret, retF_L_normal, retF_Q_ret, retF_Q_normal, retF_M_ret, retF_M_normal, retF_ML_ret, retF_ML_normal]) | (refine wC (fun hb => ?_) fun hb => ?_ <;> (try simp only [xb, reduceCtorEq] at hb)) | (refine w2 (fun hc => ?_) (fun hc => ?_) <;> (try simp only [xc] at hc) <;> (try simp only [go_sem, hc]) <;> (try simp only [xb] at hc)) | refine wI ?_ | refine ex_idx (by omega) ?_ | fail)
        · have h9 := hle _ (List.getElem_mem hkl) _ (List.getElem_mem (show j < D2.next[k].length by omega))
          exfalso
          omega
        · exact ⟨j + 1, by (simp only [xe, xj, Nat.reduceEqDiff]; (try simp [view, viewL_map]); (try omega)), by omega, by omega⟩
        · exact ⟨k + 1, by (simp only [xe, xj, Nat.reduceEqDiff]; (try simp [view, viewL_map]); (try omega)), by omega, by omega⟩
      · refine ⟨_, .refl _, ?_⟩
        simp [Try.results118, RetL, upd_at, plainB, isOwn, anyOwn, Ty_aggT_31, Ty_szT_31]
    · refine CW.seqK fun K hK => ?_
      repeat' (first | refine wB ?_ | ((first | refine wR hΓ ?_ | refine CW.drwL hΓ Try_mixed [46, 48] 0 (by rw [hκ]; rfl) (by kernel_rfl) (by kernel_rfl) fun v0 B hB => ?_); simp (config := { maxSteps := 2000000 }) only [go_sem]) | (refine w1 ?_; simp only [xs, xi, Nat.reduceEqDiff, reduceCtorEq, retL_ret, retL_normal, retF_L_ret, retF_L_normal, retF_Q_ret, retF_Q_normal, retF_M_ret, retF_M_normal, retF_ML_ret, retF_ML_normal]) | (refine wC (fun hb => ?_) fun hb => ?_ <;> (try simp only [xb, reduceCtorEq] at hb)) | (refine w2 (fun hc => ?_) (fun hc => ?_) <;> (try simp only [xc] at hc) <;> (try simp only [go_sem, hc]) <;> (try simp only [xb] at hc)) | refine wI ?_ | refine ex_idx (by omega) ?_ | fail)
      (first | refine W_askE rfl _ _ (⟨bs, q, n, rfl, hcd, by omega, hn, rfl, rfl⟩) ?_ | refine D_askE rfl _ _ (⟨bs, q, n, rfl, hcd, by omega, hn, rfl, rfl⟩) ?_); simp (config := { maxSteps := 2000000 }) only [go_sem]
      rw [hO]
      dsimp only
      repeat' (first | refine wB ?_ | ((first | refine wR hΓ ?_ | refine CW.drwL hΓ Try_mixed [46, 48] 0 (by rw [hκ]; rfl) (by kernel_rfl) (by kernel_rfl) fun v0 B hB => ?_); simp (config := { maxSteps := 2000000 }) only [go_sem]) | (refine w1 ?_; simp only [xs, xi, Nat.reduceEqDiff, reduceCtorEq, retL_ret, retL_normal, retF_L_ret, retF_L_normal, retF_Q_ret, retF_Q_normal, retF_M_ret, retF_M_normal, retF_ML_ret, retF_ML_normal]) | (refine wC (fun hb => ?_) fun hb => ?_ <;> (try simp only [xb, reduceCtorEq] at hb)) | (refine w2 (fun hc => ?_) (fun hc => ?_) <;> (try simp only [xc] at hc) <;> (try simp only [go_sem, hc]) <;> (try simp only [xb] at hc)) | refine wI ?_ | refine ex_idx (by omega) ?_ | fail)
      (refine hK _ ?_; clear hK K)
      cases oo
      · repeat' (first | refine wS fun K hK => ?_ | refine wB ?_ | ((first | refine wR hΓ ?_ | refine CW.drwL hΓ Try_mixed [46, 48] 0 (by rw [hκ]; rfl) (by kernel_rfl) (by kernel_rfl) fun v0 B hB => ?_); simp (config := { maxSteps := 2000000 }) only [go_sem]) | ((repeat ((fail_if_success (refine hK _ ?_)); clear hK K)); refine hK _ ?_; clear hK K) | (refine w1 ?_; simp only [xs, xi, Nat.reduceEqDiff, reduceCtorEq, retL_ret, retL_normal, retF_L_ret, retF_L_normal, retF_Q_ret, retF_Q_normal, retF_M_ret, retF_M_normal, retF_ML_ret, retF_ML_normal]) | (refine wC (fun hb => ?_) fun hb => ?_ <;> (try simp only [xb, reduceCtorEq] at hb)) | (refine w2 (fun hc => ?_) (fun hc => ?_) <;> (try simp only [xc] at hc) <;> (try simp only [go_sem, hc]) <;> (try simp only [xb] at hc)) | refine wI ?_ | refine ex_idx (by omega) ?_ | fail)
        rw [if_neg (by decide)] at hX
        injection hX with e1 e2
        subst e1 e2
        exact ⟨(), by (simp only [xe, xj, Nat.reduceEqDiff]; (try simp [view, viewL_map]); (try omega)), trivial⟩
      · rw [if_pos rfl] at hX
        injection hX with e1 e2
        (refine wC (fun hb => ?_) fun hb => ?_ <;> (try simp only [xb, reduceCtorEq] at hb))
        refine CW.seqK fun K hK => ?_
        repeat' (first | refine wB ?_ | ((first | refine wR hΓ ?_ | refine CW.drwL hΓ Try_mixed [46, 48] 0 (by rw [hκ]; rfl) (by kernel_rfl) (by kernel_rfl) fun v0 B hB => ?_); simp (config := { maxSteps := 2000000 }) only [go_sem]) | (refine w1 ?_; simp only [xs, xi, Nat.reduceEqDiff, reduceCtorEq, retL_ret, retL_normal, retF_L_ret, retF_L_normal, retF_Q_ret, retF_Q_normal, retF_M_ret, retF_M_normal, retF_ML_ret, retF_ML_normal]) | (refine wC (fun hb => ?_) fun hb => ?_ <;> (try simp only [xb, reduceCtorEq] at hb)) | (refine w2 (fun hc => ?_) (fun hc => ?_) <;> (try simp only [xc] at hc) <;> (try simp only [go_sem, hc]) <;> (try simp only [xb] at hc)) | refine wI ?_ | refine ex_idx (by omega) ?_ | fail)
        (first | refine W_askE rfl _ _ (⟨bs, q1, 4, rfl, hcd, by omega, by omega, rfl, rfl⟩) ?_ | refine D_askE rfl _ _ (⟨bs, q1, 4, rfl, hcd, by omega, by omega, rfl, rfl⟩) ?_); simp (config := { maxSteps := 2000000 }) only [go_sem]
        repeat' (first | refine wB ?_ | ((first | refine wR hΓ ?_ | refine CW.drwL hΓ Try_mixed [46, 48] 0 (by rw [hκ]; rfl) (by kernel_rfl) (by kernel_rfl) fun v0 B hB => ?_); simp (config := { maxSteps := 2000000 }) only [go_sem]) | (refine w1 ?_; simp only [xs, xi, Nat.reduceEqDiff, reduceCtorEq, retL_ret, retL_normal, retF_L_ret, retF_L_normal, retF_Q_ret, retF_Q_normal, retF_M_ret, retF_M_normal, retF_ML_ret, retF_ML_normal]) | (refine wC (fun hb => ?_) fun hb => ?_ <;> (try simp only [xb, reduceCtorEq] at hb)) | (refine w2 (fun hc => ?_) (fun hc => ?_) <;> (try simp only [xc] at hc) <;> (try simp only [go_sem, hc]) <;> (try simp only [xb] at hc)) | refine wI ?_ | refine ex_idx (by omega) ?_ | fail)
        (refine hK _ ?_; clear hK K)
        have hc4 := pickX_lt (bs := bs) (p := q1) (n := 4) (by decide)
        obtain ⟨c, hc⟩ : ∃ c, pickX bs q1 4 = c := ⟨_, rfl⟩
        rw [hc] at hc4 e1 ⊢
        have hdl := hBok.len
        have hdlo := hBok.lo
        have hdhi := hBok.hi
        have hpw : (1 : Int) ≤ 2 ^ D.ends.length ∧ (2 : Int) ^ D.ends.length ≤ 1024 := pow_bd10 hdhi
        have hr0 := hBok.rows 0 (by omega)
        obtain ⟨r0, rs, hN⟩ : ∃ r0 rs, D.next = r0 :: rs := by
          cases h : D.next with
          | nil => rw [h] at hdl; simp at hdl; omega
          | cons a b => exact ⟨a, b, rfl⟩
        have hr1 : nthL D.next 0 = r0 := by rw [hN]; rfl
        rw [hr1] at hr0
        rw [hN]
        rcases (by omega : c = 0 ∨ c = 1 ∨ c = 2 ∨ c = 3) with rfl | rfl | rfl | rfl
        · have hD2 : D2 = ⟨[], []⟩ := by rw [e1]; rfl
          rw [show ((0 : Nat) : Int) = 0 from rfl]
          repeat' (first | refine wS fun K hK => ?_ | refine wB ?_ | ((first | refine wR hΓ ?_ | refine CW.drwL hΓ Try_mixed [46, 48] 0 (by rw [hκ]; rfl) (by kernel_rfl) (by kernel_rfl) fun v0 B hB => ?_); simp (config := { maxSteps := 2000000 }) only [go_sem]) | ((repeat ((fail_if_success (refine hK _ ?_)); clear hK K)); refine hK _ ?_; clear hK K) | (refine w1 ?_; simp only [xs, xi, Nat.reduceEqDiff, reduceCtorEq, retL_ret, retL_normal, retF_L_ret, retF_L_normal, retF_Q_ret, retF_Q_normal, retF_M_ret, retF_M_normal, retF_ML_ret, retF_ML_normal]) | (refine wC (fun hb => ?_) fun hb => ?_ <;> (try simp only [xb, reduceCtorEq] at hb)) | (refine w2 (fun hc => ?_) (fun hc => ?_) <;> (try simp only [xc] at hc) <;> (try simp only [go_sem, hc]) <;> (try simp only [xb] at hc)) | refine wI ?_ | refine ex_idx (by omega) ?_ | fail)
          refine ⟨_, .step 6 [0] (.own []) (by simp (config := { maxSteps := 2000000 }) only [go_sem]) rfl (.step 6 [1] (.own []) (by simp (config := { maxSteps := 2000000 }) only [go_sem]) rfl (.refl _)), ?_⟩
          rw [hD2, e2]
          simp (config := { maxSteps := 2000000 }) only [go_sem]
          simp [Try.results118, RetL, upd_at, plainB, isOwn, anyOwn, view, viewL, Ty_aggT_31, Ty_szT_31]
        · have hD2 : D2 = ⟨D.ends.set 0 16, r0 :: rs⟩ := by rw [e1, ← hN]; rfl
          rw [show ((1 : Nat) : Int) = 1 from rfl]
          repeat' (first | refine wS fun K hK => ?_ | refine wB ?_ | ((first | refine wR hΓ ?_ | refine CW.drwL hΓ Try_mixed [46, 48] 0 (by rw [hκ]; rfl) (by kernel_rfl) (by kernel_rfl) fun v0 B hB => ?_); simp (config := { maxSteps := 2000000 }) only [go_sem]) | ((repeat ((fail_if_success (refine hK _ ?_)); clear hK K)); refine hK _ ?_; clear hK K) | (refine w1 ?_; simp only [xs, xi, Nat.reduceEqDiff, reduceCtorEq, retL_ret, retL_normal, retF_L_ret, retF_L_normal, retF_Q_ret, retF_Q_normal, retF_M_ret, retF_M_normal, retF_ML_ret, retF_ML_normal]) | (refine wC (fun hb => ?_) fun hb => ?_ <;> (try simp only [xb, reduceCtorEq] at hb)) | (refine w2 (fun hc => ?_) (fun hc => ?_) <;> (try simp only [xc] at hc) <;> (try simp only [go_sem, hc]) <;> (try simp only [xb] at hc)) | refine wI ?_ | refine ex_idx (by omega) ?_ | fail)
          all_goals try (exfalso; omega)
          (try simp only [xs, xi, Nat.reduceEqDiff, reduceCtorEq, retL_ret, retL_normal, retF_L_ret, retF_L_normal, retF_Q_ret, retF_Q_normal, retF_M_ret, retF_M_normal, retF_ML_ret, retF_ML_normal])
          refine ⟨(), ?_⟩
          rw [hD2, e2]
          simp only [LeL, upd_at, if_true, if_false, Nat.reduceEqDiff, true_or, and_true, true_and]
          exact .inr (by simp [view, viewL, viewL_map, List.map_set, Function.comp_def])
        · have hD2 : D2 = ⟨D.ends, r0.drop 1 :: rs⟩ := by rw [e1]; unfold spoilX; rw [hr1, hN]; rfl
          rw [show ((2 : Nat) : Int) = 2 from rfl]
          refine CW.frz 7 [1, 0] (oints r0) (by simp [upd_at, getP, kids]) rfl ?_
          simp (config := { maxSteps := 2000000 }) only [go_sem]
          repeat' (first | refine wS fun K hK => ?_ | refine wB ?_ | ((first | refine wR hΓ ?_ | refine CW.drwL hΓ Try_mixed [46, 48] 0 (by rw [hκ]; rfl) (by kernel_rfl) (by kernel_rfl) fun v0 B hB => ?_); simp (config := { maxSteps := 2000000 }) only [go_sem]) | ((repeat ((fail_if_success (refine hK _ ?_)); clear hK K)); refine hK _ ?_; clear hK K) | (refine w1 ?_; simp only [xs, xi, Nat.reduceEqDiff, reduceCtorEq, retL_ret, retL_normal, retF_L_ret, retF_L_normal, retF_Q_ret, retF_Q_normal, retF_M_ret, retF_M_normal, retF_ML_ret, retF_ML_normal]) | (refine wC (fun hb => ?_) fun hb => ?_ <;> (try simp only [xb, reduceCtorEq] at hb)) | (refine w2 (fun hc => ?_) (fun hc => ?_) <;> (try simp only [xc] at hc) <;> (try simp only [go_sem, hc]) <;> (try simp only [xb] at hc)) | refine wI ?_ | refine ex_idx (by omega) ?_ | fail)
          all_goals try (exfalso; omega)
          (try simp only [xs, xi, Nat.reduceEqDiff, reduceCtorEq, retL_ret, retL_normal, retF_L_ret, retF_L_normal, retF_Q_ret, retF_Q_normal, retF_M_ret, retF_M_normal, retF_ML_ret, retF_ML_normal])
          refine ⟨(), ?_⟩
          rw [hD2, e2]
          simp only [LeL, upd_at, if_true, if_false, Nat.reduceEqDiff, true_or, and_true, true_and]
          have h : (List.map I r0).take r0.length = List.map I r0 := List.take_of_length_le (by simp)
          exact .inr (by simp [view, viewL, viewL_map, h, Function.comp_def])
        · have hD2 : D2 = ⟨D.ends, r0.set 5 (2 ^ D.ends.length) :: rs⟩ := by rw [e1]; unfold spoilX; rw [hr1, hN]; rfl
          rw [show ((3 : Nat) : Int) = 3 from rfl]
          repeat' (first | refine wS fun K hK => ?_ | refine wB ?_ | ((first | refine wR hΓ ?_ | refine CW.drwL hΓ Try_mixed [46, 48] 0 (by rw [hκ]; rfl) (by kernel_rfl) (by kernel_rfl) fun v0 B hB => ?_); simp (config := { maxSteps := 2000000 }) only [go_sem]) | ((repeat ((fail_if_success (refine hK _ ?_)); clear hK K)); refine hK _ ?_; clear hK K) | (refine w1 ?_; simp only [xs, xi, Nat.reduceEqDiff, reduceCtorEq, retL_ret, retL_normal, retF_L_ret, retF_L_normal, retF_Q_ret, retF_Q_normal, retF_M_ret, retF_M_normal, retF_ML_ret, retF_ML_normal]) | (refine wC (fun hb => ?_) fun hb => ?_ <;> (try simp only [xb, reduceCtorEq] at hb)) | (refine w2 (fun hc => ?_) (fun hc => ?_) <;> (try simp only [xc] at hc) <;> (try simp only [go_sem, hc]) <;> (try simp only [xb] at hc)) | refine wI ?_ | refine ex_idx (by omega) ?_ | fail)
          all_goals try (exfalso; omega)
          (try simp only [xs, xi, Nat.reduceEqDiff, reduceCtorEq, retL_ret, retL_normal, retF_L_ret, retF_L_normal, retF_Q_ret, retF_Q_normal, retF_M_ret, retF_M_normal, retF_ML_ret, retF_ML_normal])
          refine ⟨(), ?_⟩
          rw [hD2, e2]
          simp only [LeL, upd_at, if_true, if_false, Nat.reduceEqDiff, true_or, and_true, true_and]
          exact .inr (by simp [view, viewL, viewL_map, List.map_set, Function.comp_def])
  · -- the first part
    refine CW.seqM (ι := Nat × Bool) (fun x => [(0, rdr bs x.1), (1, I (most : Int)), (2, I (n : Int)), (6, box [own [], own []]), (7, box [oints A.ends, oorows A.next]), (32, .bool x.2)]) (fun x => x.1 ≤ p1 + 1 ∧ ((x.2 = true ∧ D = rndX bs (x.1 + 1) (1 + pickX bs x.1 (min most 4)) (1 + pickX bs x.1 (min most 4)) ∧ q = x.1 + 1 + 26 * (1 + pickX bs x.1 (min most 4))) ∨ (x.2 = false ∧ D = A ∧ q = x.1))) ?_ ?_
    · rintro ⟨q0, b⟩ ⟨hq0, hx⟩
      dsimp only at hq0 hx
      simp only [envOf]
      rcases hx with ⟨rfl, hx⟩ | ⟨rfl, hx⟩
      · obtain ⟨s, hs⟩ : ∃ s, 1 + pickX bs q0 (min most 4) = s := ⟨_, rfl⟩
        have hs4 : pickX bs q0 (min most 4) < min most 4 := pickX_lt (by omega)
        rw [hs] at hx
        obtain ⟨e1, e2⟩ := hx
        have emin : min (most : Int) 4 = ((min most 4 : Nat) : Int) := by omega
        (refine wC (fun hb => ?_) fun hb => ?_ <;> (try simp only [xb, reduceCtorEq] at hb))
        refine CW.seqK fun K hK => ?_
        repeat' (first | refine wB ?_ | ((first | refine wR hΓ ?_ | refine CW.drwL hΓ Try_mixed [46, 48] 0 (by rw [hκ]; rfl) (by kernel_rfl) (by kernel_rfl) fun v0 B hB => ?_); simp (config := { maxSteps := 2000000 }) only [go_sem]) | (refine w1 ?_; simp only [xs, xi, Nat.reduceEqDiff, reduceCtorEq, retL_ret, retL_normal, retF_L_ret, retF_L_normal, retF_Q_ret, retF_Q_normal, retF_M_ret, retF_M_normal, retF_ML_ret, retF_ML_normal]) | (refine wC (fun hb => ?_) fun hb => ?_ <;> (try simp only [xb, reduceCtorEq] at hb)) | (refine w2 (fun hc => ?_) (fun hc => ?_) <;> (try simp only [xc] at hc) <;> (try simp only [go_sem, hc]) <;> (try simp only [xb] at hc)) | refine wI ?_ | refine ex_idx (by omega) ?_ | fail)
        (refine hK _ ?_; clear hK K)
        refine CW.seqK fun K hK => ?_
        refine CW.regY hΓ (by rw [hκ]; rfl) ?_
        simp (config := { maxSteps := 2000000 }) only [go_sem, emin]
        have es : 1 + (pickX bs q0 (min most 4) : Int) = (s : Int) := by omega
        (first | refine W_askE rfl _ _ (⟨bs, q0, min most 4, rfl, hcd, by omega, by omega, rfl, rfl⟩) ?_ | refine D_askE rfl _ _ (⟨bs, q0, min most 4, rfl, hcd, by omega, by omega, rfl, rfl⟩) ?_); simp (config := { maxSteps := 2000000 }) only [go_sem]
        repeat' (first | refine wB ?_ | ((first | refine wR hΓ ?_ | refine CW.drwL hΓ Try_mixed [46, 48] 0 (by rw [hκ]; rfl) (by kernel_rfl) (by kernel_rfl) fun v0 B hB => ?_); simp (config := { maxSteps := 2000000 }) only [go_sem, es]) | (refine w1 ?_; simp only [xs, xi, Nat.reduceEqDiff, reduceCtorEq, retL_ret, retL_normal, retF_L_ret, retF_L_normal, retF_Q_ret, retF_Q_normal, retF_M_ret, retF_M_normal, retF_ML_ret, retF_ML_normal]) | (refine wC (fun hb => ?_) fun hb => ?_ <;> (try simp only [xb, reduceCtorEq] at hb)) | (refine w2 (fun hc => ?_) (fun hc => ?_) <;> (try simp only [xc] at hc) <;> (try simp only [go_sem, hc, es]) <;> (try simp only [xb] at hc)) | refine wI ?_ | refine ex_idx (by omega) ?_ | fail)
        (refine hK _ ?_; clear hK K)
        repeat' (first | refine wS fun K hK => ?_ | refine wB ?_ | ((first | refine wR hΓ ?_ | refine CW.drwL hΓ Try_mixed [46, 48] 0 (by rw [hκ]; rfl) (by kernel_rfl) (by kernel_rfl) fun v0 B hB => ?_); simp (config := { maxSteps := 2000000 }) only [go_sem]) | ((repeat ((fail_if_success (refine hK _ ?_)); clear hK K)); refine hK _ ?_; clear hK K) | (refine w1 ?_; simp only [xs, xi, Nat.reduceEqDiff, reduceCtorEq, retL_ret, retL_normal, retF_L_ret, retF_L_normal, retF_Q_ret, retF_Q_normal, retF_M_ret, retF_M_normal, retF_ML_ret, retF_ML_normal]) | (refine wC (fun hb => ?_) fun hb => ?_ <;> (try simp only [xb, reduceCtorEq] at hb)) | (refine w2 (fun hc => ?_) (fun hc => ?_) <;> (try simp only [xc] at hc) <;> (try simp only [go_sem, hc]) <;> (try simp only [xb] at hc)) | refine wI ?_ | refine ex_idx (by omega) ?_ | fail)
        have hsb : s ≤ 4 := by omega
        have hZ : 1 ≤ 2 ^ s ∧ 2 ^ s ≤ 2 ^ 4 := ⟨Nat.one_le_two_pow, Nat.pow_le_pow_right (by omega) hsb⟩
        obtain ⟨Z, hZe⟩ : ∃ Z, 2 ^ s = Z := ⟨_, rfl⟩
        have hZi : (1 : Int) * 2 ^ s = (Z : Int) := by rw [← hZe]; simp
        rw [hZe] at hZ
        refine CW.loop (ι := Nat) (fun k => [(0, rdr bs (q0 + 1 + 26 * k)), (1, I (most : Int)), (2, I (n : Int)), (6, box [own [], own []]), (7, box [oints (rndX bs (q0 + 1) s k).ends, oorows (rndX bs (q0 + 1) s k).next]), (8, I s), (9, I k)]) (fun k => k ≤ s) (fun k => s - k) 0 ?_ ?_
        · exact ⟨by ((simp only [xe, xj, Nat.reduceEqDiff]; (try simp [view, viewL_map]); (try omega)); simp [rndX]; try omega), by omega⟩
        rintro k hk
        simp only [envOf]
        obtain ⟨hl1, hl2, _, _⟩ := rndX_spec bs (q0 + 1) s k
        repeat' (first | refine wS fun K hK => ?_ | refine wB ?_ | ((first | refine wR hΓ ?_ | refine CW.drwL hΓ Try_mixed [46, 48] 0 (by rw [hκ]; rfl) (by kernel_rfl) (by kernel_rfl) fun v0 B hB => ?_); simp (config := { maxSteps := 2000000 }) only [go_sem]) | ((repeat ((fail_if_success (refine hK _ ?_)); clear hK K)); refine hK _ ?_; clear hK K) | (refine w1 ?_; simp only [xs, xi, Nat.reduceEqDiff, reduceCtorEq, retL_ret, retL_normal, retF_L_ret, retF_L_normal, retF_Q_ret, retF_Q_normal, retF_M_ret, retF_M_normal, retF_ML_ret, retF_ML_normal]) | (refine wC (fun hb => ?_) fun hb => ?_ <;> (try simp only [xb, reduceCtorEq] at hb)) | (refine w2 (fun hc => ?_) (fun hc => ?_) <;> (try simp only [xc] at hc) <;> (try simp only [go_sem, hc]) <;> (try simp only [xb] at hc)) | refine wI ?_ | refine ex_idx (by omega) ?_ | fail)
        rotate_left
        · have hks : k = s := by omega
          subst hks
          refine ⟨(), ?_, trivial⟩
          rw [e1, e2]
          (simp only [xe, xj, Nat.reduceEqDiff]; (try simp [view, viewL_map]); (try omega))
        have ha := pickX_lt (bs := bs) (p := q0 + 1 + 26 * k) (n := 16) (by decide)
        have hb2 := pickX_lt (bs := bs) (p := q0 + 1 + 26 * k + 1) (n := 2) (by decide)
        have hrk : (rndX bs (q0 + 1) s (k + 1)).ends = (rndX bs (q0 + 1) s k).ends ++ [((pickX bs (q0 + 1 + 26 * k) 16 * pickX bs (q0 + 1 + 26 * k + 1) 2 : Nat) : Int)] := rfl
        have hrn : (rndX bs (q0 + 1) s (k + 1)).next = (rndX bs (q0 + 1) s k).next ++ [rowX bs (q0 + 1 + 26 * k + 2) s 12] := rfl
        have hab : pickX bs (q0 + 1 + 26 * k) 16 * pickX bs (q0 + 1 + 26 * k + 1) 2 ≤ pickX bs (q0 + 1 + 26 * k) 16 * 1 := Nat.mul_le_mul_left _ (by omega)
        have hpi : (pickX bs (q0 + 1 + 26 * k) 16 : Int) * (pickX bs (q0 + 1 + 26 * k + 1) 2 : Int) = ((pickX bs (q0 + 1 + 26 * k) 16 * pickX bs (q0 + 1 + 26 * k + 1) 2 : Nat) : Int) := by push_cast; rfl
        (first | refine W_askE rfl _ _ (⟨bs, q0 + 1 + 26 * k, 16, rfl, hcd, by omega, by omega, rfl, rfl⟩) ?_ | refine D_askE rfl _ _ (⟨bs, q0 + 1 + 26 * k, 16, rfl, hcd, by omega, by omega, rfl, rfl⟩) ?_); simp (config := { maxSteps := 2000000 }) only [go_sem]
        repeat' (first | refine wS fun K hK => ?_ | refine wB ?_ | ((first | refine wR hΓ ?_ | refine CW.drwL hΓ Try_mixed [46, 48] 0 (by rw [hκ]; rfl) (by kernel_rfl) (by kernel_rfl) fun v0 B hB => ?_); simp (config := { maxSteps := 2000000 }) only [go_sem]) | ((repeat ((fail_if_success (refine hK _ ?_)); clear hK K)); refine hK _ ?_; clear hK K) | (refine w1 ?_; simp only [xs, xi, Nat.reduceEqDiff, reduceCtorEq, retL_ret, retL_normal, retF_L_ret, retF_L_normal, retF_Q_ret, retF_Q_normal, retF_M_ret, retF_M_normal, retF_ML_ret, retF_ML_normal]) | (refine wC (fun hb => ?_) fun hb => ?_ <;> (try simp only [xb, reduceCtorEq] at hb)) | (refine w2 (fun hc => ?_) (fun hc => ?_) <;> (try simp only [xc] at hc) <;> (try simp only [go_sem, hc]) <;> (try simp only [xb] at hc)) | refine wI ?_ | refine ex_idx (by omega) ?_ | fail)
        (first | refine W_askE rfl _ _ (⟨bs, q0 + 1 + 26 * k + 1, 2, rfl, hcd, by omega, by omega, rfl, rfl⟩) ?_ | refine D_askE rfl _ _ (⟨bs, q0 + 1 + 26 * k + 1, 2, rfl, hcd, by omega, by omega, rfl, rfl⟩) ?_); simp (config := { maxSteps := 2000000 }) only [go_sem]
        simp (config := { maxSteps := 2000000 }) only [go_sem, hpi]
        obtain ⟨Pk, hPk⟩ : ∃ P, pickX bs (q0 + 1 + 26 * k) 16 * pickX bs (q0 + 1 + 26 * k + 1) 2 = P := ⟨_, rfl⟩
        rw [hPk] at hrk hab ⊢
        repeat' (first | refine wS fun K hK => ?_ | refine wB ?_ | ((first | refine wR hΓ ?_ | refine CW.drwL hΓ Try_mixed [46, 48] 0 (by rw [hκ]; rfl) (by kernel_rfl) (by kernel_rfl) fun v0 B hB => ?_); simp (config := { maxSteps := 2000000 }) only [go_sem]) | ((repeat ((fail_if_success (refine hK _ ?_)); clear hK K)); refine hK _ ?_; clear hK K) | (refine w1 ?_; simp only [xs, xi, Nat.reduceEqDiff, reduceCtorEq, retL_ret, retL_normal, retF_L_ret, retF_L_normal, retF_Q_ret, retF_Q_normal, retF_M_ret, retF_M_normal, retF_ML_ret, retF_ML_normal]) | (refine wC (fun hb => ?_) fun hb => ?_ <;> (try simp only [xb, reduceCtorEq] at hb)) | (refine w2 (fun hc => ?_) (fun hc => ?_) <;> (try simp only [xc] at hc) <;> (try simp only [go_sem, hc]) <;> (try simp only [xb] at hc)) | refine wI ?_ | refine ex_idx (by omega) ?_ | fail)
        refine CW.loop (ι := Nat) (fun m => [(0, rdr bs (q0 + 1 + 26 * k + 2 + 2 * m)), (1, I (most : Int)), (2, I (n : Int)), (6, box [own [], own []]), (7, box [oints (rndX bs (q0 + 1) s (k + 1)).ends, oorows (rndX bs (q0 + 1) s k).next]), (8, I s), (9, I k), (10, oints (rowX bs (q0 + 1 + 26 * k + 2) s m)), (11, I m)]) (fun m => m ≤ 12) (fun m => 12 - m) 0 ?_ ?_
        · refine ⟨?_, by omega⟩
          rw [hrk]
          ((simp only [xe, xj, Nat.reduceEqDiff]; (try simp [view, viewL_map]); (try omega)); simp [rowX])
        rintro m hm12
        simp only [envOf]
        have hrl := rowX_len bs (q0 + 1 + 26 * k + 2) s m
        repeat' (first | refine wS fun K hK => ?_ | refine wB ?_ | ((first | refine wR hΓ ?_ | refine CW.drwL hΓ Try_mixed [46, 48] 0 (by rw [hκ]; rfl) (by kernel_rfl) (by kernel_rfl) fun v0 B hB => ?_); simp (config := { maxSteps := 2000000 }) only [go_sem]) | ((repeat ((fail_if_success (refine hK _ ?_)); clear hK K)); refine hK _ ?_; clear hK K) | (refine w1 ?_; simp only [xs, xi, Nat.reduceEqDiff, reduceCtorEq, retL_ret, retL_normal, retF_L_ret, retF_L_normal, retF_Q_ret, retF_Q_normal, retF_M_ret, retF_M_normal, retF_ML_ret, retF_ML_normal]) | (refine wC (fun hb => ?_) fun hb => ?_ <;> (try simp only [xb, reduceCtorEq] at hb)) | (refine w2 (fun hc => ?_) (fun hc => ?_) <;> (try simp only [xc] at hc) <;> (try simp only [go_sem, hc]) <;> (try simp only [xb] at hc)) | refine wI ?_ | refine ex_idx (by omega) ?_ | fail)
        · have hu := pickX_lt (bs := bs) (p := q0 + 1 + 26 * k + 2 + 2 * m) (n := Z) (by omega)
          have hv := pickX_lt (bs := bs) (p := q0 + 1 + 26 * k + 2 + 2 * m + 1) (n := 3) (by decide)
          have hrx : rowX bs (q0 + 1 + 26 * k + 2) s (m + 1) = rowX bs (q0 + 1 + 26 * k + 2) s m ++ [((pickX bs (q0 + 1 + 26 * k + 2 + 2 * m) Z * pickX bs (q0 + 1 + 26 * k + 2 + 2 * m + 1) 3 / 2 : Nat) : Int)] := by rw [rowX, hZe]
          have huv : pickX bs (q0 + 1 + 26 * k + 2 + 2 * m) Z * pickX bs (q0 + 1 + 26 * k + 2 + 2 * m + 1) 3 ≤ pickX bs (q0 + 1 + 26 * k + 2 + 2 * m) Z * 2 := Nat.mul_le_mul_left _ (by omega)
          have hpi2 : (pickX bs (q0 + 1 + 26 * k + 2 + 2 * m) Z : Int) * (pickX bs (q0 + 1 + 26 * k + 2 + 2 * m + 1) 3 : Int) = ((pickX bs (q0 + 1 + 26 * k + 2 + 2 * m) Z * pickX bs (q0 + 1 + 26 * k + 2 + 2 * m + 1) 3 : Nat) : Int) := by push_cast; rfl
          simp (config := { maxSteps := 2000000 }) only [go_sem, hZi]
          repeat' (first | refine wS fun K hK => ?_ | refine wB ?_ | ((first | refine wR hΓ ?_ | refine CW.drwL hΓ Try_mixed [46, 48] 0 (by rw [hκ]; rfl) (by kernel_rfl) (by kernel_rfl) fun v0 B hB => ?_); simp (config := { maxSteps := 2000000 }) only [go_sem]) | ((repeat ((fail_if_success (refine hK _ ?_)); clear hK K)); refine hK _ ?_; clear hK K) | (refine w1 ?_; simp only [xs, xi, Nat.reduceEqDiff, reduceCtorEq, retL_ret, retL_normal, retF_L_ret, retF_L_normal, retF_Q_ret, retF_Q_normal, retF_M_ret, retF_M_normal, retF_ML_ret, retF_ML_normal]) | (refine wC (fun hb => ?_) fun hb => ?_ <;> (try simp only [xb, reduceCtorEq] at hb)) | (refine w2 (fun hc => ?_) (fun hc => ?_) <;> (try simp only [xc] at hc) <;> (try simp only [go_sem, hc]) <;> (try simp only [xb] at hc)) | refine wI ?_ | refine ex_idx (by omega) ?_ | fail)
          (first | refine W_askE rfl _ _ (⟨bs, q0 + 1 + 26 * k + 2 + 2 * m, Z, rfl, hcd, by omega, by omega, rfl, rfl⟩) ?_ | refine D_askE rfl _ _ (⟨bs, q0 + 1 + 26 * k + 2 + 2 * m, Z, rfl, hcd, by omega, by omega, rfl, rfl⟩) ?_); simp (config := { maxSteps := 2000000 }) only [go_sem]
          repeat' (first | refine wS fun K hK => ?_ | refine wB ?_ | ((first | refine wR hΓ ?_ | refine CW.drwL hΓ Try_mixed [46, 48] 0 (by rw [hκ]; rfl) (by kernel_rfl) (by kernel_rfl) fun v0 B hB => ?_); simp (config := { maxSteps := 2000000 }) only [go_sem]) | ((repeat ((fail_if_success (refine hK _ ?_)); clear hK K)); refine hK _ ?_; clear hK K) | (refine w1 ?_; simp only [xs, xi, Nat.reduceEqDiff, reduceCtorEq, retL_ret, retL_normal, retF_L_ret, retF_L_normal, retF_Q_ret, retF_Q_normal, retF_M_ret, retF_M_normal, retF_ML_ret, retF_ML_normal]) | (refine wC (fun hb => ?_) fun hb => ?_ <;> (try simp only [xb, reduceCtorEq] at hb)) | (refine w2 (fun hc => ?_) (fun hc => ?_) <;> (try simp only [xc] at hc) <;> (try simp only [go_sem, hc]) <;> (try simp only [xb] at hc)) | refine wI ?_ | refine ex_idx (by omega) ?_ | fail)
          (first | refine W_askE rfl _ _ (⟨bs, q0 + 1 + 26 * k + 2 + 2 * m + 1, 3, rfl, hcd, by omega, by omega, rfl, rfl⟩) ?_ | refine D_askE rfl _ _ (⟨bs, q0 + 1 + 26 * k + 2 + 2 * m + 1, 3, rfl, hcd, by omega, by omega, rfl, rfl⟩) ?_); simp (config := { maxSteps := 2000000 }) only [go_sem]
          simp (config := { maxSteps := 2000000 }) only [go_sem, hpi2]
          obtain ⟨Pm, hPm⟩ : ∃ P, pickX bs (q0 + 1 + 26 * k + 2 + 2 * m) Z * pickX bs (q0 + 1 + 26 * k + 2 + 2 * m + 1) 3 = P := ⟨_, rfl⟩
          rw [hPm] at hrx huv ⊢
          have hdv : (Pm : Int) / 2 = ((Pm / 2 : Nat) : Int) := by omega
          repeat' (first | refine wS fun K hK => ?_ | refine wB ?_ | ((first | refine wR hΓ ?_ | refine CW.drwL hΓ Try_mixed [46, 48] 0 (by rw [hκ]; rfl) (by kernel_rfl) (by kernel_rfl) fun v0 B hB => ?_); simp (config := { maxSteps := 2000000 }) only [go_sem, hdv]) | ((repeat ((fail_if_success (refine hK _ ?_)); clear hK K)); refine hK _ ?_; clear hK K) | (refine w1 ?_; simp only [xs, xi, Nat.reduceEqDiff, reduceCtorEq, retL_ret, retL_normal, retF_L_ret, retF_L_normal, retF_Q_ret, retF_Q_normal, retF_M_ret, retF_M_normal, retF_ML_ret, retF_ML_normal]) | (refine wC (fun hb => ?_) fun hb => ?_ <;> (try simp only [xb, reduceCtorEq] at hb)) | (refine w2 (fun hc => ?_) (fun hc => ?_) <;> (try simp only [xc] at hc) <;> (try simp only [go_sem, hc, hdv]) <;> (try simp only [xb] at hc)) | refine wI ?_ | refine ex_idx (by omega) ?_ | fail)
          refine ⟨m + 1, ?_, by omega, by omega⟩
          rw [hrx]
          (simp only [xe, xj, Nat.reduceEqDiff]; (try simp [view, viewL_map]); (try omega))
        · have hm2 : m = 12 := by omega
          subst hm2
          refine ⟨k + 1, ?_, by omega, by omega⟩
          rw [hrn]
          (simp only [xe, xj, Nat.reduceEqDiff]; (try simp [view, viewL_map]); (try omega))
      · obtain ⟨e1, e2⟩ := hx
        subst e1 e2
        repeat' (first | refine wS fun K hK => ?_ | refine wB ?_ | ((first | refine wR hΓ ?_ | refine CW.drwL hΓ Try_mixed [46, 48] 0 (by rw [hκ]; rfl) (by kernel_rfl) (by kernel_rfl) fun v0 B hB => ?_); simp (config := { maxSteps := 2000000 }) only [go_sem]) | ((repeat ((fail_if_success (refine hK _ ?_)); clear hK K)); refine hK _ ?_; clear hK K) | (refine w1 ?_; simp only [xs, xi, Nat.reduceEqDiff, reduceCtorEq, retL_ret, retL_normal, retF_L_ret, retF_L_normal, retF_Q_ret, retF_Q_normal, retF_M_ret, retF_M_normal, retF_ML_ret, retF_ML_normal]) | (refine wC (fun hb => ?_) fun hb => ?_ <;> (try simp only [xb, reduceCtorEq] at hb)) | (refine w2 (fun hc => ?_) (fun hc => ?_) <;> (try simp only [xc] at hc) <;> (try simp only [go_sem, hc]) <;> (try simp only [xb] at hc)) | refine wI ?_ | refine ex_idx (by omega) ?_ | fail)
        exact ⟨(), by (simp only [xe, xj, Nat.reduceEqDiff]; (try simp [view, viewL_map]); (try omega)), trivial⟩
    · repeat' (first | refine wS fun K hK => ?_ | refine wB ?_ | ((first | refine wR hΓ ?_ | refine CW.drwL hΓ Try_mixed [46, 48] 0 (by rw [hκ]; rfl) (by kernel_rfl) (by kernel_rfl) fun v0 B hB => ?_); simp (config := { maxSteps := 2000000 }) only [go_sem]) | ((repeat ((fail_if_success (refine hK _ ?_)); clear hK K)); refine hK _ ?_; clear hK K) | (refine w1 ?_; simp only [xs, xi, Nat.reduceEqDiff, reduceCtorEq, retL_ret, retL_normal, retF_L_ret, retF_L_normal, retF_Q_ret, retF_Q_normal, retF_M_ret, retF_M_normal, retF_ML_ret, retF_ML_normal]) | (refine wC (fun hb => ?_) fun hb => ?_ <;> (try simp only [xb, reduceCtorEq] at hb)) | (refine w2 (fun hc => ?_) (fun hc => ?_) <;> (try simp only [xc] at hc) <;> (try simp only [go_sem, hc]) <;> (try simp only [xb] at hc)) | refine wI ?_ | refine ex_idx (by omega) ?_ | fail)
      rotate_left
      · have h9 : A.ends.length = 0 := by omega
        exact ⟨(p1, true), by (simp only [xe, xj, Nat.reduceEqDiff]; (try simp [view, viewL_map]); (try omega)), by dsimp only; omega, .inl ⟨rfl, hb0 p1 (.inl ⟨rfl, .inr h9⟩)⟩⟩
      · exact ⟨(p1, true), by (simp only [xe, xj, Nat.reduceEqDiff]; (try simp [view, viewL_map]); (try omega)), by dsimp only; omega, .inl ⟨rfl, hb0 p1 (.inl ⟨rfl, .inl (by omega)⟩)⟩⟩
      have hn9 : ¬ (most < A.ends.length ∨ A.ends.length = 0) := by omega
      (first | refine W_askE rfl _ _ (⟨bs, p1, 3, rfl, hcd, by omega, by omega, rfl, rfl⟩) ?_ | refine D_askE rfl _ _ (⟨bs, p1, 3, rfl, hcd, by omega, by omega, rfl, rfl⟩) ?_); simp (config := { maxSteps := 2000000 }) only [go_sem]
      repeat' (first | refine wS fun K hK => ?_ | refine wB ?_ | ((first | refine wR hΓ ?_ | refine CW.drwL hΓ Try_mixed [46, 48] 0 (by rw [hκ]; rfl) (by kernel_rfl) (by kernel_rfl) fun v0 B hB => ?_); simp (config := { maxSteps := 2000000 }) only [go_sem]) | ((repeat ((fail_if_success (refine hK _ ?_)); clear hK K)); refine hK _ ?_; clear hK K) | (refine w1 ?_; simp only [xs, xi, Nat.reduceEqDiff, reduceCtorEq, retL_ret, retL_normal, retF_L_ret, retF_L_normal, retF_Q_ret, retF_Q_normal, retF_M_ret, retF_M_normal, retF_ML_ret, retF_ML_normal]) | (refine wC (fun hb => ?_) fun hb => ?_ <;> (try simp only [xb, reduceCtorEq] at hb)) | (refine w2 (fun hc => ?_) (fun hc => ?_) <;> (try simp only [xc] at hc) <;> (try simp only [go_sem, hc]) <;> (try simp only [xb] at hc)) | refine wI ?_ | refine ex_idx (by omega) ?_ | fail)
      by_cases h3 : pickX bs p1 3 = 0
      · have h4 : decide ((pickX bs p1 3 : Int) = 0) = true := decide_eq_true (by omega)
        exact ⟨(p1 + 1, true), by rw [h4]; (simp only [xe, xj, Nat.reduceEqDiff]; (try simp [view, viewL_map]); (try omega)), by dsimp only; omega, .inl ⟨rfl, hb0 (p1 + 1) (.inr ⟨rfl, hn9, h3⟩)⟩⟩
      · have h4 : decide ((pickX bs p1 3 : Int) = 0) = false := decide_eq_false (by omega)
        exact ⟨(p1 + 1, false), by rw [h4]; (simp only [xe, xj, Nat.reduceEqDiff]; (try simp [view, viewL_map]); (try omega)), by dsimp only; omega, .inr ⟨rfl, hb1 hn9 h3⟩⟩

end Go.Proofs.Ytboandkjhdaobaa
