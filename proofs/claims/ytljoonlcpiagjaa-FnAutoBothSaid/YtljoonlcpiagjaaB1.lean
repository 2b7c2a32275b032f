/- The reference's AutoBoth, walked by the engine. -/
import Derived.Test.YtljoonlcpiagjaaGrpD
import Derived.Test.YtljoonlcpiagjaaEngMin
namespace Go.Proofs.Ytljoonlcpiagjaa
set_option linter.unusedSimpArgs false
set_option linter.unusedVariables false
set_option maxRecDepth 8000
set_option maxHeartbeats 2000000
open Go Go.RowKit AV

open Classical in
noncomputable def bothD (X Y : AutoD) : AutoD := if AutoOK X ∧ AutoOK Y ∧ X.ends.length * Y.ends.length ≤ 10 then bothTo X Y (X.ends.length * Y.ends.length) else ⟨[], []⟩
def smallD (E : List Int) (N : List (List Int)) : Prop := E.length ≤ 1099511627776 ∧ N.length ≤ 1099511627776 ∧ ∀ x ∈ N, x.length ≤ 1099511627776
def autoBothR (args : List AV) (r : AV) : Prop := ∃ (E F : List Int) (N M : List (List Int)), args = [agg [ints E, rows N], agg [ints F, rows M]] ∧ smallD E N ∧ smallD F M ∧ r = agg [oints (bothD ⟨E, N⟩ ⟨F, M⟩).ends, oorows (bothD ⟨E, N⟩ ⟨F, M⟩).next]

theorem bothD_no {X Y : AutoD} (h : ¬ (AutoOK X ∧ AutoOK Y ∧ X.ends.length * Y.ends.length ≤ 10)) : bothD X Y = ⟨[], []⟩ := by unfold bothD; rw [if_neg h]
theorem bothD_yes {X Y : AutoD} (h : AutoOK X ∧ AutoOK Y ∧ X.ends.length * Y.ends.length ≤ 10) : bothD X Y = bothTo X Y (X.ends.length * Y.ends.length) := by unfold bothD; rw [if_pos h]

theorem smallD_valid {E : List Int} {N : List (List Int)} (h : smallD E N) : E.length ≤ 4611686018427387904 ∧ N.length ≤ 4611686018427387904 ∧ (∀ x ∈ N, x.length ≤ 4611686018427387904) :=
  ⟨by have := h.1; omega, by have := h.2.1; omega, fun x hx => by have := h.2.2 x hx; omega⟩

theorem ends_cast {E : List Int} {N : List (List Int)} (h : AutoOK ⟨E, N⟩) {i : Nat} (hi : i < E.length) : E[i] = ((endsN ⟨E, N⟩ i : Nat) : Int) := by
  have h0 : 0 ≤ nth E i := (h.ends i hi).1
  show E[i] = ((nth E i).toNat : Int)
  rw [nth_getElem hi] at h0 ⊢
  omega
theorem ends_le {E : List Int} {N : List (List Int)} (h : AutoOK ⟨E, N⟩) {i : Nat} (hi : i < E.length) : endsN ⟨E, N⟩ i ≤ 15 := by
  have h0 : nth E i ≤ 15 := (h.ends i hi).2
  show (nth E i).toNat ≤ 15
  omega
theorem row_len {E : List Int} {N : List (List Int)} (h : AutoOK ⟨E, N⟩) {i : Nat} (hi : i < N.length) : N[i].length = 12 := by
  have hl : N.length = E.length := h.len
  have h0 : (nthL N i).length = 12 := h.rows i (by show i < E.length; omega)
  rwa [nthL_getElem hi] at h0
theorem next_cast {E : List Int} {N : List (List Int)} (h : AutoOK ⟨E, N⟩) {i j : Nat} (hi : i < N.length) (hj : j < N[i].length) : N[i][j] = ((nextN ⟨E, N⟩ i j : Nat) : Int) := by
  have hl : N.length = E.length := h.len
  have hr := row_len h hi
  have h0 : 0 ≤ nth (nthL N i) j := (h.sets i (by show i < E.length; omega) j (by omega)).1
  show N[i][j] = ((nth (nthL N i) j).toNat : Int)
  rw [nthL_getElem hi, nth_getElem hj] at h0 ⊢
  omega
theorem next_lt {E : List Int} {N : List (List Int)} (h : AutoOK ⟨E, N⟩) {i j : Nat} (hi : i < N.length) (hj : j < N[i].length) : nextN ⟨E, N⟩ i j < 2 ^ E.length := by
  have hl : N.length = E.length := h.len
  have hr := row_len h hi
  have h0 : nth (nthL N i) j ≤ 2 ^ E.length - 1 := (h.sets i (by show i < E.length; omega) j (by omega)).2
  have h1 := next_cast h hi hj
  rw [nthL_getElem hi, nth_getElem hj, h1] at h0
  exact lt_pow (by omega)

set_option maxHeartbeats 1000000 in
theorem specAutoBoth_ctr : CtrOK Try.prog 28 (pureC autoBothR) := by
  refine ctr_pure' Try.func28 rfl rfl Try.ntmps28 ?_
  rintro _ _ ⟨E, F, N, M, rfl, hX, hY, rfl⟩
  refine ⟨by simp, fun κ hκ => ?_⟩
  have hbig := bigW_gt
  rw [argEnv_eq]
  simp only [envA]
  have hΓ := ctxOf_ok (P := Try.prog) (cx specAutoValid_ctr <| cx l1Both_ctr <| cx l1Bit_ctr <| cx0)
  have hX' := smallD_valid hX
  have hY' := smallD_valid hY
  have hn := hX'.1
  have hm := hY'.1
  repeat' (first | refine wS fun K hK => ?_ | refine wB ?_ | ((first | refine wR hΓ ?_ | refine wD hΓ fun B hB => ?_); simp (config := { maxSteps := 2000000 }) only [go_sem]) | ((repeat ((fail_if_success (refine hK _ ?_)); clear hK K)); refine hK _ ?_; clear hK K) | (refine w1 ?_; simp only [xs, xi, Nat.reduceEqDiff, reduceCtorEq]) | (refine wC (fun hb => ?_) fun hb => ?_ <;> (try simp only [xb, reduceCtorEq] at hb)) | (refine w2 (fun hc => ?_) (fun hc => ?_) <;> (try simp only [xc] at hc) <;> (try simp only [go_sem, hc]) <;> (try simp only [xb] at hc)) | refine wI ?_ | refine ex_idx (by omega) ?_ | fail)
  (first | refine wA rfl _ (⟨_, _, rfl, hX'.1, hX'.2.1, hX'.2.2, rfl⟩) ?_ | refine dA rfl _ (⟨_, _, rfl, hX'.1, hX'.2.1, hX'.2.2, rfl⟩) ?_); simp (config := { maxSteps := 2000000 }) only [go_sem]
  repeat' (first | refine wS fun K hK => ?_ | refine wB ?_ | ((first | refine wR hΓ ?_ | refine wD hΓ fun B hB => ?_); simp (config := { maxSteps := 2000000 }) only [go_sem]) | ((repeat ((fail_if_success (refine hK _ ?_)); clear hK K)); refine hK _ ?_; clear hK K) | (refine w1 ?_; simp only [xs, xi, Nat.reduceEqDiff, reduceCtorEq]) | (refine wC (fun hb => ?_) fun hb => ?_ <;> (try simp only [xb, reduceCtorEq] at hb)) | (refine w2 (fun hc => ?_) (fun hc => ?_) <;> (try simp only [xc] at hc) <;> (try simp only [go_sem, hc]) <;> (try simp only [xb] at hc)) | refine wI ?_ | refine ex_idx (by omega) ?_ | fail)
  rotate_left
  · rw [bothD_no fun h => by rw [autoOKB_true.2 h.1] at hc; cases hc]
    (rw [Try.results28]; exact retOK_box Ty_aggT_26 Ty_szT_26 (by simp [upd_at]))
  have hOX : AutoOK ⟨E, N⟩ := autoOKB_true.1 hc
  clear hc
  (first | refine wA rfl _ (⟨_, _, rfl, hY'.1, hY'.2.1, hY'.2.2, rfl⟩) ?_ | refine dA rfl _ (⟨_, _, rfl, hY'.1, hY'.2.1, hY'.2.2, rfl⟩) ?_); simp (config := { maxSteps := 2000000 }) only [go_sem]
  repeat' (first | refine wS fun K hK => ?_ | refine wB ?_ | ((first | refine wR hΓ ?_ | refine wD hΓ fun B hB => ?_); simp (config := { maxSteps := 2000000 }) only [go_sem]) | ((repeat ((fail_if_success (refine hK _ ?_)); clear hK K)); refine hK _ ?_; clear hK K) | (refine w1 ?_; simp only [xs, xi, Nat.reduceEqDiff, reduceCtorEq]) | (refine wC (fun hb => ?_) fun hb => ?_ <;> (try simp only [xb, reduceCtorEq] at hb)) | (refine w2 (fun hc => ?_) (fun hc => ?_) <;> (try simp only [xc] at hc) <;> (try simp only [go_sem, hc]) <;> (try simp only [xb] at hc)) | refine wI ?_ | refine ex_idx (by omega) ?_ | fail)
  rotate_left
  · rw [bothD_no fun h => by rw [autoOKB_true.2 h.2.1] at hc; cases hc]
    (rw [Try.results28]; exact retOK_box Ty_aggT_26 Ty_szT_26 (by simp [upd_at]))
  have hOY : AutoOK ⟨F, M⟩ := autoOKB_true.1 hc
  clear hc
  have hX1 : 1 ≤ E.length := hOX.lo
  have hX2 : E.length ≤ 10 := hOX.hi
  have hY1 : 1 ≤ F.length := hOY.lo
  have hY2 : F.length ≤ 10 := hOY.hi
  have hnm : E.length * F.length ≤ 10 * 10 := Nat.mul_le_mul hX2 hY2
  have hcm : (E.length : Int) * (F.length : Int) = ((E.length * F.length : Nat) : Int) := by simp
  rw [hcm]
  repeat' (first | refine wS fun K hK => ?_ | refine wB ?_ | ((first | refine wR hΓ ?_ | refine wD hΓ fun B hB => ?_); simp (config := { maxSteps := 2000000 }) only [go_sem, hcm]) | ((repeat ((fail_if_success (refine hK _ ?_)); clear hK K)); refine hK _ ?_; clear hK K) | (refine w1 ?_; simp only [xs, xi, Nat.reduceEqDiff, reduceCtorEq]) | (refine wC (fun hb => ?_) fun hb => ?_ <;> (try simp only [xb, reduceCtorEq] at hb)) | (refine w2 (fun hc => ?_) (fun hc => ?_) <;> (try simp only [xc] at hc) <;> (try simp only [go_sem, hc, hcm]) <;> (try simp only [xb] at hc)) | refine wI ?_ | refine ex_idx (by omega) ?_ | fail)
  · rw [bothD_no fun h => by have := h.2.2; dsimp only at this; omega]
    (rw [Try.results28]; exact retOK_box Ty_aggT_26 Ty_szT_26 (by simp [upd_at]))
  have hbd := bothD_yes (X := ⟨E, N⟩) (Y := ⟨F, M⟩) ⟨hOX, hOY, by dsimp only; omega⟩
  refine CW.loop (ι := Nat) (fun k => [(2, box [ints E, rows N]), (3, box [ints F, rows M]), (4, box [own [], own []]), (5, box [oints (rowOf (bothE ⟨E, N⟩ ⟨F, M⟩) k), oorows (rowsOf (fun k => rowOf (bothN ⟨E, N⟩ ⟨F, M⟩ k) 12) k)]), (6, I E.length), (7, I F.length), (8, I k)]) (fun k => k ≤ E.length * F.length) (fun k => E.length * F.length - k) 0 ?_ ?_
  · refine ⟨by ((simp only [xe, xj, Nat.reduceEqDiff]; (try simp [view, viewL_map]); (try omega)); simp [rowOf, rowsOf]), by omega⟩
  rintro k hk
  simp only [envOf]
  have hk1 : k < E.length * F.length → k / F.length < E.length := fun h => Nat.div_lt_of_lt_mul (by rw [Nat.mul_comm]; exact h)
  have hk2 : k % F.length < F.length := Nat.mod_lt _ (by omega)
  repeat' (first | refine wS fun K hK => ?_ | refine wB ?_ | ((first | refine wR hΓ ?_ | refine wD hΓ fun B hB => ?_); simp (config := { maxSteps := 2000000 }) only [go_sem, hcm]) | ((repeat ((fail_if_success (refine hK _ ?_)); clear hK K)); refine hK _ ?_; clear hK K) | (refine w1 ?_; simp only [xs, xi, Nat.reduceEqDiff, reduceCtorEq]) | (refine wC (fun hb => ?_) fun hb => ?_ <;> (try simp only [xb, reduceCtorEq] at hb)) | (refine w2 (fun hc => ?_) (fun hc => ?_) <;> (try simp only [xc] at hc) <;> (try simp only [go_sem, hc, hcm]) <;> (try simp only [xb] at hc)) | refine wI ?_ | refine ex_idx (by omega) ?_ | fail)
  rotate_left
  · have : k = E.length * F.length := by omega
    subst this
    rw [hbd, bothTo]
    (rw [Try.results28]; exact retOK_box Ty_aggT_26 Ty_szT_26 (by simp [upd_at]))
  have hrl : (rowOf (bothE ⟨E, N⟩ ⟨F, M⟩) k).length = k := rowOf_len _ _
  have hkn := hk1 (by omega)
  rw [ends_cast hOX hkn, ends_cast hOY hk2]
  (first | refine wA rfl _ (⟨_, _, rfl, by have := ends_le hOX hkn; omega, by have := ends_le hOY hk2; omega, rfl⟩) ?_ | refine dA rfl _ (⟨_, _, rfl, by have := ends_le hOX hkn; omega, by have := ends_le hOY hk2; omega, rfl⟩) ?_); simp (config := { maxSteps := 2000000 }) only [go_sem]
  repeat' (first | refine wS fun K hK => ?_ | refine wB ?_ | ((first | refine wR hΓ ?_ | refine wD hΓ fun B hB => ?_); simp (config := { maxSteps := 2000000 }) only [go_sem, hcm]) | ((repeat ((fail_if_success (refine hK _ ?_)); clear hK K)); refine hK _ ?_; clear hK K) | (refine w1 ?_; simp only [xs, xi, Nat.reduceEqDiff, reduceCtorEq]) | (refine wC (fun hb => ?_) fun hb => ?_ <;> (try simp only [xb, reduceCtorEq] at hb)) | (refine w2 (fun hc => ?_) (fun hc => ?_) <;> (try simp only [xc] at hc) <;> (try simp only [go_sem, hc, hcm]) <;> (try simp only [xb] at hc)) | refine wI ?_ | refine ex_idx (by omega) ?_ | fail)
  refine CW.loop (ι := Nat) (fun mv => [(2, box [ints E, rows N]), (3, box [ints F, rows M]), (4, box [own [], own []]), (5, box [oints (rowOf (bothE ⟨E, N⟩ ⟨F, M⟩) (k + 1)), oorows (rowsOf (fun k => rowOf (bothN ⟨E, N⟩ ⟨F, M⟩ k) 12) k)]), (6, I E.length), (7, I F.length), (8, I k), (9, oints (rowOf (bothN ⟨E, N⟩ ⟨F, M⟩ k) mv)), (10, I mv)]) (fun mv => mv ≤ 12) (fun mv => 12 - mv) 0 ?_ ?_
  · refine ⟨by ((simp only [xe, xj, Nat.reduceEqDiff]; (try simp [view, viewL_map]); (try omega)); simp [rowOf_succ, bothE]; simp [rowOf]), by omega⟩
  rintro mv hmv
  simp only [envOf]
  repeat' (first | refine wS fun K hK => ?_ | refine wB ?_ | ((first | refine wR hΓ ?_ | refine wD hΓ fun B hB => ?_); simp (config := { maxSteps := 2000000 }) only [go_sem, hcm]) | ((repeat ((fail_if_success (refine hK _ ?_)); clear hK K)); refine hK _ ?_; clear hK K) | (refine w1 ?_; simp only [xs, xi, Nat.reduceEqDiff, reduceCtorEq]) | (refine wC (fun hb => ?_) fun hb => ?_ <;> (try simp only [xb, reduceCtorEq] at hb)) | (refine w2 (fun hc => ?_) (fun hc => ?_) <;> (try simp only [xc] at hc) <;> (try simp only [go_sem, hc, hcm]) <;> (try simp only [xb] at hc)) | refine wI ?_ | refine ex_idx (by omega) ?_ | fail)
  · have hkN : k / F.length < N.length := by have : N.length = E.length := hOX.len; omega
    have hkM : k % F.length < M.length := by have : M.length = F.length := hOY.len; omega
    have hr1 := row_len hOX hkN
    have hr2 := row_len hOY hkM
    refine CW.loop (ι := Nat) (fun j => [(2, box [ints E, rows N]), (3, box [ints F, rows M]), (4, box [own [], own []]), (5, box [oints (rowOf (bothE ⟨E, N⟩ ⟨F, M⟩) (k + 1)), oorows (rowsOf (fun k => rowOf (bothN ⟨E, N⟩ ⟨F, M⟩ k) 12) k)]), (6, I E.length), (7, I F.length), (8, I k), (9, oints (rowOf (bothN ⟨E, N⟩ ⟨F, M⟩ k) mv)), (10, I mv), (11, I ((sumB (bothP (nextN ⟨E, N⟩ (k / F.length) mv) (nextN ⟨F, M⟩ (k % F.length) mv) F.length) j : Nat) : Int)), (12, I j)]) (fun j => j ≤ E.length * F.length) (fun j => E.length * F.length - j) 0 ?_ ?_
    · refine ⟨by ((simp only [xe, xj, Nat.reduceEqDiff]; (try simp [view, viewL_map]); (try omega)); simp [sumB]), by omega⟩
    rintro j hj
    simp only [envOf]
    have hj1 : j < E.length * F.length → j / F.length < E.length := fun h => Nat.div_lt_of_lt_mul (by rw [Nat.mul_comm]; exact h)
    have hj2 : j % F.length < F.length := Nat.mod_lt _ (by omega)
    repeat' (first | refine wS fun K hK => ?_ | refine wB ?_ | ((first | refine wR hΓ ?_ | refine wD hΓ fun B hB => ?_); simp (config := { maxSteps := 2000000 }) only [go_sem, hcm]) | ((repeat ((fail_if_success (refine hK _ ?_)); clear hK K)); refine hK _ ?_; clear hK K) | (refine w1 ?_; simp only [xs, xi, Nat.reduceEqDiff, reduceCtorEq]) | (refine wC (fun hb => ?_) fun hb => ?_ <;> (try simp only [xb, reduceCtorEq] at hb)) | (refine w2 (fun hc => ?_) (fun hc => ?_) <;> (try simp only [xc] at hc) <;> (try simp only [go_sem, hc, hcm]) <;> (try simp only [xb] at hc)) | refine wI ?_ | refine ex_idx (by omega) ?_ | fail)
    · have hjn := hj1 (by omega)
      have hA := next_lt hOX hkN (show mv < N[k / F.length].length by omega)
      rw [next_cast hOX hkN (show mv < N[k / F.length].length by omega)]
      (first | refine wA rfl _ (⟨_, _, rfl, by omega, rfl⟩) ?_ | refine dA rfl _ (⟨_, _, rfl, by omega, rfl⟩) ?_); simp (config := { maxSteps := 2000000 }) only [go_sem]
      repeat' (first | refine wS fun K hK => ?_ | refine wB ?_ | ((first | refine wR hΓ ?_ | refine wD hΓ fun B hB => ?_); simp (config := { maxSteps := 2000000 }) only [go_sem, hcm]) | ((repeat ((fail_if_success (refine hK _ ?_)); clear hK K)); refine hK _ ?_; clear hK K) | (refine w1 ?_; simp only [xs, xi, Nat.reduceEqDiff, reduceCtorEq]) | (refine wC (fun hb => ?_) fun hb => ?_ <;> (try simp only [xb, reduceCtorEq] at hb)) | (refine w2 (fun hc => ?_) (fun hc => ?_) <;> (try simp only [xc] at hc) <;> (try simp only [go_sem, hc, hcm]) <;> (try simp only [xb] at hc)) | refine wI ?_ | refine ex_idx (by omega) ?_ | fail)
      rw [next_cast hOY hkM (show mv < M[k % F.length].length by omega)]
      (first | refine wA rfl _ (⟨_, _, rfl, by omega, rfl⟩) ?_ | refine dA rfl _ (⟨_, _, rfl, by omega, rfl⟩) ?_); simp (config := { maxSteps := 2000000 }) only [go_sem]
      have hP : ((bitN (nextN ⟨E, N⟩ (k / F.length) mv) (j / F.length) : Nat) : Int) * ((bitN (nextN ⟨F, M⟩ (k % F.length) mv) (j % F.length) : Nat) : Int) = (((bothP (nextN ⟨E, N⟩ (k / F.length) mv) (nextN ⟨F, M⟩ (k % F.length) mv) F.length j).toNat : Nat) : Int) := by
        rw [bothP_toNat]; simp
      have hS := sumB_lt (bothP (nextN ⟨E, N⟩ (k / F.length) mv) (nextN ⟨F, M⟩ (k % F.length) mv) F.length) (j + 1)
      have hS2 : 2 ^ (j + 1) ≤ 2 ^ 10 := Nat.pow_le_pow_right (by omega) (by omega)
      have hS3 : sumB (bothP (nextN ⟨E, N⟩ (k / F.length) mv) (nextN ⟨F, M⟩ (k % F.length) mv) F.length) (j + 1) = sumB (bothP (nextN ⟨E, N⟩ (k / F.length) mv) (nextN ⟨F, M⟩ (k % F.length) mv) F.length) j + (bothP (nextN ⟨E, N⟩ (k / F.length) mv) (nextN ⟨F, M⟩ (k % F.length) mv) F.length j).toNat * 2 ^ j := rfl
      have hS4 : (((bothP (nextN ⟨E, N⟩ (k / F.length) mv) (nextN ⟨F, M⟩ (k % F.length) mv) F.length j).toNat : Nat) : Int) * 2 ^ j = (((bothP (nextN ⟨E, N⟩ (k / F.length) mv) (nextN ⟨F, M⟩ (k % F.length) mv) F.length j).toNat * 2 ^ j : Nat) : Int) := by simp
      have hS5 := Bool.toNat_le (bothP (nextN ⟨E, N⟩ (k / F.length) mv) (nextN ⟨F, M⟩ (k % F.length) mv) F.length j)
      rw [hP, hS4]
      repeat' (first | refine wS fun K hK => ?_ | refine wB ?_ | ((first | refine wR hΓ ?_ | refine wD hΓ fun B hB => ?_); simp (config := { maxSteps := 2000000 }) only [go_sem, hcm]) | ((repeat ((fail_if_success (refine hK _ ?_)); clear hK K)); refine hK _ ?_; clear hK K) | (refine w1 ?_; simp only [xs, xi, Nat.reduceEqDiff, reduceCtorEq]) | (refine wC (fun hb => ?_) fun hb => ?_ <;> (try simp only [xb, reduceCtorEq] at hb)) | (refine w2 (fun hc => ?_) (fun hc => ?_) <;> (try simp only [xc] at hc) <;> (try simp only [go_sem, hc, hcm]) <;> (try simp only [xb] at hc)) | refine wI ?_ | refine ex_idx (by omega) ?_ | fail)
      rw [← Int.natCast_add, ← hS3]
      exact ⟨j + 1, by (simp only [xe, xj, Nat.reduceEqDiff]; (try simp [view, viewL_map]); (try omega)), by omega, by omega⟩
    · have hrl2 : (rowOf (bothN ⟨E, N⟩ ⟨F, M⟩ k) mv).length = mv := rowOf_len _ _
      repeat' (first | refine wS fun K hK => ?_ | refine wB ?_ | ((first | refine wR hΓ ?_ | refine wD hΓ fun B hB => ?_); simp (config := { maxSteps := 2000000 }) only [go_sem, hcm]) | ((repeat ((fail_if_success (refine hK _ ?_)); clear hK K)); refine hK _ ?_; clear hK K) | (refine w1 ?_; simp only [xs, xi, Nat.reduceEqDiff, reduceCtorEq]) | (refine wC (fun hb => ?_) fun hb => ?_ <;> (try simp only [xb, reduceCtorEq] at hb)) | (refine w2 (fun hc => ?_) (fun hc => ?_) <;> (try simp only [xc] at hc) <;> (try simp only [go_sem, hc, hcm]) <;> (try simp only [xb] at hc)) | refine wI ?_ | refine ex_idx (by omega) ?_ | fail)
      have hjl : j = E.length * F.length := by omega
      subst hjl
      exact ⟨mv + 1, by ((simp only [xe, xj, Nat.reduceEqDiff]; (try simp [view, viewL_map]); (try omega)); simp [rowOf_succ, bothN]), by omega, by omega⟩
  · have hrl2 : (rowsOf (fun k => rowOf (bothN ⟨E, N⟩ ⟨F, M⟩ k) 12) k).length = k := rowsOf_len _ _
    have hm12 : mv = 12 := by omega
    subst hm12
    repeat' (first | refine wS fun K hK => ?_ | refine wB ?_ | ((first | refine wR hΓ ?_ | refine wD hΓ fun B hB => ?_); simp (config := { maxSteps := 2000000 }) only [go_sem, hcm]) | ((repeat ((fail_if_success (refine hK _ ?_)); clear hK K)); refine hK _ ?_; clear hK K) | (refine w1 ?_; simp only [xs, xi, Nat.reduceEqDiff, reduceCtorEq]) | (refine wC (fun hb => ?_) fun hb => ?_ <;> (try simp only [xb, reduceCtorEq] at hb)) | (refine w2 (fun hc => ?_) (fun hc => ?_) <;> (try simp only [xc] at hc) <;> (try simp only [go_sem, hc, hcm]) <;> (try simp only [xb] at hc)) | refine wI ?_ | refine ex_idx (by omega) ?_ | fail)
    exact ⟨k + 1, by ((simp only [xe, xj, Nat.reduceEqDiff]; (try simp [view, viewL_map]); (try omega)); simp [rowsOf_succ]), by omega, by omega⟩

end Go.Proofs.Ytljoonlcpiagjaa
