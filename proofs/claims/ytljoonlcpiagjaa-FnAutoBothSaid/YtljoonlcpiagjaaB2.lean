/- The program's AutoBoth, walked by the engine. -/
import Derived.Test.YtljoonlcpiagjaaB1
import Derived.Test.YtljoonlcpiagjaaEngMin
namespace Go.Proofs.Ytljoonlcpiagjaa
set_option linter.unusedSimpArgs false
set_option linter.unusedVariables false
set_option maxRecDepth 8000
set_option maxHeartbeats 2000000
open Go Go.RowKit AV

def rowAt (f : Nat → Nat) (mv v : Nat) : Nat → Nat := fun i => if i < mv then f i else if i = mv then v else 0
theorem rowOf_set (f : Nat → Nat) (n i v : Nat) : (rowOf f n).set i (v : Int) = rowOf (fun j => if j = i then v else f j) n := by
  refine List.ext_getElem? fun j => ?_
  by_cases hij : j = i
  · subst hij
    by_cases hj : j < n
    · simp [rowOf, List.getElem?_set, hj]
    · simp [rowOf, List.getElem?_set, hj]
  · rw [List.getElem?_set_ne (Ne.symm hij)]
    by_cases hj : j < n <;> simp [rowOf, hj, hij]
theorem rowOf_congr {f g : Nat → Nat} {n : Nat} (h : ∀ i, i < n → f i = g i) : rowOf f n = rowOf g n := by
  unfold rowOf
  exact List.map_congr_left fun i hi => by rw [h i (List.mem_range.1 hi)]
theorem rowAt_set (f : Nat → Nat) (mv v v' n : Nat) : (rowOf (rowAt f mv v) n).set mv (v' : Int) = rowOf (rowAt f mv v') n := by
  rw [rowOf_set]
  refine rowOf_congr fun i _ => ?_
  unfold rowAt
  by_cases h : i = mv
  · subst h; simp
  · simp [h]
theorem rowAt_zero (f : Nat → Nat) (n : Nat) : rowOf (rowAt f 0 0) n = List.replicate n 0 := by
  refine List.ext_getElem (by simp [rowOf]) fun i h1 h2 => ?_
  simp [rowOf, rowAt]
theorem rowAt_next (f : Nat → Nat) (mv n : Nat) : rowOf (rowAt f mv (f mv)) n = rowOf (rowAt f (mv + 1) 0) n := by
  refine rowOf_congr fun i _ => ?_
  unfold rowAt
  by_cases h : i < mv
  · simp [h, show i < mv + 1 by omega]
  · by_cases h2 : i = mv
    · subst h2; simp
    · simp [h, h2, show ¬ i < mv + 1 by omega]
theorem rowAt_end (f : Nat → Nat) (v n : Nat) : rowOf (rowAt f n v) n = rowOf f n := rowOf_congr fun i hi => by simp [rowAt, hi]
theorem rowAt_get (f : Nat → Nat) (mv v n : Nat) (h : mv < (rowOf (rowAt f mv v) n).length) : (rowOf (rowAt f mv v) n)[mv] = (v : Int) := by
  simp [rowOf, rowAt]

set_option maxHeartbeats 1000000 in
theorem implAutoBoth_ctr : CtrOK Try.prog 27 (pureC autoBothR) := by
  refine ctr_pure' Try.func27 rfl rfl Try.ntmps27 ?_
  rintro _ _ ⟨E, F, N, M, rfl, hX, hY, rfl⟩
  refine ⟨by simp, fun κ hκ => ?_⟩
  have hbig := bigW_gt
  rw [argEnv_eq]
  simp only [envA]
  have hΓ := ctxOf_ok (P := Try.prog) (cx implAutoValid_ctr <| cx0)
  have hX' := smallD_valid hX
  have hY' := smallD_valid hY
  have hn := hX'.1
  have hm := hY'.1
  repeat' (first | refine wS fun K hK => ?_ | refine wB ?_ | ((first | refine wR hΓ ?_ | refine wD hΓ fun B hB => ?_); simp (config := { maxSteps := 2000000 }) only [go_sem]) | ((repeat ((fail_if_success (refine hK _ ?_)); clear hK K)); refine hK _ ?_; clear hK K) | (refine w1 ?_; simp only [xs, xi, Nat.reduceEqDiff, reduceCtorEq]) | (refine wC (fun hb => ?_) fun hb => ?_ <;> (try simp only [xb, reduceCtorEq] at hb)) | (refine w2 (fun hc => ?_) (fun hc => ?_) <;> (try simp only [xc] at hc) <;> (try simp only [go_sem, hc]) <;> (try simp only [xb] at hc)) | refine wI ?_ | refine ex_idx (by omega) ?_ | fail)
  (first | refine wA rfl _ (⟨_, _, rfl, hX'.1, hX'.2.1, hX'.2.2, rfl⟩) ?_ | refine dA rfl _ (⟨_, _, rfl, hX'.1, hX'.2.1, hX'.2.2, rfl⟩) ?_); simp (config := { maxSteps := 2000000 }) only [go_sem]
  repeat' (first | refine wS fun K hK => ?_ | refine wB ?_ | ((first | refine wR hΓ ?_ | refine wD hΓ fun B hB => ?_); simp (config := { maxSteps := 2000000 }) only [go_sem]) | ((repeat ((fail_if_success (refine hK _ ?_)); clear hK K)); refine hK _ ?_; clear hK K) | (refine w1 ?_; simp only [xs, xi, Nat.reduceEqDiff, reduceCtorEq]) | (refine wC (fun hb => ?_) fun hb => ?_ <;> (try simp only [xb, reduceCtorEq] at hb)) | (refine w2 (fun hc => ?_) (fun hc => ?_) <;> (try simp only [xc] at hc) <;> (try simp only [go_sem, hc]) <;> (try simp only [xb] at hc)) | refine wI ?_ | refine ex_idx (by omega) ?_ | fail)
  rotate_left
  · rw [bothD_no fun h => by rw [autoOKB_true.2 h.1] at hc; cases hc]
    (rw [Try.results27]; exact retOK_box Ty_aggT_26 Ty_szT_26 (by simp [upd_at]))
  have hOX : AutoOK ⟨E, N⟩ := autoOKB_true.1 hc
  clear hc
  (first | refine wA rfl _ (⟨_, _, rfl, hY'.1, hY'.2.1, hY'.2.2, rfl⟩) ?_ | refine dA rfl _ (⟨_, _, rfl, hY'.1, hY'.2.1, hY'.2.2, rfl⟩) ?_); simp (config := { maxSteps := 2000000 }) only [go_sem]
  repeat' (first | refine wS fun K hK => ?_ | refine wB ?_ | ((first | refine wR hΓ ?_ | refine wD hΓ fun B hB => ?_); simp (config := { maxSteps := 2000000 }) only [go_sem]) | ((repeat ((fail_if_success (refine hK _ ?_)); clear hK K)); refine hK _ ?_; clear hK K) | (refine w1 ?_; simp only [xs, xi, Nat.reduceEqDiff, reduceCtorEq]) | (refine wC (fun hb => ?_) fun hb => ?_ <;> (try simp only [xb, reduceCtorEq] at hb)) | (refine w2 (fun hc => ?_) (fun hc => ?_) <;> (try simp only [xc] at hc) <;> (try simp only [go_sem, hc]) <;> (try simp only [xb] at hc)) | refine wI ?_ | refine ex_idx (by omega) ?_ | fail)
  rotate_left
  · rw [bothD_no fun h => by rw [autoOKB_true.2 h.2.1] at hc; cases hc]
    (rw [Try.results27]; exact retOK_box Ty_aggT_26 Ty_szT_26 (by simp [upd_at]))
  have hOY : AutoOK ⟨F, M⟩ := autoOKB_true.1 hc
  clear hc
  have hX1 : 1 ≤ E.length := hOX.lo
  have hX2 : E.length ≤ 10 := hOX.hi
  have hY1 : 1 ≤ F.length := hOY.lo
  have hY2 : F.length ≤ 10 := hOY.hi
  have hnm : E.length * F.length ≤ 10 * 10 := Nat.mul_le_mul hX2 hY2
  have hcm : (E.length : Int) * (F.length : Int) = ((E.length * F.length : Nat) : Int) := by simp
  rw [hcm]
  repeat' (first | refine wS fun K hK => ?_ | refine wB ?_ | ((first | refine wR hΓ ?_ | refine wD hΓ fun B hB => ?_); simp (config := { maxSteps := 2000000 }) only [go_sem, hcm]) | ((repeat ((fail_if_success (refine hK _ ?_)); clear hK K)); refine hK _ ?_; clear hK K) | (refine w1 ?_; simp only [xs, xi, Nat.reduceEqDiff, reduceCtorEq]) | (refine wC (fun hb => ?_) fun hb => ?_ <;> (try simp only [xb, reduceCtorEq] at hb)) | (refine w2 (fun hc => ?_) (fun hc => ?_) <;> (try simp only [xc] at hc) <;> (try simp only [go_sem, hc, hcm]) <;> (try simp only [xb] at hc)) | refine wI ?_ | refine ex_idx (by omega) ?_ | fail)
  · rw [bothD_no fun h => by have := h.2.2; dsimp only at this; omega]
    (rw [Try.results27]; exact retOK_box Ty_aggT_26 Ty_szT_26 (by simp [upd_at]))
  have hbd := bothD_yes (X := ⟨E, N⟩) (Y := ⟨F, M⟩) ⟨hOX, hOY, by dsimp only; omega⟩
  refine CW.loop (ι := Nat) (fun s => [(2, box [ints E, rows N]), (3, box [ints F, rows M]), (4, box [own [], own []]), (5, I F.length), (6, box [oints (rowOf (bothE ⟨E, N⟩ ⟨F, M⟩) (s * F.length)), oorows (rowsOf (fun k => rowOf (bothN ⟨E, N⟩ ⟨F, M⟩ k) 12) (s * F.length))]), (36, I E.length), (37, I s)]) (fun s => s ≤ E.length) (fun s => E.length - s) 0 ?_ ?_
  · refine ⟨by ((simp only [xe, xj, Nat.reduceEqDiff]; (try simp [view, viewL_map]); (try omega)); simp [rowOf, rowsOf]), by omega⟩
  rintro s hs
  simp only [envOf]
  repeat' (first | refine wS fun K hK => ?_ | refine wB ?_ | ((first | refine wR hΓ ?_ | refine wD hΓ fun B hB => ?_); simp (config := { maxSteps := 2000000 }) only [go_sem]) | ((repeat ((fail_if_success (refine hK _ ?_)); clear hK K)); refine hK _ ?_; clear hK K) | (refine w1 ?_; simp only [xs, xi, Nat.reduceEqDiff, reduceCtorEq]) | (refine wC (fun hb => ?_) fun hb => ?_ <;> (try simp only [xb, reduceCtorEq] at hb)) | (refine w2 (fun hc => ?_) (fun hc => ?_) <;> (try simp only [xc] at hc) <;> (try simp only [go_sem, hc]) <;> (try simp only [xb] at hc)) | refine wI ?_ | refine ex_idx (by omega) ?_ | fail)
  rotate_left
  · have : s = E.length := by omega
    subst this
    rw [hbd, bothTo]
    (rw [Try.results27]; exact retOK_box Ty_aggT_26 Ty_szT_26 (by simp [upd_at]))
  refine CW.loop (ι := Nat) (fun t => [(2, box [ints E, rows N]), (3, box [ints F, rows M]), (4, box [own [], own []]), (5, I F.length), (6, box [oints (rowOf (bothE ⟨E, N⟩ ⟨F, M⟩) (s * F.length + t)), oorows (rowsOf (fun k => rowOf (bothN ⟨E, N⟩ ⟨F, M⟩ k) 12) (s * F.length + t))]), (36, I E.length), (37, I s), (7, I s), (42, I F.length), (43, I t)]) (fun t => t ≤ F.length) (fun t => F.length - t) 0 ?_ ?_
  · refine ⟨by (simp only [xe, xj, Nat.reduceEqDiff]; (try simp [view, viewL_map]); (try omega)), by omega⟩
  rintro t ht
  simp only [envOf]
  repeat' (first | refine wS fun K hK => ?_ | refine wB ?_ | ((first | refine wR hΓ ?_ | refine wD hΓ fun B hB => ?_); simp (config := { maxSteps := 2000000 }) only [go_sem]) | ((repeat ((fail_if_success (refine hK _ ?_)); clear hK K)); refine hK _ ?_; clear hK K) | (refine w1 ?_; simp only [xs, xi, Nat.reduceEqDiff, reduceCtorEq]) | (refine wC (fun hb => ?_) fun hb => ?_ <;> (try simp only [xb, reduceCtorEq] at hb)) | (refine w2 (fun hc => ?_) (fun hc => ?_) <;> (try simp only [xc] at hc) <;> (try simp only [go_sem, hc]) <;> (try simp only [xb] at hc)) | refine wI ?_ | refine ex_idx (by omega) ?_ | fail)
  rotate_left
  · have : t = F.length := by omega
    subst this
    exact ⟨s + 1, by ((simp only [xe, xj, Nat.reduceEqDiff]; (try simp [view, viewL_map]); (try omega)); simp [Nat.add_mul]), by omega, by omega⟩
  have hsE : s < E.length := by omega
  have htF : t < F.length := by omega
  have hsN : s < N.length := by have : N.length = E.length := hOX.len; omega
  have htM : t < M.length := by have : M.length = F.length := hOY.len; omega
  have hr1 := row_len hOX hsN
  have hr2 := row_len hOY htM
  refine CW.loop (ι := Nat) (fun mv => [(2, box [ints E, rows N]), (3, box [ints F, rows M]), (4, box [own [], own []]), (5, I F.length), (6, box [oints (rowOf (bothE ⟨E, N⟩ ⟨F, M⟩) (s * F.length + t)), oorows (rowsOf (fun k => rowOf (bothN ⟨E, N⟩ ⟨F, M⟩ k) 12) (s * F.length + t))]), (36, I E.length), (37, I s), (7, I s), (42, I F.length), (43, I t), (8, I t), (9, oints (rowOf (rowAt (bothN ⟨E, N⟩ ⟨F, M⟩ (s * F.length + t)) mv 0) 12)), (47, I mv)]) (fun mv => mv ≤ 12) (fun mv => 12 - mv) 0 ?_ ?_
  · refine ⟨by ((simp only [xe, xj, Nat.reduceEqDiff]; (try simp [view, viewL_map]); (try omega)); simp [rowAt_zero]), by omega⟩
  rintro mv hmv
  simp only [envOf]
  repeat' (first | refine wS fun K hK => ?_ | refine wB ?_ | ((first | refine wR hΓ ?_ | refine wD hΓ fun B hB => ?_); simp (config := { maxSteps := 2000000 }) only [go_sem]) | ((repeat ((fail_if_success (refine hK _ ?_)); clear hK K)); refine hK _ ?_; clear hK K) | (refine w1 ?_; simp only [xs, xi, Nat.reduceEqDiff, reduceCtorEq]) | (refine wC (fun hb => ?_) fun hb => ?_ <;> (try simp only [xb, reduceCtorEq] at hb)) | (refine w2 (fun hc => ?_) (fun hc => ?_) <;> (try simp only [xc] at hc) <;> (try simp only [go_sem, hc]) <;> (try simp only [xb] at hc)) | refine wI ?_ | refine ex_idx (by omega) ?_ | fail)
  · refine CW.loop (ι := Nat) (fun x => [(2, box [ints E, rows N]), (3, box [ints F, rows M]), (4, box [own [], own []]), (5, I F.length), (6, box [oints (rowOf (bothE ⟨E, N⟩ ⟨F, M⟩) (s * F.length + t)), oorows (rowsOf (fun k => rowOf (bothN ⟨E, N⟩ ⟨F, M⟩ k) 12) (s * F.length + t))]), (36, I E.length), (37, I s), (7, I s), (42, I F.length), (43, I t), (8, I t), (9, oints (rowOf (rowAt (bothN ⟨E, N⟩ ⟨F, M⟩ (s * F.length + t)) mv (orT (nextN ⟨E, N⟩ s mv) (nextN ⟨F, M⟩ t mv) F.length x)) 12)), (47, I mv), (10, I mv), (52, I E.length), (53, I x)]) (fun x => x ≤ E.length) (fun x => E.length - x) 0 ?_ ?_
    · refine ⟨by ((simp only [xe, xj, Nat.reduceEqDiff]; (try simp [view, viewL_map]); (try omega)); simp [orT]), by omega⟩
    rintro x hx
    simp only [envOf]
    repeat' (first | refine wS fun K hK => ?_ | refine wB ?_ | ((first | refine wR hΓ ?_ | refine wD hΓ fun B hB => ?_); simp (config := { maxSteps := 2000000 }) only [go_sem, shr_nat]) | ((repeat ((fail_if_success (refine hK _ ?_)); clear hK K)); refine hK _ ?_; clear hK K) | (refine w1 ?_; simp only [xs, xi, Nat.reduceEqDiff, reduceCtorEq]) | (refine wC (fun hb => ?_) fun hb => ?_ <;> (try simp only [xb, reduceCtorEq] at hb)) | (refine w2 (fun hc => ?_) (fun hc => ?_) <;> (try simp only [xc] at hc) <;> (try simp only [go_sem, hc, shr_nat]) <;> (try simp only [xb] at hc)) | refine wI ?_ | refine ex_idx (by omega) ?_ | fail)
    · have hA := next_lt hOX hsN (show mv < N[s].length by omega)
      have hA2 : 2 ^ E.length ≤ 2 ^ 10 := Nat.pow_le_pow_right (by omega) hX2
      have hq := Nat.div_le_self (nextN ⟨E, N⟩ s mv) (2 ^ x)
      have hone : (nextN ⟨E, N⟩ s mv) / 2 ^ x &&& 1 = bitN (nextN ⟨E, N⟩ s mv) x := by rw [Nat.and_one_is_mod, bitN_eq]
      rw [next_cast hOX hsN (show mv < N[s].length by omega), shr_nat]
      simp only [Int.toNat_natCast, Int.toNat_one, hone]
      generalize (nextN ⟨E, N⟩ s mv) / 2 ^ x = Q at hq
      have hB := next_lt hOY htM (show mv < M[t].length by omega)
      have hmx : F.length * x + F.length ≤ 10 := by
        have := Nat.mul_le_mul_left F.length (show x + 1 ≤ E.length by omega)
        rw [Nat.mul_add, Nat.mul_one, Nat.mul_comm F.length E.length] at this
        omega
      have hB2 : (nextN ⟨F, M⟩ t mv) * 2 ^ (F.length * x) < 2 ^ 10 := by
        refine Nat.lt_of_lt_of_le (Nat.mul_lt_mul_of_pos_right hB (Nat.two_pow_pos _)) ?_
        rw [← Nat.pow_add]
        exact Nat.pow_le_pow_right (by omega) (by omega)
      have hO : orT (nextN ⟨E, N⟩ s mv) (nextN ⟨F, M⟩ t mv) F.length x < 2 ^ 10 := by
        rw [orT_eq _ hB (by omega)]
        exact Nat.lt_of_lt_of_le (sumB_lt _ _) (Nat.pow_le_pow_right (by omega) (by omega))
      have hcx : (F.length : Int) * (x : Int) = ((F.length * x : Nat) : Int) := by simp
      have hrl3 : (rowOf (rowAt (bothN ⟨E, N⟩ ⟨F, M⟩ (s * F.length + t)) mv (orT (nextN ⟨E, N⟩ s mv) (nextN ⟨F, M⟩ t mv) F.length x)) 12).length = 12 := rowOf_len _ _
      have hSh : (((nextN ⟨F, M⟩ t mv) : Nat) : Int) * 2 ^ (F.length * x) = (((nextN ⟨F, M⟩ t mv) * 2 ^ (F.length * x) : Nat) : Int) := by simp
      have hset := rowAt_set (bothN ⟨E, N⟩ ⟨F, M⟩ (s * F.length + t)) mv (orT (nextN ⟨E, N⟩ s mv) (nextN ⟨F, M⟩ t mv) F.length x) (orT (nextN ⟨E, N⟩ s mv) (nextN ⟨F, M⟩ t mv) F.length x ||| (nextN ⟨F, M⟩ t mv) * 2 ^ (F.length * x)) 12
      refine ⟨by omega, ?_⟩
      repeat' (first | refine wS fun K hK => ?_ | refine wB ?_ | ((first | refine wR hΓ ?_ | refine wD hΓ fun B hB => ?_); simp (config := { maxSteps := 2000000 }) only [go_sem, hcx]) | ((repeat ((fail_if_success (refine hK _ ?_)); clear hK K)); refine hK _ ?_; clear hK K) | (refine w1 ?_; simp only [xs, xi, Nat.reduceEqDiff, reduceCtorEq]) | (refine wC (fun hb => ?_) fun hb => ?_ <;> (try simp only [xb, reduceCtorEq] at hb)) | (refine w2 (fun hc => ?_) (fun hc => ?_) <;> (try simp only [xc] at hc) <;> (try simp only [go_sem, hc, hcx]) <;> (try simp only [xb] at hc)) | refine wI ?_ | refine ex_idx (by omega) ?_ | fail)
      · rw [next_cast hOY htM (show mv < M[t].length by omega), hSh, rowAt_get]
        simp only [Int.toNat_natCast]
        generalize hBx : (nextN ⟨F, M⟩ t mv) * 2 ^ (F.length * x) = Bx at hB2 hset
        repeat' (first | refine wS fun K hK => ?_ | refine wB ?_ | ((first | refine wR hΓ ?_ | refine wD hΓ fun B hB => ?_); simp (config := { maxSteps := 2000000 }) only [go_sem, hcx]) | ((repeat ((fail_if_success (refine hK _ ?_)); clear hK K)); refine hK _ ?_; clear hK K) | (refine w1 ?_; simp only [xs, xi, Nat.reduceEqDiff, reduceCtorEq]) | (refine wC (fun hb => ?_) fun hb => ?_ <;> (try simp only [xb, reduceCtorEq] at hb)) | (refine w2 (fun hc => ?_) (fun hc => ?_) <;> (try simp only [xc] at hc) <;> (try simp only [go_sem, hc, hcx]) <;> (try simp only [xb] at hc)) | refine wI ?_ | refine ex_idx (by omega) ?_ | fail)
        have hbt : (nextN ⟨E, N⟩ s mv).testBit x = true := by
          cases h : (nextN ⟨E, N⟩ s mv).testBit x with
          | true => rfl
          | false => rw [bitN_f h] at hb; exact absurd hb (by decide)
        have horT : orT (nextN ⟨E, N⟩ s mv) (nextN ⟨F, M⟩ t mv) F.length (x + 1) = orT (nextN ⟨E, N⟩ s mv) (nextN ⟨F, M⟩ t mv) F.length x ||| Bx := by rw [← hBx]; simp [orT, hbt]
        have hset2 : (List.map I (rowOf (rowAt (bothN ⟨E, N⟩ ⟨F, M⟩ (s * F.length + t)) mv (orT (nextN ⟨E, N⟩ s mv) (nextN ⟨F, M⟩ t mv) F.length x)) 12)).set mv (I ((orT (nextN ⟨E, N⟩ s mv) (nextN ⟨F, M⟩ t mv) F.length x ||| Bx : Nat) : Int)) = List.map I (rowOf (rowAt (bothN ⟨E, N⟩ ⟨F, M⟩ (s * F.length + t)) mv (orT (nextN ⟨E, N⟩ s mv) (nextN ⟨F, M⟩ t mv) F.length (x + 1))) 12) := by
          rw [horT, ← hset, List.map_set]
        rw [hset2]
        exact ⟨x + 1, by (simp only [xe, xj, Nat.reduceEqDiff]; (try simp [view, viewL_map]); (try omega)), by omega, by omega⟩
      · have hbt : (nextN ⟨E, N⟩ s mv).testBit x = false := by
          cases h : (nextN ⟨E, N⟩ s mv).testBit x with
          | false => rfl
          | true => rw [bitN_t h] at hb; exact absurd rfl hb
        exact ⟨x + 1, by ((simp only [xe, xj, Nat.reduceEqDiff]; (try simp [view, viewL_map]); (try omega)); simp [orT, hbt]), by omega, by omega⟩
    · have hxE : x = E.length := by omega
      subst hxE
      have hB := next_lt hOY htM (show mv < M[t].length by omega)
      have hf : (bothN ⟨E, N⟩ ⟨F, M⟩ (s * F.length + t)) mv = orT (nextN ⟨E, N⟩ s mv) (nextN ⟨F, M⟩ t mv) F.length E.length := by
        rw [orT_eq _ hB (by omega)]
        unfold bothN
        dsimp only
        rw [Nat.mul_comm s, Nat.mul_add_div (by omega), Nat.mul_add_mod, Nat.div_eq_of_lt htF, Nat.mod_eq_of_lt htF, Nat.add_zero, Nat.mul_comm E.length]
      rw [← hf, rowAt_next]
      exact ⟨mv + 1, by (simp only [xe, xj, Nat.reduceEqDiff]; (try simp [view, viewL_map]); (try omega)), by omega, by omega⟩
  · have hm12 : mv = 12 := by omega
    subst hm12
    rw [rowAt_end]
    have hrl1 : (rowOf (bothE ⟨E, N⟩ ⟨F, M⟩) (s * F.length + t)).length = s * F.length + t := rowOf_len _ _
    have hrl2 : (rowsOf (fun k => rowOf (bothN ⟨E, N⟩ ⟨F, M⟩ k) 12) (s * F.length + t)).length = s * F.length + t := rowsOf_len _ _
    have hst : s * F.length + t ≤ 100 := by
      have := Nat.mul_le_mul (show s ≤ 9 by omega) hY2
      omega
    have he1 := ends_le hOX hsE
    have he2 := ends_le hOY htF
    rw [ends_cast hOX hsE, ends_cast hOY htF]
    repeat' (first | refine wS fun K hK => ?_ | refine wB ?_ | ((first | refine wR hΓ ?_ | refine wD hΓ fun B hB => ?_); simp (config := { maxSteps := 2000000 }) only [go_sem]) | ((repeat ((fail_if_success (refine hK _ ?_)); clear hK K)); refine hK _ ?_; clear hK K) | (refine w1 ?_; simp only [xs, xi, Nat.reduceEqDiff, reduceCtorEq]) | (refine wC (fun hb => ?_) fun hb => ?_ <;> (try simp only [xb, reduceCtorEq] at hb)) | (refine w2 (fun hc => ?_) (fun hc => ?_) <;> (try simp only [xc] at hc) <;> (try simp only [go_sem, hc]) <;> (try simp only [xb] at hc)) | refine wI ?_ | refine ex_idx (by omega) ?_ | fail)
    have hbe : bothE ⟨E, N⟩ ⟨F, M⟩ (s * F.length + t) = endsN ⟨E, N⟩ s &&& endsN ⟨F, M⟩ t := by
      unfold bothE
      dsimp only
      rw [Nat.mul_comm s, Nat.mul_add_div (by omega), Nat.mul_add_mod, Nat.div_eq_of_lt htF, Nat.mod_eq_of_lt htF, Nat.add_zero]
    exact ⟨t + 1, by ((simp only [xe, xj, Nat.reduceEqDiff]; (try simp [view, viewL_map]); (try omega)); simp [← Nat.add_assoc, rowOf_succ, rowsOf_succ, hbe]), by omega, by omega⟩

end Go.Proofs.Ytljoonlcpiagjaa
