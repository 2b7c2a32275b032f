/- The reference's AutoPlus, walked by the engine. -/
import Derived.Test.YtboandkjhdaobaaU1
import Derived.Test.YtboandkjhdaobaaGrpD
import Derived.Test.YtboandkjhdaobaaEngMin
namespace Go.Proofs.Ytboandkjhdaobaa
set_option linter.unusedSimpArgs false
set_option linter.unusedVariables false
set_option maxRecDepth 8000
set_option maxHeartbeats 2000000
open Go Go.RowKit AV

attribute [local go_sem] List.nil_prefix

def shA (X Y : AutoD) (k m : Nat) : Nat := if k < X.ends.length then shN X 1 k m else shN Y (1 + X.ends.length) (k - X.ends.length) m
theorem shA_all (X Y : AutoD) : rowsOf (fun k => rowOf (shA X Y k) 12) (X.ends.length + Y.ends.length) = shR X 1 X.ends.length ++ shR Y (1 + X.ends.length) Y.ends.length := by
  refine List.ext_getElem (by simp [rowsOf, shR]) fun i h1 h2 => ?_
  have hi : i < X.ends.length + Y.ends.length := by simpa [rowsOf] using h1
  by_cases g : i < X.ends.length
  · rw [List.getElem_append_left (by simp [shR, rowsOf]; exact g)]
    simp only [rowsOf, shR, List.getElem_map, List.getElem_range]
    refine rowOf_congr fun m _ => ?_
    unfold shA; rw [if_pos g]
  · rw [List.getElem_append_right (by simp [shR, rowsOf]; omega)]
    simp only [rowsOf, shR, List.getElem_map, List.getElem_range, List.length_map, List.length_range]
    refine rowOf_congr fun m _ => ?_
    unfold shA; rw [if_neg g]

set_option maxHeartbeats 2000000 in
theorem specAutoPlus_ctr : CtrOK Try.prog 26 (pureC autoPlusR) := by
  refine ctr_pure' Try.func26 rfl rfl Try.ntmps26 ?_
  rintro _ _ ⟨E, F, N, M, rfl, hX, hY, rfl⟩
  refine ⟨by simp, fun κ hκ => ?_⟩
  have hbig := bigW_gt
  rw [argEnv_eq]
  simp only [envA]
  have hΓ := ctxOf_ok (P := Try.prog) (cx specAutoValid_ctr <| cx l1Either_ctr <| cx0)
  have hX' := smallD_valid hX
  have hY' := smallD_valid hY
  have hn := hX'.1
  have hm := hY'.1
  have hX0 := hX.1
  have hY0 := hY.1
  repeat' (first | refine wS fun K hK => ?_ | refine wB ?_ | ((first | refine wR hΓ ?_ | refine wD hΓ fun B hB => ?_); simp (config := { maxSteps := 2000000 }) only [go_sem]) | ((repeat ((fail_if_success (refine hK _ ?_)); clear hK K)); refine hK _ ?_; clear hK K) | (refine w1 ?_; simp only [xs, xi, Nat.reduceEqDiff, reduceCtorEq]) | (refine wC (fun hb => ?_) fun hb => ?_ <;> (try simp only [xb, reduceCtorEq] at hb)) | (refine w2 (fun hc => ?_) (fun hc => ?_) <;> (try simp only [xc] at hc) <;> (try simp only [go_sem, hc]) <;> (try simp only [xb] at hc)) | refine wI ?_ | refine ex_idx (by omega) ?_ | fail)
  (first | refine wA rfl _ (⟨_, _, rfl, hX'.1, hX'.2.1, hX'.2.2, rfl⟩) ?_ | refine dA rfl _ (⟨_, _, rfl, hX'.1, hX'.2.1, hX'.2.2, rfl⟩) ?_); simp (config := { maxSteps := 2000000 }) only [go_sem]
  repeat' (first | refine wS fun K hK => ?_ | refine wB ?_ | ((first | refine wR hΓ ?_ | refine wD hΓ fun B hB => ?_); simp (config := { maxSteps := 2000000 }) only [go_sem]) | ((repeat ((fail_if_success (refine hK _ ?_)); clear hK K)); refine hK _ ?_; clear hK K) | (refine w1 ?_; simp only [xs, xi, Nat.reduceEqDiff, reduceCtorEq]) | (refine wC (fun hb => ?_) fun hb => ?_ <;> (try simp only [xb, reduceCtorEq] at hb)) | (refine w2 (fun hc => ?_) (fun hc => ?_) <;> (try simp only [xc] at hc) <;> (try simp only [go_sem, hc]) <;> (try simp only [xb] at hc)) | refine wI ?_ | refine ex_idx (by omega) ?_ | fail)
  rotate_left
  · rw [plusD_no fun h => by rw [autoOKB_true.2 h.1] at hc; cases hc]
    (rw [Try.results26]; exact retOK_box Ty_aggT_31 Ty_szT_31 (by simp [upd_at]))
  have hOX : AutoOK ⟨E, N⟩ := autoOKB_true.1 hc
  clear hc
  (first | refine wA rfl _ (⟨_, _, rfl, hY'.1, hY'.2.1, hY'.2.2, rfl⟩) ?_ | refine dA rfl _ (⟨_, _, rfl, hY'.1, hY'.2.1, hY'.2.2, rfl⟩) ?_); simp (config := { maxSteps := 2000000 }) only [go_sem]
  repeat' (first | refine wS fun K hK => ?_ | refine wB ?_ | ((first | refine wR hΓ ?_ | refine wD hΓ fun B hB => ?_); simp (config := { maxSteps := 2000000 }) only [go_sem]) | ((repeat ((fail_if_success (refine hK _ ?_)); clear hK K)); refine hK _ ?_; clear hK K) | (refine w1 ?_; simp only [xs, xi, Nat.reduceEqDiff, reduceCtorEq]) | (refine wC (fun hb => ?_) fun hb => ?_ <;> (try simp only [xb, reduceCtorEq] at hb)) | (refine w2 (fun hc => ?_) (fun hc => ?_) <;> (try simp only [xc] at hc) <;> (try simp only [go_sem, hc]) <;> (try simp only [xb] at hc)) | refine wI ?_ | refine ex_idx (by omega) ?_ | fail)
  · rw [plusD_no fun h => by have := h.2.2; dsimp only at this; omega]
    (rw [Try.results26]; exact retOK_box Ty_aggT_31 Ty_szT_31 (by simp [upd_at]))
  rotate_left
  · rw [plusD_no fun h => by rw [autoOKB_true.2 h.2.1] at hc; cases hc]
    (rw [Try.results26]; exact retOK_box Ty_aggT_31 Ty_szT_31 (by simp [upd_at]))
  have hOY : AutoOK ⟨F, M⟩ := autoOKB_true.1 hc
  clear hc
  have hX1 : 1 ≤ E.length := hOX.lo
  have hX2 : E.length ≤ 10 := hOX.hi
  have hY1 : 1 ≤ F.length := hOY.lo
  have hY2 : F.length ≤ 10 := hOY.hi
  have hXn : N.length = E.length := hOX.len
  have hYn : M.length = F.length := hOY.len
  have h10 : 1 + E.length + F.length ≤ 10 := by omega
  have hpd := plusD_yes (X := ⟨E, N⟩) (Y := ⟨F, M⟩) ⟨hOX, hOY, h10⟩
  have hE0 : 0 < E.length := by omega
  have hF0 : 0 < F.length := by omega
  have hN0 : 0 < N.length := by omega
  have hM0 : 0 < M.length := by omega
  have hr1 := row_len hOX hN0
  have hr2 := row_len hOY hM0
  have hz1 := ends_le hOX hE0
  have hz2 := ends_le hOY hF0
  refine ⟨E[0], by simp, by omega, F[0], by simp, ?_⟩
  rw [ends_cast hOX hE0, ends_cast hOY hF0]
  (first | refine wA rfl _ (⟨_, _, rfl, by omega, by omega, rfl⟩) ?_ | refine dA rfl _ (⟨_, _, rfl, by omega, by omega, rfl⟩) ?_); simp (config := { maxSteps := 2000000 }) only [go_sem]
  have hse : (sumTo ⟨E, N⟩ ⟨F, M⟩).ends = ((endsN ⟨E, N⟩ 0 ||| endsN ⟨F, M⟩ 0 : Nat) : Int) :: (E ++ F) := rfl
  generalize endsN ⟨E, N⟩ 0 ||| endsN ⟨F, M⟩ 0 = Z0 at hse ⊢
  repeat' (first | refine wS fun K hK => ?_ | refine wB ?_ | ((first | refine wR hΓ ?_ | refine wD hΓ fun B hB => ?_); simp (config := { maxSteps := 2000000 }) only [go_sem]) | ((repeat ((fail_if_success (refine hK _ ?_)); clear hK K)); refine hK _ ?_; clear hK K) | (refine w1 ?_; simp only [xs, xi, Nat.reduceEqDiff, reduceCtorEq]) | (refine wC (fun hb => ?_) fun hb => ?_ <;> (try simp only [xb, reduceCtorEq] at hb)) | (refine w2 (fun hc => ?_) (fun hc => ?_) <;> (try simp only [xc] at hc) <;> (try simp only [go_sem, hc]) <;> (try simp only [xb] at hc)) | refine wI ?_ | refine ex_idx (by omega) ?_ | fail)
  refine CW.loop (ι := Nat) (fun mv => [(2, box [ints E, rows N]), (3, box [ints F, rows M]), (4, box [own [], own []]), (5, box [oints ((Z0 : Int) :: (E ++ F)), own []]), (6, I E.length), (7, I F.length), (8, oints (rowOf (fstN ⟨E, N⟩ ⟨F, M⟩) mv)), (9, I mv)]) (fun mv => mv ≤ 12) (fun mv => 12 - mv) 0 ?_ ?_
  · exact ⟨by ((simp only [xe, xj, Nat.reduceEqDiff]; (try simp [view, viewL_map]); (try omega)); simp [rowOf]), by omega⟩
  rintro mv hmv
  simp only [envOf]
  have hlm : (rowOf (fstN ⟨E, N⟩ ⟨F, M⟩) mv).length = mv := rowOf_len _ _
  have hnn : ((E.length : Int) + 1).toNat = E.length + 1 := by omega
  by_cases hm12 : mv < 12
  · have hmN : mv < N[0].length := by omega
    have hmM : mv < M[0].length := by omega
    have e1 := next_cast hOX hN0 hmN
    have e2 := next_cast hOY hM0 hmM
    have a1 := next_lt hOX hN0 hmN
    have a2 := next_lt hOY hM0 hmM
    have b2 := shl_lt (s := E.length + 1) (N := 20) a2 (by omega)
    have b3 := shl_lt (s := 1) (N := 20) a1 (by omega)
    have hor := or_sum (b := nextN ⟨F, M⟩ 0 mv) a1
    have hrs := rowOf_succ (fstN ⟨E, N⟩ ⟨F, M⟩) mv
    rw [show fstN ⟨E, N⟩ ⟨F, M⟩ mv = nextN ⟨E, N⟩ 0 mv * 2 ^ 1 ||| nextN ⟨F, M⟩ 0 mv * 2 ^ (1 + E.length) from rfl, hor] at hrs
    have hQ : ((nextN ⟨F, M⟩ 0 mv : Nat) : Int) * 2 ^ (E.length + 1) = ((nextN ⟨F, M⟩ 0 mv * 2 ^ (E.length + 1) : Nat) : Int) := by simp
    generalize nextN ⟨E, N⟩ 0 mv = P at e1 a1 hrs b3
    generalize nextN ⟨F, M⟩ 0 mv * 2 ^ (E.length + 1) = Q at b2 hQ hrs
    repeat' (first | refine wS fun K hK => ?_ | refine wB ?_ | ((first | refine wR hΓ ?_ | refine wD hΓ fun B hB => ?_); simp (config := { maxSteps := 2000000 }) only [go_sem, hnn]) | ((repeat ((fail_if_success (refine hK _ ?_)); clear hK K)); refine hK _ ?_; clear hK K) | (refine w1 ?_; simp only [xs, xi, Nat.reduceEqDiff, reduceCtorEq]) | (refine wC (fun hb => ?_) fun hb => ?_ <;> (try simp only [xb, reduceCtorEq] at hb)) | (refine w2 (fun hc => ?_) (fun hc => ?_) <;> (try simp only [xc] at hc) <;> (try simp only [go_sem, hc, hnn]) <;> (try simp only [xb] at hc)) | refine wI ?_ | refine ex_idx (by omega) ?_ | fail)
    all_goals try (exfalso; omega)
    rw [e1, e2, hQ]
    refine ⟨⟨by omega, by omega, by omega, by omega⟩, ⟨by omega, by omega⟩, by omega, ?_⟩
    repeat' (first | refine wS fun K hK => ?_ | refine wB ?_ | ((first | refine wR hΓ ?_ | refine wD hΓ fun B hB => ?_); simp (config := { maxSteps := 2000000 }) only [go_sem, hnn]) | ((repeat ((fail_if_success (refine hK _ ?_)); clear hK K)); refine hK _ ?_; clear hK K) | (refine w1 ?_; simp only [xs, xi, Nat.reduceEqDiff, reduceCtorEq]) | (refine wC (fun hb => ?_) fun hb => ?_ <;> (try simp only [xb, reduceCtorEq] at hb)) | (refine w2 (fun hc => ?_) (fun hc => ?_) <;> (try simp only [xc] at hc) <;> (try simp only [go_sem, hc, hnn]) <;> (try simp only [xb] at hc)) | refine wI ?_ | refine ex_idx (by omega) ?_ | fail)
    have hPQ : 2 * (P : Int) + (Q : Int) = ((2 * P + Q : Nat) : Int) := by push_cast; rfl
    rw [hPQ]
    exact ⟨mv + 1, by ((simp only [xe, xj, Nat.reduceEqDiff]; (try simp [view, viewL_map]); (try omega)); simp [hrs, I]), by omega, by omega⟩
  obtain rfl : mv = 12 := by omega
  repeat' (first | refine wS fun K hK => ?_ | refine wB ?_ | ((first | refine wR hΓ ?_ | refine wD hΓ fun B hB => ?_); simp (config := { maxSteps := 2000000 }) only [go_sem, hnn]) | ((repeat ((fail_if_success (refine hK _ ?_)); clear hK K)); refine hK _ ?_; clear hK K) | (refine w1 ?_; simp only [xs, xi, Nat.reduceEqDiff, reduceCtorEq]) | (refine wC (fun hb => ?_) fun hb => ?_ <;> (try simp only [xb, reduceCtorEq] at hb)) | (refine w2 (fun hc => ?_) (fun hc => ?_) <;> (try simp only [xc] at hc) <;> (try simp only [go_sem, hc, hnn]) <;> (try simp only [xb] at hc)) | refine wI ?_ | refine ex_idx (by omega) ?_ | fail)
  all_goals try (exfalso; omega)
  have hsn : (sumTo ⟨E, N⟩ ⟨F, M⟩).next = rowOf (fstN ⟨E, N⟩ ⟨F, M⟩) 12 :: (shR ⟨E, N⟩ 1 E.length ++ shR ⟨F, M⟩ (1 + E.length) F.length) := rfl
  have hsA := shA_all ⟨E, N⟩ ⟨F, M⟩
  dsimp only at hsA
  generalize rowOf (fstN ⟨E, N⟩ ⟨F, M⟩) 12 = L0 at hsn hlm ⊢
  refine CW.loop (ι := Nat) (fun k => [(2, box [ints E, rows N]), (3, box [ints F, rows M]), (4, box [own [], own []]), (5, box [oints ((Z0 : Int) :: (E ++ F)), oorows (L0 :: rowsOf (fun k => rowOf (shA ⟨E, N⟩ ⟨F, M⟩ k) 12) k)]), (6, I E.length), (7, I F.length), (10, I k)]) (fun k => k ≤ E.length + F.length) (fun k => E.length + F.length - k) 0 ?_ ?_
  · exact ⟨by ((simp only [xe, xj, Nat.reduceEqDiff]; (try simp [view, viewL_map]); (try omega)); simp [rowsOf]), by omega⟩
  rintro k hk
  simp only [envOf]
  repeat' (first | refine wS fun K hK => ?_ | refine wB ?_ | ((first | refine wR hΓ ?_ | refine wD hΓ fun B hB => ?_); simp (config := { maxSteps := 2000000 }) only [go_sem]) | ((repeat ((fail_if_success (refine hK _ ?_)); clear hK K)); refine hK _ ?_; clear hK K) | (refine w1 ?_; simp only [xs, xi, Nat.reduceEqDiff, reduceCtorEq]) | (refine wC (fun hb => ?_) fun hb => ?_ <;> (try simp only [xb, reduceCtorEq] at hb)) | (refine w2 (fun hc => ?_) (fun hc => ?_) <;> (try simp only [xc] at hc) <;> (try simp only [go_sem, hc]) <;> (try simp only [xb] at hc)) | refine wI ?_ | refine ex_idx (by omega) ?_ | fail)
  rotate_left
  · obtain rfl : k = E.length + F.length := by omega
    rw [hsA, hpd, hse, hsn]
    (rw [Try.results26]; exact retOK_box Ty_aggT_31 Ty_szT_31 (by simp [upd_at]))
  refine CW.loop (ι := Nat) (fun mv => [(2, box [ints E, rows N]), (3, box [ints F, rows M]), (4, box [own [], own []]), (5, box [oints ((Z0 : Int) :: (E ++ F)), oorows (L0 :: rowsOf (fun k => rowOf (shA ⟨E, N⟩ ⟨F, M⟩ k) 12) k)]), (6, I E.length), (7, I F.length), (10, I k), (11, oints (rowOf (shA ⟨E, N⟩ ⟨F, M⟩ k) mv)), (12, I mv)]) (fun mv => mv ≤ 12) (fun mv => 12 - mv) 0 ?_ ?_
  · exact ⟨by ((simp only [xe, xj, Nat.reduceEqDiff]; (try simp [view, viewL_map]); (try omega)); simp [rowOf]), by omega⟩
  rintro mv hmv
  simp only [envOf]
  have hlr : (rowOf (shA ⟨E, N⟩ ⟨F, M⟩ k) mv).length = mv := rowOf_len _ _
  have hlR : (rowsOf (fun k => rowOf (shA ⟨E, N⟩ ⟨F, M⟩ k) 12) k).length = k := rowsOf_len _ _
  by_cases hm12 : mv < 12
  rotate_left
  · obtain rfl : mv = 12 := by omega
    repeat' (first | refine wS fun K hK => ?_ | refine wB ?_ | ((first | refine wR hΓ ?_ | refine wD hΓ fun B hB => ?_); simp (config := { maxSteps := 2000000 }) only [go_sem]) | ((repeat ((fail_if_success (refine hK _ ?_)); clear hK K)); refine hK _ ?_; clear hK K) | (refine w1 ?_; simp only [xs, xi, Nat.reduceEqDiff, reduceCtorEq]) | (refine wC (fun hb => ?_) fun hb => ?_ <;> (try simp only [xb, reduceCtorEq] at hb)) | (refine w2 (fun hc => ?_) (fun hc => ?_) <;> (try simp only [xc] at hc) <;> (try simp only [go_sem, hc]) <;> (try simp only [xb] at hc)) | refine wI ?_ | refine ex_idx (by omega) ?_ | fail)
    all_goals try (exfalso; omega)
    exact ⟨k + 1, by ((simp only [xe, xj, Nat.reduceEqDiff]; (try simp [view, viewL_map]); (try omega)); simp [rowsOf_succ]), by omega, by omega⟩
  by_cases hkn : k < E.length
  · have hkN : k < N.length := by omega
    have hrk := row_len hOX hkN
    have hmN : mv < N[k].length := by omega
    have e1 := next_cast hOX hkN hmN
    have a1 := next_lt hOX hkN hmN
    have b3 := shl_lt (s := 1) (N := 20) a1 (by omega)
    have hrs := rowOf_succ (shA ⟨E, N⟩ ⟨F, M⟩ k) mv
    rw [show shA ⟨E, N⟩ ⟨F, M⟩ k mv = nextN ⟨E, N⟩ k mv * 2 ^ 1 from by unfold shA; rw [if_pos hkn]; rfl] at hrs
    generalize nextN ⟨E, N⟩ k mv = P at e1 a1 hrs b3
    repeat' (first | refine wS fun K hK => ?_ | refine wB ?_ | ((first | refine wR hΓ ?_ | refine wD hΓ fun B hB => ?_); simp (config := { maxSteps := 2000000 }) only [go_sem]) | ((repeat ((fail_if_success (refine hK _ ?_)); clear hK K)); refine hK _ ?_; clear hK K) | (refine w1 ?_; simp only [xs, xi, Nat.reduceEqDiff, reduceCtorEq]) | (refine wC (fun hb => ?_) fun hb => ?_ <;> (try simp only [xb, reduceCtorEq] at hb)) | (refine w2 (fun hc => ?_) (fun hc => ?_) <;> (try simp only [xc] at hc) <;> (try simp only [go_sem, hc]) <;> (try simp only [xb] at hc)) | refine wI ?_ | refine ex_idx (by omega) ?_ | fail)
    all_goals try (exfalso; omega)
    rw [e1]
    have hPQ : 2 * (P : Int) = ((P * 2 ^ 1 : Nat) : Int) := by push_cast; omega
    rw [hPQ]
    exact ⟨mv + 1, by ((simp only [xe, xj, Nat.reduceEqDiff]; (try simp [view, viewL_map]); (try omega)); simp [hrs, I]), by omega, by omega⟩
  · obtain ⟨i, rfl⟩ : ∃ i, k = E.length + i := ⟨k - E.length, by omega⟩
    have hki : ((E.length + i : Nat) : Int) - (E.length : Int) = (i : Int) := by omega
    have hkM : i < M.length := by omega
    have hrk := row_len hOY hkM
    have hmM : mv < M[i].length := by omega
    have e2 := next_cast hOY hkM hmM
    have a2 := next_lt hOY hkM hmM
    have b2 := shl_lt (s := E.length + 1) (N := 20) a2 (by omega)
    have hrs := rowOf_succ (shA ⟨E, N⟩ ⟨F, M⟩ (E.length + i)) mv
    rw [show shA ⟨E, N⟩ ⟨F, M⟩ (E.length + i) mv = nextN ⟨F, M⟩ i mv * 2 ^ (E.length + 1) from by unfold shA; rw [if_neg (by dsimp only; omega)]; simp [shN, Nat.add_comm]] at hrs
    have hQ : ((nextN ⟨F, M⟩ i mv : Nat) : Int) * 2 ^ (E.length + 1) = ((nextN ⟨F, M⟩ i mv * 2 ^ (E.length + 1) : Nat) : Int) := by simp
    generalize nextN ⟨F, M⟩ i mv * 2 ^ (E.length + 1) = Q at b2 hQ hrs
    repeat' (first | refine wS fun K hK => ?_ | refine wB ?_ | ((first | refine wR hΓ ?_ | refine wD hΓ fun B hB => ?_); simp (config := { maxSteps := 2000000 }) only [go_sem, hki, hnn]) | ((repeat ((fail_if_success (refine hK _ ?_)); clear hK K)); refine hK _ ?_; clear hK K) | (refine w1 ?_; simp only [xs, xi, Nat.reduceEqDiff, reduceCtorEq]) | (refine wC (fun hb => ?_) fun hb => ?_ <;> (try simp only [xb, reduceCtorEq] at hb)) | (refine w2 (fun hc => ?_) (fun hc => ?_) <;> (try simp only [xc] at hc) <;> (try simp only [go_sem, hc, hki, hnn]) <;> (try simp only [xb] at hc)) | refine wI ?_ | refine ex_idx (by omega) ?_ | fail)
    all_goals try (exfalso; omega)
    rw [e2, hQ]
    refine ⟨⟨by omega, by omega, by omega, by omega⟩, by omega, ?_⟩
    repeat' (first | refine wS fun K hK => ?_ | refine wB ?_ | ((first | refine wR hΓ ?_ | refine wD hΓ fun B hB => ?_); simp (config := { maxSteps := 2000000 }) only [go_sem]) | ((repeat ((fail_if_success (refine hK _ ?_)); clear hK K)); refine hK _ ?_; clear hK K) | (refine w1 ?_; simp only [xs, xi, Nat.reduceEqDiff, reduceCtorEq]) | (refine wC (fun hb => ?_) fun hb => ?_ <;> (try simp only [xb, reduceCtorEq] at hb)) | (refine w2 (fun hc => ?_) (fun hc => ?_) <;> (try simp only [xc] at hc) <;> (try simp only [go_sem, hc]) <;> (try simp only [xb] at hc)) | refine wI ?_ | refine ex_idx (by omega) ?_ | fail)
    exact ⟨mv + 1, by ((simp only [xe, xj, Nat.reduceEqDiff]; (try simp [view, viewL_map]); (try omega)); simp [hrs, I]), by omega, by omega⟩

end Go.Proofs.Ytboandkjhdaobaa
