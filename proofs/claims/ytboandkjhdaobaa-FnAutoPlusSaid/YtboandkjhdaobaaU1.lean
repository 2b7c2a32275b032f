/- The program's AutoPlus, walked by the engine: a closure writes what it has captured. -/
import Derived.Test.YtboandkjhdaobaaB2
import Derived.Test.YtboandkjhdaobaaEngC
import Derived.Test.YtboandkjhdaobaaPlusP
import Derived.Test.YtboandkjhdaobaaEngMin
namespace Go.Proofs.Ytboandkjhdaobaa
set_option linter.unusedSimpArgs false
set_option linter.unusedVariables false
set_option maxRecDepth 8000
set_option maxHeartbeats 2000000
open Go Go.RowKit AV

attribute [local go_sem] wpOpsC_cons wpOpsC_nil KOpsC_app rdGC capOf rdCallC rdMkC rdArgC rdArgsC List.nil_prefix

def addAR (args : List AV) (r : AV) (args' : List AV) : Prop := ∃ (E : List Int) (N : List (List Int)) (s : Nat) (E0 : List Int) (R0 : List (List Int)), args = [agg [ints E, rows N], I (s : Int), box [oints E0, oorows R0]] ∧ AutoOK ⟨E, N⟩ ∧ s + E.length ≤ 20 ∧ E0.length ≤ 100 ∧ R0.length ≤ 100 ∧ r = .tup [] ∧ args' = [agg [ints E, rows N], I (s : Int), box [oints (E0 ++ E), oorows (R0 ++ shR ⟨E, N⟩ s E.length)]]

set_option maxHeartbeats 1000000 in
theorem addA_ctr : CtrOK Try.prog 104 (effC addAR) := by
  refine ctr_cap Try.func104 rfl rfl Try.ntmps104 rfl ?_
  rintro _ _ _ ⟨E, N, s, E0, R0, rfl, hok, hs, h1, h2, rfl, rfl⟩
  refine ⟨[agg [ints E, rows N], I s], _, _, rfl, rfl, rfl, by simp [allP, isP, ints, rows], by simp, fun κ hκ => ?_⟩
  have hbig := bigW_gt
  rw [argEnv_eq]
  simp only [envA, List.cons_append, List.nil_append]
  have hΓ := noCtx_ok Try.prog
  have hX1 : 1 ≤ E.length := hok.lo
  have hX2 : E.length ≤ 10 := hok.hi
  have hlen : N.length = E.length := hok.len
  repeat' (first | refine wS fun K hK => ?_ | refine wB ?_ | ((first | refine wR hΓ ?_ | refine wD hΓ fun B hB => ?_); simp (config := { maxSteps := 2000000 }) only [go_sem]) | ((repeat ((fail_if_success (refine hK _ ?_)); clear hK K)); refine hK _ ?_; clear hK K) | (refine w1 ?_; simp only [xs, xi, Nat.reduceEqDiff, reduceCtorEq]) | (refine wC (fun hb => ?_) fun hb => ?_ <;> (try simp only [xb, reduceCtorEq] at hb)) | (refine w2 (fun hc => ?_) (fun hc => ?_) <;> (try simp only [xc] at hc) <;> (try simp only [go_sem, hc]) <;> (try simp only [xb] at hc)) | refine wI ?_ | refine ex_idx (by omega) ?_ | fail)
  refine CW.loop (ι := Nat) (fun k => [(1, I s), (2, box [oints (E0 ++ E.take k), oorows (R0 ++ shR ⟨E, N⟩ s k)]), (3, box [ints E, rows N]), (11, I E.length), (12, I (k : Nat))]) (fun k => k ≤ E.length) (fun k => E.length - k) 0 ?_ ?_
  · exact ⟨by ((simp only [xe, xj, Nat.reduceEqDiff]; (try simp [view, viewL_map]); (try omega)); simp [shR, rowsOf]), by omega⟩
  rintro k hk
  simp only [envOf]
  repeat' (first | refine wS fun K hK => ?_ | refine wB ?_ | ((first | refine wR hΓ ?_ | refine wD hΓ fun B hB => ?_); simp (config := { maxSteps := 2000000 }) only [go_sem]) | ((repeat ((fail_if_success (refine hK _ ?_)); clear hK K)); refine hK _ ?_; clear hK K) | (refine w1 ?_; simp only [xs, xi, Nat.reduceEqDiff, reduceCtorEq]) | (refine wC (fun hb => ?_) fun hb => ?_ <;> (try simp only [xb, reduceCtorEq] at hb)) | (refine w2 (fun hc => ?_) (fun hc => ?_) <;> (try simp only [xc] at hc) <;> (try simp only [go_sem, hc]) <;> (try simp only [xb] at hc)) | refine wI ?_ | refine ex_idx (by omega) ?_ | fail)
  rotate_left
  · obtain rfl : k = E.length := by omega
    rw [List.take_length]
    rw [retC_normal]
    simp [upd_at]
  have hkE : k < E.length := by omega
  have hkN : k < N.length := by omega
  have hrl := row_len hok hkN
  refine CW.loop (ι := Nat) (fun mv => [(1, I s), (2, box [oints (E0 ++ E.take k), oorows (R0 ++ shR ⟨E, N⟩ s k)]), (3, box [ints E, rows N]), (11, I E.length), (12, I (k : Nat)), (5, I (k : Nat)), (6, oints (rowOf (rowAt (shN ⟨E, N⟩ s k) mv 0) 12)), (20, ints N[k]), (21, I N[k].length), (22, I (mv : Int))]) (fun mv => mv ≤ 12) (fun mv => 12 - mv) 0 ?_ ?_
  · exact ⟨by ((simp only [xe, xj, Nat.reduceEqDiff]; (try simp [view, viewL_map]); (try omega)); simp [rowAt_zero]), by omega⟩
  rintro mv hmv
  simp only [envOf]
  repeat' (first | refine wS fun K hK => ?_ | refine wB ?_ | ((first | refine wR hΓ ?_ | refine wD hΓ fun B hB => ?_); simp (config := { maxSteps := 2000000 }) only [go_sem]) | ((repeat ((fail_if_success (refine hK _ ?_)); clear hK K)); refine hK _ ?_; clear hK K) | (refine w1 ?_; simp only [xs, xi, Nat.reduceEqDiff, reduceCtorEq]) | (refine wC (fun hb => ?_) fun hb => ?_ <;> (try simp only [xb, reduceCtorEq] at hb)) | (refine w2 (fun hc => ?_) (fun hc => ?_) <;> (try simp only [xc] at hc) <;> (try simp only [go_sem, hc]) <;> (try simp only [xb] at hc)) | refine wI ?_ | refine ex_idx (by omega) ?_ | fail)
  · have hm12 : mv < 12 := by omega
    have hA := next_lt hok hkN (show mv < N[k].length by omega)
    have hP := shl_lt (s := s) (N := 20) hA hs
    have hset := rowAt_set (shN ⟨E, N⟩ s k) mv 0 (nextN ⟨E, N⟩ k mv * 2 ^ s) 12
    rw [show rowAt (shN ⟨E, N⟩ s k) mv (nextN ⟨E, N⟩ k mv * 2 ^ s) = rowAt (shN ⟨E, N⟩ s k) mv (shN ⟨E, N⟩ s k mv) from rfl, rowAt_next] at hset
    have hSh : ((nextN ⟨E, N⟩ k mv : Nat) : Int) * 2 ^ s = ((nextN ⟨E, N⟩ k mv * 2 ^ s : Nat) : Int) := by simp
    have hrl3 : (rowOf (rowAt (shN ⟨E, N⟩ s k) mv 0) 12).length = 12 := rowOf_len _ _
    rw [next_cast hok hkN (show mv < N[k].length by omega), hSh]
    generalize nextN ⟨E, N⟩ k mv * 2 ^ s = P at hP hset
    refine ⟨by omega, ?_⟩
    repeat' (first | refine wS fun K hK => ?_ | refine wB ?_ | ((first | refine wR hΓ ?_ | refine wD hΓ fun B hB => ?_); simp (config := { maxSteps := 2000000 }) only [go_sem]) | ((repeat ((fail_if_success (refine hK _ ?_)); clear hK K)); refine hK _ ?_; clear hK K) | (refine w1 ?_; simp only [xs, xi, Nat.reduceEqDiff, reduceCtorEq]) | (refine wC (fun hb => ?_) fun hb => ?_ <;> (try simp only [xb, reduceCtorEq] at hb)) | (refine w2 (fun hc => ?_) (fun hc => ?_) <;> (try simp only [xc] at hc) <;> (try simp only [go_sem, hc]) <;> (try simp only [xb] at hc)) | refine wI ?_ | refine ex_idx (by omega) ?_ | fail)
    have hset2 : (List.map I (rowOf (rowAt (shN ⟨E, N⟩ s k) mv 0) 12)).set mv (num IntKind.i64 (P : Int)) = List.map I (rowOf (rowAt (shN ⟨E, N⟩ s k) (mv + 1) 0) 12) := by
      rw [← hset, List.map_set]
    rw [hset2]
    exact ⟨mv + 1, by (simp only [xe, xj, Nat.reduceEqDiff]; (try simp [view, viewL_map]); (try omega)), by omega, by omega⟩
  · obtain rfl : mv = 12 := by omega
    rw [rowAt_end]
    have hsl := shR_len ⟨E, N⟩ s k
    refine ⟨by simp only [List.length_append, hsl]; omega, ?_⟩
    repeat' (first | refine wS fun K hK => ?_ | refine wB ?_ | ((first | refine wR hΓ ?_ | refine wD hΓ fun B hB => ?_); simp (config := { maxSteps := 2000000 }) only [go_sem]) | ((repeat ((fail_if_success (refine hK _ ?_)); clear hK K)); refine hK _ ?_; clear hK K) | (refine w1 ?_; simp only [xs, xi, Nat.reduceEqDiff, reduceCtorEq]) | (refine wC (fun hb => ?_) fun hb => ?_ <;> (try simp only [xb, reduceCtorEq] at hb)) | (refine w2 (fun hc => ?_) (fun hc => ?_) <;> (try simp only [xc] at hc) <;> (try simp only [go_sem, hc]) <;> (try simp only [xb] at hc)) | refine wI ?_ | refine ex_idx (by omega) ?_ | fail)
    refine ⟨k + 1, ?_, by omega, by omega⟩
    rw [shR_succ, List.take_succ_eq_append_getElem hkE]
    ((simp only [xe, xj, Nat.reduceEqDiff]; (try simp [view, viewL_map]); (try omega)); try simp)
    all_goals try (rw [List.take_succ_eq_append_getElem (by simpa using hkE)]; simp [I])

def autoPlusR (args : List AV) (r : AV) : Prop := ∃ (E F : List Int) (N M : List (List Int)), args = [agg [ints E, rows N], agg [ints F, rows M]] ∧ smallD E N ∧ smallD F M ∧ r = agg [oints (plusD ⟨E, N⟩ ⟨F, M⟩).ends, oorows (plusD ⟨E, N⟩ ⟨F, M⟩).next]

set_option maxHeartbeats 2000000 in
theorem implAutoPlus_ctr : CtrOK Try.prog 28 (pureC autoPlusR) := by
  refine ctr_pure' Try.func28 rfl rfl Try.ntmps28 ?_
  rintro _ _ ⟨E, F, N, M, rfl, hX, hY, rfl⟩
  refine ⟨by simp, fun κ hκ => ?_⟩
  have hbig := bigW_gt
  rw [argEnv_eq]
  simp only [envA]
  have hΓ := ctxOf_ok (P := Try.prog) (cx implAutoValid_ctr <| cx addA_ctr <| cx0)
  have hX' := smallD_valid hX
  have hY' := smallD_valid hY
  have hn := hX'.1
  have hm := hY'.1
  repeat' (first | refine wS fun K hK => ?_ | refine wB ?_ | ((first | refine wR hΓ ?_ | refine wD hΓ fun B hB => ?_); simp (config := { maxSteps := 2000000 }) only [go_sem]) | ((repeat ((fail_if_success (refine hK _ ?_)); clear hK K)); refine hK _ ?_; clear hK K) | (refine w1 ?_; simp only [xs, xi, Nat.reduceEqDiff, reduceCtorEq]) | (refine wC (fun hb => ?_) fun hb => ?_ <;> (try simp only [xb, reduceCtorEq] at hb)) | (refine w2 (fun hc => ?_) (fun hc => ?_) <;> (try simp only [xc] at hc) <;> (try simp only [go_sem, hc]) <;> (try simp only [xb] at hc)) | refine wI ?_ | refine ex_idx (by omega) ?_ | fail)
  (first | refine wA rfl _ (⟨_, _, rfl, hX'.1, hX'.2.1, hX'.2.2, rfl⟩) ?_ | refine dA rfl _ (⟨_, _, rfl, hX'.1, hX'.2.1, hX'.2.2, rfl⟩) ?_); simp (config := { maxSteps := 2000000 }) only [go_sem]
  repeat' (first | refine wS fun K hK => ?_ | refine wB ?_ | ((first | refine wR hΓ ?_ | refine wD hΓ fun B hB => ?_); simp (config := { maxSteps := 2000000 }) only [go_sem]) | ((repeat ((fail_if_success (refine hK _ ?_)); clear hK K)); refine hK _ ?_; clear hK K) | (refine w1 ?_; simp only [xs, xi, Nat.reduceEqDiff, reduceCtorEq]) | (refine wC (fun hb => ?_) fun hb => ?_ <;> (try simp only [xb, reduceCtorEq] at hb)) | (refine w2 (fun hc => ?_) (fun hc => ?_) <;> (try simp only [xc] at hc) <;> (try simp only [go_sem, hc]) <;> (try simp only [xb] at hc)) | refine wI ?_ | refine ex_idx (by omega) ?_ | fail)
  rotate_left
  · rw [plusD_no fun h => by rw [autoOKB_true.2 h.1] at hc; cases hc]
    (rw [Try.results28]; exact retOK_box Ty_aggT_31 Ty_szT_31 (by simp [upd_at]))
  have hOX : AutoOK ⟨E, N⟩ := autoOKB_true.1 hc
  clear hc
  (first | refine wA rfl _ (⟨_, _, rfl, hY'.1, hY'.2.1, hY'.2.2, rfl⟩) ?_ | refine dA rfl _ (⟨_, _, rfl, hY'.1, hY'.2.1, hY'.2.2, rfl⟩) ?_); simp (config := { maxSteps := 2000000 }) only [go_sem]
  repeat' (first | refine wS fun K hK => ?_ | refine wB ?_ | ((first | refine wR hΓ ?_ | refine wD hΓ fun B hB => ?_); simp (config := { maxSteps := 2000000 }) only [go_sem]) | ((repeat ((fail_if_success (refine hK _ ?_)); clear hK K)); refine hK _ ?_; clear hK K) | (refine w1 ?_; simp only [xs, xi, Nat.reduceEqDiff, reduceCtorEq]) | (refine wC (fun hb => ?_) fun hb => ?_ <;> (try simp only [xb, reduceCtorEq] at hb)) | (refine w2 (fun hc => ?_) (fun hc => ?_) <;> (try simp only [xc] at hc) <;> (try simp only [go_sem, hc]) <;> (try simp only [xb] at hc)) | refine wI ?_ | refine ex_idx (by omega) ?_ | fail)
  rotate_left
  · rw [plusD_no fun h => by rw [autoOKB_true.2 h.2.1] at hc; cases hc]
    (rw [Try.results28]; exact retOK_box Ty_aggT_31 Ty_szT_31 (by simp [upd_at]))
  have hOY : AutoOK ⟨F, M⟩ := autoOKB_true.1 hc
  clear hc
  have hX1 : 1 ≤ E.length := hOX.lo
  have hX2 : E.length ≤ 10 := hOX.hi
  have hY1 : 1 ≤ F.length := hOY.lo
  have hY2 : F.length ≤ 10 := hOY.hi
  have hXn : N.length = E.length := hOX.len
  have hYn : M.length = F.length := hOY.len
  refine ⟨⟨by omega, by omega⟩, ?_⟩
  by_cases h10 : 1 + E.length + F.length ≤ 10
  rotate_left
  · repeat' (first | refine wS fun K hK => ?_ | refine wB ?_ | ((first | refine wR hΓ ?_ | refine wD hΓ fun B hB => ?_); simp (config := { maxSteps := 2000000 }) only [go_sem]) | ((repeat ((fail_if_success (refine hK _ ?_)); clear hK K)); refine hK _ ?_; clear hK K) | (refine w1 ?_; simp only [xs, xi, Nat.reduceEqDiff, reduceCtorEq]) | (refine wC (fun hb => ?_) fun hb => ?_ <;> (try simp only [xb, reduceCtorEq] at hb)) | (refine w2 (fun hc => ?_) (fun hc => ?_) <;> (try simp only [xc] at hc) <;> (try simp only [go_sem, hc]) <;> (try simp only [xb] at hc)) | refine wI ?_ | refine ex_idx (by omega) ?_ | fail)
    all_goals try (exfalso; omega)
    rw [plusD_no fun h => h10 h.2.2]
    (rw [Try.results28]; exact retOK_box Ty_aggT_31 Ty_szT_31 (by simp [upd_at]))
  have hpd := plusD_yes (X := ⟨E, N⟩) (Y := ⟨F, M⟩) ⟨hOX, hOY, h10⟩
  have hE0 : 0 < E.length := by omega
  have hF0 : 0 < F.length := by omega
  have hN0 : 0 < N.length := by omega
  have hM0 : 0 < M.length := by omega
  have hr1 := row_len hOX hN0
  have hr2 := row_len hOY hM0
  repeat' (first | refine wS fun K hK => ?_ | refine wB ?_ | ((first | refine wR hΓ ?_ | refine wD hΓ fun B hB => ?_); simp (config := { maxSteps := 2000000 }) only [go_sem]) | ((repeat ((fail_if_success (refine hK _ ?_)); clear hK K)); refine hK _ ?_; clear hK K) | (refine w1 ?_; simp only [xs, xi, Nat.reduceEqDiff, reduceCtorEq]) | (refine wC (fun hb => ?_) fun hb => ?_ <;> (try simp only [xb, reduceCtorEq] at hb)) | (refine w2 (fun hc => ?_) (fun hc => ?_) <;> (try simp only [xc] at hc) <;> (try simp only [go_sem, hc]) <;> (try simp only [xb] at hc)) | refine wI ?_ | refine ex_idx (by omega) ?_ | fail)
  all_goals try (exfalso; omega)
  refine CW.loop (ι := Nat) (fun mv => [(2, box [ints E, rows N]), (3, box [ints F, rows M]), (4, box [own [], own []]), (5, I (1 + (E.length : Int))), (6, oints (rowOf (rowAt (fstN ⟨E, N⟩ ⟨F, M⟩) mv 0) 12)), (35, I (mv : Int))]) (fun mv => mv ≤ 12) (fun mv => 12 - mv) 0 ?_ ?_
  · exact ⟨by ((simp only [xe, xj, Nat.reduceEqDiff]; (try simp [view, viewL_map]); (try omega)); simp [rowAt_zero]), by omega⟩
  rintro mv hmv
  simp only [envOf]
  by_cases hm12 : mv < 12
  · have hmN : mv < N[0].length := by omega
    have hmM : mv < M[0].length := by omega
    have e1 := next_cast hOX hN0 hmN
    have e2 := next_cast hOY hM0 hmM
    have b1 := shl_lt (s := 1) (N := 20) (next_lt hOX hN0 hmN) (by omega)
    have b2 := shl_lt (s := 1 + E.length) (N := 20) (next_lt hOY hM0 hmM) (by omega)
    have hP : ((nextN ⟨E, N⟩ 0 mv : Nat) : Int) * 2 ^ 1 = ((nextN ⟨E, N⟩ 0 mv * 2 ^ 1 : Nat) : Int) := by simp
    have hQ : ((nextN ⟨F, M⟩ 0 mv : Nat) : Int) * 2 ^ (1 + E.length) = ((nextN ⟨F, M⟩ 0 mv * 2 ^ (1 + E.length) : Nat) : Int) := by simp
    have hnn : ((1 : Int) + (E.length : Int)).toNat = 1 + E.length := by omega
    have hset := rowAt_set (fstN ⟨E, N⟩ ⟨F, M⟩) mv 0 (nextN ⟨E, N⟩ 0 mv * 2 ^ 1 ||| nextN ⟨F, M⟩ 0 mv * 2 ^ (1 + E.length)) 12
    rw [show rowAt (fstN ⟨E, N⟩ ⟨F, M⟩) mv (nextN ⟨E, N⟩ 0 mv * 2 ^ 1 ||| nextN ⟨F, M⟩ 0 mv * 2 ^ (1 + E.length)) = rowAt (fstN ⟨E, N⟩ ⟨F, M⟩) mv (fstN ⟨E, N⟩ ⟨F, M⟩ mv) from rfl, rowAt_next] at hset
    generalize nextN ⟨E, N⟩ 0 mv * 2 ^ 1 = P at b1 hP hset
    generalize nextN ⟨F, M⟩ 0 mv * 2 ^ (1 + E.length) = Q at b2 hQ hset
    have hor : P ||| Q < 2 ^ 20 := Nat.or_lt_two_pow b1 b2
    have hrl3 : (rowOf (rowAt (fstN ⟨E, N⟩ ⟨F, M⟩) mv 0) 12).length = 12 := rowOf_len _ _
    repeat' (first | refine wS fun K hK => ?_ | refine wB ?_ | ((first | refine wR hΓ ?_ | refine wD hΓ fun B hB => ?_); simp (config := { maxSteps := 2000000 }) only [go_sem, hnn]) | ((repeat ((fail_if_success (refine hK _ ?_)); clear hK K)); refine hK _ ?_; clear hK K) | (refine w1 ?_; simp only [xs, xi, Nat.reduceEqDiff, reduceCtorEq]) | (refine wC (fun hb => ?_) fun hb => ?_ <;> (try simp only [xb, reduceCtorEq] at hb)) | (refine w2 (fun hc => ?_) (fun hc => ?_) <;> (try simp only [xc] at hc) <;> (try simp only [go_sem, hc, hnn]) <;> (try simp only [xb] at hc)) | refine wI ?_ | refine ex_idx (by omega) ?_ | fail)
    all_goals try (exfalso; omega)
    rw [e1, e2, hP, hQ]
    simp only [Int.toNat_natCast]
    refine ⟨⟨by omega, by omega, by omega, by omega⟩, ⟨⟨by omega, by omega⟩, by omega, by omega⟩, ?_⟩
    generalize P ||| Q = R at hor hset
    repeat' (first | refine wS fun K hK => ?_ | refine wB ?_ | ((first | refine wR hΓ ?_ | refine wD hΓ fun B hB => ?_); simp (config := { maxSteps := 2000000 }) only [go_sem]) | ((repeat ((fail_if_success (refine hK _ ?_)); clear hK K)); refine hK _ ?_; clear hK K) | (refine w1 ?_; simp only [xs, xi, Nat.reduceEqDiff, reduceCtorEq]) | (refine wC (fun hb => ?_) fun hb => ?_ <;> (try simp only [xb, reduceCtorEq] at hb)) | (refine w2 (fun hc => ?_) (fun hc => ?_) <;> (try simp only [xc] at hc) <;> (try simp only [go_sem, hc]) <;> (try simp only [xb] at hc)) | refine wI ?_ | refine ex_idx (by omega) ?_ | fail)
    have hset2 : (List.map I (rowOf (rowAt (fstN ⟨E, N⟩ ⟨F, M⟩) mv 0) 12)).set mv (num IntKind.i64 (R : Int)) = List.map I (rowOf (rowAt (fstN ⟨E, N⟩ ⟨F, M⟩) (mv + 1) 0) 12) := by
      rw [← hset, List.map_set]
    rw [hset2]
    exact ⟨mv + 1, by (simp only [xe, xj, Nat.reduceEqDiff]; (try simp [view, viewL_map]); (try omega)), by omega, by omega⟩
  · obtain rfl : mv = 12 := by omega
    rw [rowAt_end]
    refine CW.seqK fun K hK => ?_
    repeat' (first | refine wB ?_ | ((first | refine wR hΓ ?_ | refine wD hΓ fun B hB => ?_); simp (config := { maxSteps := 2000000 }) only [go_sem]) | (refine w1 ?_; simp only [xs, xi, Nat.reduceEqDiff, reduceCtorEq]) | (refine wC (fun hb => ?_) fun hb => ?_ <;> (try simp only [xb, reduceCtorEq] at hb)) | (refine w2 (fun hc => ?_) (fun hc => ?_) <;> (try simp only [xc] at hc) <;> (try simp only [go_sem, hc]) <;> (try simp only [xb] at hc)) | refine wI ?_ | refine ex_idx (by omega) ?_ | fail)
    (refine hK _ ?_; clear hK K)
    refine CW.seqK fun K hK => ?_
    repeat' (first | refine wB ?_ | ((first | refine wR hΓ ?_ | refine wD hΓ fun B hB => ?_); simp (config := { maxSteps := 2000000 }) only [go_sem]) | (refine w1 ?_; simp only [xs, xi, Nat.reduceEqDiff, reduceCtorEq]) | (refine wC (fun hb => ?_) fun hb => ?_ <;> (try simp only [xb, reduceCtorEq] at hb)) | (refine w2 (fun hc => ?_) (fun hc => ?_) <;> (try simp only [xc] at hc) <;> (try simp only [go_sem, hc]) <;> (try simp only [xb] at hc)) | refine wI ?_ | refine ex_idx (by omega) ?_ | fail)
    all_goals try (exfalso; omega)
    clear hK K
    (refine hK _ ?_; clear hK K)
    refine CW.seqK fun K hK => ?_
    repeat' (first | refine wB ?_ | ((first | refine wR hΓ ?_ | refine wD hΓ fun B hB => ?_); simp (config := { maxSteps := 2000000 }) only [go_sem]) | (refine w1 ?_; simp only [xs, xi, Nat.reduceEqDiff, reduceCtorEq]) | (refine wC (fun hb => ?_) fun hb => ?_ <;> (try simp only [xb, reduceCtorEq] at hb)) | (refine w2 (fun hc => ?_) (fun hc => ?_) <;> (try simp only [xc] at hc) <;> (try simp only [go_sem, hc]) <;> (try simp only [xb] at hc)) | refine wI ?_ | refine ex_idx (by omega) ?_ | fail)
    have hz1 := ends_le hOX hE0
    have hz2 := ends_le hOY hF0
    rw [ends_cast hOX hE0, ends_cast hOY hF0]
    simp only [Int.toNat_natCast]
    have hse : (sumTo ⟨E, N⟩ ⟨F, M⟩).ends = ((endsN ⟨E, N⟩ 0 ||| endsN ⟨F, M⟩ 0 : Nat) : Int) :: (E ++ F) := rfl
    generalize endsN ⟨E, N⟩ 0 ||| endsN ⟨F, M⟩ 0 = Z0 at hse ⊢
    refine ⟨⟨⟨by omega, by omega⟩, by omega, by omega⟩, ?_⟩
    repeat' (first | refine wB ?_ | ((first | refine wR hΓ ?_ | refine wD hΓ fun B hB => ?_); simp (config := { maxSteps := 2000000 }) only [go_sem]) | (refine w1 ?_; simp only [xs, xi, Nat.reduceEqDiff, reduceCtorEq]) | (refine wC (fun hb => ?_) fun hb => ?_ <;> (try simp only [xb, reduceCtorEq] at hb)) | (refine w2 (fun hc => ?_) (fun hc => ?_) <;> (try simp only [xc] at hc) <;> (try simp only [go_sem, hc]) <;> (try simp only [xb] at hc)) | refine wI ?_ | refine ex_idx (by omega) ?_ | fail)
    (refine hK _ ?_; clear hK K)
    refine CW.raise 9 (by rw [hκ]; exact ⟨by decide, by decide⟩) fun κ2 hκ2 => ?_
    rw [hκ] at hκ2
    have hκ := hκ2
    have h9 : κ2.lim.1 = 9 := by rw [hκ]
    refine CW.seqK fun K hK => ?_
    refine CW.regC hΓ 8 (by rw [hκ]; rfl) ?_
    simp (config := { maxSteps := 2000000 }) only [go_sem, h9]
    (refine hK _ ?_; clear hK K)
    refine CW.seqK fun K hK => ?_
    refine CW.regC hΓ 8 (by rw [hκ]; rfl) ?_
    simp (config := { maxSteps := 2000000 }) only [go_sem, h9]
    refine ⟨effC addAR, _, ⟨rfl, rfl, ⟨E, N, 1, [(Z0 : Int)], [rowOf (fstN ⟨E, N⟩ ⟨F, M⟩) 12], rfl, hOX, by omega, by simp, by simp, rfl, rfl⟩⟩, ?_⟩
    simp (config := { maxSteps := 2000000 }) only [go_sem, h9]
    (refine hK _ ?_; clear hK K)
    refine CW.seqK fun K hK => ?_
    refine CW.regC hΓ 8 (by rw [hκ]; rfl) ?_
    simp (config := { maxSteps := 2000000 }) only [go_sem, h9]
    refine ⟨effC addAR, _, ⟨rfl, rfl, ⟨F, M, 1 + E.length, [(Z0 : Int)] ++ E, [rowOf (fstN ⟨E, N⟩ ⟨F, M⟩) 12] ++ shR ⟨E, N⟩ 1 E.length, by simp, hOY, by omega, by simp; omega, by simp [shR_len]; omega, rfl, rfl⟩⟩, ?_⟩
    simp (config := { maxSteps := 2000000 }) only [go_sem, h9]
    (refine hK _ ?_; clear hK K)
    repeat' (first | refine wS fun K hK => ?_ | refine wB ?_ | ((first | refine wR hΓ ?_ | refine wD hΓ fun B hB => ?_); simp (config := { maxSteps := 2000000 }) only [go_sem]) | ((repeat ((fail_if_success (refine hK _ ?_)); clear hK K)); refine hK _ ?_; clear hK K) | (refine w1 ?_; simp only [xs, xi, Nat.reduceEqDiff, reduceCtorEq]) | (refine wC (fun hb => ?_) fun hb => ?_ <;> (try simp only [xb, reduceCtorEq] at hb)) | (refine w2 (fun hc => ?_) (fun hc => ?_) <;> (try simp only [xc] at hc) <;> (try simp only [go_sem, hc]) <;> (try simp only [xb] at hc)) | refine wI ?_ | refine ex_idx (by omega) ?_ | fail)
    have hsn : (sumTo ⟨E, N⟩ ⟨F, M⟩).next = rowOf (fstN ⟨E, N⟩ ⟨F, M⟩) 12 :: (shR ⟨E, N⟩ 1 E.length ++ shR ⟨F, M⟩ (1 + E.length) F.length) := rfl
    rw [hpd, hse, hsn]
    (rw [Try.results28]; exact retOK_box Ty_aggT_31 Ty_szT_31 (by simp [upd_at]))

end Go.Proofs.Ytboandkjhdaobaa
