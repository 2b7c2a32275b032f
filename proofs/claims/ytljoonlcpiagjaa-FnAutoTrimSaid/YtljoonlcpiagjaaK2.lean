/- The reference's AutoTrim, walked by the engine. -/
import Derived.Test.YtljoonlcpiagjaaGrpU
import Derived.Test.YtljoonlcpiagjaaGrpD
import Derived.Test.YtljoonlcpiagjaaGrpN
import Derived.Test.YtljoonlcpiagjaaK0
import Derived.Test.YtljoonlcpiagjaaEngMin
namespace Go.Proofs.Ytljoonlcpiagjaa
set_option linter.unusedSimpArgs false
set_option linter.unusedVariables false
set_option maxRecDepth 8000
set_option maxHeartbeats 2000000
open Go Go.RowKit AV

def keepR (args : List AV) (r : AV) : Prop := ∃ set keep : Nat, args = [I set, I keep] ∧ set < 1048576 ∧ keep < 1048576 ∧ r = I ((keepN set (ktL keep 10) : Nat) : Int)
theorem l5Keep_ctr : CtrOK Try.prog 75 (pureC keepR) := by
  refine ctr_pure' Try.func75 rfl rfl Try.ntmps75 ?_
  rintro _ _ ⟨set, keep, rfl, hs, hkp, rfl⟩
  refine ⟨by simp, fun κ hκ => ?_⟩
  have hbig := bigW_gt
  rw [argEnv_eq]
  simp only [envA]
  have hΓ := ctxOf_ok (P := Try.prog) (cx l1Bit_ctr <| cx0)
  repeat' (first | refine wS fun K hK => ?_ | refine wB ?_ | ((first | refine wR hΓ ?_ | refine wD hΓ fun B hB => ?_); simp (config := { maxSteps := 2000000 }) only [go_sem]) | ((repeat ((fail_if_success (refine hK _ ?_)); clear hK K)); refine hK _ ?_; clear hK K) | (refine w1 ?_; simp only [xs, xi, Nat.reduceEqDiff, reduceCtorEq]) | (refine wC (fun hb => ?_) fun hb => ?_ <;> (try simp only [xb, reduceCtorEq] at hb)) | (refine w2 (fun hc => ?_) (fun hc => ?_) <;> (try simp only [xc] at hc) <;> (try simp only [go_sem, hc]) <;> (try simp only [xb] at hc)) | refine wI ?_ | refine ex_idx (by omega) ?_ | fail)
  refine CW.loop (ι := Nat) (fun k => [(0, I set), (1, I keep), (5, I ((keepN set (ktL keep k) : Nat) : Int)), (6, I ((ktL keep k).length : Nat)), (7, I k)]) (fun k => k ≤ 10) (fun k => 10 - k) 0 ?_ ?_
  · exact ⟨by (simp only [xe, xj, Nat.reduceEqDiff]; (try simp [view, viewL_map]); (try omega)); simp [ktL_zero, keepN, sumB], by omega⟩
  rintro k hk
  simp only [envOf]
  have hlt := keepN_lt set (ktL keep k)
  have hln := ktL_len keep k
  repeat' (first | refine wS fun K hK => ?_ | refine wB ?_ | ((first | refine wR hΓ ?_ | refine wD hΓ fun B hB => ?_); simp (config := { maxSteps := 2000000 }) only [go_sem]) | ((repeat ((fail_if_success (refine hK _ ?_)); clear hK K)); refine hK _ ?_; clear hK K) | (refine w1 ?_; simp only [xs, xi, Nat.reduceEqDiff, reduceCtorEq]) | (refine wC (fun hb => ?_) fun hb => ?_ <;> (try simp only [xb, reduceCtorEq] at hb)) | (refine w2 (fun hc => ?_) (fun hc => ?_) <;> (try simp only [xc] at hc) <;> (try simp only [go_sem, hc]) <;> (try simp only [xb] at hc)) | refine wI ?_ | refine ex_idx (by omega) ?_ | fail)
  · (first | refine wA rfl _ (⟨_, _, rfl, by omega, rfl⟩) ?_ | refine dA rfl _ (⟨_, _, rfl, by omega, rfl⟩) ?_); simp (config := { maxSteps := 2000000 }) only [go_sem]
    repeat' (first | refine wS fun K hK => ?_ | refine wB ?_ | ((first | refine wR hΓ ?_ | refine wD hΓ fun B hB => ?_); simp (config := { maxSteps := 2000000 }) only [go_sem]) | ((repeat ((fail_if_success (refine hK _ ?_)); clear hK K)); refine hK _ ?_; clear hK K) | (refine w1 ?_; simp only [xs, xi, Nat.reduceEqDiff, reduceCtorEq]) | (refine wC (fun hb => ?_) fun hb => ?_ <;> (try simp only [xb, reduceCtorEq] at hb)) | (refine w2 (fun hc => ?_) (fun hc => ?_) <;> (try simp only [xc] at hc) <;> (try simp only [go_sem, hc]) <;> (try simp only [xb] at hc)) | refine wI ?_ | refine ex_idx (by omega) ?_ | fail)
    · have hbt : keep.testBit k = true := by
        cases h : keep.testBit k with
        | true => rfl
        | false => have := bitN_f h; omega
      have hp : 2 ^ (ktL keep k).length ≤ 2 ^ 10 := Nat.pow_le_pow_right (by omega) (by omega)
      have hsn := keepN_snoc set (ktL keep k) k
      have hbs := bitN_le set k
      (first | refine wA rfl _ (⟨_, _, rfl, by omega, rfl⟩) ?_ | refine dA rfl _ (⟨_, _, rfl, by omega, rfl⟩) ?_); simp (config := { maxSteps := 2000000 }) only [go_sem]
      obtain ⟨q, hq⟩ : ∃ q : Nat, q = 2 ^ (ktL keep k).length := ⟨_, rfl⟩
      have e5 : ((bitN set k : Nat) : Int) * 2 ^ (ktL keep k).length = ((bitN set k * q : Nat) : Int) := by rw [hq]; simp
      have hm := Nat.mul_le_mul_right q hbs
      rw [← hq] at hlt hp hsn
      simp only [e5, Int.toNat_natCast]
      repeat' (first | refine wS fun K hK => ?_ | refine wB ?_ | ((first | refine wR hΓ ?_ | refine wD hΓ fun B hB => ?_); simp (config := { maxSteps := 2000000 }) only [go_sem]) | ((repeat ((fail_if_success (refine hK _ ?_)); clear hK K)); refine hK _ ?_; clear hK K) | (refine w1 ?_; simp only [xs, xi, Nat.reduceEqDiff, reduceCtorEq]) | (refine wC (fun hb => ?_) fun hb => ?_ <;> (try simp only [xb, reduceCtorEq] at hb)) | (refine w2 (fun hc => ?_) (fun hc => ?_) <;> (try simp only [xc] at hc) <;> (try simp only [go_sem, hc]) <;> (try simp only [xb] at hc)) | refine wI ?_ | refine ex_idx (by omega) ?_ | fail)
      refine ⟨k + 1, ?_, by omega, by omega⟩
      rw [ktL_yes hbt, hsn]
      unfold bitN
      (simp only [xe, xj, Nat.reduceEqDiff]; (try simp [view, viewL_map]); (try omega))
    · have hbt : keep.testBit k = false := by
        cases h : keep.testBit k with
        | false => rfl
        | true => have := bitN_t h; omega
      refine ⟨k + 1, ?_, by omega, by omega⟩
      rw [ktL_no hbt]
      (simp only [xe, xj, Nat.reduceEqDiff]; (try simp [view, viewL_map]); (try omega))
  · have hk10 : k = 10 := by omega
    subst hk10
    simp [Try.results75, RetOK, RetP, backA, upd_at, plainB, getP, isOwn, anyOwn, isP]

def autoTrimR (args : List AV) (r : AV) : Prop := ∃ (E : List Int) (N : List (List Int)), args = [agg [ints E, rows N]] ∧ smallE E N ∧ r = agg [oints (trimD ⟨E, N⟩).ends, oorows (trimD ⟨E, N⟩).next]

theorem reachI_ok {D : AutoD} (h : AutoOK D) : reachI D = (reachF D : Int) := if_pos h
theorem liveI_ok {D : AutoD} (h : AutoOK D) : liveI D = (liveF D : Int) := if_pos h
theorem keepOf_lt {D : AutoD} (h : AutoOK D) : keepOf D < 2 ^ D.ends.length := by
  refine Nat.or_lt_two_pow ?_ (Nat.lt_of_le_of_lt Nat.and_le_left (reachF_lt h))
  have := h.lo
  exact Nat.one_lt_two_pow (by omega)

theorem trimTo_ends_yes {D : AutoD} {L : List Nat} (k : Nat) : (trimTo D (L ++ [k])).ends = (trimTo D L).ends ++ [nth D.ends k] := by simp [trimTo]
theorem trimTo_next_yes {D : AutoD} {L : List Nat} (k : Nat) : (trimTo D (L ++ [k])).next = (trimTo D L).next ++ [(List.range 12).map fun m => ((keepN (nextN D k m) (ktL (keepOf D) D.ends.length) : Nat) : Int)] := by simp [trimTo]

set_option maxHeartbeats 4000000 in
theorem specAutoTrim_ctr : CtrOK Try.prog 18 (pureC autoTrimR) := by
  refine ctr_pure' Try.func18 rfl rfl Try.ntmps18 ?_
  rintro _ _ ⟨E, N, rfl, hX, rfl⟩
  refine ⟨by simp, fun κ hκ => ?_⟩
  have hbig := bigW_gt
  rw [argEnv_eq]
  simp only [envA]
  have hΓ := ctxOf_ok (P := Try.prog) (cx specAutoValid_ctr <| cx specAutoReach_ctr <| cx specAutoLive_ctr <| cx l1Both_ctr <| cx l1Either_ctr <| cx l1Bit_ctr <| cx l5Keep_ctr <| cx0)
  have hX' := smallE_valid hX
  have hn := hX'.1
  repeat' (first | refine wS fun K hK => ?_ | refine wB ?_ | ((first | refine wR hΓ ?_ | refine wD hΓ fun B hB => ?_); simp (config := { maxSteps := 2000000 }) only [go_sem]) | ((repeat ((fail_if_success (refine hK _ ?_)); clear hK K)); refine hK _ ?_; clear hK K) | (refine w1 ?_; simp only [xs, xi, Nat.reduceEqDiff, reduceCtorEq]) | (refine wC (fun hb => ?_) fun hb => ?_ <;> (try simp only [xb, reduceCtorEq] at hb)) | (refine w2 (fun hc => ?_) (fun hc => ?_) <;> (try simp only [xc] at hc) <;> (try simp only [go_sem, hc]) <;> (try simp only [xb] at hc)) | refine wI ?_ | refine ex_idx (by omega) ?_ | fail)
  (first | refine wA rfl _ (⟨_, _, rfl, hX'.1, hX'.2.1, hX'.2.2, rfl⟩) ?_ | refine dA rfl _ (⟨_, _, rfl, hX'.1, hX'.2.1, hX'.2.2, rfl⟩) ?_); simp (config := { maxSteps := 2000000 }) only [go_sem]
  repeat' (first | refine wS fun K hK => ?_ | refine wB ?_ | ((first | refine wR hΓ ?_ | refine wD hΓ fun B hB => ?_); simp (config := { maxSteps := 2000000 }) only [go_sem]) | ((repeat ((fail_if_success (refine hK _ ?_)); clear hK K)); refine hK _ ?_; clear hK K) | (refine w1 ?_; simp only [xs, xi, Nat.reduceEqDiff, reduceCtorEq]) | (refine wC (fun hb => ?_) fun hb => ?_ <;> (try simp only [xb, reduceCtorEq] at hb)) | (refine w2 (fun hc => ?_) (fun hc => ?_) <;> (try simp only [xc] at hc) <;> (try simp only [go_sem, hc]) <;> (try simp only [xb] at hc)) | refine wI ?_ | refine ex_idx (by omega) ?_ | fail)
  · have hc := ‹autoOKB ⟨E, N⟩ = false›
    rw [trimD_no (autoOKB_false.1 hc)]
    (rw [Try.results18]; exact retOK_box Ty_aggT_26 Ty_szT_26 (by simp [upd_at]))
  have hOX : AutoOK ⟨E, N⟩ := autoOKB_true.1 ‹autoOKB ⟨E, N⟩ = true›
  have hX1 : 1 ≤ E.length := hOX.lo
  have hX2 : E.length ≤ 10 := hOX.hi
  have hlen : N.length = E.length := hOX.len
  have hp10 : 2 ^ E.length ≤ 2 ^ 10 := Nat.pow_le_pow_right (by omega) hX2
  have hrl : reachF ⟨E, N⟩ < 2 ^ E.length := reachF_lt hOX
  have hll : liveF ⟨E, N⟩ < 2 ^ E.length := liveF_lt ⟨E, N⟩
  have hkl : keepOf ⟨E, N⟩ < 2 ^ E.length := keepOf_lt hOX
  have hal : reachF ⟨E, N⟩ &&& liveF ⟨E, N⟩ ≤ reachF ⟨E, N⟩ := Nat.and_le_left
  (first | refine wA rfl _ (⟨⟨E, N⟩, rfl, (congrArg I (reachI_ok hOX)).symm⟩) ?_ | refine dA rfl _ (⟨⟨E, N⟩, rfl, (congrArg I (reachI_ok hOX)).symm⟩) ?_); simp (config := { maxSteps := 2000000 }) only [go_sem]
  repeat' (first | refine wS fun K hK => ?_ | refine wB ?_ | ((first | refine wR hΓ ?_ | refine wD hΓ fun B hB => ?_); simp (config := { maxSteps := 2000000 }) only [go_sem]) | ((repeat ((fail_if_success (refine hK _ ?_)); clear hK K)); refine hK _ ?_; clear hK K) | (refine w1 ?_; simp only [xs, xi, Nat.reduceEqDiff, reduceCtorEq]) | (refine wC (fun hb => ?_) fun hb => ?_ <;> (try simp only [xb, reduceCtorEq] at hb)) | (refine w2 (fun hc => ?_) (fun hc => ?_) <;> (try simp only [xc] at hc) <;> (try simp only [go_sem, hc]) <;> (try simp only [xb] at hc)) | refine wI ?_ | refine ex_idx (by omega) ?_ | fail)
  (first | refine wA rfl _ (⟨⟨E, N⟩, rfl, (congrArg I (liveI_ok hOX)).symm⟩) ?_ | refine dA rfl _ (⟨⟨E, N⟩, rfl, (congrArg I (liveI_ok hOX)).symm⟩) ?_); simp (config := { maxSteps := 2000000 }) only [go_sem]
  repeat' (first | refine wS fun K hK => ?_ | refine wB ?_ | ((first | refine wR hΓ ?_ | refine wD hΓ fun B hB => ?_); simp (config := { maxSteps := 2000000 }) only [go_sem]) | ((repeat ((fail_if_success (refine hK _ ?_)); clear hK K)); refine hK _ ?_; clear hK K) | (refine w1 ?_; simp only [xs, xi, Nat.reduceEqDiff, reduceCtorEq]) | (refine wC (fun hb => ?_) fun hb => ?_ <;> (try simp only [xb, reduceCtorEq] at hb)) | (refine w2 (fun hc => ?_) (fun hc => ?_) <;> (try simp only [xc] at hc) <;> (try simp only [go_sem, hc]) <;> (try simp only [xb] at hc)) | refine wI ?_ | refine ex_idx (by omega) ?_ | fail)
  (first | refine wA rfl _ (⟨_, _, rfl, by omega, by omega, rfl⟩) ?_ | refine dA rfl _ (⟨_, _, rfl, by omega, by omega, rfl⟩) ?_); simp (config := { maxSteps := 2000000 }) only [go_sem]
  repeat' (first | refine wS fun K hK => ?_ | refine wB ?_ | ((first | refine wR hΓ ?_ | refine wD hΓ fun B hB => ?_); simp (config := { maxSteps := 2000000 }) only [go_sem]) | ((repeat ((fail_if_success (refine hK _ ?_)); clear hK K)); refine hK _ ?_; clear hK K) | (refine w1 ?_; simp only [xs, xi, Nat.reduceEqDiff, reduceCtorEq]) | (refine wC (fun hb => ?_) fun hb => ?_ <;> (try simp only [xb, reduceCtorEq] at hb)) | (refine w2 (fun hc => ?_) (fun hc => ?_) <;> (try simp only [xc] at hc) <;> (try simp only [go_sem, hc]) <;> (try simp only [xb] at hc)) | refine wI ?_ | refine ex_idx (by omega) ?_ | fail)
  (first | refine wA rfl _ (⟨1, _, rfl, by omega, by omega, rfl⟩) ?_ | refine dA rfl _ (⟨1, _, rfl, by omega, by omega, rfl⟩) ?_); simp (config := { maxSteps := 2000000 }) only [go_sem]
  repeat' (first | refine wS fun K hK => ?_ | refine wB ?_ | ((first | refine wR hΓ ?_ | refine wD hΓ fun B hB => ?_); simp (config := { maxSteps := 2000000 }) only [go_sem]) | ((repeat ((fail_if_success (refine hK _ ?_)); clear hK K)); refine hK _ ?_; clear hK K) | (refine w1 ?_; simp only [xs, xi, Nat.reduceEqDiff, reduceCtorEq]) | (refine wC (fun hb => ?_) fun hb => ?_ <;> (try simp only [xb, reduceCtorEq] at hb)) | (refine w2 (fun hc => ?_) (fun hc => ?_) <;> (try simp only [xc] at hc) <;> (try simp only [go_sem, hc]) <;> (try simp only [xb] at hc)) | refine wI ?_ | refine ex_idx (by omega) ?_ | fail)
  have hko : (1 ||| (reachF ⟨E, N⟩ &&& liveF ⟨E, N⟩)) = keepOf ⟨E, N⟩ := rfl
  simp only [hko]
  generalize hKP : keepOf ⟨E, N⟩ = kp at *
  refine CW.loop (ι := Nat) (fun k => [(1, box [ints E, rows N]), (2, box [own [], own []]), (3, box [oints (trimTo ⟨E, N⟩ (ktL kp k)).ends, oorows (trimTo ⟨E, N⟩ (ktL kp k)).next]), (4, I kp), (5, I k)]) (fun k => k ≤ E.length) (fun k => E.length - k) 0 ?_ ?_
  · exact ⟨by ((simp only [xe, xj, Nat.reduceEqDiff]; (try simp [view, viewL_map]); (try omega)); simp [ktL_zero, trimTo_nil]), by omega⟩
  rintro k hk
  simp only [envOf]
  have hln := ktL_len kp k
  have hel : (trimTo ⟨E, N⟩ (ktL kp k)).ends.length = (ktL kp k).length := by simp [trimTo]
  have hnl : (trimTo ⟨E, N⟩ (ktL kp k)).next.length = (ktL kp k).length := by simp [trimTo]
  repeat' (first | refine wS fun K hK => ?_ | refine wB ?_ | ((first | refine wR hΓ ?_ | refine wD hΓ fun B hB => ?_); simp (config := { maxSteps := 2000000 }) only [go_sem]) | ((repeat ((fail_if_success (refine hK _ ?_)); clear hK K)); refine hK _ ?_; clear hK K) | (refine w1 ?_; simp only [xs, xi, Nat.reduceEqDiff, reduceCtorEq]) | (refine wC (fun hb => ?_) fun hb => ?_ <;> (try simp only [xb, reduceCtorEq] at hb)) | (refine w2 (fun hc => ?_) (fun hc => ?_) <;> (try simp only [xc] at hc) <;> (try simp only [go_sem, hc]) <;> (try simp only [xb] at hc)) | refine wI ?_ | refine ex_idx (by omega) ?_ | fail)
  rotate_left
  · have hke : k = E.length := by omega
    subst hke
    rw [trimD_yes hOX, hKP]
    (rw [Try.results18]; exact retOK_box Ty_aggT_26 Ty_szT_26 (by simp [upd_at]))
  have hkE : k < E.length := by omega
  have hkN : k < N.length := by omega
  have hrl2 : N[k].length = 12 := k_row_len hOX hkN
  (first | refine wA rfl _ (⟨kp, k, rfl, by omega, rfl⟩) ?_ | refine dA rfl _ (⟨kp, k, rfl, by omega, rfl⟩) ?_); simp (config := { maxSteps := 2000000 }) only [go_sem]
  repeat' (first | refine wS fun K hK => ?_ | refine wB ?_ | ((first | refine wR hΓ ?_ | refine wD hΓ fun B hB => ?_); simp (config := { maxSteps := 2000000 }) only [go_sem]) | ((repeat ((fail_if_success (refine hK _ ?_)); clear hK K)); refine hK _ ?_; clear hK K) | (refine w1 ?_; simp only [xs, xi, Nat.reduceEqDiff, reduceCtorEq]) | (refine wC (fun hb => ?_) fun hb => ?_ <;> (try simp only [xb, reduceCtorEq] at hb)) | (refine w2 (fun hc => ?_) (fun hc => ?_) <;> (try simp only [xc] at hc) <;> (try simp only [go_sem, hc]) <;> (try simp only [xb] at hc)) | refine wI ?_ | refine ex_idx (by omega) ?_ | fail)
  · have hbt : kp.testBit k = false := by
      cases h : kp.testBit k with
      | false => rfl
      | true => have := bitN_t h; omega
    refine ⟨k + 1, ?_, by omega, by omega⟩
    rw [ktL_no hbt]
    (simp only [xe, xj, Nat.reduceEqDiff]; (try simp [view, viewL_map]); (try omega))
  have hbt : kp.testBit k = true := by
    cases h : kp.testBit k with
    | true => rfl
    | false => have := bitN_f h; omega
  have hnE : nth E k = E[k] := nth_getElem hkE
  have hey : (trimTo ⟨E, N⟩ (ktL kp k ++ [k])).ends = (trimTo ⟨E, N⟩ (ktL kp k)).ends ++ [E[k]] := by rw [trimTo_ends_yes]; simp [hnE]
  have hny := trimTo_next_yes (D := ⟨E, N⟩) (L := ktL kp k) k
  refine CW.loop (ι := Nat) (fun m => [(1, box [ints E, rows N]), (2, box [own [], own []]), (3, box [oints (trimTo ⟨E, N⟩ (ktL kp k ++ [k])).ends, oorows (trimTo ⟨E, N⟩ (ktL kp k)).next]), (4, I kp), (5, I k), (6, oints ((List.range m).map fun m => ((keepN (nextN ⟨E, N⟩ k m) (ktL kp E.length) : Nat) : Int))), (7, I m)]) (fun m => m ≤ 12) (fun m => 12 - m) 0 ?_ ?_
  · refine ⟨?_, by omega⟩
    rw [hey]
    (simp only [xe, xj, Nat.reduceEqDiff]; (try simp [view, viewL_map]); (try omega))
    try simp
  rintro m hm
  simp only [envOf]
  have hrg : (List.range m).length = m := List.length_range
  have hrm : ((List.range m).map fun m => ((keepN (nextN ⟨E, N⟩ k m) (ktL kp E.length) : Nat) : Int)).length = m := by simp
  repeat' (first | refine wS fun K hK => ?_ | refine wB ?_ | ((first | refine wR hΓ ?_ | refine wD hΓ fun B hB => ?_); simp (config := { maxSteps := 2000000 }) only [go_sem]) | ((repeat ((fail_if_success (refine hK _ ?_)); clear hK K)); refine hK _ ?_; clear hK K) | (refine w1 ?_; simp only [xs, xi, Nat.reduceEqDiff, reduceCtorEq]) | (refine wC (fun hb => ?_) fun hb => ?_ <;> (try simp only [xb, reduceCtorEq] at hb)) | (refine w2 (fun hc => ?_) (fun hc => ?_) <;> (try simp only [xc] at hc) <;> (try simp only [go_sem, hc]) <;> (try simp only [xb] at hc)) | refine wI ?_ | refine ex_idx (by omega) ?_ | fail)
  rotate_left
  · have hm12 : m = 12 := by omega
    subst hm12
    refine ⟨k + 1, ?_, by omega, by omega⟩
    rw [ktL_yes hbt, hny, hKP]
    (simp only [xe, xj, Nat.reduceEqDiff]; (try simp [view, viewL_map]); (try omega))
    try simp
  have hm2 : m < 12 := by omega
  have hA := k_next_lt hOX hkN (show m < N[k].length by omega)
  rw [k_next_cast hOX hkN (show m < N[k].length by omega)]
  (first | refine wA rfl _ (⟨_, _, rfl, by omega, by omega, rfl⟩) ?_ | refine dA rfl _ (⟨_, _, rfl, by omega, by omega, rfl⟩) ?_); simp (config := { maxSteps := 2000000 }) only [go_sem]
  repeat' (first | refine wS fun K hK => ?_ | refine wB ?_ | ((first | refine wR hΓ ?_ | refine wD hΓ fun B hB => ?_); simp (config := { maxSteps := 2000000 }) only [go_sem]) | ((repeat ((fail_if_success (refine hK _ ?_)); clear hK K)); refine hK _ ?_; clear hK K) | (refine w1 ?_; simp only [xs, xi, Nat.reduceEqDiff, reduceCtorEq]) | (refine wC (fun hb => ?_) fun hb => ?_ <;> (try simp only [xb, reduceCtorEq] at hb)) | (refine w2 (fun hc => ?_) (fun hc => ?_) <;> (try simp only [xc] at hc) <;> (try simp only [go_sem, hc]) <;> (try simp only [xb] at hc)) | refine wI ?_ | refine ex_idx (by omega) ?_ | fail)
  have h10 : ktL kp 10 = ktL kp E.length := by
    have := ktL_stay hkl (10 - E.length)
    rwa [show E.length + (10 - E.length) = 10 by omega] at this
  refine ⟨m + 1, ?_, by omega, by omega⟩
  rw [List.range_succ, List.map_append, h10]
  (simp only [xe, xj, Nat.reduceEqDiff]; (try simp [view, viewL_map]); (try omega))
  all_goals trace_state

end Go.Proofs.Ytljoonlcpiagjaa
