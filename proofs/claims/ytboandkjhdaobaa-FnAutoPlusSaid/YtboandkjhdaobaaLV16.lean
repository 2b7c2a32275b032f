/- The law FnAutoPlus, walked by the engine. -/
import Derived.Test.YtboandkjhdaobaaR10p
import Derived.Test.YtboandkjhdaobaaR17
import Derived.Test.YtboandkjhdaobaaGrpT
import Derived.Test.YtboandkjhdaobaaR7a
import Derived.Test.YtboandkjhdaobaaS2
import Derived.Test.YtboandkjhdaobaaGrpV
import Derived.Test.YtboandkjhdaobaaU1
import Derived.Test.YtboandkjhdaobaaU2
import Derived.Test.YtboandkjhdaobaaGrpU
import Derived.Test.YtboandkjhdaobaaGrpD
import Derived.Test.YtboandkjhdaobaaEngMin
namespace Go.Proofs.Ytboandkjhdaobaa
set_option linter.unusedSimpArgs false
set_option linter.unusedVariables false
set_option maxRecDepth 8000
set_option maxHeartbeats 2000000
open Go Go.RowKit AV

attribute [local go_sem] List.nil_prefix

theorem plus_yes {X Y : AutoD} (h : (plusD X Y).ends.length ≠ 0) : AutoOK X ∧ AutoOK Y ∧ 1 + X.ends.length + Y.ends.length ≤ 10 := by
  by_cases g : AutoOK X ∧ AutoOK Y ∧ 1 + X.ends.length + Y.ends.length ≤ 10
  · exact g
  · rw [plusD_no g] at h; exact absurd rfl h
theorem plus_runB {X Y : AutoD} (h : (plusD X Y).ends.length ≠ 0) (t : List Int) : runB (plusD X Y) t = (runB X t || runB Y t) := by
  have g := plus_yes h
  rw [plusD_yes g]
  unfold runB
  by_cases ht : TraceOK t
  · rw [if_pos ⟨sum_ok g.1 g.2.1 g.2.2, ht⟩, if_pos ⟨g.1, ht⟩, if_pos ⟨g.2.1, ht⟩, sum_runF (sumTo_sum X Y) g.1 g.2.1 ht (by have := ht.odd; omega)]
  · rw [if_neg (fun h => ht h.2), if_neg (fun h => ht h.2), if_neg (fun h => ht h.2)]; rfl
theorem plus_okB {X Y : AutoD} (h : (plusD X Y).ends.length ≠ 0) : autoOKB (plusD X Y) = true := by
  have g := plus_yes h
  rw [plusD_yes g]
  exact autoOKB_true.2 (sum_ok g.1 g.2.1 g.2.2)
theorem plus_len {X Y : AutoD} (h : (plusD X Y).ends.length ≠ 0) : (plusD X Y).ends.length = X.ends.length + Y.ends.length + 1 := by
  rw [plusD_yes (plus_yes h), sumTo_len]; omega

theorem fnAutoPlus_ctr : CtrOK Try.prog 7 (pureC codeR2) := by
  refine ctr_pure' Try.func7 rfl rfl Try.ntmps7 ?_
  rintro _ _ ⟨bs, cs, rfl, ⟨hl, hb256⟩, ⟨hlc, hc256⟩, rfl⟩
  refine ⟨by simp, fun κ hκ => ?_⟩
  have hbig := bigW_gt
  rw [argEnv_eq]
  simp only [envA]
  have hΓ := ctxOf_ok (P := Try.prog) (cx drawAutoPlus_ctr <| cx implAutoPlus_ctr <| cx sameAuto_ctr <| cx specAutoPlus_ctr <| cx drawTraceBy_ctr <| cx allTraces_ctr <| cx implAutoRun_ctr <| cx implAutoValid_ctr <| cx aliveL_ctr <| cx0)
  have hsm := autoX_small (bs.take 2000) 0 5 14 (by omega)
  have hsm2 := autoX_small (bs.take 2000) (autoX (bs.take 2000) 0 5 14).2 5 14 (by omega)
  obtain ⟨A, hA⟩ : ∃ D, drwA bs 5 14 = D := ⟨_, rfl⟩
  obtain ⟨Y, hY⟩ : ∃ D, drwA2 bs 5 14 = D := ⟨_, rfl⟩
  rw [show (autoX (bs.take 2000) 0 5 14).1 = A from hA] at hsm
  rw [show (autoX (bs.take 2000) (autoX (bs.take 2000) 0 5 14).2 5 14).1 = Y from hY] at hsm2
  have hal10 := hsm.e
  have han10 := hsm.n
  have har10 := hsm.r
  have hbl10 := hsm2.e
  have hbn10 := hsm2.n
  have hbr10 := hsm2.r
  have hSA : smallD A.ends A.next := ⟨by omega, by omega, fun x hx => by have := har10 x hx; omega⟩
  have hSB : smallD Y.ends Y.next := ⟨by omega, by omega, fun x hx => by have := hbr10 x hx; omega⟩
  have hXb := plusD_small A Y
  have hrn := fun h => plus_runB (X := A) (Y := Y) h
  have hok := fun h => plus_okB (X := A) (Y := Y) h
  have hln := fun h => plus_len (X := A) (Y := Y) h
  obtain ⟨X, hX⟩ : ∃ X, plusD A Y = X := ⟨_, rfl⟩
  rw [hX] at hXb hrn hok hln
  have hXE : smallE X.ends X.next := ⟨by omega, by omega, fun x hx => by have := hXb.2.2 x hx; omega⟩
  repeat' (first | refine wS fun K hK => ?_ | refine wB ?_ | ((first | refine wR hΓ ?_ | refine wD hΓ fun B hB => ?_); simp (config := { maxSteps := 2000000 }) only [go_sem]) | ((repeat ((fail_if_success (refine hK _ ?_)); clear hK K)); refine hK _ ?_; clear hK K) | (refine w1 ?_; simp only [xs, xi, Nat.reduceEqDiff, reduceCtorEq]) | (refine wC (fun hb => ?_) fun hb => ?_ <;> (try simp only [xb, reduceCtorEq] at hb)) | (refine w2 (fun hc => ?_) (fun hc => ?_) <;> (try simp only [xc] at hc) <;> (try simp only [go_sem, hc]) <;> (try simp only [xb] at hc)) | refine wI ?_ | refine ex_idx (by omega) ?_ | fail)
  · simp [Try.results7, RetOK, RetP, backA, upd_at, plainB, getP, isOwn, anyOwn, isP]
  rotate_left
  · simp [Try.results7, RetOK, RetP, backA, upd_at, plainB, getP, isOwn, anyOwn, isP]
  (first | refine wA rfl ?_ ?_ ?_ | refine dA rfl ?_ ?_ ?_); exact (.tup [agg [ints A.ends, rows A.next], agg [ints Y.ends, rows Y.next]]); exact (⟨bs, rfl, by omega, hb256, by rw [hA, hY]⟩); simp (config := { maxSteps := 2000000 }) only [go_sem]
  repeat' (first | refine wS fun K hK => ?_ | refine wB ?_ | ((first | refine wR hΓ ?_ | refine wD hΓ fun B hB => ?_); simp (config := { maxSteps := 2000000 }) only [go_sem]) | ((repeat ((fail_if_success (refine hK _ ?_)); clear hK K)); refine hK _ ?_; clear hK K) | (refine w1 ?_; simp only [xs, xi, Nat.reduceEqDiff, reduceCtorEq]) | (refine wC (fun hb => ?_) fun hb => ?_ <;> (try simp only [xb, reduceCtorEq] at hb)) | (refine w2 (fun hc => ?_) (fun hc => ?_) <;> (try simp only [xc] at hc) <;> (try simp only [go_sem, hc]) <;> (try simp only [xb] at hc)) | refine wI ?_ | refine ex_idx (by omega) ?_ | fail)
  (first | refine wA rfl ?_ ?_ ?_ | refine dA rfl ?_ ?_ ?_); exact (agg [oints X.ends, oorows X.next]); exact (⟨A.ends, Y.ends, A.next, Y.next, rfl, hSA, hSB, by rw [← hX]⟩); simp (config := { maxSteps := 2000000 }) only [go_sem]
  repeat' (first | refine wS fun K hK => ?_ | refine wB ?_ | ((first | refine wR hΓ ?_ | refine wD hΓ fun B hB => ?_); simp (config := { maxSteps := 2000000 }) only [go_sem]) | ((repeat ((fail_if_success (refine hK _ ?_)); clear hK K)); refine hK _ ?_; clear hK K) | (refine w1 ?_; simp only [xs, xi, Nat.reduceEqDiff, reduceCtorEq]) | (refine wC (fun hb => ?_) fun hb => ?_ <;> (try simp only [xb, reduceCtorEq] at hb)) | (refine w2 (fun hc => ?_) (fun hc => ?_) <;> (try simp only [xc] at hc) <;> (try simp only [go_sem, hc]) <;> (try simp only [xb] at hc)) | refine wI ?_ | refine ex_idx (by omega) ?_ | fail)
  (first | refine wA rfl ?_ ?_ ?_ | refine dA rfl ?_ ?_ ?_); exact (agg [oints X.ends, oorows X.next]); exact (⟨A.ends, Y.ends, A.next, Y.next, rfl, hSA, hSB, by rw [← hX]⟩); simp (config := { maxSteps := 2000000 }) only [go_sem]
  repeat' (first | refine wS fun K hK => ?_ | refine wB ?_ | ((first | refine wR hΓ ?_ | refine wD hΓ fun B hB => ?_); simp (config := { maxSteps := 2000000 }) only [go_sem]) | ((repeat ((fail_if_success (refine hK _ ?_)); clear hK K)); refine hK _ ?_; clear hK K) | (refine w1 ?_; simp only [xs, xi, Nat.reduceEqDiff, reduceCtorEq]) | (refine wC (fun hb => ?_) fun hb => ?_ <;> (try simp only [xb, reduceCtorEq] at hb)) | (refine w2 (fun hc => ?_) (fun hc => ?_) <;> (try simp only [xc] at hc) <;> (try simp only [go_sem, hc]) <;> (try simp only [xb] at hc)) | refine wI ?_ | refine ex_idx (by omega) ?_ | fail)
  (first | refine wA rfl ?_ ?_ ?_ | refine dA rfl ?_ ?_ ?_); exact (.bool true); exact (⟨X, X, by simp [view], hXE, hXE, by simp⟩); simp (config := { maxSteps := 2000000 }) only [go_sem]
  repeat' (first | refine wS fun K hK => ?_ | refine wB ?_ | ((first | refine wR hΓ ?_ | refine wD hΓ fun B hB => ?_); simp (config := { maxSteps := 2000000 }) only [go_sem]) | ((repeat ((fail_if_success (refine hK _ ?_)); clear hK K)); refine hK _ ?_; clear hK K) | (refine w1 ?_; simp only [xs, xi, Nat.reduceEqDiff, reduceCtorEq]) | (refine wC (fun hb => ?_) fun hb => ?_ <;> (try simp only [xb, reduceCtorEq] at hb)) | (refine w2 (fun hc => ?_) (fun hc => ?_) <;> (try simp only [xc] at hc) <;> (try simp only [go_sem, hc]) <;> (try simp only [xb] at hc)) | refine wI ?_ | refine ex_idx (by omega) ?_ | fail)
  · (first | refine wA rfl _ (⟨rfl, rfl⟩) ?_ | refine dA rfl _ (⟨rfl, rfl⟩) ?_); simp (config := { maxSteps := 2000000 }) only [go_sem]
    repeat' (first | refine wS fun K hK => ?_ | refine wB ?_ | ((first | refine wR hΓ ?_ | refine wD hΓ fun B hB => ?_); simp (config := { maxSteps := 2000000 }) only [go_sem]) | ((repeat ((fail_if_success (refine hK _ ?_)); clear hK K)); refine hK _ ?_; clear hK K) | (refine w1 ?_; simp only [xs, xi, Nat.reduceEqDiff, reduceCtorEq]) | (refine wC (fun hb => ?_) fun hb => ?_ <;> (try simp only [xb, reduceCtorEq] at hb)) | (refine w2 (fun hc => ?_) (fun hc => ?_) <;> (try simp only [xc] at hc) <;> (try simp only [go_sem, hc]) <;> (try simp only [xb] at hc)) | refine wI ?_ | refine ex_idx (by omega) ?_ | fail)
    simp [Try.results7, RetOK, RetP, backA, upd_at, plainB, getP, isOwn, anyOwn, isP]
  have hX0 : X.ends.length ≠ 0 := by omega
  have hrn := hrn hX0
  have hok := hok hX0
  have hln := hln hX0
  obtain ⟨e, he⟩ : ∃ e, (toldX (cs.take 2000) 0 5).1 = e := ⟨_, rfl⟩
  obtain ⟨t, ht⟩ : ∃ t, (toldX (cs.take 2000) 0 5).2.1 = t := ⟨_, rfl⟩
  have hLl := allTr_len 1 4
  obtain ⟨L, hL⟩ : ∃ L, allTr 1 4 = L := ⟨_, rfl⟩
  rw [hL] at hLl
  simp only [Nat.pow_one, Nat.reduceMul] at hLl
  (first | refine wA rfl ?_ ?_ ?_ | refine dA rfl ?_ ?_ ?_); exact (.tup [ints e, ints t]); exact (⟨cs, rfl, by omega, hc256, by rw [he, ht]⟩); simp (config := { maxSteps := 2000000 }) only [go_sem]
  repeat' (first | refine wS fun K hK => ?_ | refine wB ?_ | ((first | refine wR hΓ ?_ | refine wD hΓ fun B hB => ?_); simp (config := { maxSteps := 2000000 }) only [go_sem]) | ((repeat ((fail_if_success (refine hK _ ?_)); clear hK K)); refine hK _ ?_; clear hK K) | (refine w1 ?_; simp only [xs, xi, Nat.reduceEqDiff, reduceCtorEq]) | (refine wC (fun hb => ?_) fun hb => ?_ <;> (try simp only [xb, reduceCtorEq] at hb)) | (refine w2 (fun hc => ?_) (fun hc => ?_) <;> (try simp only [xc] at hc) <;> (try simp only [go_sem, hc]) <;> (try simp only [xb] at hc)) | refine wI ?_ | refine ex_idx (by omega) ?_ | fail)
  (first | refine wA rfl ?_ ?_ ?_ | refine dA rfl ?_ ?_ ?_); exact (oorows L); exact (⟨1, rfl, by omega, by rw [hL]⟩); simp (config := { maxSteps := 2000000 }) only [go_sem]
  repeat' (first | refine wS fun K hK => ?_ | refine wB ?_ | ((first | refine wR hΓ ?_ | refine wD hΓ fun B hB => ?_); simp (config := { maxSteps := 2000000 }) only [go_sem]) | ((repeat ((fail_if_success (refine hK _ ?_)); clear hK K)); refine hK _ ?_; clear hK K) | (refine w1 ?_; simp only [xs, xi, Nat.reduceEqDiff, reduceCtorEq]) | (refine wC (fun hb => ?_) fun hb => ?_ <;> (try simp only [xb, reduceCtorEq] at hb)) | (refine w2 (fun hc => ?_) (fun hc => ?_) <;> (try simp only [xc] at hc) <;> (try simp only [go_sem, hc]) <;> (try simp only [xb] at hc)) | refine wI ?_ | refine ex_idx (by omega) ?_ | fail)
  refine CW.frz 10 [] (own (List.map oints L ++ [sh (List.map I t)])) (by simp [upd_at, getP]) rfl ?_
  have hfz : view (own (List.map oints L ++ [sh (List.map I t)])) = rows (L ++ [t]) := by simp [view, viewL_map, rows, ints, oints, view_I, Function.comp_def]
  rw [hfz]
  obtain ⟨M, hM⟩ : ∃ M, L ++ [t] = M := ⟨_, rfl⟩
  have hMl : M.length = L.length + 1 := by rw [← hM]; simp
  rw [hM]
  refine CW.loop (ι := Nat) (fun k => [(5, box [ints A.ends, rows A.next]), (6, box [ints Y.ends, rows Y.next]), (7, box [oints X.ends, oorows X.next]), (10, rows M), (11, I (k : Int))]) (fun k => k ≤ M.length) (fun k => M.length - k) 0 ?_ ?_
  · exact ⟨by simp [LeL, Wr.app, upd_at, isOwn, view, viewL_map, setP, kids, withKids], by omega⟩
  rintro k hk
  simp only [envOf]
  repeat' (first | refine wS fun K hK => ?_ | refine wB ?_ | ((first | refine wR hΓ ?_ | refine wD hΓ fun B hB => ?_); simp (config := { maxSteps := 2000000 }) only [go_sem]) | ((repeat ((fail_if_success (refine hK _ ?_)); clear hK K)); refine hK _ ?_; clear hK K) | (refine w1 ?_; simp only [xs, xi, Nat.reduceEqDiff, reduceCtorEq]) | (refine wC (fun hb => ?_) fun hb => ?_ <;> (try simp only [xb, reduceCtorEq] at hb)) | (refine w2 (fun hc => ?_) (fun hc => ?_) <;> (try simp only [xc] at hc) <;> (try simp only [go_sem, hc]) <;> (try simp only [xb] at hc)) | refine wI ?_ | refine ex_idx (by omega) ?_ | fail)
  · have hkM : k < M.length := by omega
    have hrk := hrn M[k]
    obtain ⟨RA, hRA⟩ : ∃ R, runB A M[k] = R := ⟨_, rfl⟩
    obtain ⟨RY, hRY⟩ : ∃ R, runB Y M[k] = R := ⟨_, rfl⟩
    rw [hRA, hRY] at hrk
    cases RA with
    | true =>
      (first | refine wA rfl ?_ ?_ ?_ | refine dA rfl ?_ ?_ ?_); exact (.bool true); exact (⟨X, M[k], rfl, by rw [hrk]; rfl⟩); simp (config := { maxSteps := 2000000 }) only [go_sem]
      repeat' (first | refine wS fun K hK => ?_ | refine wB ?_ | ((first | refine wR hΓ ?_ | refine wD hΓ fun B hB => ?_); simp (config := { maxSteps := 2000000 }) only [go_sem]) | ((repeat ((fail_if_success (refine hK _ ?_)); clear hK K)); refine hK _ ?_; clear hK K) | (refine w1 ?_; simp only [xs, xi, Nat.reduceEqDiff, reduceCtorEq]) | (refine wC (fun hb => ?_) fun hb => ?_ <;> (try simp only [xb, reduceCtorEq] at hb)) | (refine w2 (fun hc => ?_) (fun hc => ?_) <;> (try simp only [xc] at hc) <;> (try simp only [go_sem, hc]) <;> (try simp only [xb] at hc)) | refine wI ?_ | refine ex_idx (by omega) ?_ | fail)
      (first | refine wA rfl ?_ ?_ ?_ | refine dA rfl ?_ ?_ ?_); exact (.bool true); exact (⟨A, M[k], rfl, by rw [hRA]⟩); simp (config := { maxSteps := 2000000 }) only [go_sem]
      simp (config := { maxSteps := 2000000 }) only [go_sem, bne_self_eq_false, beq_self_eq_true, Bool.not_true]
      repeat' (first | refine wS fun K hK => ?_ | refine wB ?_ | ((first | refine wR hΓ ?_ | refine wD hΓ fun B hB => ?_); simp (config := { maxSteps := 2000000 }) only [go_sem]) | ((repeat ((fail_if_success (refine hK _ ?_)); clear hK K)); refine hK _ ?_; clear hK K) | (refine w1 ?_; simp only [xs, xi, Nat.reduceEqDiff, reduceCtorEq]) | (refine wC (fun hb => ?_) fun hb => ?_ <;> (try simp only [xb, reduceCtorEq] at hb)) | (refine w2 (fun hc => ?_) (fun hc => ?_) <;> (try simp only [xc] at hc) <;> (try simp only [go_sem, hc]) <;> (try simp only [xb] at hc)) | refine wI ?_ | refine ex_idx (by omega) ?_ | fail)
      exact ⟨k + 1, by (simp only [xe, xj, Nat.reduceEqDiff]; (try simp [view, viewL_map]); (try omega)), by omega, by omega⟩
    | false =>
      (first | refine wA rfl ?_ ?_ ?_ | refine dA rfl ?_ ?_ ?_); exact (.bool RY); exact (⟨X, M[k], rfl, by rw [hrk]; rfl⟩); simp (config := { maxSteps := 2000000 }) only [go_sem]
      repeat' (first | refine wS fun K hK => ?_ | refine wB ?_ | ((first | refine wR hΓ ?_ | refine wD hΓ fun B hB => ?_); simp (config := { maxSteps := 2000000 }) only [go_sem]) | ((repeat ((fail_if_success (refine hK _ ?_)); clear hK K)); refine hK _ ?_; clear hK K) | (refine w1 ?_; simp only [xs, xi, Nat.reduceEqDiff, reduceCtorEq]) | (refine wC (fun hb => ?_) fun hb => ?_ <;> (try simp only [xb, reduceCtorEq] at hb)) | (refine w2 (fun hc => ?_) (fun hc => ?_) <;> (try simp only [xc] at hc) <;> (try simp only [go_sem, hc]) <;> (try simp only [xb] at hc)) | refine wI ?_ | refine ex_idx (by omega) ?_ | fail)
      (first | refine wA rfl ?_ ?_ ?_ | refine dA rfl ?_ ?_ ?_); exact (.bool false); exact (⟨A, M[k], rfl, by rw [hRA]⟩); simp (config := { maxSteps := 2000000 }) only [go_sem]
      repeat' (first | refine wS fun K hK => ?_ | refine wB ?_ | ((first | refine wR hΓ ?_ | refine wD hΓ fun B hB => ?_); simp (config := { maxSteps := 2000000 }) only [go_sem]) | ((repeat ((fail_if_success (refine hK _ ?_)); clear hK K)); refine hK _ ?_; clear hK K) | (refine w1 ?_; simp only [xs, xi, Nat.reduceEqDiff, reduceCtorEq]) | (refine wC (fun hb => ?_) fun hb => ?_ <;> (try simp only [xb, reduceCtorEq] at hb)) | (refine w2 (fun hc => ?_) (fun hc => ?_) <;> (try simp only [xc] at hc) <;> (try simp only [go_sem, hc]) <;> (try simp only [xb] at hc)) | refine wI ?_ | refine ex_idx (by omega) ?_ | fail)
      (first | refine wA rfl ?_ ?_ ?_ | refine dA rfl ?_ ?_ ?_); exact (.bool RY); exact (⟨Y, M[k], rfl, by rw [hRY]⟩); simp (config := { maxSteps := 2000000 }) only [go_sem]
      simp (config := { maxSteps := 2000000 }) only [go_sem, bne_self_eq_false, beq_self_eq_true, Bool.not_true]
      repeat' (first | refine wS fun K hK => ?_ | refine wB ?_ | ((first | refine wR hΓ ?_ | refine wD hΓ fun B hB => ?_); simp (config := { maxSteps := 2000000 }) only [go_sem]) | ((repeat ((fail_if_success (refine hK _ ?_)); clear hK K)); refine hK _ ?_; clear hK K) | (refine w1 ?_; simp only [xs, xi, Nat.reduceEqDiff, reduceCtorEq]) | (refine wC (fun hb => ?_) fun hb => ?_ <;> (try simp only [xb, reduceCtorEq] at hb)) | (refine w2 (fun hc => ?_) (fun hc => ?_) <;> (try simp only [xc] at hc) <;> (try simp only [go_sem, hc]) <;> (try simp only [xb] at hc)) | refine wI ?_ | refine ex_idx (by omega) ?_ | fail)
      exact ⟨k + 1, by (simp only [xe, xj, Nat.reduceEqDiff]; (try simp [view, viewL_map]); (try omega)), by omega, by omega⟩
  · (first | refine wA rfl ?_ ?_ ?_ | refine dA rfl ?_ ?_ ?_); exact (.bool true); exact (⟨X.ends, X.next, rfl, by omega, by omega, fun x hx => by have := hXb.2.2 x hx; omega, by rw [← hok]⟩); simp (config := { maxSteps := 2000000 }) only [go_sem]
    repeat' (first | refine wS fun K hK => ?_ | refine wB ?_ | ((first | refine wR hΓ ?_ | refine wD hΓ fun B hB => ?_); simp (config := { maxSteps := 2000000 }) only [go_sem]) | ((repeat ((fail_if_success (refine hK _ ?_)); clear hK K)); refine hK _ ?_; clear hK K) | (refine w1 ?_; simp only [xs, xi, Nat.reduceEqDiff, reduceCtorEq]) | (refine wC (fun hb => ?_) fun hb => ?_ <;> (try simp only [xb, reduceCtorEq] at hb)) | (refine w2 (fun hc => ?_) (fun hc => ?_) <;> (try simp only [xc] at hc) <;> (try simp only [go_sem, hc]) <;> (try simp only [xb] at hc)) | refine wI ?_ | refine ex_idx (by omega) ?_ | fail)
    have hle : (X.ends.length : Int) = (A.ends.length : Int) + (Y.ends.length : Int) + 1 := by rw [hln]; simp
    rw [decide_eq_true hle]
    simp [Try.results7, RetOK, RetP, backA, upd_at, plainB, getP, isOwn, anyOwn, isP]

end Go.Proofs.Ytboandkjhdaobaa
