/- The law FnAutoBoth, walked by the engine. -/
import Derived.Test.YtljoonlcpiagjaaR10
import Derived.Test.YtljoonlcpiagjaaR17
import Derived.Test.YtljoonlcpiagjaaGrpT
import Derived.Test.YtljoonlcpiagjaaR7a
import Derived.Test.YtljoonlcpiagjaaS2
import Derived.Test.YtljoonlcpiagjaaGrpV
import Derived.Test.YtljoonlcpiagjaaB2
import Derived.Test.YtljoonlcpiagjaaGrpU
import Derived.Test.YtljoonlcpiagjaaGrpD
import Derived.Test.YtljoonlcpiagjaaGrpN
import Derived.Test.YtljoonlcpiagjaaEngMin
namespace Go.Proofs.Ytljoonlcpiagjaa
set_option linter.unusedSimpArgs false
set_option linter.unusedVariables false
set_option maxRecDepth 8000
set_option maxHeartbeats 2000000
open Go Go.RowKit AV

attribute [local go_sem] List.nil_prefix

theorem both_yes {X Y : AutoD} (h : (bothD X Y).ends.length ≠ 0) : AutoOK X ∧ AutoOK Y ∧ X.ends.length * Y.ends.length ≤ 10 := by
  by_cases g : AutoOK X ∧ AutoOK Y ∧ X.ends.length * Y.ends.length ≤ 10
  · exact g
  · rw [bothD_no g] at h; exact absurd rfl h
theorem both_runB {X Y : AutoD} (h : (bothD X Y).ends.length ≠ 0) (t : List Int) : runB (bothD X Y) t = (runB X t && runB Y t) := by
  have g := both_yes h
  rw [bothD_yes g]
  show runB (prodD X Y) t = _
  unfold runB
  by_cases ht : TraceOK t
  · rw [if_pos ⟨prod_ok g.1 g.2.1 g.2.2, ht⟩, if_pos ⟨g.1, ht⟩, if_pos ⟨g.2.1, ht⟩, prod_runF g.1 g.2.1 ht (by have := ht.odd; omega)]
  · rw [if_neg (fun h => ht h.2), if_neg (fun h => ht h.2)]; rfl
theorem both_okB {X Y : AutoD} (h : (bothD X Y).ends.length ≠ 0) : autoOKB (bothD X Y) = true := by
  have g := both_yes h
  rw [bothD_yes g]
  exact autoOKB_true.2 (prod_ok g.1 g.2.1 g.2.2)
theorem both_len {X Y : AutoD} (h : (bothD X Y).ends.length ≠ 0) : (bothD X Y).ends.length = X.ends.length * Y.ends.length := by
  rw [bothD_yes (both_yes h)]; exact rowOf_len _ _
theorem both_bnd (X Y : AutoD) : (bothD X Y).ends.length ≤ 10 ∧ (bothD X Y).next.length ≤ 10 ∧ ∀ x ∈ (bothD X Y).next, x.length ≤ 12 := by
  by_cases g : AutoOK X ∧ AutoOK Y ∧ X.ends.length * Y.ends.length ≤ 10
  · have h := prod_ok g.1 g.2.1 g.2.2
    rw [bothD_yes g]
    refine ⟨h.hi, by have := h.len; have := h.hi; simp only [prodD] at *; omega, fun x hx => ?_⟩
    obtain ⟨s, _, rfl⟩ := List.mem_map.1 (show x ∈ (List.range (X.ends.length * Y.ends.length)).map _ from hx)
    simp [rowOf]
  · rw [bothD_no g]; simp
theorem fnAutoBoth_ctr : CtrOK Try.prog 4 (pureC codeR2) := by
  refine ctr_pure' Try.func4 rfl rfl Try.ntmps4 ?_
  rintro _ _ ⟨bs, cs, rfl, ⟨hl, hb256⟩, ⟨hlc, hc256⟩, rfl⟩
  refine ⟨by simp, fun κ hκ => ?_⟩
  have hbig := bigW_gt
  rw [argEnv_eq]
  simp only [envA]
  have hΓ := ctxOf_ok (P := Try.prog) (cx drawAutoBoth_ctr <| cx implAutoBoth_ctr <| cx sameAuto_ctr <| cx specAutoBoth_ctr <| cx drawTraceBy_ctr <| cx allTraces_ctr <| cx implAutoRun_ctr <| cx implAutoValid_ctr <| cx aliveL_ctr <| cx0)
  have hsm := autoX_small (bs.take 2000) 0 3 14 (by omega)
  have hsm2 := autoX_small (bs.take 2000) (autoX (bs.take 2000) 0 3 14).2 3 14 (by omega)
  obtain ⟨A, hA⟩ : ∃ D, drwA bs 3 14 = D := ⟨_, rfl⟩
  obtain ⟨Y, hY⟩ : ∃ D, drwA2 bs 3 14 = D := ⟨_, rfl⟩
  rw [show (autoX (bs.take 2000) 0 3 14).1 = A from hA] at hsm
  rw [show (autoX (bs.take 2000) (autoX (bs.take 2000) 0 3 14).2 3 14).1 = Y from hY] at hsm2
  have hal10 := hsm.e
  have han10 := hsm.n
  have har10 := hsm.r
  have hbl10 := hsm2.e
  have hbn10 := hsm2.n
  have hbr10 := hsm2.r
  have hSA : smallD A.ends A.next := ⟨by omega, by omega, fun x hx => by have := har10 x hx; omega⟩
  have hSB : smallD Y.ends Y.next := ⟨by omega, by omega, fun x hx => by have := hbr10 x hx; omega⟩
  have hXb := both_bnd A Y
  have hrn := fun h => both_runB (X := A) (Y := Y) h
  have hok := fun h => both_okB (X := A) (Y := Y) h
  have hln := fun h => both_len (X := A) (Y := Y) h
  obtain ⟨X, hX⟩ : ∃ X, bothD A Y = X := ⟨_, rfl⟩
  rw [hX] at hXb hrn hok hln
  have hXE : smallE X.ends X.next := ⟨by omega, by omega, fun x hx => by have := hXb.2.2 x hx; omega⟩
  repeat' (first | refine wS fun K hK => ?_ | refine wB ?_ | ((first | refine wR hΓ ?_ | refine wD hΓ fun B hB => ?_); simp (config := { maxSteps := 2000000 }) only [go_sem]) | ((repeat ((fail_if_success (refine hK _ ?_)); clear hK K)); refine hK _ ?_; clear hK K) | (refine w1 ?_; simp only [xs, xi, Nat.reduceEqDiff, reduceCtorEq]) | (refine wC (fun hb => ?_) fun hb => ?_ <;> (try simp only [xb, reduceCtorEq] at hb)) | (refine w2 (fun hc => ?_) (fun hc => ?_) <;> (try simp only [xc] at hc) <;> (try simp only [go_sem, hc]) <;> (try simp only [xb] at hc)) | refine wI ?_ | refine ex_idx (by omega) ?_ | fail)
  · simp [Try.results4, RetOK, RetP, backA, upd_at, plainB, getP, isOwn, anyOwn, isP]
  rotate_left
  · simp [Try.results4, RetOK, RetP, backA, upd_at, plainB, getP, isOwn, anyOwn, isP]
  (first | refine wA rfl ?_ ?_ ?_ | refine dA rfl ?_ ?_ ?_); exact (.tup [agg [ints A.ends, rows A.next], agg [ints Y.ends, rows Y.next]]); exact (⟨bs, rfl, by omega, hb256, by rw [hA, hY]⟩); simp (config := { maxSteps := 2000000 }) only [go_sem]
  repeat' (first | refine wS fun K hK => ?_ | refine wB ?_ | ((first | refine wR hΓ ?_ | refine wD hΓ fun B hB => ?_); simp (config := { maxSteps := 2000000 }) only [go_sem]) | ((repeat ((fail_if_success (refine hK _ ?_)); clear hK K)); refine hK _ ?_; clear hK K) | (refine w1 ?_; simp only [xs, xi, Nat.reduceEqDiff, reduceCtorEq]) | (refine wC (fun hb => ?_) fun hb => ?_ <;> (try simp only [xb, reduceCtorEq] at hb)) | (refine w2 (fun hc => ?_) (fun hc => ?_) <;> (try simp only [xc] at hc) <;> (try simp only [go_sem, hc]) <;> (try simp only [xb] at hc)) | refine wI ?_ | refine ex_idx (by omega) ?_ | fail)
  (first | refine wA rfl ?_ ?_ ?_ | refine dA rfl ?_ ?_ ?_); exact (agg [oints X.ends, oorows X.next]); exact (⟨A.ends, Y.ends, A.next, Y.next, rfl, hSA, hSB, by rw [← hX]⟩); simp (config := { maxSteps := 2000000 }) only [go_sem]
  repeat' (first | refine wS fun K hK => ?_ | refine wB ?_ | ((first | refine wR hΓ ?_ | refine wD hΓ fun B hB => ?_); simp (config := { maxSteps := 2000000 }) only [go_sem]) | ((repeat ((fail_if_success (refine hK _ ?_)); clear hK K)); refine hK _ ?_; clear hK K) | (refine w1 ?_; simp only [xs, xi, Nat.reduceEqDiff, reduceCtorEq]) | (refine wC (fun hb => ?_) fun hb => ?_ <;> (try simp only [xb, reduceCtorEq] at hb)) | (refine w2 (fun hc => ?_) (fun hc => ?_) <;> (try simp only [xc] at hc) <;> (try simp only [go_sem, hc]) <;> (try simp only [xb] at hc)) | refine wI ?_ | refine ex_idx (by omega) ?_ | fail)
  (first | refine wA rfl ?_ ?_ ?_ | refine dA rfl ?_ ?_ ?_); exact (agg [oints X.ends, oorows X.next]); exact (⟨A.ends, Y.ends, A.next, Y.next, rfl, hSA, hSB, by rw [← hX]⟩); simp (config := { maxSteps := 2000000 }) only [go_sem]
  repeat' (first | refine wS fun K hK => ?_ | refine wB ?_ | ((first | refine wR hΓ ?_ | refine wD hΓ fun B hB => ?_); simp (config := { maxSteps := 2000000 }) only [go_sem]) | ((repeat ((fail_if_success (refine hK _ ?_)); clear hK K)); refine hK _ ?_; clear hK K) | (refine w1 ?_; simp only [xs, xi, Nat.reduceEqDiff, reduceCtorEq]) | (refine wC (fun hb => ?_) fun hb => ?_ <;> (try simp only [xb, reduceCtorEq] at hb)) | (refine w2 (fun hc => ?_) (fun hc => ?_) <;> (try simp only [xc] at hc) <;> (try simp only [go_sem, hc]) <;> (try simp only [xb] at hc)) | refine wI ?_ | refine ex_idx (by omega) ?_ | fail)
  (first | refine wA rfl ?_ ?_ ?_ | refine dA rfl ?_ ?_ ?_); exact (.bool true); exact (⟨X, X, by simp [view], hXE, hXE, by simp⟩); simp (config := { maxSteps := 2000000 }) only [go_sem]
  repeat' (first | refine wS fun K hK => ?_ | refine wB ?_ | ((first | refine wR hΓ ?_ | refine wD hΓ fun B hB => ?_); simp (config := { maxSteps := 2000000 }) only [go_sem]) | ((repeat ((fail_if_success (refine hK _ ?_)); clear hK K)); refine hK _ ?_; clear hK K) | (refine w1 ?_; simp only [xs, xi, Nat.reduceEqDiff, reduceCtorEq]) | (refine wC (fun hb => ?_) fun hb => ?_ <;> (try simp only [xb, reduceCtorEq] at hb)) | (refine w2 (fun hc => ?_) (fun hc => ?_) <;> (try simp only [xc] at hc) <;> (try simp only [go_sem, hc]) <;> (try simp only [xb] at hc)) | refine wI ?_ | refine ex_idx (by omega) ?_ | fail)
  · (first | refine wA rfl _ (⟨rfl, rfl⟩) ?_ | refine dA rfl _ (⟨rfl, rfl⟩) ?_); simp (config := { maxSteps := 2000000 }) only [go_sem]
    repeat' (first | refine wS fun K hK => ?_ | refine wB ?_ | ((first | refine wR hΓ ?_ | refine wD hΓ fun B hB => ?_); simp (config := { maxSteps := 2000000 }) only [go_sem]) | ((repeat ((fail_if_success (refine hK _ ?_)); clear hK K)); refine hK _ ?_; clear hK K) | (refine w1 ?_; simp only [xs, xi, Nat.reduceEqDiff, reduceCtorEq]) | (refine wC (fun hb => ?_) fun hb => ?_ <;> (try simp only [xb, reduceCtorEq] at hb)) | (refine w2 (fun hc => ?_) (fun hc => ?_) <;> (try simp only [xc] at hc) <;> (try simp only [go_sem, hc]) <;> (try simp only [xb] at hc)) | refine wI ?_ | refine ex_idx (by omega) ?_ | fail)
    simp [Try.results4, RetOK, RetP, backA, upd_at, plainB, getP, isOwn, anyOwn, isP]
  have hX0 : X.ends.length ≠ 0 := by omega
  have hrn := hrn hX0
  have hok := hok hX0
  have hln := hln hX0
  obtain ⟨e, he⟩ : ∃ e, (toldX (cs.take 2000) 0 5).1 = e := ⟨_, rfl⟩
  obtain ⟨t, ht⟩ : ∃ t, (toldX (cs.take 2000) 0 5).2.1 = t := ⟨_, rfl⟩
  have hLl := allTr_len 1 4
  obtain ⟨L, hL⟩ : ∃ L, allTr 1 4 = L := ⟨_, rfl⟩
  rw [hL] at hLl
  simp only [Nat.pow_one, Nat.reduceMul] at hLl
  (first | refine wA rfl ?_ ?_ ?_ | refine dA rfl ?_ ?_ ?_); exact (.tup [ints e, ints t]); exact (⟨cs, rfl, by omega, hc256, by rw [he, ht]⟩); simp (config := { maxSteps := 2000000 }) only [go_sem]
  repeat' (first | refine wS fun K hK => ?_ | refine wB ?_ | ((first | refine wR hΓ ?_ | refine wD hΓ fun B hB => ?_); simp (config := { maxSteps := 2000000 }) only [go_sem]) | ((repeat ((fail_if_success (refine hK _ ?_)); clear hK K)); refine hK _ ?_; clear hK K) | (refine w1 ?_; simp only [xs, xi, Nat.reduceEqDiff, reduceCtorEq]) | (refine wC (fun hb => ?_) fun hb => ?_ <;> (try simp only [xb, reduceCtorEq] at hb)) | (refine w2 (fun hc => ?_) (fun hc => ?_) <;> (try simp only [xc] at hc) <;> (try simp only [go_sem, hc]) <;> (try simp only [xb] at hc)) | refine wI ?_ | refine ex_idx (by omega) ?_ | fail)
  (first | refine wA rfl ?_ ?_ ?_ | refine dA rfl ?_ ?_ ?_); exact (oorows L); exact (⟨1, rfl, by omega, by rw [hL]⟩); simp (config := { maxSteps := 2000000 }) only [go_sem]
  repeat' (first | refine wS fun K hK => ?_ | refine wB ?_ | ((first | refine wR hΓ ?_ | refine wD hΓ fun B hB => ?_); simp (config := { maxSteps := 2000000 }) only [go_sem]) | ((repeat ((fail_if_success (refine hK _ ?_)); clear hK K)); refine hK _ ?_; clear hK K) | (refine w1 ?_; simp only [xs, xi, Nat.reduceEqDiff, reduceCtorEq]) | (refine wC (fun hb => ?_) fun hb => ?_ <;> (try simp only [xb, reduceCtorEq] at hb)) | (refine w2 (fun hc => ?_) (fun hc => ?_) <;> (try simp only [xc] at hc) <;> (try simp only [go_sem, hc]) <;> (try simp only [xb] at hc)) | refine wI ?_ | refine ex_idx (by omega) ?_ | fail)
  refine CW.frz 10 [] (own (List.map oints L ++ [sh (List.map I t)])) (by simp [upd_at, getP]) rfl ?_
  have hfz : view (own (List.map oints L ++ [sh (List.map I t)])) = rows (L ++ [t]) := by simp [view, viewL_map, rows, ints, oints, view_I, Function.comp_def]
  rw [hfz]
  obtain ⟨M, hM⟩ : ∃ M, L ++ [t] = M := ⟨_, rfl⟩
  have hMl : M.length = L.length + 1 := by rw [← hM]; simp
  rw [hM]
  refine CW.loop (ι := Nat) (fun k => [(5, box [ints A.ends, rows A.next]), (6, box [ints Y.ends, rows Y.next]), (7, box [oints X.ends, oorows X.next]), (10, rows M), (11, I (k : Int))]) (fun k => k ≤ M.length) (fun k => M.length - k) 0 ?_ ?_
  · exact ⟨by simp [LeL, Wr.app, upd_at, isOwn, view, viewL_map, setP, kids, withKids], by omega⟩
  rintro k hk
  simp only [envOf]
  repeat' (first | refine wS fun K hK => ?_ | refine wB ?_ | ((first | refine wR hΓ ?_ | refine wD hΓ fun B hB => ?_); simp (config := { maxSteps := 2000000 }) only [go_sem]) | ((repeat ((fail_if_success (refine hK _ ?_)); clear hK K)); refine hK _ ?_; clear hK K) | (refine w1 ?_; simp only [xs, xi, Nat.reduceEqDiff, reduceCtorEq]) | (refine wC (fun hb => ?_) fun hb => ?_ <;> (try simp only [xb, reduceCtorEq] at hb)) | (refine w2 (fun hc => ?_) (fun hc => ?_) <;> (try simp only [xc] at hc) <;> (try simp only [go_sem, hc]) <;> (try simp only [xb] at hc)) | refine wI ?_ | refine ex_idx (by omega) ?_ | fail)
  · have hkM : k < M.length := by omega
    have hrk := hrn M[k]
    obtain ⟨RA, hRA⟩ : ∃ R, runB A M[k] = R := ⟨_, rfl⟩
    obtain ⟨RY, hRY⟩ : ∃ R, runB Y M[k] = R := ⟨_, rfl⟩
    rw [hRA, hRY] at hrk
    (first | refine wA rfl ?_ ?_ ?_ | refine dA rfl ?_ ?_ ?_); exact (.bool (RA && RY)); exact (⟨X, M[k], rfl, by rw [hrk]⟩); simp (config := { maxSteps := 2000000 }) only [go_sem]
    repeat' (first | refine wS fun K hK => ?_ | refine wB ?_ | ((first | refine wR hΓ ?_ | refine wD hΓ fun B hB => ?_); simp (config := { maxSteps := 2000000 }) only [go_sem]) | ((repeat ((fail_if_success (refine hK _ ?_)); clear hK K)); refine hK _ ?_; clear hK K) | (refine w1 ?_; simp only [xs, xi, Nat.reduceEqDiff, reduceCtorEq]) | (refine wC (fun hb => ?_) fun hb => ?_ <;> (try simp only [xb, reduceCtorEq] at hb)) | (refine w2 (fun hc => ?_) (fun hc => ?_) <;> (try simp only [xc] at hc) <;> (try simp only [go_sem, hc]) <;> (try simp only [xb] at hc)) | refine wI ?_ | refine ex_idx (by omega) ?_ | fail)
    (first | refine wA rfl ?_ ?_ ?_ | refine dA rfl ?_ ?_ ?_); exact (.bool RA); exact (⟨A, M[k], rfl, by rw [hRA]⟩); simp (config := { maxSteps := 2000000 }) only [go_sem]
    cases RA with
    | false =>
      simp (config := { maxSteps := 2000000 }) only [go_sem, bne_self_eq_false, beq_self_eq_true, Bool.not_true]
      repeat' (first | refine wS fun K hK => ?_ | refine wB ?_ | ((first | refine wR hΓ ?_ | refine wD hΓ fun B hB => ?_); simp (config := { maxSteps := 2000000 }) only [go_sem]) | ((repeat ((fail_if_success (refine hK _ ?_)); clear hK K)); refine hK _ ?_; clear hK K) | (refine w1 ?_; simp only [xs, xi, Nat.reduceEqDiff, reduceCtorEq]) | (refine wC (fun hb => ?_) fun hb => ?_ <;> (try simp only [xb, reduceCtorEq] at hb)) | (refine w2 (fun hc => ?_) (fun hc => ?_) <;> (try simp only [xc] at hc) <;> (try simp only [go_sem, hc]) <;> (try simp only [xb] at hc)) | refine wI ?_ | refine ex_idx (by omega) ?_ | fail)
      exact ⟨k + 1, by (simp only [xe, xj, Nat.reduceEqDiff]; (try simp [view, viewL_map]); (try omega)), by omega, by omega⟩
    | true =>
      simp (config := { maxSteps := 2000000 }) only [go_sem, bne_self_eq_false, beq_self_eq_true, Bool.not_true]
      repeat' (first | refine wS fun K hK => ?_ | refine wB ?_ | ((first | refine wR hΓ ?_ | refine wD hΓ fun B hB => ?_); simp (config := { maxSteps := 2000000 }) only [go_sem]) | ((repeat ((fail_if_success (refine hK _ ?_)); clear hK K)); refine hK _ ?_; clear hK K) | (refine w1 ?_; simp only [xs, xi, Nat.reduceEqDiff, reduceCtorEq]) | (refine wC (fun hb => ?_) fun hb => ?_ <;> (try simp only [xb, reduceCtorEq] at hb)) | (refine w2 (fun hc => ?_) (fun hc => ?_) <;> (try simp only [xc] at hc) <;> (try simp only [go_sem, hc]) <;> (try simp only [xb] at hc)) | refine wI ?_ | refine ex_idx (by omega) ?_ | fail)
      (first | refine wA rfl ?_ ?_ ?_ | refine dA rfl ?_ ?_ ?_); exact (.bool RY); exact (⟨Y, M[k], rfl, by rw [hRY]⟩); simp (config := { maxSteps := 2000000 }) only [go_sem]
      simp (config := { maxSteps := 2000000 }) only [go_sem, bne_self_eq_false, beq_self_eq_true, Bool.not_true]
      repeat' (first | refine wS fun K hK => ?_ | refine wB ?_ | ((first | refine wR hΓ ?_ | refine wD hΓ fun B hB => ?_); simp (config := { maxSteps := 2000000 }) only [go_sem]) | ((repeat ((fail_if_success (refine hK _ ?_)); clear hK K)); refine hK _ ?_; clear hK K) | (refine w1 ?_; simp only [xs, xi, Nat.reduceEqDiff, reduceCtorEq]) | (refine wC (fun hb => ?_) fun hb => ?_ <;> (try simp only [xb, reduceCtorEq] at hb)) | (refine w2 (fun hc => ?_) (fun hc => ?_) <;> (try simp only [xc] at hc) <;> (try simp only [go_sem, hc]) <;> (try simp only [xb] at hc)) | refine wI ?_ | refine ex_idx (by omega) ?_ | fail)
      exact ⟨k + 1, by (simp only [xe, xj, Nat.reduceEqDiff]; (try simp [view, viewL_map]); (try omega)), by omega, by omega⟩
  · (first | refine wA rfl ?_ ?_ ?_ | refine dA rfl ?_ ?_ ?_); exact (.bool true); exact (⟨X.ends, X.next, rfl, by omega, by omega, fun x hx => by have := hXb.2.2 x hx; omega, by rw [← hok]⟩); simp (config := { maxSteps := 2000000 }) only [go_sem]
    repeat' (first | refine wS fun K hK => ?_ | refine wB ?_ | ((first | refine wR hΓ ?_ | refine wD hΓ fun B hB => ?_); simp (config := { maxSteps := 2000000 }) only [go_sem]) | ((repeat ((fail_if_success (refine hK _ ?_)); clear hK K)); refine hK _ ?_; clear hK K) | (refine w1 ?_; simp only [xs, xi, Nat.reduceEqDiff, reduceCtorEq]) | (refine wC (fun hb => ?_) fun hb => ?_ <;> (try simp only [xb, reduceCtorEq] at hb)) | (refine w2 (fun hc => ?_) (fun hc => ?_) <;> (try simp only [xc] at hc) <;> (try simp only [go_sem, hc]) <;> (try simp only [xb] at hc)) | refine wI ?_ | refine ex_idx (by omega) ?_ | fail)
    have hle : (X.ends.length : Int) = (A.ends.length : Int) * (Y.ends.length : Int) := by rw [hln]; simp
    rw [decide_eq_true hle]
    simp [Try.results4, RetOK, RetP, backA, upd_at, plainB, getP, isOwn, anyOwn, isP]

end Go.Proofs.Ytljoonlcpiagjaa
