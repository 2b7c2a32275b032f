/- Differ of the program; Equal and Within of both. Walked by the engine. -/
import Derived.Test.YtmhiipmajlmlgaaGreatGrpZ
import Derived.Test.YtmhiipmajlmlgaaGreatQ5
import Derived.Test.YtmhiipmajlmlgaaGreatQ6
import Derived.Test.YtmhiipmajlmlgaaGreatJ1
import Derived.Test.YtmhiipmajlmlgaaGreatEngMin
namespace Go.Proofs.YtmhiipmajlmlgaaGreat
set_option linter.unusedSimpArgs false
set_option linter.unusedVariables false
set_option maxRecDepth 8000
set_option maxHeartbeats 2000000
open Go Go.RowKit AV

attribute [local go_sem] List.drop_zero List.drop_succ_cons List.take_zero List.take_succ_cons List.take_nil

def differIR (args : List AV) (r : AV) : Prop := ∃ e f : List Int, args = [ints e, ints f] ∧ e.length ≤ 1048576 ∧ f.length ≤ 1048576 ∧ r = .tup [oints (diffT (autD e) (autD f)), .bool (diffB (autD e) (autD f))]
theorem implDiffer_ctr : CtrOK Tryz.prog 58 (pureC differIR) := by
  refine ctr_pure' Tryz.func58 rfl rfl Tryz.ntmps58 ?_
  rintro _ _ ⟨e, f, rfl, he, hf, rfl⟩
  refine ⟨by simp, fun κ hκ => ?_⟩
  have hbig := bigW_gt
  rw [argEnv_eq]
  simp only [envA]
  have hΓ := ctxOf_ok (P := Tryz.prog) (cx autosOf_ctr <| cx togPairs_ctr <| cx firstP_ctr <| cx0)
  have hokA := fun h => autD_okQ (e := e) h
  have hokB := fun h => autD_okQ (e := f) h
  obtain ⟨A, hA⟩ : ∃ A, autD e = A := ⟨_, rfl⟩
  obtain ⟨C, hC⟩ : ∃ A, autD f = A := ⟨_, rfl⟩
  rw [hA] at hokA
  rw [hC] at hokB
  have hT0 : pairsL A C = [] → diffT A C = [] ∧ diffB A C = false := fun h => ⟨if_pos h, if_pos h⟩
  have hT1 : pairsL A C ≠ [] → diffT A C = shT (stepP A C) (1, 1) (finP A C) ∧ diffB A C = shB (stepP A C) (1, 1) (finP A C) := fun h => ⟨if_neg h, if_neg h⟩
  obtain ⟨T, hT⟩ : ∃ T, (decide (A.ends.length ≠ 0) && decide (C.ends.length ≠ 0)) = T := ⟨_, rfl⟩
  have hA2 : autosR [ints e, ints f] (.tup [togA A C, .bool T]) := ⟨e, f, rfl, he, hf, by rw [hA, hC, hT]⟩
  rw [hA, hC]
  repeat' (first | exact hb.elim | refine wS fun K hK => ?_ | refine wB ?_ | refine uX hΓ ?_ | refine uV hΓ fun B hB => ?_ | ((repeat ((fail_if_success (refine hK _ ?_)); clear hK K)); refine hK _ ?_; clear hK K) | refine u1 ?_ | refine uC (fun hb => ?_) fun hb => ?_ | refine u2 (fun hc => ?_) fun hc => ?_ | refine wI ?_ | refine ex_idx (by omega) ?_ | exact True.intro | fail)
  (first | refine wA rfl ?_ ?_ ?_ | refine dA rfl ?_ ?_ ?_); exact (.tup [togA A C, .bool T]); exact (hA2); simp (maxSteps := 2000000) only [go_sem]
  cases T with
  | false =>
    repeat' (first | exact hb.elim | refine wS fun K hK => ?_ | refine wB ?_ | refine uX hΓ ?_ | refine uV hΓ fun B hB => ?_ | ((repeat ((fail_if_success (refine hK _ ?_)); clear hK K)); refine hK _ ?_; clear hK K) | refine u1 ?_ | refine uC (fun hb => ?_) fun hb => ?_ | refine u2 (fun hc => ?_) fun hc => ?_ | refine wI ?_ | refine ex_idx (by omega) ?_ | exact True.intro | fail)
    obtain ⟨e1, e2⟩ := hT0 (pairsL_no (by
      rcases Bool.and_eq_false_iff.1 hT with h | h
      · exact .inl (Classical.byContradiction (of_decide_eq_false h))
      · exact .inr (Classical.byContradiction (of_decide_eq_false h))))
    rw [e1, e2]
    (rw [Tryz.results58]; refine ⟨_, _, rfl, by decide, rfl, rfl, ?_, ?_⟩ <;> simp [upd_at])
  | true =>
    rw [Bool.and_eq_true, decide_eq_true_eq, decide_eq_true_eq] at hT
    have hokA := hokA hT.1
    have hokB := hokB hT.2
    have hnl : allN (flatP (pairsX A C)) = true := by
      generalize pairsX A C = L
      refine (allN_iff _).2 fun a ha => ?_
      induction L with
      | nil => simp [flatP] at ha
      | cons p L ih =>
        simp only [flatP, List.mem_cons] at ha
        rcases ha with rfl | rfl | ha
        · rfl
        · rfl
        · exact ih ha
    repeat' (first | exact hb.elim | refine wS fun K hK => ?_ | refine wB ?_ | refine uX hΓ ?_ | refine uV hΓ fun B hB => ?_ | ((repeat ((fail_if_success (refine hK _ ?_)); clear hK K)); refine hK _ ?_; clear hK K) | refine u1 ?_ | refine uC (fun hb => ?_) fun hb => ?_ | refine u2 (fun hc => ?_) fun hc => ?_ | refine wI ?_ | refine ex_idx (by omega) ?_ | exact True.intro | fail)
    cases hr : reachP A C with
    | none =>
      obtain ⟨e1, e2⟩ := hT0 (pairsL_many hr)
      have hX : pairsX A C = [] := by unfold pairsX; rw [hr]; rfl
      have hB2 : pairsB A C = false := by unfold pairsB; rw [hr]; rfl
      (first | refine wA rfl ?_ ?_ ?_ | refine dA rfl ?_ ?_ ?_); exact (.tup [.orec 2 (flatP []), .bool false]); exact (⟨A, C, rfl, hokA, hokB, by rw [hX, hB2]⟩); simp (maxSteps := 2000000) only [go_sem]
      rw [hX] at hnl
      clear hB2
      simp (maxSteps := 2000000) only [go_sem, hnl]
      repeat' (first | exact hb.elim | refine wS fun K hK => ?_ | refine wB ?_ | refine uX hΓ ?_ | refine uV hΓ fun B hB => ?_ | ((repeat ((fail_if_success (refine hK _ ?_)); clear hK K)); refine hK _ ?_; clear hK K) | refine u1 ?_ | refine uC (fun hb => ?_) fun hb => ?_ | refine u2 (fun hc => ?_) fun hc => ?_ | refine wI ?_ | refine ex_idx (by omega) ?_ | exact True.intro | fail)
      rw [e1, e2]
      (rw [Tryz.results58]; refine ⟨_, _, rfl, by decide, rfl, rfl, ?_, ?_⟩ <;> simp [upd_at])
    | some l =>
      obtain ⟨e1, e2⟩ := hT1 (by
        rw [Ne, pairsL_nil, hr]
        intro h
        rcases h with h | h
        · omega
        · cases h)
      have hX : pairsX A C = l := by unfold pairsX; rw [hr]; rfl
      have hB2 : pairsB A C = true := by unfold pairsB; rw [hr]; rfl
      (first | refine wA rfl ?_ ?_ ?_ | refine dA rfl ?_ ?_ ?_); exact (.tup [.orec 2 (flatP l), .bool true]); exact (⟨A, C, rfl, hokA, hokB, by rw [hX, hB2]⟩); simp (maxSteps := 2000000) only [go_sem]
      rw [hX] at hnl
      clear hB2
      simp (maxSteps := 2000000) only [go_sem, hnl]
      repeat' (first | exact hb.elim | refine wS fun K hK => ?_ | refine wB ?_ | refine uX hΓ ?_ | refine uV hΓ fun B hB => ?_ | ((repeat ((fail_if_success (refine hK _ ?_)); clear hK K)); refine hK _ ?_; clear hK K) | refine u1 ?_ | refine uC (fun hb => ?_) fun hb => ?_ | refine u2 (fun hc => ?_) fun hc => ?_ | refine wI ?_ | refine ex_idx (by omega) ?_ | exact True.intro | fail)
      (first | refine wA rfl _ (⟨A, C, rfl, hokA, hokB, rfl⟩) ?_ | refine dA rfl _ (⟨A, C, rfl, hokA, hokB, rfl⟩) ?_); simp (maxSteps := 2000000) only [go_sem]
      repeat' (first | exact hb.elim | refine wS fun K hK => ?_ | refine wB ?_ | refine uX hΓ ?_ | refine uV hΓ fun B hB => ?_ | ((repeat ((fail_if_success (refine hK _ ?_)); clear hK K)); refine hK _ ?_; clear hK K) | refine u1 ?_ | refine uC (fun hb => ?_) fun hb => ?_ | refine u2 (fun hc => ?_) fun hc => ?_ | refine wI ?_ | refine ex_idx (by omega) ?_ | exact True.intro | fail)
      rw [e1, e2]
      (rw [Tryz.results58]; refine ⟨_, _, rfl, by decide, rfl, rfl, ?_, ?_⟩ <;> simp [upd_at])

def equalR (args : List AV) (r : AV) : Prop := ∃ e f : List Int, args = [ints e, ints f] ∧ e.length ≤ 1048576 ∧ f.length ≤ 1048576 ∧ r = I (equalI (autD e) (autD f))
theorem pairsL_rows (A B : AutoD) : ∀ x ∈ pairsL A B, x.length ≤ 1099511627776 := fun x hx => by
  unfold pairsL at hx
  split at hx
  · cases hx
  · split at hx
    · obtain ⟨p, _, rfl⟩ := List.mem_map.1 hx
      show 2 ≤ _
      omega
    · cases hx

theorem implEqual_ctr : CtrOK Tryz.prog 23 (pureC equalR) := by
  refine ctr_pure' Tryz.func23 rfl rfl Tryz.ntmps23 ?_
  rintro _ _ ⟨e, f, rfl, he, hf, rfl⟩
  refine ⟨by simp, fun κ hκ => ?_⟩
  have hbig := bigW_gt
  rw [argEnv_eq]
  simp only [envA]
  have hΓ := ctxOf_ok (P := Tryz.prog) (cx implPairsOf_ctr <| cx implPairsOk_ctr <| cx implDiffer_ctr <| cx0)
  have hE : equalI (autD e) (autD f) = if okB (autD e) (autD f) (pairsL (autD e) (autD f)) = true then 1 else if diffB (autD e) (autD f) = true then 0 else -1 := rfl
  have hPl := pairsL_len (autD e) (autD f)
  have hPr := pairsL_rows (autD e) (autD f)
  obtain ⟨P, hP⟩ : ∃ P, pairsL (autD e) (autD f) = P := ⟨_, rfl⟩
  obtain ⟨O, hO⟩ : ∃ O, okB (autD e) (autD f) P = O := ⟨_, rfl⟩
  obtain ⟨D, hD⟩ : ∃ D, diffB (autD e) (autD f) = D := ⟨_, rfl⟩
  obtain ⟨t, ht⟩ : ∃ D, diffT (autD e) (autD f) = D := ⟨_, rfl⟩
  rw [hP] at hPl hPr hE
  rw [hO, hD] at hE
  repeat' (first | exact hb.elim | refine wS fun K hK => ?_ | refine wB ?_ | refine uX hΓ ?_ | refine uV hΓ fun B hB => ?_ | ((repeat ((fail_if_success (refine hK _ ?_)); clear hK K)); refine hK _ ?_; clear hK K) | refine u1 ?_ | refine uC (fun hb => ?_) fun hb => ?_ | refine u2 (fun hc => ?_) fun hc => ?_ | refine wI ?_ | refine ex_idx (by omega) ?_ | exact True.intro | fail)
  (first | refine wA rfl ?_ ?_ ?_ | refine dA rfl ?_ ?_ ?_); exact (oorows P); exact (⟨e, f, rfl, he, hf, by rw [hP]⟩); simp (maxSteps := 2000000) only [go_sem]
  repeat' (first | exact hb.elim | refine wS fun K hK => ?_ | refine wB ?_ | refine uX hΓ ?_ | refine uV hΓ fun B hB => ?_ | ((repeat ((fail_if_success (refine hK _ ?_)); clear hK K)); refine hK _ ?_; clear hK K) | refine u1 ?_ | refine uC (fun hb => ?_) fun hb => ?_ | refine u2 (fun hc => ?_) fun hc => ?_ | refine wI ?_ | refine ex_idx (by omega) ?_ | exact True.intro | fail)
  (first | refine wA rfl ?_ ?_ ?_ | refine dA rfl ?_ ?_ ?_); exact (.bool O); exact (⟨e, f, P, by simp [view, viewL, viewL_map, view_I, Function.comp_def], he, hf, by omega, hPr, by rw [hO]⟩); simp (maxSteps := 2000000) only [go_sem]
  cases O with
  | true =>
    repeat' (first | exact hb.elim | refine wS fun K hK => ?_ | refine wB ?_ | refine uX hΓ ?_ | refine uV hΓ fun B hB => ?_ | ((repeat ((fail_if_success (refine hK _ ?_)); clear hK K)); refine hK _ ?_; clear hK K) | refine u1 ?_ | refine uC (fun hb => ?_) fun hb => ?_ | refine u2 (fun hc => ?_) fun hc => ?_ | refine wI ?_ | refine ex_idx (by omega) ?_ | exact True.intro | fail)
    rw [hE]
    simp [Tryz.results23, RetOK, RetP, backA, upd_at, plainB, getP, isOwn, anyOwn, isP]
  | false =>
    repeat' (first | exact hb.elim | refine wS fun K hK => ?_ | refine wB ?_ | refine uX hΓ ?_ | refine uV hΓ fun B hB => ?_ | ((repeat ((fail_if_success (refine hK _ ?_)); clear hK K)); refine hK _ ?_; clear hK K) | refine u1 ?_ | refine uC (fun hb => ?_) fun hb => ?_ | refine u2 (fun hc => ?_) fun hc => ?_ | refine wI ?_ | refine ex_idx (by omega) ?_ | exact True.intro | fail)
    (first | refine wA rfl ?_ ?_ ?_ | refine dA rfl ?_ ?_ ?_); exact (.tup [oints t, .bool D]); exact (⟨e, f, rfl, he, hf, by rw [ht, hD]⟩); simp (maxSteps := 2000000) only [go_sem]
    cases D with
    | true =>
      repeat' (first | exact hb.elim | refine wS fun K hK => ?_ | refine wB ?_ | refine uX hΓ ?_ | refine uV hΓ fun B hB => ?_ | ((repeat ((fail_if_success (refine hK _ ?_)); clear hK K)); refine hK _ ?_; clear hK K) | refine u1 ?_ | refine uC (fun hb => ?_) fun hb => ?_ | refine u2 (fun hc => ?_) fun hc => ?_ | refine wI ?_ | refine ex_idx (by omega) ?_ | exact True.intro | fail)
      rw [hE]
      simp [Tryz.results23, RetOK, RetP, backA, upd_at, plainB, getP, isOwn, anyOwn, isP]
    | false =>
      repeat' (first | exact hb.elim | refine wS fun K hK => ?_ | refine wB ?_ | refine uX hΓ ?_ | refine uV hΓ fun B hB => ?_ | ((repeat ((fail_if_success (refine hK _ ?_)); clear hK K)); refine hK _ ?_; clear hK K) | refine u1 ?_ | refine uC (fun hb => ?_) fun hb => ?_ | refine u2 (fun hc => ?_) fun hc => ?_ | refine wI ?_ | refine ex_idx (by omega) ?_ | exact True.intro | fail)
      rw [hE]
      simp [Tryz.results23, RetOK, RetP, backA, upd_at, plainB, getP, isOwn, anyOwn, isP]

end Go.Proofs.YtmhiipmajlmlgaaGreat
