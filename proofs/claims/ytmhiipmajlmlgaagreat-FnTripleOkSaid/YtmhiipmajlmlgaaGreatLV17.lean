/- The law FnTripleOk, walked by the engine. -/
import Derived.Test.YtmhiipmajlmlgaaGreatR22
import Derived.Test.YtmhiipmajlmlgaaGreatQ7
import Derived.Test.YtmhiipmajlmlgaaGreatGrpR
import Derived.Test.YtmhiipmajlmlgaaGreatTB
import Derived.Test.YtmhiipmajlmlgaaGreatR7a
import Derived.Test.YtmhiipmajlmlgaaGreatGrpV
import Derived.Test.YtmhiipmajlmlgaaGreatEngMin
namespace Go.Proofs.YtmhiipmajlmlgaaGreat
set_option linter.unusedSimpArgs false
set_option linter.unusedVariables false
set_option maxRecDepth 8000
set_option maxHeartbeats 2000000
open Go Go.RowKit AV

attribute [local go_sem] List.nil_prefix List.drop_zero List.drop_succ_cons List.take_zero List.take_succ_cons List.take_nil

theorem tripB_p {p q : Int} {e : List Int} (h : ¬ (0 ≤ p ∧ p ≤ 15)) : tripB p e q = false := by
  unfold tripB belowB
  rw [decide_eq_false h, Bool.false_and, Bool.and_false]
theorem tripB_w {p q : Int} {e : List Int} (h : weakI (autD e) q < 0) : tripB p e q = false := by
  unfold tripB
  rw [decide_eq_false (by omega), Bool.false_and]
theorem tripB_yes {p s : Nat} {q : Int} {e : List Int} (hp : p ≤ 15) (h : weakI (autD e) q = (s : Int)) (hs : s ≤ 15) : tripB (p : Int) e q = decide (p &&& s = p) := by
  unfold tripB belowB
  rw [h, decide_eq_true (show 0 ≤ (s : Int) by omega), decide_eq_true (show 0 ≤ (p : Int) ∧ (p : Int) ≤ 15 by omega), decide_eq_true (show 0 ≤ (s : Int) ∧ (s : Int) ≤ 15 by omega)]
  simp only [Bool.true_and, Int.toNat_natCast]

theorem fnTripleOk_ctr : CtrOK Tryz.prog 4 (pureC codeR1) := by
  refine ctr_pure' Tryz.func4 rfl rfl Tryz.ntmps4 ?_
  rintro _ _ ⟨bs, rfl, hl, hb256, rfl⟩
  refine ⟨by simp, fun κ hκ => ?_⟩
  have hbig := bigW_gt
  rw [argEnv_eq]
  simp only [envA]
  have hΓ := ctxOf_ok (P := Tryz.prog) (cx drawTripleOk_ctr <| cx implTripleOk_ctr <| cx specTripleOk_ctr <| cx specTestValid_ctr <| cx implWeakTest_ctr <| cx aliveL_ctr <| cx implKatThen_ctr <| cx implTestNot_ctr <| cx implEqual_ctr <| cx0)
  have hel := tripX_len wkI (bs.take 2000) 0
  obtain ⟨⟨p, e, q⟩, hD⟩ : ∃ o, tripX wkI (bs.take 2000) 0 = o := ⟨_, rfl⟩
  rw [hD] at hel
  dsimp only at hel
  have hTp := tripB_p (p := p) (q := q) (e := e)
  have hTw := tripB_w (p := p) (q := q) (e := e)
  have hWt := weakI_test (D := autD e) (q := q)
  have hWe := weakI_tree (e := e) (q := q)
  have hWl := weakI_lt (autD e) q
  obtain ⟨T, hT⟩ : ∃ T, tripB p e q = T := ⟨_, rfl⟩
  rw [hT] at hTp hTw
  obtain ⟨W, hW⟩ : ∃ W, weakI (autD e) q = W := ⟨_, rfl⟩
  rw [hW] at hTw hWt hWe hWl
  repeat' (first | exact hb.elim | refine wS fun K hK => ?_ | refine wB ?_ | refine uX hΓ ?_ | refine uV hΓ fun B hB => ?_ | ((repeat ((fail_if_success (refine hK _ ?_)); clear hK K)); refine hK _ ?_; clear hK K) | refine u1 ?_ | refine uC (fun hb => ?_) fun hb => ?_ | refine u2 (fun hc => ?_) fun hc => ?_ | refine wI ?_ | refine ex_idx (by omega) ?_ | exact True.intro | fail)
  · simp [Tryz.results4, RetOK, RetP, backA, upd_at, plainB, getP, isOwn, anyOwn, isP]
  (first | refine wA rfl ?_ ?_ ?_ | refine dA rfl ?_ ?_ ?_); exact (.tup [I p, ints e, I q]); exact (⟨bs, rfl, by omega, hb256, by rw [hD]⟩); simp (maxSteps := 2000000) only [go_sem]
  repeat' (first | exact hb.elim | refine wS fun K hK => ?_ | refine wB ?_ | refine uX hΓ ?_ | refine uV hΓ fun B hB => ?_ | ((repeat ((fail_if_success (refine hK _ ?_)); clear hK K)); refine hK _ ?_; clear hK K) | refine u1 ?_ | refine uC (fun hb => ?_) fun hb => ?_ | refine u2 (fun hc => ?_) fun hc => ?_ | refine wI ?_ | refine ex_idx (by omega) ?_ | exact True.intro | fail)
  (first | refine wA rfl ?_ ?_ ?_ | refine dA rfl ?_ ?_ ?_); exact (.bool T); exact (⟨p, e, q, rfl, by omega, by rw [hT]⟩); simp (maxSteps := 2000000) only [go_sem]
  repeat' (first | exact hb.elim | refine wS fun K hK => ?_ | refine wB ?_ | refine uX hΓ ?_ | refine uV hΓ fun B hB => ?_ | ((repeat ((fail_if_success (refine hK _ ?_)); clear hK K)); refine hK _ ?_; clear hK K) | refine u1 ?_ | refine uC (fun hb => ?_) fun hb => ?_ | refine u2 (fun hc => ?_) fun hc => ?_ | refine wI ?_ | refine ex_idx (by omega) ?_ | exact True.intro | fail)
  (first | refine wA rfl ?_ ?_ ?_ | refine dA rfl ?_ ?_ ?_); exact (.bool T); exact (⟨p, e, q, rfl, by omega, by rw [hT]⟩); simp (maxSteps := 2000000) only [go_sem]
  simp (maxSteps := 2000000) only [go_sem, beq_self_eq_true]
  repeat' (first | refine wS fun K hK => ?_ | refine wB ?_ | ((first | refine wX hΓ ?_ | refine wV hΓ fun B hB => ?_); simp (maxSteps := 2000000) only [go_sem, beq_self_eq_true]) | ((repeat ((fail_if_success (refine hK _ ?_)); clear hK K)); refine hK _ ?_; clear hK K) | (refine w1 ?_; simp only [xs, xi, Nat.reduceEqDiff, reduceCtorEq]) | (refine wC (fun hb => ?_) fun hb => ?_ <;> (try simp only [xb, reduceCtorEq] at hb)) | (refine w2 (fun hc => ?_) (fun hc => ?_) <;> (try simp only [xc] at hc) <;> (try simp only [go_sem, hc, beq_self_eq_true]) <;> (try simp only [xb] at hc)) | refine wI ?_ | refine ex_idx (by omega) ?_ | fail)
  by_cases hP : 0 ≤ p ∧ p ≤ 15
  rotate_left
  · have hT0 := hTp hP
    subst hT0
    (first | refine wA rfl ?_ ?_ ?_ | refine dA rfl ?_ ?_ ?_); exact (.bool false); exact (⟨p, rfl, by rw [decide_eq_false hP]⟩); simp (maxSteps := 2000000) only [go_sem]
    repeat' (first | exact hb.elim | refine wS fun K hK => ?_ | refine wB ?_ | refine uX hΓ ?_ | refine uV hΓ fun B hB => ?_ | ((repeat ((fail_if_success (refine hK _ ?_)); clear hK K)); refine hK _ ?_; clear hK K) | refine u1 ?_ | refine uC (fun hb => ?_) fun hb => ?_ | refine u2 (fun hc => ?_) fun hc => ?_ | refine wI ?_ | refine ex_idx (by omega) ?_ | exact True.intro | fail)
    (first | refine wA rfl _ (⟨rfl, rfl⟩) ?_ | refine dA rfl _ (⟨rfl, rfl⟩) ?_); simp (maxSteps := 2000000) only [go_sem]
    repeat' (first | exact hb.elim | refine wS fun K hK => ?_ | refine wB ?_ | refine uX hΓ ?_ | refine uV hΓ fun B hB => ?_ | ((repeat ((fail_if_success (refine hK _ ?_)); clear hK K)); refine hK _ ?_; clear hK K) | refine u1 ?_ | refine uC (fun hb => ?_) fun hb => ?_ | refine u2 (fun hc => ?_) fun hc => ?_ | refine wI ?_ | refine ex_idx (by omega) ?_ | exact True.intro | fail)
    simp [Tryz.results4, RetOK, RetP, backA, upd_at, plainB, getP, isOwn, anyOwn, isP]
  (first | refine wA rfl ?_ ?_ ?_ | refine dA rfl ?_ ?_ ?_); exact (.bool true); exact (⟨p, rfl, by rw [decide_eq_true hP]⟩); simp (maxSteps := 2000000) only [go_sem]
  repeat' (first | exact hb.elim | refine wS fun K hK => ?_ | refine wB ?_ | refine uX hΓ ?_ | refine uV hΓ fun B hB => ?_ | ((repeat ((fail_if_success (refine hK _ ?_)); clear hK K)); refine hK _ ?_; clear hK K) | refine u1 ?_ | refine uC (fun hb => ?_) fun hb => ?_ | refine u2 (fun hc => ?_) fun hc => ?_ | refine wI ?_ | refine ex_idx (by omega) ?_ | exact True.intro | fail)
  by_cases hQ : 0 ≤ q ∧ q ≤ 15
  rotate_left
  · have hT0 := hTw (by omega)
    subst hT0
    (first | refine wA rfl ?_ ?_ ?_ | refine dA rfl ?_ ?_ ?_); exact (.bool false); exact (⟨q, rfl, by rw [decide_eq_false hQ]⟩); simp (maxSteps := 2000000) only [go_sem]
    repeat' (first | exact hb.elim | refine wS fun K hK => ?_ | refine wB ?_ | refine uX hΓ ?_ | refine uV hΓ fun B hB => ?_ | ((repeat ((fail_if_success (refine hK _ ?_)); clear hK K)); refine hK _ ?_; clear hK K) | refine u1 ?_ | refine uC (fun hb => ?_) fun hb => ?_ | refine u2 (fun hc => ?_) fun hc => ?_ | refine wI ?_ | refine ex_idx (by omega) ?_ | exact True.intro | fail)
    (first | refine wA rfl _ (⟨rfl, rfl⟩) ?_ | refine dA rfl _ (⟨rfl, rfl⟩) ?_); simp (maxSteps := 2000000) only [go_sem]
    repeat' (first | exact hb.elim | refine wS fun K hK => ?_ | refine wB ?_ | refine uX hΓ ?_ | refine uV hΓ fun B hB => ?_ | ((repeat ((fail_if_success (refine hK _ ?_)); clear hK K)); refine hK _ ?_; clear hK K) | refine u1 ?_ | refine uC (fun hb => ?_) fun hb => ?_ | refine u2 (fun hc => ?_) fun hc => ?_ | refine wI ?_ | refine ex_idx (by omega) ?_ | exact True.intro | fail)
    simp [Tryz.results4, RetOK, RetP, backA, upd_at, plainB, getP, isOwn, anyOwn, isP]
  (first | refine wA rfl ?_ ?_ ?_ | refine dA rfl ?_ ?_ ?_); exact (.bool true); exact (⟨q, rfl, by rw [decide_eq_true hQ]⟩); simp (maxSteps := 2000000) only [go_sem]
  repeat' (first | exact hb.elim | refine wS fun K hK => ?_ | refine wB ?_ | refine uX hΓ ?_ | refine uV hΓ fun B hB => ?_ | ((repeat ((fail_if_success (refine hK _ ?_)); clear hK K)); refine hK _ ?_; clear hK K) | refine u1 ?_ | refine uC (fun hb => ?_) fun hb => ?_ | refine u2 (fun hc => ?_) fun hc => ?_ | refine wI ?_ | refine ex_idx (by omega) ?_ | exact True.intro | fail)
  (first | refine wA rfl ?_ ?_ ?_ | refine dA rfl ?_ ?_ ?_); exact (I W); exact (⟨e, q, rfl, by omega, by rw [hW]⟩); simp (maxSteps := 2000000) only [go_sem]
  by_cases hneg : W < 0
  · have hT0 := hTw hneg
    subst hT0
    repeat' (first | exact hb.elim | refine wS fun K hK => ?_ | refine wB ?_ | refine uX hΓ ?_ | refine uV hΓ fun B hB => ?_ | ((repeat ((fail_if_success (refine hK _ ?_)); clear hK K)); refine hK _ ?_; clear hK K) | refine u1 ?_ | refine uC (fun hb => ?_) fun hb => ?_ | refine u2 (fun hc => ?_) fun hc => ?_ | refine wI ?_ | refine ex_idx (by omega) ?_ | exact True.intro | fail)
    all_goals try (exfalso; omega)
    (first | refine wA rfl _ (⟨rfl, rfl⟩) ?_ | refine dA rfl _ (⟨rfl, rfl⟩) ?_); simp (maxSteps := 2000000) only [go_sem]
    repeat' (first | exact hb.elim | refine wS fun K hK => ?_ | refine wB ?_ | refine uX hΓ ?_ | refine uV hΓ fun B hB => ?_ | ((repeat ((fail_if_success (refine hK _ ?_)); clear hK K)); refine hK _ ?_; clear hK K) | refine u1 ?_ | refine uC (fun hb => ?_) fun hb => ?_ | refine u2 (fun hc => ?_) fun hc => ?_ | refine wI ?_ | refine ex_idx (by omega) ?_ | exact True.intro | fail)
    simp [Tryz.results4, RetOK, RetP, backA, upd_at, plainB, getP, isOwn, anyOwn, isP]
  obtain ⟨x, hw, hxe⟩ := hWe (by omega)
  obtain ⟨u, rfl⟩ : ∃ t : Nat, p = (t : Int) := ⟨p.toNat, by omega⟩
  obtain ⟨t, rfl⟩ : ∃ t : Nat, q = (t : Int) := ⟨q.toNat, by omega⟩
  obtain ⟨w, rfl⟩ : ∃ t : Nat, W = (t : Int) := ⟨W.toNat, by omega⟩
  have hTy := tripB_yes (p := u) (by omega) hW (by omega)
  rw [hT] at hTy
  have hl1 := trip1_len u e
  have hl2 := trip2_len u e (15 - (t : Int))
  have hF1 : trip1 u e = if thB [(u : Int)] e then [(u : Int)] ++ (e ++ [19]) else [] := rfl
  have hF2 : trip2 u e (15 - (t : Int)) = if thB (trip1 u e) [15 - (t : Int)] then trip1 u e ++ ([15 - (t : Int)] ++ [19]) else [] := rfl
  have hst : thB (trip1 u e) [15 - (t : Int)] = true → (T = true → equalI (autD (trip2 u e (15 - (t : Int)))) (autD [0]) ≠ 0) ∧ (T = false → equalI (autD (trip2 u e (15 - (t : Int)))) (autD [0]) ≠ 1) := fun h => by
    rw [← hxe] at h hW ⊢
    obtain ⟨h1, h2⟩ := trip2_steps hw (by omega) (by omega) h
    have h3 := trip_equal hw (p := u) (by omega) (by omega) hW h2
    rw [h1, hTy]
    exact ⟨fun g => h3.1 (of_decide_eq_true g), fun g => h3.2 (of_decide_eq_false g)⟩
  obtain ⟨B1, hB1⟩ : ∃ B, thB [(u : Int)] e = B := ⟨_, rfl⟩
  obtain ⟨F1, hE1⟩ : ∃ F, trip1 u e = F := ⟨_, rfl⟩
  obtain ⟨F2, hE2⟩ : ∃ F, trip2 u e (15 - (t : Int)) = F := ⟨_, rfl⟩
  obtain ⟨B2, hB2⟩ : ∃ B, thB F1 [15 - (t : Int)] = B := ⟨_, rfl⟩
  rw [hE1, hB1] at hF1
  rw [hE2, hE1, hB2] at hF2
  rw [hE1, hE2, hB2] at hst
  rw [hE1] at hl1
  rw [hE2] at hl2
  obtain ⟨n, hn⟩ : ∃ n, equalI (autD F2) (autD [0]) = n := ⟨_, rfl⟩
  rw [hn] at hst
  have hnt : (if 0 ≤ (t : Int) ∧ (t : Int) ≤ 15 then 15 - (t : Int) else -1) = 15 - (t : Int) := if_pos hQ
  repeat' (first | exact hb.elim | refine wS fun K hK => ?_ | refine wB ?_ | refine uX hΓ ?_ | refine uV hΓ fun B hB => ?_ | ((repeat ((fail_if_success (refine hK _ ?_)); clear hK K)); refine hK _ ?_; clear hK K) | refine u1 ?_ | refine uC (fun hb => ?_) fun hb => ?_ | refine u2 (fun hc => ?_) fun hc => ?_ | refine wI ?_ | refine ex_idx (by omega) ?_ | exact True.intro | fail)
  all_goals try (exfalso; omega)
  (first | refine wA rfl ?_ ?_ ?_ | refine dA rfl ?_ ?_ ?_); exact (.tup [oints F1, .bool B1]); exact (⟨[(u : Int)], e, by simp [view, viewL_map, view_I], by simp, by omega, by rw [hB1, hF1]⟩); simp (maxSteps := 2000000) only [go_sem]
  repeat' (first | exact hb.elim | refine wS fun K hK => ?_ | refine wB ?_ | refine uX hΓ ?_ | refine uV hΓ fun B hB => ?_ | ((repeat ((fail_if_success (refine hK _ ?_)); clear hK K)); refine hK _ ?_; clear hK K) | refine u1 ?_ | refine uC (fun hb => ?_) fun hb => ?_ | refine u2 (fun hc => ?_) fun hc => ?_ | refine wI ?_ | refine ex_idx (by omega) ?_ | exact True.intro | fail)
  (first | refine wA rfl ?_ ?_ ?_ | refine dA rfl ?_ ?_ ?_); exact (I (15 - (t : Int))); exact (⟨t, rfl, by rw [hnt]⟩); simp (maxSteps := 2000000) only [go_sem]
  repeat' (first | exact hb.elim | refine wS fun K hK => ?_ | refine wB ?_ | refine uX hΓ ?_ | refine uV hΓ fun B hB => ?_ | ((repeat ((fail_if_success (refine hK _ ?_)); clear hK K)); refine hK _ ?_; clear hK K) | refine u1 ?_ | refine uC (fun hb => ?_) fun hb => ?_ | refine u2 (fun hc => ?_) fun hc => ?_ | refine wI ?_ | refine ex_idx (by omega) ?_ | exact True.intro | fail)
  (first | refine wA rfl ?_ ?_ ?_ | refine dA rfl ?_ ?_ ?_); exact (.tup [oints F2, .bool B2]); exact (⟨F1, [15 - (t : Int)], by simp [view, viewL_map, view_I], by omega, by simp, by rw [hB2, hF2]⟩); simp (maxSteps := 2000000) only [go_sem]
  repeat' (first | exact hb.elim | refine wS fun K hK => ?_ | refine wB ?_ | refine uX hΓ ?_ | refine uV hΓ fun B hB => ?_ | ((repeat ((fail_if_success (refine hK _ ?_)); clear hK K)); refine hK _ ?_; clear hK K) | refine u1 ?_ | refine uC (fun hb => ?_) fun hb => ?_ | refine u2 (fun hc => ?_) fun hc => ?_ | refine wI ?_ | refine ex_idx (by omega) ?_ | exact True.intro | fail)
  (first | refine wA rfl ?_ ?_ ?_ | refine dA rfl ?_ ?_ ?_); exact (I n); exact (⟨F2, [0], by simp [view, viewL_map, view_I], by omega, by simp, by rw [hn]⟩); simp (maxSteps := 2000000) only [go_sem]
  cases B2 with
  | false =>
    repeat' (first | exact hb.elim | refine wS fun K hK => ?_ | refine wB ?_ | refine uX hΓ ?_ | refine uV hΓ fun B hB => ?_ | ((repeat ((fail_if_success (refine hK _ ?_)); clear hK K)); refine hK _ ?_; clear hK K) | refine u1 ?_ | refine uC (fun hb => ?_) fun hb => ?_ | refine u2 (fun hc => ?_) fun hc => ?_ | refine wI ?_ | refine ex_idx (by omega) ?_ | exact True.intro | fail)
    simp [Tryz.results4, RetOK, RetP, backA, upd_at, plainB, getP, isOwn, anyOwn, isP]
  | true =>
    have hst := hst rfl
    cases T with
    | true =>
      have hn0 := hst.1 rfl
      repeat' (first | exact hb.elim | refine wS fun K hK => ?_ | refine wB ?_ | refine uX hΓ ?_ | refine uV hΓ fun B hB => ?_ | ((repeat ((fail_if_success (refine hK _ ?_)); clear hK K)); refine hK _ ?_; clear hK K) | refine u1 ?_ | refine uC (fun hb => ?_) fun hb => ?_ | refine u2 (fun hc => ?_) fun hc => ?_ | refine wI ?_ | refine ex_idx (by omega) ?_ | exact True.intro | fail)
      all_goals try (exfalso; omega)
      all_goals (simp [Tryz.results4, RetOK, RetP, backA, upd_at, plainB, getP, isOwn, anyOwn, isP])
      all_goals exact .inl hn0
    | false =>
      have hn0 := hst.2 rfl
      repeat' (first | exact hb.elim | refine wS fun K hK => ?_ | refine wB ?_ | refine uX hΓ ?_ | refine uV hΓ fun B hB => ?_ | ((repeat ((fail_if_success (refine hK _ ?_)); clear hK K)); refine hK _ ?_; clear hK K) | refine u1 ?_ | refine uC (fun hb => ?_) fun hb => ?_ | refine u2 (fun hc => ?_) fun hc => ?_ | refine wI ?_ | refine ex_idx (by omega) ?_ | exact True.intro | fail)
      all_goals try (exfalso; omega)
      all_goals (simp [Tryz.results4, RetOK, RetP, backA, upd_at, plainB, getP, isOwn, anyOwn, isP])
      all_goals exact .inl hn0

end Go.Proofs.YtmhiipmajlmlgaaGreat
