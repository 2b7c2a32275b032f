/- The reference's KatThen, KatIf, KatWhile, TestNot, walked by the engine. -/
import Derived.Test.YtehdfifncbokeaaGreatGrpS
import Derived.Test.YtehdfifncbokeaaGreatGrpE
import Derived.Test.YtehdfifncbokeaaGreatGrpL
import Derived.Test.YtehdfifncbokeaaGreatEngMin
namespace Go.Proofs.YtehdfifncbokeaaGreat
set_option linter.unusedSimpArgs false
set_option linter.unusedVariables false
set_option maxRecDepth 8000
set_option maxHeartbeats 2000000
open Go Go.RowKit AV

def specTestNotR (args : List AV) (r : AV) : Prop := ∃ n : Int, args = [I n] ∧ r = I (if 0 ≤ n ∧ n ≤ 15 then 15 - n else -1)
theorem specTestNot_ctr : CtrOK Tryz.prog 82 (pureC specTestNotR) := by
  refine ctr_pure' Tryz.func82 rfl rfl Tryz.ntmps82 ?_
  rintro _ _ ⟨n, rfl, rfl⟩
  refine ⟨by simp, fun κ hκ => ?_⟩
  have hbig := bigW_gt
  rw [argEnv_eq]
  simp only [envA]
  have hΓ := ctxOf_ok (P := Tryz.prog) (cx specTestValid_ctr <| cx0)
  repeat' (first | exact hb.elim | refine wS fun K hK => ?_ | refine wB ?_ | refine uR hΓ ?_ | refine uD hΓ fun B hB => ?_ | ((repeat ((fail_if_success (refine hK _ ?_)); clear hK K)); refine hK _ ?_; clear hK K) | refine u1 ?_ | refine uC (fun hb => ?_) fun hb => ?_ | refine u2 (fun hc => ?_) fun hc => ?_ | refine wI ?_ | refine ex_idx (by omega) ?_ | exact True.intro | fail)
  (first | refine wA rfl _ (⟨n, rfl, rfl⟩) ?_ | refine dA rfl _ (⟨n, rfl, rfl⟩) ?_); simp (maxSteps := 2000000) only [go_sem]
  repeat' (first | exact hb.elim | refine wS fun K hK => ?_ | refine wB ?_ | refine uR hΓ ?_ | refine uD hΓ fun B hB => ?_ | ((repeat ((fail_if_success (refine hK _ ?_)); clear hK K)); refine hK _ ?_; clear hK K) | refine u1 ?_ | refine uC (fun hb => ?_) fun hb => ?_ | refine u2 (fun hc => ?_) fun hc => ?_ | refine wI ?_ | refine ex_idx (by omega) ?_ | exact True.intro | fail)
  · rw [if_neg ‹_›]
    simp [Tryz.results82, RetOK, RetP, backA, upd_at, plainB, getP, isOwn, anyOwn, isP]
  · rw [if_pos ‹_›]
    simp [Tryz.results82, RetOK, RetP, backA, upd_at, plainB, getP, isOwn, anyOwn, isP]

def thenR (args : List AV) (r : AV) : Prop := ∃ a b : List Int, args = [ints a, ints b] ∧ a.length ≤ 1048576 ∧ b.length ≤ 1048576 ∧ r = .tup [oints (if thB a b then a ++ (b ++ [19]) else []), .bool (thB a b)]
theorem specKatThen_ctr : CtrOK Tryz.prog 68 (pureC thenR) := by
  refine ctr_pure' Tryz.func68 rfl rfl Tryz.ntmps68 ?_
  rintro _ _ ⟨a, b, rfl, ha, hb0, rfl⟩
  refine ⟨by simp, fun κ hκ => ?_⟩
  have hbig := bigW_gt
  rw [argEnv_eq]
  simp only [envA]
  have hΓ := ctxOf_ok (P := Tryz.prog) (cx l2Join_ctr <| cx specKatValid_ctr <| cx0)
  have hT : thB a b = (katB a && katB b && katB (a ++ (b ++ [19]))) := rfl
  obtain ⟨T, hT0⟩ : ∃ T, thB a b = T := ⟨_, rfl⟩
  rw [hT0] at hT
  rw [hT0]
  repeat' (first | exact hb.elim | refine wS fun K hK => ?_ | refine wB ?_ | refine uR hΓ ?_ | refine uD hΓ fun B hB => ?_ | ((repeat ((fail_if_success (refine hK _ ?_)); clear hK K)); refine hK _ ?_; clear hK K) | refine u1 ?_ | refine uC (fun hb => ?_) fun hb => ?_ | refine u2 (fun hc => ?_) fun hc => ?_ | refine wI ?_ | refine ex_idx (by omega) ?_ | exact True.intro | fail)
  (first | refine wA rfl _ (⟨a, b, 19, rfl, by omega, by omega, rfl⟩) ?_ | refine dA rfl _ (⟨a, b, 19, rfl, by omega, by omega, rfl⟩) ?_); simp (maxSteps := 2000000) only [go_sem]
  repeat' (first | exact hb.elim | refine wS fun K hK => ?_ | refine wB ?_ | refine uR hΓ ?_ | refine uD hΓ fun B hB => ?_ | ((repeat ((fail_if_success (refine hK _ ?_)); clear hK K)); refine hK _ ?_; clear hK K) | refine u1 ?_ | refine uC (fun hb => ?_) fun hb => ?_ | refine u2 (fun hc => ?_) fun hc => ?_ | refine wI ?_ | refine ex_idx (by omega) ?_ | exact True.intro | fail)
  (first | refine wA rfl _ (⟨a, rfl, by omega, rfl⟩) ?_ | refine dA rfl _ (⟨a, rfl, by omega, rfl⟩) ?_); simp (maxSteps := 2000000) only [go_sem]
  repeat' (first | exact hb.elim | refine wS fun K hK => ?_ | refine wB ?_ | refine uR hΓ ?_ | refine uD hΓ fun B hB => ?_ | ((repeat ((fail_if_success (refine hK _ ?_)); clear hK K)); refine hK _ ?_; clear hK K) | refine u1 ?_ | refine uC (fun hb => ?_) fun hb => ?_ | refine u2 (fun hc => ?_) fun hc => ?_ | refine wI ?_ | refine ex_idx (by omega) ?_ | exact True.intro | fail)
  · (first | refine wA rfl _ (⟨b, rfl, by omega, rfl⟩) ?_ | refine dA rfl _ (⟨b, rfl, by omega, rfl⟩) ?_); simp (maxSteps := 2000000) only [go_sem]
    repeat' (first | exact hb.elim | refine wS fun K hK => ?_ | refine wB ?_ | refine uR hΓ ?_ | refine uD hΓ fun B hB => ?_ | ((repeat ((fail_if_success (refine hK _ ?_)); clear hK K)); refine hK _ ?_; clear hK K) | refine u1 ?_ | refine uC (fun hb => ?_) fun hb => ?_ | refine u2 (fun hc => ?_) fun hc => ?_ | refine wI ?_ | refine ex_idx (by omega) ?_ | exact True.intro | fail)
    · (first | refine wA rfl _ (⟨a ++ (b ++ [19]), by simp [view_I, view], by simp; omega, rfl⟩) ?_ | refine dA rfl _ (⟨a ++ (b ++ [19]), by simp [view_I, view], by simp; omega, rfl⟩) ?_); simp (maxSteps := 2000000) only [go_sem]
      repeat' (first | exact hb.elim | refine wS fun K hK => ?_ | refine wB ?_ | refine uR hΓ ?_ | refine uD hΓ fun B hB => ?_ | ((repeat ((fail_if_success (refine hK _ ?_)); clear hK K)); refine hK _ ?_; clear hK K) | refine u1 ?_ | refine uC (fun hb => ?_) fun hb => ?_ | refine u2 (fun hc => ?_) fun hc => ?_ | refine wI ?_ | refine ex_idx (by omega) ?_ | exact True.intro | fail)
      · have h9 : T = false := by simp_all
        subst h9
        rw [if_neg (by decide)]
        (rw [Tryz.results68]; refine ⟨_, _, rfl, by decide, rfl, rfl, ?_, ?_⟩ <;> simp [upd_at])
      · have h9 : T = true := by simp_all
        subst h9
        rw [if_pos rfl]
        (rw [Tryz.results68]; refine ⟨_, _, rfl, by decide, rfl, rfl, ?_, ?_⟩ <;> simp [upd_at])
    · have h9 : T = false := by simp_all
      subst h9
      rw [if_neg (by decide)]
      (rw [Tryz.results68]; refine ⟨_, _, rfl, by decide, rfl, rfl, ?_, ?_⟩ <;> simp [upd_at])
  · have h9 : T = false := by simp_all
    subst h9
    rw [if_neg (by decide)]
    (rw [Tryz.results68]; refine ⟨_, _, rfl, by decide, rfl, rfl, ?_, ?_⟩ <;> simp [upd_at])

def ifR (args : List AV) (r : AV) : Prop := ∃ (t : Int) (a b : List Int), args = [I t, ints a, ints b] ∧ a.length ≤ 1048576 ∧ b.length ≤ 1048576 ∧ r = .tup [oints (if ifB t a b then ifL t a b else []), .bool (ifB t a b)]
theorem specKatIf_ctr : CtrOK Tryz.prog 65 (pureC ifR) := by
  refine ctr_pure' Tryz.func65 rfl rfl Tryz.ntmps65 ?_
  rintro _ _ ⟨t, a, b, rfl, ha, hb0, rfl⟩
  refine ⟨by simp, fun κ hκ => ?_⟩
  have hbig := bigW_gt
  rw [argEnv_eq]
  simp only [envA]
  have hΓ := ctxOf_ok (P := Tryz.prog) (cx l2Join_ctr <| cx specKatValid_ctr <| cx specTestValid_ctr <| cx specTestNot_ctr <| cx0)
  have hT : ifB t a b = (decide (0 ≤ t ∧ t ≤ 15) && katB a && katB b && katB (ifL t a b)) := rfl
  obtain ⟨T, hT0⟩ : ∃ T, ifB t a b = T := ⟨_, rfl⟩
  rw [hT0] at hT
  rw [hT0]
  have hL : ifL t a b = ([t] ++ (a ++ [19])) ++ (([15 - t] ++ (b ++ [19])) ++ [20]) := rfl
  obtain ⟨L, hLL⟩ : ∃ L, ifL t a b = L := ⟨_, rfl⟩
  have hlen : L.length ≤ 2097200 := by rw [← hLL, hL]; simp; omega
  rw [hLL] at hT ⊢
  repeat' (first | exact hb.elim | refine wS fun K hK => ?_ | refine wB ?_ | refine uR hΓ ?_ | refine uD hΓ fun B hB => ?_ | ((repeat ((fail_if_success (refine hK _ ?_)); clear hK K)); refine hK _ ?_; clear hK K) | refine u1 ?_ | refine uC (fun hb => ?_) fun hb => ?_ | refine u2 (fun hc => ?_) fun hc => ?_ | refine wI ?_ | refine ex_idx (by omega) ?_ | exact True.intro | fail)
  (first | refine wA rfl _ (⟨t, rfl, rfl⟩) ?_ | refine dA rfl _ (⟨t, rfl, rfl⟩) ?_); simp (maxSteps := 2000000) only [go_sem]
  repeat' (first | exact hb.elim | refine wS fun K hK => ?_ | refine wB ?_ | refine uR hΓ ?_ | refine uD hΓ fun B hB => ?_ | ((repeat ((fail_if_success (refine hK _ ?_)); clear hK K)); refine hK _ ?_; clear hK K) | refine u1 ?_ | refine uC (fun hb => ?_) fun hb => ?_ | refine u2 (fun hc => ?_) fun hc => ?_ | refine wI ?_ | refine ex_idx (by omega) ?_ | exact True.intro | fail)
  · (first | refine wA rfl _ (⟨a, rfl, by omega, rfl⟩) ?_ | refine dA rfl _ (⟨a, rfl, by omega, rfl⟩) ?_); simp (maxSteps := 2000000) only [go_sem]
    repeat' (first | exact hb.elim | refine wS fun K hK => ?_ | refine wB ?_ | refine uR hΓ ?_ | refine uD hΓ fun B hB => ?_ | ((repeat ((fail_if_success (refine hK _ ?_)); clear hK K)); refine hK _ ?_; clear hK K) | refine u1 ?_ | refine uC (fun hb => ?_) fun hb => ?_ | refine u2 (fun hc => ?_) fun hc => ?_ | refine wI ?_ | refine ex_idx (by omega) ?_ | exact True.intro | fail)
    · (first | refine wA rfl _ (⟨b, rfl, by omega, rfl⟩) ?_ | refine dA rfl _ (⟨b, rfl, by omega, rfl⟩) ?_); simp (maxSteps := 2000000) only [go_sem]
      repeat' (first | exact hb.elim | refine wS fun K hK => ?_ | refine wB ?_ | refine uR hΓ ?_ | refine uD hΓ fun B hB => ?_ | ((repeat ((fail_if_success (refine hK _ ?_)); clear hK K)); refine hK _ ?_; clear hK K) | refine u1 ?_ | refine uC (fun hb => ?_) fun hb => ?_ | refine u2 (fun hc => ?_) fun hc => ?_ | refine wI ?_ | refine ex_idx (by omega) ?_ | exact True.intro | fail)
      · have h9 : T = false := by simp_all
        subst h9
        rw [if_neg (by decide)]
        (rw [Tryz.results65]; refine ⟨_, _, rfl, by decide, rfl, rfl, ?_, ?_⟩ <;> simp [upd_at])
      · (first | refine wA rfl _ (⟨[t], a, 19, rfl, by simp, by omega, rfl⟩) ?_ | refine dA rfl _ (⟨[t], a, 19, rfl, by simp, by omega, rfl⟩) ?_); simp (maxSteps := 2000000) only [go_sem]
        repeat' (first | exact hb.elim | refine wS fun K hK => ?_ | refine wB ?_ | refine uR hΓ ?_ | refine uD hΓ fun B hB => ?_ | ((repeat ((fail_if_success (refine hK _ ?_)); clear hK K)); refine hK _ ?_; clear hK K) | refine u1 ?_ | refine uC (fun hb => ?_) fun hb => ?_ | refine u2 (fun hc => ?_) fun hc => ?_ | refine wI ?_ | refine ex_idx (by omega) ?_ | exact True.intro | fail)
        (first | refine wA rfl _ (⟨t, rfl, rfl⟩) ?_ | refine dA rfl _ (⟨t, rfl, rfl⟩) ?_); simp (maxSteps := 2000000) only [go_sem]
        rw [if_pos ‹_›]
        repeat' (first | exact hb.elim | refine wS fun K hK => ?_ | refine wB ?_ | refine uR hΓ ?_ | refine uD hΓ fun B hB => ?_ | ((repeat ((fail_if_success (refine hK _ ?_)); clear hK K)); refine hK _ ?_; clear hK K) | refine u1 ?_ | refine uC (fun hb => ?_) fun hb => ?_ | refine u2 (fun hc => ?_) fun hc => ?_ | refine wI ?_ | refine ex_idx (by omega) ?_ | exact True.intro | fail)
        (first | refine wA rfl _ (⟨[15 - t], b, 19, rfl, by simp, by omega, rfl⟩) ?_ | refine dA rfl _ (⟨[15 - t], b, 19, rfl, by simp, by omega, rfl⟩) ?_); simp (maxSteps := 2000000) only [go_sem]
        repeat' (first | exact hb.elim | refine wS fun K hK => ?_ | refine wB ?_ | refine uR hΓ ?_ | refine uD hΓ fun B hB => ?_ | ((repeat ((fail_if_success (refine hK _ ?_)); clear hK K)); refine hK _ ?_; clear hK K) | refine u1 ?_ | refine uC (fun hb => ?_) fun hb => ?_ | refine u2 (fun hc => ?_) fun hc => ?_ | refine wI ?_ | refine ex_idx (by omega) ?_ | exact True.intro | fail)
        (first | refine wA rfl ?_ ?_ ?_ | refine dA rfl ?_ ?_ ?_); exact (oints L); exact (⟨[t] ++ (a ++ [19]), [15 - t] ++ (b ++ [19]), 20, by simp [view_I, view], by simp; omega, by simp; omega, by rw [← hLL]; rfl⟩); simp (maxSteps := 2000000) only [go_sem]
        repeat' (first | exact hb.elim | refine wS fun K hK => ?_ | refine wB ?_ | refine uR hΓ ?_ | refine uD hΓ fun B hB => ?_ | ((repeat ((fail_if_success (refine hK _ ?_)); clear hK K)); refine hK _ ?_; clear hK K) | refine u1 ?_ | refine uC (fun hb => ?_) fun hb => ?_ | refine u2 (fun hc => ?_) fun hc => ?_ | refine wI ?_ | refine ex_idx (by omega) ?_ | exact True.intro | fail)
        (first | refine wA rfl _ (⟨L, by simp [view_I, view], by omega, rfl⟩) ?_ | refine dA rfl _ (⟨L, by simp [view_I, view], by omega, rfl⟩) ?_); simp (maxSteps := 2000000) only [go_sem]
        repeat' (first | exact hb.elim | refine wS fun K hK => ?_ | refine wB ?_ | refine uR hΓ ?_ | refine uD hΓ fun B hB => ?_ | ((repeat ((fail_if_success (refine hK _ ?_)); clear hK K)); refine hK _ ?_; clear hK K) | refine u1 ?_ | refine uC (fun hb => ?_) fun hb => ?_ | refine u2 (fun hc => ?_) fun hc => ?_ | refine wI ?_ | refine ex_idx (by omega) ?_ | exact True.intro | fail)
        · have h9 : T = false := by simp_all
          subst h9
          rw [if_neg (by decide)]
          (rw [Tryz.results65]; refine ⟨_, _, rfl, by decide, rfl, rfl, ?_, ?_⟩ <;> simp [upd_at])
        · have h9 : T = true := by simp_all
          subst h9
          rw [if_pos rfl]
          (rw [Tryz.results65]; refine ⟨_, _, rfl, by decide, rfl, rfl, ?_, ?_⟩ <;> simp [upd_at])
    · have h9 : T = false := by simp_all
      subst h9
      rw [if_neg (by decide)]
      (rw [Tryz.results65]; refine ⟨_, _, rfl, by decide, rfl, rfl, ?_, ?_⟩ <;> simp [upd_at])
  · have h9 : T = false := by simp_all
    subst h9
    rw [if_neg (by decide)]
    (rw [Tryz.results65]; refine ⟨_, _, rfl, by decide, rfl, rfl, ?_, ?_⟩ <;> simp [upd_at])

def whileKR (args : List AV) (r : AV) : Prop := ∃ (t : Int) (a : List Int), args = [I t, ints a] ∧ a.length ≤ 1048576 ∧ r = .tup [oints (if whB t a then whL t a else []), .bool (whB t a)]
theorem specKatWhile_ctr : CtrOK Tryz.prog 67 (pureC whileKR) := by
  refine ctr_pure' Tryz.func67 rfl rfl Tryz.ntmps67 ?_
  rintro _ _ ⟨t, a, rfl, ha, rfl⟩
  refine ⟨by simp, fun κ hκ => ?_⟩
  have hbig := bigW_gt
  rw [argEnv_eq]
  simp only [envA]
  have hΓ := ctxOf_ok (P := Tryz.prog) (cx l2Join_ctr <| cx specKatValid_ctr <| cx specTestValid_ctr <| cx specTestNot_ctr <| cx0)
  have hT : whB t a = (decide (0 ≤ t ∧ t ≤ 15) && katB a && katB (whL t a)) := rfl
  obtain ⟨T, hT0⟩ : ∃ T, whB t a = T := ⟨_, rfl⟩
  rw [hT0] at hT
  rw [hT0]
  have hL : whL t a = (([t] ++ (a ++ [19])) ++ [21]) ++ ([15 - t] ++ [19]) := rfl
  obtain ⟨L, hLL⟩ : ∃ L, whL t a = L := ⟨_, rfl⟩
  have hlen : L.length ≤ 2097200 := by rw [← hLL, hL]; simp; omega
  rw [hLL] at hT ⊢
  repeat' (first | exact hb.elim | refine wS fun K hK => ?_ | refine wB ?_ | refine uR hΓ ?_ | refine uD hΓ fun B hB => ?_ | ((repeat ((fail_if_success (refine hK _ ?_)); clear hK K)); refine hK _ ?_; clear hK K) | refine u1 ?_ | refine uC (fun hb => ?_) fun hb => ?_ | refine u2 (fun hc => ?_) fun hc => ?_ | refine wI ?_ | refine ex_idx (by omega) ?_ | exact True.intro | fail)
  (first | refine wA rfl _ (⟨t, rfl, rfl⟩) ?_ | refine dA rfl _ (⟨t, rfl, rfl⟩) ?_); simp (maxSteps := 2000000) only [go_sem]
  repeat' (first | exact hb.elim | refine wS fun K hK => ?_ | refine wB ?_ | refine uR hΓ ?_ | refine uD hΓ fun B hB => ?_ | ((repeat ((fail_if_success (refine hK _ ?_)); clear hK K)); refine hK _ ?_; clear hK K) | refine u1 ?_ | refine uC (fun hb => ?_) fun hb => ?_ | refine u2 (fun hc => ?_) fun hc => ?_ | refine wI ?_ | refine ex_idx (by omega) ?_ | exact True.intro | fail)
  · (first | refine wA rfl _ (⟨a, rfl, by omega, rfl⟩) ?_ | refine dA rfl _ (⟨a, rfl, by omega, rfl⟩) ?_); simp (maxSteps := 2000000) only [go_sem]
    repeat' (first | exact hb.elim | refine wS fun K hK => ?_ | refine wB ?_ | refine uR hΓ ?_ | refine uD hΓ fun B hB => ?_ | ((repeat ((fail_if_success (refine hK _ ?_)); clear hK K)); refine hK _ ?_; clear hK K) | refine u1 ?_ | refine uC (fun hb => ?_) fun hb => ?_ | refine u2 (fun hc => ?_) fun hc => ?_ | refine wI ?_ | refine ex_idx (by omega) ?_ | exact True.intro | fail)
    · have h9 : T = false := by simp_all
      subst h9
      rw [if_neg (by decide)]
      (rw [Tryz.results67]; refine ⟨_, _, rfl, by decide, rfl, rfl, ?_, ?_⟩ <;> simp [upd_at])
    · (first | refine wA rfl _ (⟨[t], a, 19, rfl, by simp, by omega, rfl⟩) ?_ | refine dA rfl _ (⟨[t], a, 19, rfl, by simp, by omega, rfl⟩) ?_); simp (maxSteps := 2000000) only [go_sem]
      repeat' (first | exact hb.elim | refine wS fun K hK => ?_ | refine wB ?_ | refine uR hΓ ?_ | refine uD hΓ fun B hB => ?_ | ((repeat ((fail_if_success (refine hK _ ?_)); clear hK K)); refine hK _ ?_; clear hK K) | refine u1 ?_ | refine uC (fun hb => ?_) fun hb => ?_ | refine u2 (fun hc => ?_) fun hc => ?_ | refine wI ?_ | refine ex_idx (by omega) ?_ | exact True.intro | fail)
      (first | refine wA rfl _ (⟨t, rfl, rfl⟩) ?_ | refine dA rfl _ (⟨t, rfl, rfl⟩) ?_); simp (maxSteps := 2000000) only [go_sem]
      rw [if_pos ‹_›]
      repeat' (first | exact hb.elim | refine wS fun K hK => ?_ | refine wB ?_ | refine uR hΓ ?_ | refine uD hΓ fun B hB => ?_ | ((repeat ((fail_if_success (refine hK _ ?_)); clear hK K)); refine hK _ ?_; clear hK K) | refine u1 ?_ | refine uC (fun hb => ?_) fun hb => ?_ | refine u2 (fun hc => ?_) fun hc => ?_ | refine wI ?_ | refine ex_idx (by omega) ?_ | exact True.intro | fail)
      (first | refine wA rfl ?_ ?_ ?_ | refine dA rfl ?_ ?_ ?_); exact (oints L); exact (⟨[t] ++ (a ++ [19]) ++ [21], [15 - t], 19, by simp [view_I, view], by simp; omega, by simp, by rw [← hLL]; rfl⟩); simp (maxSteps := 2000000) only [go_sem]
      repeat' (first | exact hb.elim | refine wS fun K hK => ?_ | refine wB ?_ | refine uR hΓ ?_ | refine uD hΓ fun B hB => ?_ | ((repeat ((fail_if_success (refine hK _ ?_)); clear hK K)); refine hK _ ?_; clear hK K) | refine u1 ?_ | refine uC (fun hb => ?_) fun hb => ?_ | refine u2 (fun hc => ?_) fun hc => ?_ | refine wI ?_ | refine ex_idx (by omega) ?_ | exact True.intro | fail)
      (first | refine wA rfl _ (⟨L, by simp [view_I, view], by omega, rfl⟩) ?_ | refine dA rfl _ (⟨L, by simp [view_I, view], by omega, rfl⟩) ?_); simp (maxSteps := 2000000) only [go_sem]
      repeat' (first | exact hb.elim | refine wS fun K hK => ?_ | refine wB ?_ | refine uR hΓ ?_ | refine uD hΓ fun B hB => ?_ | ((repeat ((fail_if_success (refine hK _ ?_)); clear hK K)); refine hK _ ?_; clear hK K) | refine u1 ?_ | refine uC (fun hb => ?_) fun hb => ?_ | refine u2 (fun hc => ?_) fun hc => ?_ | refine wI ?_ | refine ex_idx (by omega) ?_ | exact True.intro | fail)
      · have h9 : T = false := by simp_all
        subst h9
        rw [if_neg (by decide)]
        (rw [Tryz.results67]; refine ⟨_, _, rfl, by decide, rfl, rfl, ?_, ?_⟩ <;> simp [upd_at])
      · have h9 : T = true := by simp_all
        subst h9
        rw [if_pos rfl]
        (rw [Tryz.results67]; refine ⟨_, _, rfl, by decide, rfl, rfl, ?_, ?_⟩ <;> simp [upd_at])
  · have h9 : T = false := by simp_all
    subst h9
    rw [if_neg (by decide)]
    (rw [Tryz.results67]; refine ⟨_, _, rfl, by decide, rfl, rfl, ?_, ?_⟩ <;> simp [upd_at])

end Go.Proofs.YtehdfifncbokeaaGreat
