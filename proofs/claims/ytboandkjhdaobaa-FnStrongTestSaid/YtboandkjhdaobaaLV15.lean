/- The law FnStrongTest, walked by the engine. -/
import Derived.Test.YtboandkjhdaobaaR21
import Derived.Test.YtboandkjhdaobaaTS
import Derived.Test.YtboandkjhdaobaaTB
import Derived.Test.YtboandkjhdaobaaRelY
import Derived.Test.YtboandkjhdaobaaLV14
import Derived.Test.YtboandkjhdaobaaEngMin
namespace Go.Proofs.Ytboandkjhdaobaa
set_option linter.unusedSimpArgs false
set_option linter.unusedVariables false
set_option maxRecDepth 8000
set_option maxHeartbeats 2000000
open Go Go.RowKit AV

attribute [local go_sem] List.nil_prefix

theorem strongI_neg {q : Int} {e : List Int} (h : strongI q e < 0) : strongI q e = -1 := by
  unfold strongI at h ⊢
  split
  · rename_i g
    rw [if_pos g] at h
    have := weakI_lt (autD (backL e)) (notI q)
    have h2 : notI (weakI (autD (backL e)) (notI q)) = 15 - weakI (autD (backL e)) (notI q) := if_pos ⟨g.2.2, by omega⟩
    rw [h2] at h
    omega
  · rfl

theorem fnStrongTest_ctr : CtrOK Try.prog 15 (pureC codeR2) := by
  refine ctr_pure' Try.func15 rfl rfl Try.ntmps15 ?_
  rintro _ _ ⟨bs, cs, rfl, ⟨hl, hb256⟩, ⟨hlc, hc256⟩, rfl⟩
  refine ⟨by simp, fun κ hκ => ?_⟩
  have hbig := bigW_gt
  rw [argEnv_eq]
  simp only [envA]
  have hΓ := ctxOf_ok (P := Try.prog) (cx drawStrongTest_ctr <| cx implStrongTest_ctr <| cx specStrongTest_ctr <| cx aliveL_ctr <| cx implWeakTest_ctr <| cx implTestValid_ctr <| cx implTestBelow_ctr <| cx0)
  have hel := progX_len (bs.take 2000) 0 5 12
  obtain ⟨e, he⟩ : ∃ e, (progX (bs.take 2000) 0 5 12).1 = e := ⟨_, rfl⟩
  rw [he] at hel
  obtain ⟨q, hq⟩ : ∃ q, (testX (bs.take 2000) (progX (bs.take 2000) 0 5 12).2 12).1 = q := ⟨_, rfl⟩
  have hXn := strongI_neg (q := q) (e := e)
  have hXy : 0 ≤ strongI q e → katB e = true ∧ (0 ≤ q ∧ q ≤ 15) ∧ 0 ≤ weakI (autD (backL e)) (notI q) ∧ strongI q e = notI (weakI (autD (backL e)) (notI q)) := fun h => by
    unfold strongI at h ⊢
    split at h
    · rename_i g
      rw [if_pos g]
      exact ⟨g.1, g.2.1, g.2.2, rfl⟩
    · omega
  obtain ⟨X, hX⟩ : ∃ X, strongI q e = X := ⟨_, rfl⟩
  rw [hX] at hXn hXy
  repeat' (first | refine wS fun K hK => ?_ | refine wB ?_ | ((first | refine wR hΓ ?_ | refine wD hΓ fun B hB => ?_); simp (config := { maxSteps := 2000000 }) only [go_sem]) | ((repeat ((fail_if_success (refine hK _ ?_)); clear hK K)); refine hK _ ?_; clear hK K) | (refine w1 ?_; simp only [xs, xi, Nat.reduceEqDiff, reduceCtorEq]) | (refine wC (fun hb => ?_) fun hb => ?_ <;> (try simp only [xb, reduceCtorEq] at hb)) | (refine w2 (fun hc => ?_) (fun hc => ?_) <;> (try simp only [xc] at hc) <;> (try simp only [go_sem, hc]) <;> (try simp only [xb] at hc)) | refine wI ?_ | refine ex_idx (by omega) ?_ | fail)
  · simp [Try.results15, RetOK, RetP, backA, upd_at, plainB, getP, isOwn, anyOwn, isP]
  rotate_left
  · simp [Try.results15, RetOK, RetP, backA, upd_at, plainB, getP, isOwn, anyOwn, isP]
  (first | refine wA rfl ?_ ?_ ?_ | refine dA rfl ?_ ?_ ?_); exact (.tup [I q, ints e]); exact (⟨bs, rfl, by omega, hb256, by rw [he, hq]⟩); simp (config := { maxSteps := 2000000 }) only [go_sem]
  repeat' (first | refine wS fun K hK => ?_ | refine wB ?_ | ((first | refine wR hΓ ?_ | refine wD hΓ fun B hB => ?_); simp (config := { maxSteps := 2000000 }) only [go_sem]) | ((repeat ((fail_if_success (refine hK _ ?_)); clear hK K)); refine hK _ ?_; clear hK K) | (refine w1 ?_; simp only [xs, xi, Nat.reduceEqDiff, reduceCtorEq]) | (refine wC (fun hb => ?_) fun hb => ?_ <;> (try simp only [xb, reduceCtorEq] at hb)) | (refine w2 (fun hc => ?_) (fun hc => ?_) <;> (try simp only [xc] at hc) <;> (try simp only [go_sem, hc]) <;> (try simp only [xb] at hc)) | refine wI ?_ | refine ex_idx (by omega) ?_ | fail)
  (first | refine wA rfl ?_ ?_ ?_ | refine dA rfl ?_ ?_ ?_); exact (I X); exact (⟨q, e, rfl, by omega, by rw [hX]⟩); simp (config := { maxSteps := 2000000 }) only [go_sem]
  repeat' (first | refine wS fun K hK => ?_ | refine wB ?_ | ((first | refine wR hΓ ?_ | refine wD hΓ fun B hB => ?_); simp (config := { maxSteps := 2000000 }) only [go_sem]) | ((repeat ((fail_if_success (refine hK _ ?_)); clear hK K)); refine hK _ ?_; clear hK K) | (refine w1 ?_; simp only [xs, xi, Nat.reduceEqDiff, reduceCtorEq]) | (refine wC (fun hb => ?_) fun hb => ?_ <;> (try simp only [xb, reduceCtorEq] at hb)) | (refine w2 (fun hc => ?_) (fun hc => ?_) <;> (try simp only [xc] at hc) <;> (try simp only [go_sem, hc]) <;> (try simp only [xb] at hc)) | refine wI ?_ | refine ex_idx (by omega) ?_ | fail)
  (first | refine wA rfl ?_ ?_ ?_ | refine dA rfl ?_ ?_ ?_); exact (I X); exact (⟨q, e, rfl, by omega, by rw [hX]⟩); simp (config := { maxSteps := 2000000 }) only [go_sem]
  by_cases hneg : X < 0
  · have hX1 := hXn hneg
    repeat' (first | refine wS fun K hK => ?_ | refine wB ?_ | ((first | refine wR hΓ ?_ | refine wD hΓ fun B hB => ?_); simp (config := { maxSteps := 2000000 }) only [go_sem]) | ((repeat ((fail_if_success (refine hK _ ?_)); clear hK K)); refine hK _ ?_; clear hK K) | (refine w1 ?_; simp only [xs, xi, Nat.reduceEqDiff, reduceCtorEq]) | (refine wC (fun hb => ?_) fun hb => ?_ <;> (try simp only [xb, reduceCtorEq] at hb)) | (refine w2 (fun hc => ?_) (fun hc => ?_) <;> (try simp only [xc] at hc) <;> (try simp only [go_sem, hc]) <;> (try simp only [xb] at hc)) | refine wI ?_ | refine ex_idx (by omega) ?_ | fail)
    all_goals try (exfalso; omega)
    (first | refine wA rfl _ (⟨rfl, rfl⟩) ?_ | refine dA rfl _ (⟨rfl, rfl⟩) ?_); simp (config := { maxSteps := 2000000 }) only [go_sem]
    repeat' (first | refine wS fun K hK => ?_ | refine wB ?_ | ((first | refine wR hΓ ?_ | refine wD hΓ fun B hB => ?_); simp (config := { maxSteps := 2000000 }) only [go_sem]) | ((repeat ((fail_if_success (refine hK _ ?_)); clear hK K)); refine hK _ ?_; clear hK K) | (refine w1 ?_; simp only [xs, xi, Nat.reduceEqDiff, reduceCtorEq]) | (refine wC (fun hb => ?_) fun hb => ?_ <;> (try simp only [xb, reduceCtorEq] at hb)) | (refine w2 (fun hc => ?_) (fun hc => ?_) <;> (try simp only [xc] at hc) <;> (try simp only [go_sem, hc]) <;> (try simp only [xb] at hc)) | refine wI ?_ | refine ex_idx (by omega) ?_ | fail)
    simp [Try.results15, RetOK, RetP, backA, upd_at, plainB, getP, isOwn, anyOwn, isP]
  obtain ⟨hk, hq15, hW0, hXe⟩ := hXy (by omega)
  obtain ⟨x, hw, hxe, _⟩ := katB_tree hk
  subst hxe
  rw [backL_yes hw hk] at hW0 hXe
  obtain ⟨p, rfl⟩ : ∃ t : Nat, q = (t : Int) := ⟨q.toNat, by omega⟩
  have hnp : notI (p : Int) = 15 - (p : Int) := if_pos ⟨by omega, by omega⟩
  rw [hnp] at hW0 hXe
  have hsl := weakI_lt (autD (backX x).steps) (15 - (p : Int))
  obtain ⟨s, hs⟩ : ∃ s : Nat, weakI (autD (backX x).steps) (15 - (p : Int)) = (s : Int) := ⟨_, (Int.toNat_of_nonneg hW0).symm⟩
  rw [hs] at hsl hXe
  have hXs : X = ((15 - s : Nat) : Int) := by rw [hXe]; unfold notI; rw [if_pos ⟨by omega, by omega⟩]; omega
  have hz : strongI 0 x.steps = 0 := by
    have h15 : weakI (autD (backX x).steps) 15 = 15 := weak_all (backX_wf hw) (weakI_ge hW0 (by omega))
    have e0 : notI 0 = 15 := rfl
    unfold strongI
    rw [backL_yes hw hk, e0, h15, if_pos ⟨hk, by omega, by omega⟩]
    rfl
  obtain ⟨o, ho⟩ : ∃ o : Nat, (cs.length * 3) % 16 = o := ⟨_, rfl⟩
  have ho15 : o ≤ 15 := by omega
  have hwn := weakI_neg (D := autD x.steps) (q := (o : Int))
  have hwl := weakI_lt (autD x.steps) (o : Int)
  have hsg := fun (w : Nat) (h : weakI (autD x.steps) (o : Int) = (w : Int)) => strong_law hw (p := p) (by omega) (s := s) (by omega) hs (o := o) (w := w) ho15 h
  obtain ⟨W, hWe⟩ : ∃ W, weakI (autD x.steps) (o : Int) = W := ⟨_, rfl⟩
  rw [hWe] at hwn hwl hsg
  repeat' (first | refine wS fun K hK => ?_ | refine wB ?_ | ((first | refine wR hΓ ?_ | refine wD hΓ fun B hB => ?_); simp (config := { maxSteps := 2000000 }) only [go_sem]) | ((repeat ((fail_if_success (refine hK _ ?_)); clear hK K)); refine hK _ ?_; clear hK K) | (refine w1 ?_; simp only [xs, xi, Nat.reduceEqDiff, reduceCtorEq]) | (refine wC (fun hb => ?_) fun hb => ?_ <;> (try simp only [xb, reduceCtorEq] at hb)) | (refine w2 (fun hc => ?_) (fun hc => ?_) <;> (try simp only [xc] at hc) <;> (try simp only [go_sem, hc]) <;> (try simp only [xb] at hc)) | refine wI ?_ | refine ex_idx (by omega) ?_ | fail)
  all_goals try (exfalso; omega)
  have eo : ((cs.length : Int) * 3 % 16) = (o : Int) := by omega
  rw [eo]
  (first | refine wA rfl ?_ ?_ ?_ | refine dA rfl ?_ ?_ ?_); exact (I W); exact (⟨x.steps, o, rfl, by omega, by rw [hWe]⟩); simp (config := { maxSteps := 2000000 }) only [go_sem]
  repeat' (first | refine wS fun K hK => ?_ | refine wB ?_ | ((first | refine wR hΓ ?_ | refine wD hΓ fun B hB => ?_); simp (config := { maxSteps := 2000000 }) only [go_sem]) | ((repeat ((fail_if_success (refine hK _ ?_)); clear hK K)); refine hK _ ?_; clear hK K) | (refine w1 ?_; simp only [xs, xi, Nat.reduceEqDiff, reduceCtorEq]) | (refine wC (fun hb => ?_) fun hb => ?_ <;> (try simp only [xb, reduceCtorEq] at hb)) | (refine w2 (fun hc => ?_) (fun hc => ?_) <;> (try simp only [xc] at hc) <;> (try simp only [go_sem, hc]) <;> (try simp only [xb] at hc)) | refine wI ?_ | refine ex_idx (by omega) ?_ | fail)
  (first | refine wA rfl ?_ ?_ ?_ | refine dA rfl ?_ ?_ ?_); exact (.bool true); exact (⟨X, rfl, by rw [decide_eq_true (by omega)]⟩); simp (config := { maxSteps := 2000000 }) only [go_sem]
  by_cases hW1 : W < 0
  · repeat' (first | refine wS fun K hK => ?_ | refine wB ?_ | ((first | refine wR hΓ ?_ | refine wD hΓ fun B hB => ?_); simp (config := { maxSteps := 2000000 }) only [go_sem]) | ((repeat ((fail_if_success (refine hK _ ?_)); clear hK K)); refine hK _ ?_; clear hK K) | (refine w1 ?_; simp only [xs, xi, Nat.reduceEqDiff, reduceCtorEq]) | (refine wC (fun hb => ?_) fun hb => ?_ <;> (try simp only [xb, reduceCtorEq] at hb)) | (refine w2 (fun hc => ?_) (fun hc => ?_) <;> (try simp only [xc] at hc) <;> (try simp only [go_sem, hc]) <;> (try simp only [xb] at hc)) | refine wI ?_ | refine ex_idx (by omega) ?_ | fail)
    all_goals try (exfalso; omega)
    (first | refine wA rfl ?_ ?_ ?_ | refine dA rfl ?_ ?_ ?_); exact (I 0); exact (⟨0, x.steps, rfl, by omega, by rw [hz]⟩); simp (config := { maxSteps := 2000000 }) only [go_sem]
    repeat' (first | refine wS fun K hK => ?_ | refine wB ?_ | ((first | refine wR hΓ ?_ | refine wD hΓ fun B hB => ?_); simp (config := { maxSteps := 2000000 }) only [go_sem]) | ((repeat ((fail_if_success (refine hK _ ?_)); clear hK K)); refine hK _ ?_; clear hK K) | (refine w1 ?_; simp only [xs, xi, Nat.reduceEqDiff, reduceCtorEq]) | (refine wC (fun hb => ?_) fun hb => ?_ <;> (try simp only [xb, reduceCtorEq] at hb)) | (refine w2 (fun hc => ?_) (fun hc => ?_) <;> (try simp only [xc] at hc) <;> (try simp only [go_sem, hc]) <;> (try simp only [xb] at hc)) | refine wI ?_ | refine ex_idx (by omega) ?_ | fail)
    simp [Try.results15, RetOK, RetP, backA, upd_at, plainB, getP, isOwn, anyOwn, isP]
  · obtain ⟨w, rfl⟩ : ∃ w : Nat, W = (w : Int) := ⟨W.toNat, by omega⟩
    have hsg := hsg w rfl
    obtain ⟨T, hT⟩ : ∃ T, belowB X (o : Int) = T := ⟨_, rfl⟩
    have hT2 : belowB (p : Int) (w : Int) = T := by
      rw [← hT]
      unfold belowB
      rw [decide_eq_true (show 0 ≤ (p : Int) ∧ (p : Int) ≤ 15 by omega), decide_eq_true (show 0 ≤ (w : Int) ∧ (w : Int) ≤ 15 by omega), decide_eq_true (show 0 ≤ X ∧ X ≤ 15 by omega), decide_eq_true (show 0 ≤ (o : Int) ∧ (o : Int) ≤ 15 by omega)]
      rw [hXs]
      simp only [Int.toNat_natCast, Bool.true_and]
      exact decide_eq_decide.2 hsg.symm
    repeat' (first | refine wS fun K hK => ?_ | refine wB ?_ | ((first | refine wR hΓ ?_ | refine wD hΓ fun B hB => ?_); simp (config := { maxSteps := 2000000 }) only [go_sem]) | ((repeat ((fail_if_success (refine hK _ ?_)); clear hK K)); refine hK _ ?_; clear hK K) | (refine w1 ?_; simp only [xs, xi, Nat.reduceEqDiff, reduceCtorEq]) | (refine wC (fun hb => ?_) fun hb => ?_ <;> (try simp only [xb, reduceCtorEq] at hb)) | (refine w2 (fun hc => ?_) (fun hc => ?_) <;> (try simp only [xc] at hc) <;> (try simp only [go_sem, hc]) <;> (try simp only [xb] at hc)) | refine wI ?_ | refine ex_idx (by omega) ?_ | fail)
    all_goals try (exfalso; omega)
    (first | refine wA rfl ?_ ?_ ?_ | refine dA rfl ?_ ?_ ?_); exact (.bool T); exact (⟨X, o, rfl, by rw [hT]⟩); simp (config := { maxSteps := 2000000 }) only [go_sem]
    repeat' (first | refine wS fun K hK => ?_ | refine wB ?_ | ((first | refine wR hΓ ?_ | refine wD hΓ fun B hB => ?_); simp (config := { maxSteps := 2000000 }) only [go_sem]) | ((repeat ((fail_if_success (refine hK _ ?_)); clear hK K)); refine hK _ ?_; clear hK K) | (refine w1 ?_; simp only [xs, xi, Nat.reduceEqDiff, reduceCtorEq]) | (refine wC (fun hb => ?_) fun hb => ?_ <;> (try simp only [xb, reduceCtorEq] at hb)) | (refine w2 (fun hc => ?_) (fun hc => ?_) <;> (try simp only [xc] at hc) <;> (try simp only [go_sem, hc]) <;> (try simp only [xb] at hc)) | refine wI ?_ | refine ex_idx (by omega) ?_ | fail)
    (first | refine wA rfl ?_ ?_ ?_ | refine dA rfl ?_ ?_ ?_); exact (.bool T); exact (⟨p, w, rfl, by rw [hT2]⟩); simp (config := { maxSteps := 2000000 }) only [go_sem]
    simp (config := { maxSteps := 2000000 }) only [go_sem, beq_self_eq_true]
    repeat' (first | refine wS fun K hK => ?_ | refine wB ?_ | ((first | refine wR hΓ ?_ | refine wD hΓ fun B hB => ?_); simp (config := { maxSteps := 2000000 }) only [go_sem, beq_self_eq_true]) | ((repeat ((fail_if_success (refine hK _ ?_)); clear hK K)); refine hK _ ?_; clear hK K) | (refine w1 ?_; simp only [xs, xi, Nat.reduceEqDiff, reduceCtorEq]) | (refine wC (fun hb => ?_) fun hb => ?_ <;> (try simp only [xb, reduceCtorEq] at hb)) | (refine w2 (fun hc => ?_) (fun hc => ?_) <;> (try simp only [xc] at hc) <;> (try simp only [go_sem, hc, beq_self_eq_true]) <;> (try simp only [xb] at hc)) | refine wI ?_ | refine ex_idx (by omega) ?_ | fail)
    (first | refine wA rfl ?_ ?_ ?_ | refine dA rfl ?_ ?_ ?_); exact (I 0); exact (⟨0, x.steps, rfl, by omega, by rw [hz]⟩); simp (config := { maxSteps := 2000000 }) only [go_sem]
    repeat' (first | refine wS fun K hK => ?_ | refine wB ?_ | ((first | refine wR hΓ ?_ | refine wD hΓ fun B hB => ?_); simp (config := { maxSteps := 2000000 }) only [go_sem]) | ((repeat ((fail_if_success (refine hK _ ?_)); clear hK K)); refine hK _ ?_; clear hK K) | (refine w1 ?_; simp only [xs, xi, Nat.reduceEqDiff, reduceCtorEq]) | (refine wC (fun hb => ?_) fun hb => ?_ <;> (try simp only [xb, reduceCtorEq] at hb)) | (refine w2 (fun hc => ?_) (fun hc => ?_) <;> (try simp only [xc] at hc) <;> (try simp only [go_sem, hc]) <;> (try simp only [xb] at hc)) | refine wI ?_ | refine ex_idx (by omega) ?_ | fail)
    simp [Try.results15, RetOK, RetP, backA, upd_at, plainB, getP, isOwn, anyOwn, isP]

end Go.Proofs.Ytboandkjhdaobaa
