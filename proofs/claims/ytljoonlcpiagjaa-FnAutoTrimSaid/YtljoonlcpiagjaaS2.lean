/- The laws' own helpers, walked by the engine. -/
import Derived.Test.YtljoonlcpiagjaaGrpD
import Derived.Test.YtljoonlcpiagjaaK0
import Derived.Test.YtljoonlcpiagjaaEngMin
namespace Go.Proofs.Ytljoonlcpiagjaa
set_option linter.unusedSimpArgs false
set_option linter.unusedVariables false
set_option maxRecDepth 8000
set_option maxHeartbeats 2000000
open Go Go.RowKit AV

theorem sameInts_ctr : CtrOK Try.prog 52 (pureC sameR) := by
  refine ctr_pure' Try.func52 rfl rfl Try.ntmps52 ?_
  rintro _ _ ⟨a, b, rfl, ha, hb0, rfl⟩
  refine ⟨by simp, fun κ hκ => ?_⟩
  have hbig := bigW_gt
  rw [argEnv_eq]
  simp only [envA]
  have hΓ := noCtx_ok Try.prog
  repeat' (first | refine wS fun K hK => ?_ | refine wB ?_ | ((first | refine wR hΓ ?_ | refine wD hΓ fun B hB => ?_); simp (config := { maxSteps := 2000000 }) only [go_sem]) | ((repeat ((fail_if_success (refine hK _ ?_)); clear hK K)); refine hK _ ?_; clear hK K) | (refine w1 ?_; simp only [xs, xi, Nat.reduceEqDiff, reduceCtorEq]) | (refine wC (fun hb => ?_) fun hb => ?_ <;> (try simp only [xb, reduceCtorEq] at hb)) | (refine w2 (fun hc => ?_) (fun hc => ?_) <;> (try simp only [xc] at hc) <;> (try simp only [go_sem, hc]) <;> (try simp only [xb] at hc)) | refine wI ?_ | refine ex_idx (by omega) ?_ | fail)
  · have h2 : decide (a = b) = false := decide_eq_false fun h => by subst h; omega
    rw [h2]
    simp [Try.results52, RetOK, RetP, backA, upd_at, plainB, getP, isOwn, anyOwn, isP]
  refine CW.loop (ι := Nat) (fun k => [(0, ints a), (1, ints b), (5, I k)]) (fun k => k ≤ a.length ∧ a.take k = b.take k) (fun k => a.length - k) 0 ?_ ?_
  · exact ⟨by (simp only [xe, xj, Nat.reduceEqDiff]; (try simp [view, viewL_map]); (try omega)), by omega, by simp⟩
  rintro k ⟨hka, hab⟩
  simp only [envOf]
  repeat' (first | refine wS fun K hK => ?_ | refine wB ?_ | ((first | refine wR hΓ ?_ | refine wD hΓ fun B hB => ?_); simp (config := { maxSteps := 2000000 }) only [go_sem]) | ((repeat ((fail_if_success (refine hK _ ?_)); clear hK K)); refine hK _ ?_; clear hK K) | (refine w1 ?_; simp only [xs, xi, Nat.reduceEqDiff, reduceCtorEq]) | (refine wC (fun hb => ?_) fun hb => ?_ <;> (try simp only [xb, reduceCtorEq] at hb)) | (refine w2 (fun hc => ?_) (fun hc => ?_) <;> (try simp only [xc] at hc) <;> (try simp only [go_sem, hc]) <;> (try simp only [xb] at hc)) | refine wI ?_ | refine ex_idx (by omega) ?_ | fail)
  · have hx := (lex_ne (by omega) (by omega) hab hb).2
    have h2 : decide (a = b) = false := decide_eq_false hx
    rw [h2]
    simp [Try.results52, RetOK, RetP, backA, upd_at, plainB, getP, isOwn, anyOwn, isP]
  · exact ⟨k + 1, by (simp only [xe, xj, Nat.reduceEqDiff]; (try simp [view, viewL_map]); (try omega)), ⟨by omega, lex_next (by omega) (by omega) hab hb⟩, by omega⟩
  · have h2 : decide (a = b) = true := decide_eq_true ((lex_end hka (by omega) hab (by omega)).2.2 (by omega))
    rw [h2]
    simp [Try.results52, RetOK, RetP, backA, upd_at, plainB, getP, isOwn, anyOwn, isP]

def sameLR (args : List AV) (r : AV) : Prop := ∃ a b : List (List Int), args = [rows a, rows b] ∧ a.length ≤ 1099511627776 ∧ b.length ≤ 1099511627776 ∧ (∀ x ∈ a, x.length ≤ 1099511627776) ∧ (∀ x ∈ b, x.length ≤ 1099511627776) ∧ r = .bool (decide (a = b))
theorem sameLists_ctr : CtrOK Try.prog 70 (pureC sameLR) := by
  refine ctr_pure' Try.func70 rfl rfl Try.ntmps70 ?_
  rintro _ _ ⟨a, b, rfl, ha, hb0, hxa, hxb, rfl⟩
  refine ⟨by simp, fun κ hκ => ?_⟩
  have hbig := bigW_gt
  rw [argEnv_eq]
  simp only [envA]
  have hΓ := ctxOf_ok (P := Try.prog) (cx sameInts_ctr <| cx0)
  repeat' (first | refine wS fun K hK => ?_ | refine wB ?_ | ((first | refine wR hΓ ?_ | refine wD hΓ fun B hB => ?_); simp (config := { maxSteps := 2000000 }) only [go_sem]) | ((repeat ((fail_if_success (refine hK _ ?_)); clear hK K)); refine hK _ ?_; clear hK K) | (refine w1 ?_; simp only [xs, xi, Nat.reduceEqDiff, reduceCtorEq]) | (refine wC (fun hb => ?_) fun hb => ?_ <;> (try simp only [xb, reduceCtorEq] at hb)) | (refine w2 (fun hc => ?_) (fun hc => ?_) <;> (try simp only [xc] at hc) <;> (try simp only [go_sem, hc]) <;> (try simp only [xb] at hc)) | refine wI ?_ | refine ex_idx (by omega) ?_ | fail)
  · have h2 : decide (a = b) = false := decide_eq_false fun h => by subst h; omega
    rw [h2]
    simp [Try.results70, RetOK, RetP, backA, upd_at, plainB, getP, isOwn, anyOwn, isP]
  refine CW.loop (ι := Nat) (fun k => [(0, rows a), (1, rows b), (5, I k)]) (fun k => k ≤ a.length ∧ a.take k = b.take k) (fun k => a.length - k) 0 ?_ ?_
  · exact ⟨by (simp only [xe, xj, Nat.reduceEqDiff]; (try simp [view, viewL_map]); (try omega)), by omega, by simp⟩
  rintro k ⟨hka, hab⟩
  simp only [envOf]
  repeat' (first | refine wS fun K hK => ?_ | refine wB ?_ | ((first | refine wR hΓ ?_ | refine wD hΓ fun B hB => ?_); simp (config := { maxSteps := 2000000 }) only [go_sem]) | ((repeat ((fail_if_success (refine hK _ ?_)); clear hK K)); refine hK _ ?_; clear hK K) | (refine w1 ?_; simp only [xs, xi, Nat.reduceEqDiff, reduceCtorEq]) | (refine wC (fun hb => ?_) fun hb => ?_ <;> (try simp only [xb, reduceCtorEq] at hb)) | (refine w2 (fun hc => ?_) (fun hc => ?_) <;> (try simp only [xc] at hc) <;> (try simp only [go_sem, hc]) <;> (try simp only [xb] at hc)) | refine wI ?_ | refine ex_idx (by omega) ?_ | fail)
  · have h1 : k < a.length := by omega
    have h2 : k < b.length := by omega
    (first | refine wA rfl _ (⟨_, _, rfl, hxa _ (List.getElem_mem h1), hxb _ (List.getElem_mem h2), rfl⟩) ?_ | refine dA rfl _ (⟨_, _, rfl, hxa _ (List.getElem_mem h1), hxb _ (List.getElem_mem h2), rfl⟩) ?_); simp (config := { maxSteps := 2000000 }) only [go_sem]
    repeat' (first | refine wS fun K hK => ?_ | refine wB ?_ | ((first | refine wR hΓ ?_ | refine wD hΓ fun B hB => ?_); simp (config := { maxSteps := 2000000 }) only [go_sem]) | ((repeat ((fail_if_success (refine hK _ ?_)); clear hK K)); refine hK _ ?_; clear hK K) | (refine w1 ?_; simp only [xs, xi, Nat.reduceEqDiff, reduceCtorEq]) | (refine wC (fun hb => ?_) fun hb => ?_ <;> (try simp only [xb, reduceCtorEq] at hb)) | (refine w2 (fun hc => ?_) (fun hc => ?_) <;> (try simp only [xc] at hc) <;> (try simp only [go_sem, hc]) <;> (try simp only [xb] at hc)) | refine wI ?_ | refine ex_idx (by omega) ?_ | fail)
    · have h3 : decide (a = b) = false := decide_eq_false fun h => by subst h; exact absurd rfl ‹¬ _ = _›
      rw [h3]
      simp [Try.results70, RetOK, RetP, backA, upd_at, plainB, getP, isOwn, anyOwn, isP]
    · exact ⟨k + 1, by (simp only [xe, xj, Nat.reduceEqDiff]; (try simp [view, viewL_map]); (try omega)), ⟨by omega, take_succ_eq h1 h2 hab ‹_›⟩, by omega⟩
  · have hk : k = a.length := by omega
    have h2 : decide (a = b) = true := decide_eq_true (by
      rw [List.take_of_length_le (by omega), List.take_of_length_le (by omega)] at hab
      exact hab)
    rw [h2]
    simp [Try.results70, RetOK, RetP, backA, upd_at, plainB, getP, isOwn, anyOwn, isP]

def sameAR (args : List AV) (r : AV) : Prop := ∃ D1 D2 : AutoD, args = [agg [ints D1.ends, rows D1.next], agg [ints D2.ends, rows D2.next]] ∧ smallE D1.ends D1.next ∧ smallE D2.ends D2.next ∧ r = .bool (decide (D1.ends = D2.ends) && decide (D1.next = D2.next))
theorem sameAuto_ctr : CtrOK Try.prog 17 (pureC sameAR) := by
  refine ctr_pure' Try.func17 rfl rfl Try.ntmps17 ?_
  rintro _ _ ⟨D1, D2, rfl, h1, h2, rfl⟩
  refine ⟨by simp, fun κ hκ => ?_⟩
  have hbig := bigW_gt
  rw [argEnv_eq]
  simp only [envA]
  have hΓ := ctxOf_ok (P := Try.prog) (cx sameInts_ctr <| cx sameLists_ctr <| cx0)
  repeat' (first | refine wS fun K hK => ?_ | refine wB ?_ | ((first | refine wR hΓ ?_ | refine wD hΓ fun B hB => ?_); simp (config := { maxSteps := 2000000 }) only [go_sem]) | ((repeat ((fail_if_success (refine hK _ ?_)); clear hK K)); refine hK _ ?_; clear hK K) | (refine w1 ?_; simp only [xs, xi, Nat.reduceEqDiff, reduceCtorEq]) | (refine wC (fun hb => ?_) fun hb => ?_ <;> (try simp only [xb, reduceCtorEq] at hb)) | (refine w2 (fun hc => ?_) (fun hc => ?_) <;> (try simp only [xc] at hc) <;> (try simp only [go_sem, hc]) <;> (try simp only [xb] at hc)) | refine wI ?_ | refine ex_idx (by omega) ?_ | fail)
  (first | refine wA rfl _ (⟨_, _, rfl, h1.1, h2.1, rfl⟩) ?_ | refine dA rfl _ (⟨_, _, rfl, h1.1, h2.1, rfl⟩) ?_); simp (config := { maxSteps := 2000000 }) only [go_sem]
  repeat' (first | refine wS fun K hK => ?_ | refine wB ?_ | ((first | refine wR hΓ ?_ | refine wD hΓ fun B hB => ?_); simp (config := { maxSteps := 2000000 }) only [go_sem]) | ((repeat ((fail_if_success (refine hK _ ?_)); clear hK K)); refine hK _ ?_; clear hK K) | (refine w1 ?_; simp only [xs, xi, Nat.reduceEqDiff, reduceCtorEq]) | (refine wC (fun hb => ?_) fun hb => ?_ <;> (try simp only [xb, reduceCtorEq] at hb)) | (refine w2 (fun hc => ?_) (fun hc => ?_) <;> (try simp only [xc] at hc) <;> (try simp only [go_sem, hc]) <;> (try simp only [xb] at hc)) | refine wI ?_ | refine ex_idx (by omega) ?_ | fail)
  · (first | refine wA rfl _ (⟨_, _, rfl, h1.2.1, h2.2.1, h1.2.2, h2.2.2, rfl⟩) ?_ | refine dA rfl _ (⟨_, _, rfl, h1.2.1, h2.2.1, h1.2.2, h2.2.2, rfl⟩) ?_); simp (config := { maxSteps := 2000000 }) only [go_sem]
    repeat' (first | refine wS fun K hK => ?_ | refine wB ?_ | ((first | refine wR hΓ ?_ | refine wD hΓ fun B hB => ?_); simp (config := { maxSteps := 2000000 }) only [go_sem]) | ((repeat ((fail_if_success (refine hK _ ?_)); clear hK K)); refine hK _ ?_; clear hK K) | (refine w1 ?_; simp only [xs, xi, Nat.reduceEqDiff, reduceCtorEq]) | (refine wC (fun hb => ?_) fun hb => ?_ <;> (try simp only [xb, reduceCtorEq] at hb)) | (refine w2 (fun hc => ?_) (fun hc => ?_) <;> (try simp only [xc] at hc) <;> (try simp only [go_sem, hc]) <;> (try simp only [xb] at hc)) | refine wI ?_ | refine ex_idx (by omega) ?_ | fail)
    rw [decide_eq_true ‹D1.ends = D2.ends›, Bool.true_and]
    simp [Try.results17, RetOK, RetP, backA, upd_at, plainB, getP, isOwn, anyOwn, isP]
  · rw [decide_eq_false ‹¬ D1.ends = D2.ends›, Bool.false_and]
    simp [Try.results17, RetOK, RetP, backA, upd_at, plainB, getP, isOwn, anyOwn, isP]

def cntN (s : Nat) : Nat → Nat
  | 0 => 0
  | k + 1 => cntN s k + bitN s k
theorem cntN_le (s : Nat) : ∀ k, cntN s k ≤ k
  | 0 => Nat.le_refl _
  | k + 1 => by have := cntN_le s k; have := bitN_le s k; simp only [cntN]; omega

def bitsLR (args : List AV) (r : AV) : Prop := ∃ a : Nat, args = [I a] ∧ a < 1099511627776 ∧ r = I ((cntN a 40 : Nat) : Int)
theorem bitsL_ctr : CtrOK Try.prog 25 (pureC bitsLR) := by
  refine ctr_pure' Try.func25 rfl rfl Try.ntmps25 ?_
  rintro _ _ ⟨a, rfl, ha, rfl⟩
  refine ⟨by simp, fun κ hκ => ?_⟩
  have hbig := bigW_gt
  rw [argEnv_eq]
  simp only [envA]
  have hΓ := noCtx_ok Try.prog
  repeat' (first | refine wS fun K hK => ?_ | refine wB ?_ | ((first | refine wR hΓ ?_ | refine wD hΓ fun B hB => ?_); simp (config := { maxSteps := 2000000 }) only [go_sem]) | ((repeat ((fail_if_success (refine hK _ ?_)); clear hK K)); refine hK _ ?_; clear hK K) | (refine w1 ?_; simp only [xs, xi, Nat.reduceEqDiff, reduceCtorEq]) | (refine wC (fun hb => ?_) fun hb => ?_ <;> (try simp only [xb, reduceCtorEq] at hb)) | (refine w2 (fun hc => ?_) (fun hc => ?_) <;> (try simp only [xc] at hc) <;> (try simp only [go_sem, hc]) <;> (try simp only [xb] at hc)) | refine wI ?_ | refine ex_idx (by omega) ?_ | fail)
  refine CW.loop (ι := Nat) (fun k => [(0, I a), (3, I ((cntN a k : Nat) : Int)), (4, I k)]) (fun k => k ≤ 40) (fun k => 40 - k) 0 ?_ ?_
  · refine ⟨by (simp only [xe, xj, Nat.reduceEqDiff]; (try simp [view, viewL_map]); (try omega)); simp [cntN], by omega⟩
  rintro k hk
  simp only [envOf]
  have hp : (1 : Int) ≤ 2 ^ k ∧ (2 : Int) ^ k ≤ 1099511627776 := pow_bd hk
  have h0a : (0 : Int) ≤ (a : Int) / 2 ^ k := by rw [shr_nat]; exact Int.natCast_nonneg _
  have h1a : (a : Int) / 2 ^ k % 2 = (bitN a k : Int) := by rw [← bitN_eq, shr_nat]; rfl
  have hs : cntN a (k + 1) = cntN a k + bitN a k := rfl
  have hcl := cntN_le a k
  have hba := bitN_le a k
  repeat' (first | refine wS fun K hK => ?_ | refine wB ?_ | ((first | refine wR hΓ ?_ | refine wD hΓ fun B hB => ?_); simp (config := { maxSteps := 2000000 }) only [go_sem, h1a]) | ((repeat ((fail_if_success (refine hK _ ?_)); clear hK K)); refine hK _ ?_; clear hK K) | (refine w1 ?_; simp only [xs, xi, Nat.reduceEqDiff, reduceCtorEq]) | (refine wC (fun hb => ?_) fun hb => ?_ <;> (try simp only [xb, reduceCtorEq] at hb)) | (refine w2 (fun hc => ?_) (fun hc => ?_) <;> (try simp only [xc] at hc) <;> (try simp only [go_sem, hc, h1a]) <;> (try simp only [xb] at hc)) | refine wI ?_ | refine ex_idx (by omega) ?_ | fail)
  · have g1 : bitN a k = 1 := by omega
    rw [g1] at hs
    refine ⟨k + 1, ?_, by omega, by omega⟩
    rw [hs]
    (simp only [xe, xj, Nat.reduceEqDiff]; (try simp [view, viewL_map]); (try omega))
  · have g1 : bitN a k = 0 := by omega
    rw [g1, Nat.add_zero] at hs
    refine ⟨k + 1, ?_, by omega, by omega⟩
    rw [hs]
    (simp only [xe, xj, Nat.reduceEqDiff]; (try simp [view, viewL_map]); (try omega))
  · have hk40 : k = 40 := by omega
    subst hk40
    simp [Try.results25, RetOK, RetP, backA, upd_at, plainB, getP, isOwn, anyOwn, isP]

end Go.Proofs.Ytljoonlcpiagjaa
