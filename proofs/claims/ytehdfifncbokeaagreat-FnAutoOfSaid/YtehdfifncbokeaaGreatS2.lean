/- The laws' own helpers, walked by the engine. -/
import Derived.Test.YtehdfifncbokeaaGreatGrpD
import Derived.Test.YtehdfifncbokeaaGreatK0
import Derived.Test.YtehdfifncbokeaaGreatEngMin
namespace Go.Proofs.YtehdfifncbokeaaGreat
set_option linter.unusedSimpArgs false
set_option linter.unusedVariables false
set_option maxRecDepth 8000
set_option maxHeartbeats 2000000
open Go Go.RowKit AV

theorem sameInts_ctr : CtrOK Tryz.prog 24 (pureC sameR) := by
  refine ctr_pure' Tryz.func24 rfl rfl Tryz.ntmps24 ?_
  rintro _ _ ⟨a, b, rfl, ha, hb0, rfl⟩
  refine ⟨by simp, fun κ hκ => ?_⟩
  have hbig := bigW_gt
  rw [argEnv_eq]
  simp only [envA]
  have hΓ := noCtx_ok Tryz.prog
  repeat' (first | exact hb.elim | refine wS fun K hK => ?_ | refine wB ?_ | refine uR hΓ ?_ | refine uD hΓ fun B hB => ?_ | ((repeat ((fail_if_success (refine hK _ ?_)); clear hK K)); refine hK _ ?_; clear hK K) | refine u1 ?_ | refine uC (fun hb => ?_) fun hb => ?_ | refine u2 (fun hc => ?_) fun hc => ?_ | refine wI ?_ | refine ex_idx (by omega) ?_ | exact True.intro | fail)
  · have h2 : decide (a = b) = false := decide_eq_false fun h => by subst h; omega
    rw [h2]
    simp [Tryz.results24, RetOK, RetP, backA, upd_at, plainB, getP, isOwn, anyOwn, isP]
  refine CW.loop (ι := Nat) (fun k => [(0, ints a), (1, ints b), (5, I k)]) (fun k => k ≤ a.length ∧ a.take k = b.take k) (fun k => a.length - k) 0 ?_ ?_
  · exact ⟨by (simp only [xe, xj, Nat.reduceEqDiff]; (try simp [view, viewL_map]); (try omega)), by omega, by simp⟩
  rintro k ⟨hka, hab⟩
  simp only [envOf]
  repeat' (first | exact hb.elim | refine wS fun K hK => ?_ | refine wB ?_ | refine uR hΓ ?_ | refine uD hΓ fun B hB => ?_ | ((repeat ((fail_if_success (refine hK _ ?_)); clear hK K)); refine hK _ ?_; clear hK K) | refine u1 ?_ | refine uC (fun hb => ?_) fun hb => ?_ | refine u2 (fun hc => ?_) fun hc => ?_ | refine wI ?_ | refine ex_idx (by omega) ?_ | exact True.intro | fail)
  · have hx := (lex_ne (by omega) (by omega) hab hb).2
    have h2 : decide (a = b) = false := decide_eq_false hx
    rw [h2]
    simp [Tryz.results24, RetOK, RetP, backA, upd_at, plainB, getP, isOwn, anyOwn, isP]
  · exact ⟨k + 1, by (simp only [xe, xj, Nat.reduceEqDiff]; (try simp [view, viewL_map]); (try omega)), ⟨by omega, lex_next (by omega) (by omega) hab hb⟩, by omega⟩
  · have h2 : decide (a = b) = true := decide_eq_true ((lex_end hka (by omega) hab (by omega)).2.2 (by omega))
    rw [h2]
    simp [Tryz.results24, RetOK, RetP, backA, upd_at, plainB, getP, isOwn, anyOwn, isP]

def sameLR (args : List AV) (r : AV) : Prop := ∃ a b : List (List Int), args = [rows a, rows b] ∧ a.length ≤ 1099511627776 ∧ b.length ≤ 1099511627776 ∧ (∀ x ∈ a, x.length ≤ 1099511627776) ∧ (∀ x ∈ b, x.length ≤ 1099511627776) ∧ r = .bool (decide (a = b))
theorem sameLists_ctr : CtrOK Tryz.prog 25 (pureC sameLR) := by
  refine ctr_pure' Tryz.func25 rfl rfl Tryz.ntmps25 ?_
  rintro _ _ ⟨a, b, rfl, ha, hb0, hxa, hxb, rfl⟩
  refine ⟨by simp, fun κ hκ => ?_⟩
  have hbig := bigW_gt
  rw [argEnv_eq]
  simp only [envA]
  have hΓ := ctxOf_ok (P := Tryz.prog) (cx sameInts_ctr <| cx0)
  repeat' (first | exact hb.elim | refine wS fun K hK => ?_ | refine wB ?_ | refine uR hΓ ?_ | refine uD hΓ fun B hB => ?_ | ((repeat ((fail_if_success (refine hK _ ?_)); clear hK K)); refine hK _ ?_; clear hK K) | refine u1 ?_ | refine uC (fun hb => ?_) fun hb => ?_ | refine u2 (fun hc => ?_) fun hc => ?_ | refine wI ?_ | refine ex_idx (by omega) ?_ | exact True.intro | fail)
  · have h2 : decide (a = b) = false := decide_eq_false fun h => by subst h; omega
    rw [h2]
    simp [Tryz.results25, RetOK, RetP, backA, upd_at, plainB, getP, isOwn, anyOwn, isP]
  refine CW.loop (ι := Nat) (fun k => [(0, rows a), (1, rows b), (5, I k)]) (fun k => k ≤ a.length ∧ a.take k = b.take k) (fun k => a.length - k) 0 ?_ ?_
  · exact ⟨by (simp only [xe, xj, Nat.reduceEqDiff]; (try simp [view, viewL_map]); (try omega)), by omega, by simp⟩
  rintro k ⟨hka, hab⟩
  simp only [envOf]
  repeat' (first | exact hb.elim | refine wS fun K hK => ?_ | refine wB ?_ | refine uR hΓ ?_ | refine uD hΓ fun B hB => ?_ | ((repeat ((fail_if_success (refine hK _ ?_)); clear hK K)); refine hK _ ?_; clear hK K) | refine u1 ?_ | refine uC (fun hb => ?_) fun hb => ?_ | refine u2 (fun hc => ?_) fun hc => ?_ | refine wI ?_ | refine ex_idx (by omega) ?_ | exact True.intro | fail)
  · have h1 : k < a.length := by omega
    have h2 : k < b.length := by omega
    (first | refine wA rfl _ (⟨_, _, rfl, hxa _ (List.getElem_mem h1), hxb _ (List.getElem_mem h2), rfl⟩) ?_ | refine dA rfl _ (⟨_, _, rfl, hxa _ (List.getElem_mem h1), hxb _ (List.getElem_mem h2), rfl⟩) ?_); simp (maxSteps := 2000000) only [go_sem]
    repeat' (first | exact hb.elim | refine wS fun K hK => ?_ | refine wB ?_ | refine uR hΓ ?_ | refine uD hΓ fun B hB => ?_ | ((repeat ((fail_if_success (refine hK _ ?_)); clear hK K)); refine hK _ ?_; clear hK K) | refine u1 ?_ | refine uC (fun hb => ?_) fun hb => ?_ | refine u2 (fun hc => ?_) fun hc => ?_ | refine wI ?_ | refine ex_idx (by omega) ?_ | exact True.intro | fail)
    · have h3 : decide (a = b) = false := decide_eq_false fun h => by subst h; exact absurd rfl ‹¬ _ = _›
      rw [h3]
      simp [Tryz.results25, RetOK, RetP, backA, upd_at, plainB, getP, isOwn, anyOwn, isP]
    · exact ⟨k + 1, by (simp only [xe, xj, Nat.reduceEqDiff]; (try simp [view, viewL_map]); (try omega)), ⟨by omega, take_succ_eq h1 h2 hab ‹_›⟩, by omega⟩
  · have hk : k = a.length := by omega
    have h2 : decide (a = b) = true := decide_eq_true (by
      rw [List.take_of_length_le (by omega), List.take_of_length_le (by omega)] at hab
      exact hab)
    rw [h2]
    simp [Tryz.results25, RetOK, RetP, backA, upd_at, plainB, getP, isOwn, anyOwn, isP]

def sameAR (args : List AV) (r : AV) : Prop := ∃ D1 D2 : AutoD, args = [agg [ints D1.ends, rows D1.next], agg [ints D2.ends, rows D2.next]] ∧ smallE D1.ends D1.next ∧ smallE D2.ends D2.next ∧ r = .bool (decide (D1.ends = D2.ends) && decide (D1.next = D2.next))
theorem sameAuto_ctr : CtrOK Tryz.prog 6 (pureC sameAR) := by
  refine ctr_pure' Tryz.func6 rfl rfl Tryz.ntmps6 ?_
  rintro _ _ ⟨D1, D2, rfl, h1, h2, rfl⟩
  refine ⟨by simp, fun κ hκ => ?_⟩
  have hbig := bigW_gt
  rw [argEnv_eq]
  simp only [envA]
  have hΓ := ctxOf_ok (P := Tryz.prog) (cx sameInts_ctr <| cx sameLists_ctr <| cx0)
  repeat' (first | exact hb.elim | refine wS fun K hK => ?_ | refine wB ?_ | refine uR hΓ ?_ | refine uD hΓ fun B hB => ?_ | ((repeat ((fail_if_success (refine hK _ ?_)); clear hK K)); refine hK _ ?_; clear hK K) | refine u1 ?_ | refine uC (fun hb => ?_) fun hb => ?_ | refine u2 (fun hc => ?_) fun hc => ?_ | refine wI ?_ | refine ex_idx (by omega) ?_ | exact True.intro | fail)
  (first | refine wA rfl _ (⟨_, _, rfl, h1.1, h2.1, rfl⟩) ?_ | refine dA rfl _ (⟨_, _, rfl, h1.1, h2.1, rfl⟩) ?_); simp (maxSteps := 2000000) only [go_sem]
  repeat' (first | exact hb.elim | refine wS fun K hK => ?_ | refine wB ?_ | refine uR hΓ ?_ | refine uD hΓ fun B hB => ?_ | ((repeat ((fail_if_success (refine hK _ ?_)); clear hK K)); refine hK _ ?_; clear hK K) | refine u1 ?_ | refine uC (fun hb => ?_) fun hb => ?_ | refine u2 (fun hc => ?_) fun hc => ?_ | refine wI ?_ | refine ex_idx (by omega) ?_ | exact True.intro | fail)
  · (first | refine wA rfl _ (⟨_, _, rfl, h1.2.1, h2.2.1, h1.2.2, h2.2.2, rfl⟩) ?_ | refine dA rfl _ (⟨_, _, rfl, h1.2.1, h2.2.1, h1.2.2, h2.2.2, rfl⟩) ?_); simp (maxSteps := 2000000) only [go_sem]
    repeat' (first | exact hb.elim | refine wS fun K hK => ?_ | refine wB ?_ | refine uR hΓ ?_ | refine uD hΓ fun B hB => ?_ | ((repeat ((fail_if_success (refine hK _ ?_)); clear hK K)); refine hK _ ?_; clear hK K) | refine u1 ?_ | refine uC (fun hb => ?_) fun hb => ?_ | refine u2 (fun hc => ?_) fun hc => ?_ | refine wI ?_ | refine ex_idx (by omega) ?_ | exact True.intro | fail)
    rw [decide_eq_true ‹D1.ends = D2.ends›, Bool.true_and]
    simp [Tryz.results6, RetOK, RetP, backA, upd_at, plainB, getP, isOwn, anyOwn, isP]
  · rw [decide_eq_false ‹¬ D1.ends = D2.ends›, Bool.false_and]
    simp [Tryz.results6, RetOK, RetP, backA, upd_at, plainB, getP, isOwn, anyOwn, isP]

end Go.Proofs.YtehdfifncbokeaaGreat
