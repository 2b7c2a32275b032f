/- Tests and sets: small functions, walked by the engine. -/
import Derived.Test.YtehdfifncbokeaaTy
import Derived.Test.YtehdfifncbokeaaGrpC
import Derived.Test.YtehdfifncbokeaaEngMin
namespace Go.Proofs.Ytehdfifncbokeaa
set_option linter.unusedSimpArgs false
set_option linter.unusedVariables false
set_option maxRecDepth 8000
set_option maxHeartbeats 2000000
open Go Go.RowKit AV

def l1InR (args : List AV) (r : AV) : Prop := ∃ n lo hi : Int, args = [I n, I lo, I hi] ∧ r = .bool (decide (lo ≤ n ∧ n ≤ hi))

theorem l1In_ctr : CtrOK Try.prog 14 (pureC l1InR) := by
  refine ctr_pure' Try.func14 rfl rfl Try.ntmps14 ?_
  rintro _ _ ⟨n, lo, hi, rfl, rfl⟩
  refine ⟨by simp, fun κ hκ => ?_⟩
  have hbig := bigW_gt
  rw [argEnv_eq]
  simp only [envA]
  have hΓ := noCtx_ok Try.prog
  repeat' (first | exact hb.elim | refine wS fun K hK => ?_ | refine wB ?_ | refine uR hΓ ?_ | refine uD hΓ fun B hB => ?_ | ((repeat ((fail_if_success (refine hK _ ?_)); clear hK K)); refine hK _ ?_; clear hK K) | refine u1 ?_ | refine uC (fun hb => ?_) fun hb => ?_ | refine u2 (fun hc => ?_) fun hc => ?_ | refine wI ?_ | refine ex_idx (by omega) ?_ | exact True.intro | fail)
  · simp [Try.results14, RetOK, upd_at, plainB, hc]
  · simp [Try.results14, RetOK, upd_at, plainB, hc]

def testValidR (args : List AV) (r : AV) : Prop := ∃ n : Int, args = [I n] ∧ r = .bool (decide (0 ≤ n ∧ n ≤ 15))

theorem implTestValid_ctr : CtrOK Try.prog 34 (pureC testValidR) := by
  refine ctr_pure' Try.func34 rfl rfl Try.ntmps34 ?_
  rintro _ _ ⟨n, rfl, rfl⟩
  refine ⟨by simp, fun κ hκ => ?_⟩
  have hbig := bigW_gt
  rw [argEnv_eq]
  simp only [envA]
  have hΓ := noCtx_ok Try.prog
  repeat' (first | exact hb.elim | refine wS fun K hK => ?_ | refine wB ?_ | refine uR hΓ ?_ | refine uD hΓ fun B hB => ?_ | ((repeat ((fail_if_success (refine hK _ ?_)); clear hK K)); refine hK _ ?_; clear hK K) | refine u1 ?_ | refine uC (fun hb => ?_) fun hb => ?_ | refine u2 (fun hc => ?_) fun hc => ?_ | refine wI ?_ | refine ex_idx (by omega) ?_ | exact True.intro | fail)
  · simp [Try.results34, RetOK, upd_at, plainB, hc]
  · simp [Try.results34, RetOK, upd_at, plainB, hc]

def l1BitR (args : List AV) (r : AV) : Prop := ∃ s k : Nat, args = [I s, I k] ∧ k < 64 ∧ r = I (bitN s k)

theorem l1Bit_ctr : CtrOK Try.prog 30 (pureC l1BitR) := by
  refine ctr_pure' Try.func30 rfl rfl Try.ntmps30 ?_
  rintro _ _ ⟨s, k, rfl, hk, rfl⟩
  refine ⟨by simp, fun κ hκ => ?_⟩
  have hbig := bigW_gt
  rw [argEnv_eq]
  simp only [envA]
  have hΓ := noCtx_ok Try.prog
  have h0 : (0 : Int) ≤ (s : Int) / 2 ^ k := by rw [shr_nat]; exact Int.natCast_nonneg _
  have h1 : (s : Int) / 2 ^ k % 2 = (bitN s k : Int) := by rw [← bitN_eq, shr_nat]; rfl
  repeat' (first | exact hb.elim | refine wS fun K hK => ?_ | refine wB ?_ | refine uR hΓ ?_ | refine uD hΓ fun B hB => ?_ | ((repeat ((fail_if_success (refine hK _ ?_)); clear hK K)); refine hK _ ?_; clear hK K) | refine u1 ?_ | refine uC (fun hb => ?_) fun hb => ?_ | refine u2 (fun hc => ?_) fun hc => ?_ | refine wI ?_ | refine ex_idx (by omega) ?_ | exact True.intro | fail)
  rw [h1]
  simp [Try.results30, RetOK, RetP, backA, upd_at, plainB, getP, isOwn, anyOwn, isP]

end Go.Proofs.Ytehdfifncbokeaa

namespace Go.Proofs.Ytehdfifncbokeaa
set_option linter.unusedSimpArgs false
set_option linter.unusedVariables false
set_option maxRecDepth 8000
set_option maxHeartbeats 2000000
open Go Go.RowKit AV

theorem nth_getElem {l : List Int} {k : Nat} (h : k < l.length) : nth l k = l[k] := by simp [nth, List.getD, h]
end Go.Proofs.Ytehdfifncbokeaa

namespace Go.Proofs.Ytehdfifncbokeaa
set_option linter.unusedSimpArgs false
set_option linter.unusedVariables false
set_option maxRecDepth 8000
set_option maxHeartbeats 2000000
open Go Go.RowKit AV

end Go.Proofs.Ytehdfifncbokeaa

namespace Go.Proofs.Ytehdfifncbokeaa
set_option linter.unusedSimpArgs false
set_option linter.unusedVariables false
set_option maxRecDepth 8000
set_option maxHeartbeats 2000000
open Go Go.RowKit AV

def takesR (args : List AV) (r : AV) : Prop := ∃ n : Int, args = [I n] ∧ r = I ((takesN n : Nat) : Int)

theorem l2Takes_ctr : CtrOK Try.prog 29 (pureC takesR) := by
  refine ctr_pure' Try.func29 rfl rfl Try.ntmps29 ?_
  rintro _ _ ⟨n, rfl, rfl⟩
  refine ⟨by simp, fun κ hκ => ?_⟩
  have hbig := bigW_gt
  rw [argEnv_eq]
  simp only [envA]
  have hΓ := noCtx_ok Try.prog
  repeat' (first | exact hb.elim | refine wS fun K hK => ?_ | refine wB ?_ | refine uR hΓ ?_ | refine uD hΓ fun B hB => ?_ | ((repeat ((fail_if_success (refine hK _ ?_)); clear hK K)); refine hK _ ?_; clear hK K) | refine u1 ?_ | refine uC (fun hb => ?_) fun hb => ?_ | refine u2 (fun hc => ?_) fun hc => ?_ | refine wI ?_ | refine ex_idx (by omega) ?_ | exact True.intro | fail)
  all_goals (first | omega | (simp [Try.results29, RetOK, upd_at, plainB, takesN, *]; done) | (simp [upd_at, takesN, *]; done))

theorem takes_ctr : CtrOK Try.prog 24 (pureC takesR) := by
  refine ctr_pure' Try.func24 rfl rfl Try.ntmps24 ?_
  rintro _ _ ⟨n, rfl, rfl⟩
  refine ⟨by simp, fun κ hκ => ?_⟩
  have hbig := bigW_gt
  rw [argEnv_eq]
  simp only [envA]
  have hΓ := noCtx_ok Try.prog
  repeat' (first | exact hb.elim | refine wS fun K hK => ?_ | refine wB ?_ | refine uR hΓ ?_ | refine uD hΓ fun B hB => ?_ | ((repeat ((fail_if_success (refine hK _ ?_)); clear hK K)); refine hK _ ?_; clear hK K) | refine u1 ?_ | refine uC (fun hb => ?_) fun hb => ?_ | refine u2 (fun hc => ?_) fun hc => ?_ | refine wI ?_ | refine ex_idx (by omega) ?_ | exact True.intro | fail)
  all_goals (first | omega | (simp [Try.results24, RetOK, upd_at, plainB, takesN, *]; done) | (simp [upd_at, takesN, *]; done))

theorem katB_bad {e : List Int} (h : ¬ (1 ≤ e.length ∧ e.length ≤ 40)) : katB e = false := katB_false.2 fun hk => by
  obtain ⟨x, _, rfl, h40⟩ := hk.ex
  have := x.steps_pos
  omega

def katValidR (args : List AV) (r : AV) : Prop := ∃ e : List Int, args = [ints e] ∧ e.length ≤ 1099511627776 ∧ r = .bool (katB e)

theorem specKatValid_ctr : CtrOK Try.prog 13 (pureC katValidR) := by
  refine ctr_pure' Try.func13 rfl rfl Try.ntmps13 ?_
  rintro _ _ ⟨e, rfl, hl, rfl⟩
  refine ⟨by simp, fun κ hκ => ?_⟩
  have hbig := bigW_gt
  rw [argEnv_eq]
  simp only [envA]
  have hΓ := ctxOf_ok (P := Try.prog) (cx l1In_ctr <| cx l2Takes_ctr <| cx0)
  repeat' (first | exact hb.elim | refine wS fun K hK => ?_ | refine wB ?_ | refine uR hΓ ?_ | refine uD hΓ fun B hB => ?_ | ((repeat ((fail_if_success (refine hK _ ?_)); clear hK K)); refine hK _ ?_; clear hK K) | refine u1 ?_ | refine uC (fun hb => ?_) fun hb => ?_ | refine u2 (fun hc => ?_) fun hc => ?_ | refine wI ?_ | refine ex_idx (by omega) ?_ | exact True.intro | fail)
  refine CW.loop (ι := Nat × Nat) (fun x => [(0, ints e), (3, I x.2), (4, I x.1)]) (fun x => x.1 ≤ e.length ∧ depthAt e x.1 x.2) (fun x => e.length - x.1) (0, 0) ?_ ?_
  · exact ⟨by (simp only [xe, xj, Nat.reduceEqDiff]; (try simp [view, viewL_map]); (try omega)), by simp, depthAt_zero e⟩
  rintro ⟨k, d⟩ ⟨hk, hd⟩
  have hdk := depthAt_le hd hk
  dsimp only at hk hd hdk ⊢
  simp only [envOf]
  repeat' (first | exact hb.elim | refine wS fun K hK => ?_ | refine wB ?_ | refine uR hΓ ?_ | refine uD hΓ fun B hB => ?_ | ((repeat ((fail_if_success (refine hK _ ?_)); clear hK K)); refine hK _ ?_; clear hK K) | refine u1 ?_ | refine uC (fun hb => ?_) fun hb => ?_ | refine u2 (fun hc => ?_) fun hc => ?_ | refine wI ?_ | refine ex_idx (by omega) ?_ | exact True.intro | fail)
  · have hkl : k < e.length := by omega
    have hnth : nth e k = e[k] := nth_getElem hkl
    have htk := takesN_le e[k]
    (first | refine wA rfl _ (⟨_, _, _, rfl, rfl⟩) ?_ | refine dA rfl _ (⟨_, _, _, rfl, rfl⟩) ?_); simp (maxSteps := 2000000) only [go_sem]
    repeat' (first | exact hb.elim | refine wS fun K hK => ?_ | refine wB ?_ | refine uR hΓ ?_ | refine uD hΓ fun B hB => ?_ | ((repeat ((fail_if_success (refine hK _ ?_)); clear hK K)); refine hK _ ?_; clear hK K) | refine u1 ?_ | refine uC (fun hb => ?_) fun hb => ?_ | refine u2 (fun hc => ?_) fun hc => ?_ | refine wI ?_ | refine ex_idx (by omega) ?_ | exact True.intro | fail)
    · (first | refine wA rfl _ (⟨_, rfl, rfl⟩) ?_ | refine dA rfl _ (⟨_, rfl, rfl⟩) ?_); simp (maxSteps := 2000000) only [go_sem]
      repeat' (first | exact hb.elim | refine wS fun K hK => ?_ | refine wB ?_ | refine uR hΓ ?_ | refine uD hΓ fun B hB => ?_ | ((repeat ((fail_if_success (refine hK _ ?_)); clear hK K)); refine hK _ ?_; clear hK K) | refine u1 ?_ | refine uC (fun hb => ?_) fun hb => ?_ | refine u2 (fun hc => ?_) fun hc => ?_ | refine wI ?_ | refine ex_idx (by omega) ?_ | exact True.intro | fail)
      · have hkb : katB e = false := katB_false.2 (depthAt_fail hd hkl (.inr (by rw [hnth]; omega)))
        simp [Try.results13, RetOK, RetP, backA, upd_at, plainB, getP, isOwn, anyOwn, isP, *]
      · (first | refine wA rfl _ (⟨_, rfl, rfl⟩) ?_ | refine dA rfl _ (⟨_, rfl, rfl⟩) ?_); simp (maxSteps := 2000000) only [go_sem]
        repeat' (first | exact hb.elim | refine wS fun K hK => ?_ | refine wB ?_ | refine uR hΓ ?_ | refine uD hΓ fun B hB => ?_ | ((repeat ((fail_if_success (refine hK _ ?_)); clear hK K)); refine hK _ ?_; clear hK K) | refine u1 ?_ | refine uC (fun hb => ?_) fun hb => ?_ | refine u2 (fun hc => ?_) fun hc => ?_ | refine wI ?_ | refine ex_idx (by omega) ?_ | exact True.intro | fail)
        have hst := depthAt_step hd hkl (by rw [hnth]; omega) (by rw [hnth]; omega) (by rw [hnth]; omega)
        rw [hnth] at hst
        refine ⟨(k + 1, d + 1 - takesN e[k]), ?_, ⟨by dsimp only; omega, hst⟩, by dsimp only; omega⟩
        (simp only [xe, xj, Nat.reduceEqDiff]; (try simp [view, viewL_map]); (try omega))
    · have hkb : katB e = false := katB_false.2 (depthAt_fail hd hkl (.inl (by rw [hnth]; exact hc)))
      simp [Try.results13, RetOK, RetP, backA, upd_at, plainB, getP, isOwn, anyOwn, isP, *]
  · have hke : k = e.length := by omega
    subst hke
    (first | refine wA rfl _ (⟨_, _, _, rfl, rfl⟩) ?_ | refine dA rfl _ (⟨_, _, _, rfl, rfl⟩) ?_); simp (maxSteps := 2000000) only [go_sem]
    repeat' (first | exact hb.elim | refine wS fun K hK => ?_ | refine wB ?_ | refine uR hΓ ?_ | refine uD hΓ fun B hB => ?_ | ((repeat ((fail_if_success (refine hK _ ?_)); clear hK K)); refine hK _ ?_; clear hK K) | refine u1 ?_ | refine uC (fun hb => ?_) fun hb => ?_ | refine u2 (fun hc => ?_) fun hc => ?_ | refine wI ?_ | refine ex_idx (by omega) ?_ | exact True.intro | fail)
    · have hkb := depthAt_end hd (by omega)
      have hd1 : decide (d = 1) = decide ((d : Int) = 1) := by rw [Bool.eq_iff_iff, decide_eq_true_eq, decide_eq_true_eq]; omega
      rw [hkb, hd1]
      simp [Try.results13, RetOK, RetP, backA, upd_at, plainB, getP, isOwn, anyOwn, isP]
    · have hkb := katB_bad (e := e) (by omega)
      simp [Try.results13, RetOK, RetP, backA, upd_at, plainB, getP, isOwn, anyOwn, isP, *]

theorem implKatValid_ctr : CtrOK Try.prog 11 (pureC katValidR) := by
  refine ctr_pure' Try.func11 rfl rfl Try.ntmps11 ?_
  rintro _ _ ⟨e, rfl, hl, rfl⟩
  refine ⟨by simp, fun κ hκ => ?_⟩
  have hbig := bigW_gt
  rw [argEnv_eq]
  simp only [envA]
  have hΓ := ctxOf_ok (P := Try.prog) (cx takes_ctr <| cx0)
  repeat' (first | exact hb.elim | refine wS fun K hK => ?_ | refine wB ?_ | refine uR hΓ ?_ | refine uD hΓ fun B hB => ?_ | ((repeat ((fail_if_success (refine hK _ ?_)); clear hK K)); refine hK _ ?_; clear hK K) | refine u1 ?_ | refine uC (fun hb => ?_) fun hb => ?_ | refine u2 (fun hc => ?_) fun hc => ?_ | refine wI ?_ | refine ex_idx (by omega) ?_ | exact True.intro | fail)
  · have hkb := katB_bad (e := e) (by omega)
    simp [Try.results11, RetOK, RetP, backA, upd_at, plainB, getP, isOwn, anyOwn, isP, *]
  · refine CW.loop (ι := Nat × Nat) (fun x => [(0, ints e), (3, I x.2), (14, ints e), (15, I e.length), (16, I x.1)]) (fun x => x.1 ≤ e.length ∧ depthAt e x.1 x.2) (fun x => e.length - x.1) (0, 0) ?_ ?_
    · exact ⟨by (simp only [xe, xj, Nat.reduceEqDiff]; (try simp [view, viewL_map]); (try omega)), by simp, depthAt_zero e⟩
    rintro ⟨k, d⟩ ⟨hk, hd⟩
    have hdk := depthAt_le hd hk
    dsimp only at hk hd hdk ⊢
    simp only [envOf]
    repeat' (first | exact hb.elim | refine wS fun K hK => ?_ | refine wB ?_ | refine uR hΓ ?_ | refine uD hΓ fun B hB => ?_ | ((repeat ((fail_if_success (refine hK _ ?_)); clear hK K)); refine hK _ ?_; clear hK K) | refine u1 ?_ | refine uC (fun hb => ?_) fun hb => ?_ | refine u2 (fun hc => ?_) fun hc => ?_ | refine wI ?_ | refine ex_idx (by omega) ?_ | exact True.intro | fail)
    · have hkl : k < e.length := by omega
      have hnth : nth e k = e[k] := nth_getElem hkl
      have htk := takesN_le e[k]
      (first | refine wA rfl _ (⟨_, rfl, rfl⟩) ?_ | refine dA rfl _ (⟨_, rfl, rfl⟩) ?_); simp (maxSteps := 2000000) only [go_sem]
      repeat' (first | exact hb.elim | refine wS fun K hK => ?_ | refine wB ?_ | refine uR hΓ ?_ | refine uD hΓ fun B hB => ?_ | ((repeat ((fail_if_success (refine hK _ ?_)); clear hK K)); refine hK _ ?_; clear hK K) | refine u1 ?_ | refine uC (fun hb => ?_) fun hb => ?_ | refine u2 (fun hc => ?_) fun hc => ?_ | refine wI ?_ | refine ex_idx (by omega) ?_ | exact True.intro | fail)
      · have hkb : katB e = false := katB_false.2 (depthAt_fail hd hkl (.inr (by rw [hnth]; omega)))
        simp [Try.results11, RetOK, RetP, backA, upd_at, plainB, getP, isOwn, anyOwn, isP, *]
      · (first | refine wA rfl _ (⟨_, rfl, rfl⟩) ?_ | refine dA rfl _ (⟨_, rfl, rfl⟩) ?_); simp (maxSteps := 2000000) only [go_sem]
        repeat' (first | exact hb.elim | refine wS fun K hK => ?_ | refine wB ?_ | refine uR hΓ ?_ | refine uD hΓ fun B hB => ?_ | ((repeat ((fail_if_success (refine hK _ ?_)); clear hK K)); refine hK _ ?_; clear hK K) | refine u1 ?_ | refine uC (fun hb => ?_) fun hb => ?_ | refine u2 (fun hc => ?_) fun hc => ?_ | refine wI ?_ | refine ex_idx (by omega) ?_ | exact True.intro | fail)
        have hst := depthAt_step hd hkl (by rw [hnth]; omega) (by rw [hnth]; omega) (by rw [hnth]; omega)
        rw [hnth] at hst
        refine ⟨(k + 1, d + 1 - takesN e[k]), ?_, ⟨by dsimp only; omega, hst⟩, by dsimp only; omega⟩
        (simp only [xe, xj, Nat.reduceEqDiff]; (try simp [view, viewL_map]); (try omega))
    · have hkb : katB e = false := katB_false.2 (depthAt_fail hd (by omega) (.inl (by rw [nth_getElem (by omega)]; omega)))
      simp [Try.results11, RetOK, RetP, backA, upd_at, plainB, getP, isOwn, anyOwn, isP, *]
    · have hkb : katB e = false := katB_false.2 (depthAt_fail hd (by omega) (.inl (by rw [nth_getElem (by omega)]; omega)))
      simp [Try.results11, RetOK, RetP, backA, upd_at, plainB, getP, isOwn, anyOwn, isP, *]
    · have hke : k = e.length := by omega
      subst hke
      have hkb := depthAt_end hd (by omega)
      have hd1 : decide (d = 1) = decide ((d : Int) = 1) := by rw [Bool.eq_iff_iff, decide_eq_true_eq, decide_eq_true_eq]; omega
      rw [hkb, hd1]
      simp [Try.results11, RetOK, RetP, backA, upd_at, plainB, getP, isOwn, anyOwn, isP]
  · have hkb := katB_bad (e := e) (by omega)
    simp [Try.results11, RetOK, RetP, backA, upd_at, plainB, getP, isOwn, anyOwn, isP, *]

end Go.Proofs.Ytehdfifncbokeaa

namespace Go.Proofs.Ytehdfifncbokeaa
set_option linter.unusedSimpArgs false
set_option linter.unusedVariables false
set_option maxRecDepth 8000
set_option maxHeartbeats 2000000
open Go Go.RowKit AV

def isActR (args : List AV) (r : AV) : Prop := ∃ n : Int, args = [I n] ∧ r = .bool (decide (16 ≤ n ∧ n ≤ 18))
theorem isAct_ctr : CtrOK Try.prog 50 (pureC isActR) := by
  refine ctr_pure' Try.func50 rfl rfl Try.ntmps50 ?_
  rintro _ _ ⟨n, rfl, rfl⟩
  refine ⟨by simp, fun κ hκ => ?_⟩
  have hbig := bigW_gt
  rw [argEnv_eq]
  simp only [envA]
  have hΓ := noCtx_ok Try.prog
  repeat' (first | exact hb.elim | refine wS fun K hK => ?_ | refine wB ?_ | refine uR hΓ ?_ | refine uD hΓ fun B hB => ?_ | ((repeat ((fail_if_success (refine hK _ ?_)); clear hK K)); refine hK _ ?_; clear hK K) | refine u1 ?_ | refine uC (fun hb => ?_) fun hb => ?_ | refine u2 (fun hc => ?_) fun hc => ?_ | refine wI ?_ | refine ex_idx (by omega) ?_ | exact True.intro | fail)
  · have : decide (16 ≤ n ∧ n ≤ 18) = decide (n ≤ 18) := by rw [Bool.eq_iff_iff, decide_eq_true_eq, decide_eq_true_eq]; omega
    rw [this]
    simp [Try.results50, RetOK, RetP, backA, upd_at, plainB, getP, isOwn, anyOwn, isP]
  · have : decide (16 ≤ n ∧ n ≤ 18) = false := by rw [decide_eq_false_iff_not]; omega
    rw [this]
    simp [Try.results50, RetOK, RetP, backA, upd_at, plainB, getP, isOwn, anyOwn, isP]
def holdsR (args : List AV) (r : AV) : Prop := ∃ s k : Nat, args = [I s, I k] ∧ s < 1099511627776 ∧ k < 64 ∧ r = .bool (s.testBit k)
theorem holds_ctr : CtrOK Try.prog 51 (pureC holdsR) := by
  refine ctr_pure' Try.func51 rfl rfl Try.ntmps51 ?_
  rintro _ _ ⟨s, k, rfl, hs, hk, rfl⟩
  refine ⟨by simp, fun κ hκ => ?_⟩
  have hbig := bigW_gt
  rw [argEnv_eq]
  simp only [envA]
  have hΓ := noCtx_ok Try.prog
  have h0 := Nat.div_le_self s (2 ^ k)
  repeat' (first | refine wS fun K hK => ?_ | refine wB ?_ | ((first | refine wR hΓ ?_ | refine wD hΓ fun B hB => ?_); simp (maxSteps := 2000000) only [go_sem, shr_nat]) | ((repeat ((fail_if_success (refine hK _ ?_)); clear hK K)); refine hK _ ?_; clear hK K) | (refine w1 ?_; simp only [xs, xi, Nat.reduceEqDiff, reduceCtorEq]) | (refine wC (fun hb => ?_) fun hb => ?_ <;> (try simp only [xb, reduceCtorEq] at hb)) | (refine w2 (fun hc => ?_) (fun hc => ?_) <;> (try simp only [xc] at hc) <;> (try simp only [go_sem, hc, shr_nat]) <;> (try simp only [xb] at hc)) | refine wI ?_ | refine ex_idx (by omega) ?_ | fail)
  have : s.testBit k = decide ((bitN s k : Int) = 1) := by
    unfold bitN
    cases s.testBit k <;> rfl
  rw [this]
  simp [Try.results51, RetOK, upd_at, plainB, Nat.and_one_is_mod, bitN_eq]

theorem lexLt_append : ∀ (p a b : List Int), lexLt (p ++ a) (p ++ b) = lexLt a b
  | [], _, _ => rfl
  | x :: p, a, b => by rw [List.cons_append, List.cons_append, lexLt_cons, if_pos rfl]; exact lexLt_append p a b
theorem lex_ne {a b : List Int} {k : Nat} (ha : k < a.length) (hb : k < b.length) (h : a.take k = b.take k) (hne : ¬ a[k] = b[k]) : lexLt a b = decide (a[k] < b[k]) ∧ a ≠ b := by
  refine ⟨?_, fun e => hne (by subst e; rfl)⟩
  have e1 := List.take_append_drop k a
  have e2 := List.take_append_drop k b
  rw [List.drop_eq_getElem_cons ha] at e1
  rw [List.drop_eq_getElem_cons hb] at e2
  have e3 : lexLt a b = lexLt (a.take k ++ a[k] :: a.drop (k + 1)) (a.take k ++ b[k] :: b.drop (k + 1)) := by rw [e1, h, e2]
  rw [e3, lexLt_append, lexLt_cons, if_neg hne]
theorem lex_end {a b : List Int} {k : Nat} (ha : k ≤ a.length) (hb : k ≤ b.length) (h : a.take k = b.take k) (he : k = a.length ∨ k = b.length) : lexLt a b = decide (a.length < b.length) ∧ (a = b ↔ a.length = b.length) := by
  have e1 := List.take_append_drop k a
  have e2 := List.take_append_drop k b
  have e3 : lexLt a b = lexLt (a.take k ++ a.drop k) (a.take k ++ b.drop k) := by rw [e1, h, e2]
  rw [lexLt_append] at e3
  have l1 : (a.drop k).length = a.length - k := List.length_drop
  have l2 : (b.drop k).length = b.length - k := List.length_drop
  refine ⟨?_, fun e => by rw [e], fun e => ?_⟩
  · rw [e3]
    cases hx : a.drop k with
    | nil =>
      rw [hx] at l1
      cases hy : b.drop k with
      | nil =>
        rw [hy] at l2
        simp only [List.length_nil] at l1 l2
        rw [lexLt_nil]; exact (decide_eq_false (by omega)).symm
      | cons y ys =>
        rw [hy] at l2
        simp only [List.length_nil, List.length_cons] at l1 l2
        exact (decide_eq_true (by omega)).symm
    | cons x xs =>
      rw [hx] at l1
      cases hy : b.drop k with
      | nil =>
        rw [hy] at l2
        simp only [List.length_nil, List.length_cons] at l1 l2
        rw [lexLt_nil]; exact (decide_eq_false (by omega)).symm
      | cons y ys =>
        rw [hy] at l2
        simp only [List.length_cons] at l1 l2
        omega
  · have h1 : a.take k = a := List.take_of_length_le (by omega)
    have h2 : b.take k = b := List.take_of_length_le (by omega)
    rw [h1, h2] at h; exact h
theorem lex_next {a b : List Int} {k : Nat} (ha : k < a.length) (hb : k < b.length) (h : a.take k = b.take k) (he : a[k] = b[k]) : a.take (k + 1) = b.take (k + 1) := take_succ_eq ha hb h he
theorem decide_cast {a b : Nat} : decide (a < b) = decide ((a : Int) < (b : Int)) := by rw [Bool.eq_iff_iff, decide_eq_true_eq, decide_eq_true_eq]; omega
theorem decide_castE {a b : Nat} : decide (a = b) = decide ((a : Int) = (b : Int)) := by rw [Bool.eq_iff_iff, decide_eq_true_eq, decide_eq_true_eq]; omega

def sameR (args : List AV) (r : AV) : Prop := ∃ a b : List Int, args = [ints a, ints b] ∧ a.length ≤ 1099511627776 ∧ b.length ≤ 1099511627776 ∧ r = .bool (decide (a = b))
theorem l1Same_ctr : CtrOK Try.prog 44 (pureC sameR) := by
  refine ctr_pure' Try.func44 rfl rfl Try.ntmps44 ?_
  rintro _ _ ⟨a, b, rfl, ha, hb0, rfl⟩
  refine ⟨by simp, fun κ hκ => ?_⟩
  have hbig := bigW_gt
  rw [argEnv_eq]
  simp only [envA]
  have hΓ := noCtx_ok Try.prog
  repeat' (first | exact hb.elim | refine wS fun K hK => ?_ | refine wB ?_ | refine uR hΓ ?_ | refine uD hΓ fun B hB => ?_ | ((repeat ((fail_if_success (refine hK _ ?_)); clear hK K)); refine hK _ ?_; clear hK K) | refine u1 ?_ | refine uC (fun hb => ?_) fun hb => ?_ | refine u2 (fun hc => ?_) fun hc => ?_ | refine wI ?_ | refine ex_idx (by omega) ?_ | exact True.intro | fail)
  refine CW.loop (ι := Nat) (fun k => [(0, ints a), (1, ints b), (5, I k)]) (fun k => k ≤ a.length ∧ k ≤ b.length ∧ a.take k = b.take k) (fun k => a.length - k) 0 ?_ ?_
  · exact ⟨by (simp only [xe, xj, Nat.reduceEqDiff]; (try simp [view, viewL_map]); (try omega)), by omega, by omega, by simp⟩
  rintro k ⟨hka, hkb, hab⟩
  simp only [envOf]
  repeat' (first | exact hb.elim | refine wS fun K hK => ?_ | refine wB ?_ | refine uR hΓ ?_ | refine uD hΓ fun B hB => ?_ | ((repeat ((fail_if_success (refine hK _ ?_)); clear hK K)); refine hK _ ?_; clear hK K) | refine u1 ?_ | refine uC (fun hb => ?_) fun hb => ?_ | refine u2 (fun hc => ?_) fun hc => ?_ | refine wI ?_ | refine ex_idx (by omega) ?_ | exact True.intro | fail)
  · have hx := (lex_ne (by omega) (by omega) hab hb).2
    have h2 : decide (a = b) = false := decide_eq_false hx
    rw [h2]
    simp [Try.results44, RetOK, RetP, backA, upd_at, plainB, getP, isOwn, anyOwn, isP]
  · exact ⟨k + 1, by (simp only [xe, xj, Nat.reduceEqDiff]; (try simp [view, viewL_map]); (try omega)), ⟨by omega, by omega, lex_next (by omega) (by omega) hab hb⟩, by omega⟩
  all_goals (
    have h2 : decide (a = b) = decide (a.length = b.length) := by rw [Bool.eq_iff_iff, decide_eq_true_eq, decide_eq_true_eq]; exact (lex_end hka hkb hab (by omega)).2
    rw [h2, decide_castE]
    simp [Try.results44, RetOK, RetP, backA, upd_at, plainB, getP, isOwn, anyOwn, isP])

def lessR (args : List AV) (r : AV) : Prop := ∃ a b : List Int, args = [ints a, ints b] ∧ a.length ≤ 1099511627776 ∧ b.length ≤ 1099511627776 ∧ r = .bool (lexLt a b)
theorem l1Less_ctr : CtrOK Try.prog 43 (pureC lessR) := by
  refine ctr_pure' Try.func43 rfl rfl Try.ntmps43 ?_
  rintro _ _ ⟨a, b, rfl, ha, hb0, rfl⟩
  refine ⟨by simp, fun κ hκ => ?_⟩
  have hbig := bigW_gt
  rw [argEnv_eq]
  simp only [envA]
  have hΓ := noCtx_ok Try.prog
  repeat' (first | exact hb.elim | refine wS fun K hK => ?_ | refine wB ?_ | refine uR hΓ ?_ | refine uD hΓ fun B hB => ?_ | ((repeat ((fail_if_success (refine hK _ ?_)); clear hK K)); refine hK _ ?_; clear hK K) | refine u1 ?_ | refine uC (fun hb => ?_) fun hb => ?_ | refine u2 (fun hc => ?_) fun hc => ?_ | refine wI ?_ | refine ex_idx (by omega) ?_ | exact True.intro | fail)
  refine CW.loop (ι := Nat) (fun k => [(0, ints a), (1, ints b), (5, I k)]) (fun k => k ≤ a.length ∧ k ≤ b.length ∧ a.take k = b.take k) (fun k => a.length - k) 0 ?_ ?_
  · exact ⟨by (simp only [xe, xj, Nat.reduceEqDiff]; (try simp [view, viewL_map]); (try omega)), by omega, by omega, by simp⟩
  rintro k ⟨hka, hkb, hab⟩
  simp only [envOf]
  repeat' (first | exact hb.elim | refine wS fun K hK => ?_ | refine wB ?_ | refine uR hΓ ?_ | refine uD hΓ fun B hB => ?_ | ((repeat ((fail_if_success (refine hK _ ?_)); clear hK K)); refine hK _ ?_; clear hK K) | refine u1 ?_ | refine uC (fun hb => ?_) fun hb => ?_ | refine u2 (fun hc => ?_) fun hc => ?_ | refine wI ?_ | refine ex_idx (by omega) ?_ | exact True.intro | fail)
  · rw [(lex_ne (by omega) (by omega) hab hb).1]
    simp [Try.results43, RetOK, RetP, backA, upd_at, plainB, getP, isOwn, anyOwn, isP]
  · exact ⟨k + 1, by (simp only [xe, xj, Nat.reduceEqDiff]; (try simp [view, viewL_map]); (try omega)), ⟨by omega, by omega, lex_next (by omega) (by omega) hab hb⟩, by omega⟩
  all_goals (
    rw [(lex_end hka hkb hab (by omega)).1, decide_cast]
    simp [Try.results43, RetOK, RetP, backA, upd_at, plainB, getP, isOwn, anyOwn, isP])

end Go.Proofs.Ytehdfifncbokeaa

namespace Go.Proofs.Ytehdfifncbokeaa
set_option linter.unusedSimpArgs false
set_option linter.unusedVariables false
set_option maxRecDepth 8000
set_option maxHeartbeats 2000000
open Go Go.RowKit AV

end Go.Proofs.Ytehdfifncbokeaa
