/- The reference's Alive and Determined, walked by the engine. -/
import Derived.Test.YtehdfifncbokeaaGreatF1
import Derived.Test.YtehdfifncbokeaaGreatEngMin
namespace Go.Proofs.YtehdfifncbokeaaGreat
set_option linter.unusedSimpArgs false
set_option linter.unusedVariables false
set_option maxRecDepth 8000
set_option maxHeartbeats 2000000
open Go Go.RowKit AV

theorem allD_yes {e : List Int} (h : katB e = true) : allD e = allL e := if_pos h
theorem allD_no {e : List Int} (h : katB e = false) : allD e = [] := if_neg (by simp [h])
theorem allL_facts {x : Ex} (hw : x.wf) (hl : x.steps.length ≤ 40) : (∀ t ∈ allL x.steps, InLeft x t ∧ t.length ≤ 1601) ∧ (allL x.steps).length ≤ 41 ∧ 0 < (allL x.steps).length := by
  refine ⟨fun t ht => ⟨allL_left hw t ht, (allL_left hw t ht).short hl⟩, allL_full hw hl, ?_⟩
  have := allL_head x.steps
  cases hh : allL x.steps with
  | nil => rw [hh] at this; cases this
  | cons a l => simp

end Go.Proofs.YtehdfifncbokeaaGreat

namespace Go.Proofs.YtehdfifncbokeaaGreat
set_option linter.unusedSimpArgs false
set_option linter.unusedVariables false
set_option maxRecDepth 8000
set_option maxHeartbeats 2000000
open Go Go.RowKit AV

def autoOfR (args : List AV) (r : AV) : Prop := ∃ e : List Int, args = [ints e] ∧ e.length ≤ 1048576 ∧ r = agg [oints (autD e).ends, oorows (autD e).next]

theorem specAutoOf_ctr : CtrOK Tryz.prog 7 (pureC autoOfR) := by
  refine ctr_pure' Tryz.func7 rfl rfl Tryz.ntmps7 ?_
  rintro _ _ ⟨e, rfl, hl, rfl⟩
  refine ⟨by simp, fun κ hκ => ?_⟩
  have hbig := bigW_gt
  rw [argEnv_eq]
  simp only [envA]
  have hΓ := ctxOf_ok (P := Tryz.prog) (cx specAllParts_ctr <| cx l4Ends_ctr <| cx l4Parts_ctr <| cx l4Has_ctr <| cx0)
  repeat' (first | exact hb.elim | refine wS fun K hK => ?_ | refine wB ?_ | refine uR hΓ ?_ | refine uD hΓ fun B hB => ?_ | ((repeat ((fail_if_success (refine hK _ ?_)); clear hK K)); refine hK _ ?_; clear hK K) | refine u1 ?_ | refine uC (fun hb => ?_) fun hb => ?_ | refine u2 (fun hc => ?_) fun hc => ?_ | refine wI ?_ | refine ex_idx (by omega) ?_ | exact True.intro | fail)
  (first | refine wA rfl _ (⟨e, rfl, by omega, rfl⟩) ?_ | refine dA rfl _ (⟨e, rfl, by omega, rfl⟩) ?_); simp (maxSteps := 2000000) only [go_sem]
  repeat' (first | exact hb.elim | refine wS fun K hK => ?_ | refine wB ?_ | refine uR hΓ ?_ | refine uD hΓ fun B hB => ?_ | ((repeat ((fail_if_success (refine hK _ ?_)); clear hK K)); refine hK _ ?_; clear hK K) | refine u1 ?_ | refine uC (fun hb => ?_) fun hb => ?_ | refine u2 (fun hc => ?_) fun hc => ?_ | refine wI ?_ | refine ex_idx (by omega) ?_ | exact True.intro | fail)
  refine CW.loop (ι := Nat) (fun k => [(2, box [own [], own []]), (3, rows (allD e)), (4, box [oints (endsM ((allD e).take k)), oorows (((allD e).take k).map fun t => rowM (allD e) t 12)]), (5, I k)]) (fun k => k ≤ (allD e).length ∧ (k = 0 ∨ (allD e).length ≤ 10)) (fun k => (allD e).length - k) 0 ?_ ?_
  · exact ⟨by ((simp only [xe, xj, Nat.reduceEqDiff]; (try simp [view, viewL_map]); (try omega)); simp [endsM]), by omega, .inl rfl⟩
  rintro k ⟨hk, hk10⟩
  simp only [envOf]
  cases hkb : katB e with
  | false =>
    have hD := allD_no hkb
    rw [hD] at hk hk10 ⊢
    simp only [List.take_nil, endsM, List.map_nil]
    repeat' (first | exact hb.elim | refine wS fun K hK => ?_ | refine wB ?_ | refine uR hΓ ?_ | refine uD hΓ fun B hB => ?_ | ((repeat ((fail_if_success (refine hK _ ?_)); clear hK K)); refine hK _ ?_; clear hK K) | refine u1 ?_ | refine uC (fun hb => ?_) fun hb => ?_ | refine u2 (fun hc => ?_) fun hc => ?_ | refine wI ?_ | refine ex_idx (by omega) ?_ | exact True.intro | fail)
    all_goals first | (exfalso; simp at hk; omega) | (rw [autD_no (e := e) (by simp [hkb])]; (rw [Tryz.results7]; exact retOK_box Ty_aggT_27 Ty_szT_27 (by simp [upd_at])))
  | true =>
    obtain ⟨x, hw, rfl, h40⟩ := katB_tree hkb
    have hD := allD_yes hkb
    obtain ⟨hfa, hln, hps0⟩ := allL_facts hw h40
    rw [hD] at hk hk10 ⊢
    have hno : 10 < (allL x.steps).length → autD x.steps = ⟨[], []⟩ := fun h => autD_no (by omega)
    have hyes : (allL x.steps).length ≤ 10 → autD x.steps = ⟨endsM (allL x.steps), (allL x.steps).map fun t => rowM (allL x.steps) t 12⟩ := fun h => autD_yes hkb h
    generalize hA : allL x.steps = A at *
    repeat' (first | exact hb.elim | refine wS fun K hK => ?_ | refine wB ?_ | refine uR hΓ ?_ | refine uD hΓ fun B hB => ?_ | ((repeat ((fail_if_success (refine hK _ ?_)); clear hK K)); refine hK _ ?_; clear hK K) | refine u1 ?_ | refine uC (fun hb => ?_) fun hb => ?_ | refine u2 (fun hc => ?_) fun hc => ?_ | refine wI ?_ | refine ex_idx (by omega) ?_ | exact True.intro | fail)
    rotate_left
    · have hk0 : k = 0 := by omega
      subst hk0
      rw [hno (by omega)]
      simp only [List.take_zero, endsM, List.map_nil]
      (rw [Tryz.results7]; exact retOK_box Ty_aggT_27 Ty_szT_27 (by simp [upd_at]))
    · have hke : k = A.length := by omega
      subst hke
      rw [List.take_length, hyes (by omega)]
      (rw [Tryz.results7]; exact retOK_box Ty_aggT_27 Ty_szT_27 (by simp [upd_at]))
    have hkl : k < A.length := by omega
    have h10 : A.length ≤ 10 := by omega
    obtain ⟨hin, hsh⟩ := hfa _ (List.getElem_mem hkl)
    obtain ⟨p, hpw, hps, hpe⟩ := hin.tree
    have hel : (endsM (A.take k)).length = k := by simp [endsM]; omega
    have hrl : ((A.take k).map fun t => rowM A t 12).length = k := by simp; omega
    (first | refine wA rfl _ (⟨p, by rw [hps], hpw, by rw [hps]; omega, rfl⟩) ?_ | refine dA rfl _ (⟨p, by rw [hps], hpw, by rw [hps]; omega, rfl⟩) ?_); simp (maxSteps := 2000000) only [go_sem]
    repeat' (first | exact hb.elim | refine wS fun K hK => ?_ | refine wB ?_ | refine uR hΓ ?_ | refine uD hΓ fun B hB => ?_ | ((repeat ((fail_if_success (refine hK _ ?_)); clear hK K)); refine hK _ ?_; clear hK K) | refine u1 ?_ | refine uC (fun hb => ?_) fun hb => ?_ | refine u2 (fun hc => ?_) fun hc => ?_ | refine wI ?_ | refine ex_idx (by omega) ?_ | exact True.intro | fail)
    refine CW.loop (ι := Nat) (fun m => [(2, box [own [], own []]), (3, rows A), (4, box [oints (endsM (A.take (k + 1))), oorows ((A.take k).map fun t => rowM A t 12)]), (5, I k), (6, oints (rowM A A[k] m)), (7, I m)]) (fun m => m ≤ 12) (fun m => 12 - m) 0 ?_ ?_
    · exact ⟨by ((simp only [xe, xj, Nat.reduceEqDiff]; (try simp [view, viewL_map]); (try omega)); simp [endsM_take hkl, hpe, rowM]), by omega⟩
    rintro m hm
    simp only [envOf]
    have hrm : (rowM A A[k] m).length = m := rowM_len _ _ _
    repeat' (first | exact hb.elim | refine wS fun K hK => ?_ | refine wB ?_ | refine uR hΓ ?_ | refine uD hΓ fun B hB => ?_ | ((repeat ((fail_if_success (refine hK _ ?_)); clear hK K)); refine hK _ ?_; clear hK K) | refine u1 ?_ | refine uC (fun hb => ?_) fun hb => ?_ | refine u2 (fun hc => ?_) fun hc => ?_ | refine wI ?_ | refine ex_idx (by omega) ?_ | exact True.intro | fail)
    rotate_left
    · have hm12 : m = 12 := by omega
      subst hm12
      refine ⟨k + 1, ?_, ⟨by omega, .inr h10⟩, by omega⟩
      rw [rows_take hkl]
      (simp only [xe, xj, Nat.reduceEqDiff]; (try simp [view, viewL_map]); (try omega))
      try simp
    have hm2 : m < 12 := by omega
    have e3 : (m : Int) / 3 = ((m / 3 : Nat) : Int) := by omega
    have e4 : (m : Int) % 3 = ((m % 3 : Nat) : Int) := by omega
    have hpo : partsL (m / 3) (16 + ((m % 3 : Nat) : Int)) p = leftM A[k] m := by rw [leftM, ← hps, partsOfL_steps hpw]
    have hbd := partsL_bd (x := p) (by rw [hps]; omega) hpw (atom := m / 3) (act := 16 + ((m % 3 : Nat) : Int)) (by omega)
    (first | refine wA rfl _ (⟨p, m / 3, 16 + ((m % 3 : Nat) : Int), by rw [hps]; simp, hpw, by rw [hps]; omega, by omega, by omega, by omega, rfl⟩) ?_ | refine dA rfl _ (⟨p, m / 3, 16 + ((m % 3 : Nat) : Int), by rw [hps]; simp, hpw, by rw [hps]; omega, by omega, by omega, by omega, rfl⟩) ?_); simp (maxSteps := 2000000) only [go_sem]
    rw [hpo] at hbd ⊢
    generalize hL : leftM A[k] m = L at *
    repeat' (first | exact hb.elim | refine wS fun K hK => ?_ | refine wB ?_ | refine uR hΓ ?_ | refine uD hΓ fun B hB => ?_ | ((repeat ((fail_if_success (refine hK _ ?_)); clear hK K)); refine hK _ ?_; clear hK K) | refine u1 ?_ | refine uC (fun hb => ?_) fun hb => ?_ | refine u2 (fun hc => ?_) fun hc => ?_ | refine wI ?_ | refine ex_idx (by omega) ?_ | exact True.intro | fail)
    refine CW.loop (ι := Nat) (fun j => [(2, box [own [], own []]), (3, rows A), (4, box [oints (endsM (A.take (k + 1))), oorows ((A.take k).map fun t => rowM A t 12)]), (5, I k), (6, oints (rowM A A[k] m)), (7, I m), (8, I ((sumB (hasP A L) j : Nat) : Int)), (9, rows L), (10, I j)]) (fun j => j ≤ A.length) (fun j => A.length - j) 0 ?_ ?_
    · exact ⟨by ((simp only [xe, xj, Nat.reduceEqDiff]; (try simp [view, viewL_map]); (try omega)); simp [sumB]), by omega⟩
    rintro j hj
    simp only [envOf]
    repeat' (first | exact hb.elim | refine wS fun K hK => ?_ | refine wB ?_ | refine uR hΓ ?_ | refine uD hΓ fun B hB => ?_ | ((repeat ((fail_if_success (refine hK _ ?_)); clear hK K)); refine hK _ ?_; clear hK K) | refine u1 ?_ | refine uC (fun hb => ?_) fun hb => ?_ | refine u2 (fun hc => ?_) fun hc => ?_ | refine wI ?_ | refine ex_idx (by omega) ?_ | exact True.intro | fail)
    · have hjl : j < A.length := by omega
      have hAj := (hfa _ (List.getElem_mem hjl)).2
      have hgd : A.getD j [] = A[j] := by simp [List.getD, hjl]
      have hS := sumB_lt (hasP A L) j
      have hS2 : 2 ^ j ≤ 2 ^ 10 := Nat.pow_le_pow_right (by omega) (by omega)
      obtain ⟨q, hq⟩ : ∃ q : Nat, q = 2 ^ j := ⟨_, rfl⟩
      have e5 : (1 : Int) * 2 ^ j = (q : Int) := by rw [hq]; simp
      have hsc : sumB (hasP A L) (j + 1) = sumB (hasP A L) j + (hasP A L j).toNat * 2 ^ j := rfl
      rw [← hq] at hS hS2 hsc
      (first | refine wA rfl _ (⟨L, A[j], rfl, by omega, fun s hs => Nat.le_trans (hbd.2 s hs) (by omega), by omega, rfl⟩) ?_ | refine dA rfl _ (⟨L, A[j], rfl, by omega, fun s hs => Nat.le_trans (hbd.2 s hs) (by omega), by omega, rfl⟩) ?_); simp (maxSteps := 2000000) only [go_sem]
      repeat' (first | refine wS fun K hK => ?_ | refine wB ?_ | ((first | refine wR hΓ ?_ | refine wD hΓ fun B hB => ?_); simp (maxSteps := 2000000) only [go_sem, e5]) | ((repeat ((fail_if_success (refine hK _ ?_)); clear hK K)); refine hK _ ?_; clear hK K) | (refine w1 ?_; simp only [xs, xi, Nat.reduceEqDiff, reduceCtorEq]) | (refine wC (fun hb => ?_) fun hb => ?_ <;> (try simp only [xb, reduceCtorEq] at hb)) | (refine w2 (fun hc => ?_) (fun hc => ?_) <;> (try simp only [xc] at hc) <;> (try simp only [go_sem, hc, e5]) <;> (try simp only [xb] at hc)) | refine wI ?_ | refine ex_idx (by omega) ?_ | fail)
      · have hh : hasP A L j = true := by rw [hasP, hgd, decide_eq_true_eq]; assumption
        rw [hh] at hsc
        refine ⟨j + 1, ?_, by omega, by omega⟩
        rw [hsc]
        (simp only [xe, xj, Nat.reduceEqDiff]; (try simp [view, viewL_map]); (try omega))
      · have hh : hasP A L j = false := by rw [hasP, hgd, decide_eq_false_iff_not]; assumption
        rw [hh] at hsc
        refine ⟨j + 1, ?_, by omega, by omega⟩
        rw [hsc]
        (simp only [xe, xj, Nat.reduceEqDiff]; (try simp [view, viewL_map]); (try omega))
    · have hje : j = A.length := by omega
      subst hje
      refine ⟨m + 1, ?_, by omega, by omega⟩
      rw [rowM_succ, hL, setN]
      (simp only [xe, xj, Nat.reduceEqDiff]; (try simp [view, viewL_map]); (try omega))

end Go.Proofs.YtehdfifncbokeaaGreat
