/- Expressions joined, in the program and in the reference. Walked by the engine. -/
import Derived.Test.YtehdfifncbokeaaR4
import Derived.Test.YtehdfifncbokeaaEngMin
namespace Go.Proofs.Ytehdfifncbokeaa
set_option linter.unusedSimpArgs false
set_option linter.unusedVariables false
set_option maxRecDepth 8000
set_option maxHeartbeats 2000000
open Go Go.RowKit AV

noncomputable def joinB (L : List (List Int)) : Bool := L.all katB && decide (L.flatten.length + 1 ≤ 40)
def joinedR (args : List AV) (r : AV) : Prop := ∃ (n : Int) (L : List (List Int)), args = [I n, rows L] ∧ L.length ≤ 8 ∧ (∀ x ∈ L, x.length ≤ 1048576) ∧ r = .tup [oints (if joinB L then L.flatten ++ [n] else []), .bool (joinB L)]
theorem joinB_bad {L : List (List Int)} {k : Nat} (hk : k < L.length) (h : katB L[k] = false) : joinB L = false := by
  unfold joinB
  rw [show L.all katB = false from by
    rw [List.all_eq_false]
    exact ⟨L[k], List.getElem_mem hk, by simp [h]⟩, Bool.false_and]

theorem joined_ctr : CtrOK Try.prog 17 (pureC joinedR) := by
  refine ctr_pure' Try.func17 rfl rfl Try.ntmps17 ?_
  rintro _ _ ⟨n, L, rfl, hL, hr, rfl⟩
  refine ⟨by simp, fun κ hκ => ?_⟩
  have hbig := bigW_gt
  rw [argEnv_eq]
  simp only [envA]
  have hΓ := ctxOf_ok (P := Try.prog) (cx implKatValid_ctr <| cx0)
  repeat' (first | exact hb.elim | refine wS fun K hK => ?_ | refine wB ?_ | refine uR hΓ ?_ | refine uD hΓ fun B hB => ?_ | ((repeat ((fail_if_success (refine hK _ ?_)); clear hK K)); refine hK _ ?_; clear hK K) | refine u1 ?_ | refine uC (fun hb => ?_) fun hb => ?_ | refine u2 (fun hc => ?_) fun hc => ?_ | refine wI ?_ | refine ex_idx (by omega) ?_ | exact True.intro | fail)
  refine CW.loop (ι := Nat) (fun k => [(0, I n), (6, oints (L.take k).flatten), (9, rows L), (10, I L.length), (11, I (k : Nat))]) (fun k => k ≤ L.length ∧ ∀ i (h : i < L.length), i < k → katB L[i] = true) (fun k => L.length - k) 0 ?_ ?_
  · exact ⟨by (simp only [xe, xj, Nat.reduceEqDiff]; (try simp [view, viewL_map]); (try omega)), by omega, by intros; omega⟩
  rintro k ⟨hk, hv⟩
  simp only [envOf]
  have hfl : ((L.take k).flatten).length ≤ 40 * k := by
    clear hL
    revert hv
    induction k with
    | zero => intro _; simp
    | succ k ih =>
      intro hv
      have hkL : k < L.length := by omega
      rw [List.take_succ_eq_append_getElem hkL, List.flatten_append, List.length_append]
      have h1 := ih (by omega) fun i h hi => hv i h (by omega)
      have h2 := (katB_true.1 (hv k hkL (by omega))).1
      have e1 : [L[k]].flatten = L[k] := by simp
      rw [e1]
      omega
  repeat' (first | exact hb.elim | refine wS fun K hK => ?_ | refine wB ?_ | refine uR hΓ ?_ | refine uD hΓ fun B hB => ?_ | ((repeat ((fail_if_success (refine hK _ ?_)); clear hK K)); refine hK _ ?_; clear hK K) | refine u1 ?_ | refine uC (fun hb => ?_) fun hb => ?_ | refine u2 (fun hc => ?_) fun hc => ?_ | refine wI ?_ | refine ex_idx (by omega) ?_ | exact True.intro | fail)
  · have hkL : k < L.length := by omega
    obtain ⟨V, hV⟩ : ∃ V, katB L[k] = V := ⟨_, rfl⟩
    have hxl := hr _ (List.getElem_mem hkL)
    (first | refine wA rfl ?_ ?_ ?_ | refine dA rfl ?_ ?_ ?_); exact (.bool V); exact (⟨L[k], rfl, by omega, by rw [hV]⟩); simp (maxSteps := 2000000) only [go_sem]
    cases V with
    | false =>
      repeat' (first | exact hb.elim | refine wS fun K hK => ?_ | refine wB ?_ | refine uR hΓ ?_ | refine uD hΓ fun B hB => ?_ | ((repeat ((fail_if_success (refine hK _ ?_)); clear hK K)); refine hK _ ?_; clear hK K) | refine u1 ?_ | refine uC (fun hb => ?_) fun hb => ?_ | refine u2 (fun hc => ?_) fun hc => ?_ | refine wI ?_ | refine ex_idx (by omega) ?_ | exact True.intro | fail)
      rw [joinB_bad hkL hV]
      (rw [Try.results17]; refine ⟨_, _, rfl, by decide, rfl, rfl, ?_, ?_⟩ <;> simp [upd_at])
    | true =>
      have h40 := (katB_true.1 hV).1
      repeat' (first | exact hb.elim | refine wS fun K hK => ?_ | refine wB ?_ | refine uR hΓ ?_ | refine uD hΓ fun B hB => ?_ | ((repeat ((fail_if_success (refine hK _ ?_)); clear hK K)); refine hK _ ?_; clear hK K) | refine u1 ?_ | refine uC (fun hb => ?_) fun hb => ?_ | refine u2 (fun hc => ?_) fun hc => ?_ | refine wI ?_ | refine ex_idx (by omega) ?_ | exact True.intro | fail)
      refine ⟨k + 1, ?_, ⟨by omega, fun i h hi => ?_⟩, by omega⟩
      · rw [List.take_succ_eq_append_getElem hkL, List.flatten_append]
        (simp only [xe, xj, Nat.reduceEqDiff]; (try simp [view, viewL_map]); (try omega))
      · rcases Nat.lt_or_ge i k with g | g
        · exact hv i h g
        · obtain rfl : i = k := by omega
          exact hV
  all_goals
    obtain rfl : k = L.length := by omega
    rw [List.take_length] at hfl
    have hall : L.all katB = true := List.all_eq_true.2 fun x hx => by
      obtain ⟨i, hi, rfl⟩ := List.getElem_of_mem hx
      exact hv i hi hi
    have hJ : joinB L = decide (L.flatten.length + 1 ≤ 40) := by unfold joinB; rw [hall, Bool.true_and]
    simp only [List.take_length, List.length_append, List.length_map, List.length_singleton] at hb ⊢
  · rw [decide_eq_false (by omega)] at hJ
    rw [hJ]
    (rw [Try.results17]; refine ⟨_, _, rfl, by decide, rfl, rfl, ?_, ?_⟩ <;> simp [upd_at])
  · rw [decide_eq_true (by omega)] at hJ
    rw [hJ]
    (rw [Try.results17]; refine ⟨_, _, rfl, by decide, rfl, rfl, ?_, ?_⟩ <;> simp [upd_at])

noncomputable def stB (a : List Int) : Bool := katB a && katB (a ++ [21])
def starR (args : List AV) (r : AV) : Prop := ∃ a : List Int, args = [ints a] ∧ a.length ≤ 1048576 ∧ r = .tup [oints (if stB a then a ++ [21] else []), .bool (stB a)]
theorem stB_join (a : List Int) : joinB [a] = stB a := by
  unfold joinB stB
  simp only [List.all_cons, List.all_nil, Bool.and_true, List.flatten_cons, List.flatten_nil, List.append_nil]
  cases h1 : katB a <;> simp only [Bool.false_and, Bool.true_and]
  cases h3 : katB (a ++ [21]) with
  | true =>
    have := (katB_true.1 h3).1
    simp at this
    exact decide_eq_true (by omega)
  | false =>
    refine decide_eq_false fun h => ?_
    rw [katB_true.2 ((katB_true.1 h1).str h)] at h3
    cases h3
theorem implKatStar_ctr : CtrOK Try.prog 8 (pureC starR) := by
  refine ctr_pure' Try.func8 rfl rfl Try.ntmps8 ?_
  rintro _ _ ⟨a, rfl, ha, rfl⟩
  refine ⟨by simp, fun κ hκ => ?_⟩
  have hbig := bigW_gt
  rw [argEnv_eq]
  simp only [envA]
  have hΓ := ctxOf_ok (P := Try.prog) (cx joined_ctr <| cx0)
  rw [← stB_join]
  repeat' (first | exact hb.elim | refine wS fun K hK => ?_ | refine wB ?_ | refine uR hΓ ?_ | refine uD hΓ fun B hB => ?_ | ((repeat ((fail_if_success (refine hK _ ?_)); clear hK K)); refine hK _ ?_; clear hK K) | refine u1 ?_ | refine uC (fun hb => ?_) fun hb => ?_ | refine u2 (fun hc => ?_) fun hc => ?_ | refine wI ?_ | refine ex_idx (by omega) ?_ | exact True.intro | fail)
  (first | refine wA rfl ?_ ?_ ?_ | refine dA rfl ?_ ?_ ?_); exact (.tup [oints (if joinB [a] then a ++ [21] else []), .bool (joinB [a])]); exact (⟨21, [a], by simp [view, viewL, viewL_map, view_I, Function.comp_def], by simp, by simp; omega, by simp⟩); simp (maxSteps := 2000000) only [go_sem]
  repeat' (first | exact hb.elim | refine wS fun K hK => ?_ | refine wB ?_ | refine uR hΓ ?_ | refine uD hΓ fun B hB => ?_ | ((repeat ((fail_if_success (refine hK _ ?_)); clear hK K)); refine hK _ ?_; clear hK K) | refine u1 ?_ | refine uC (fun hb => ?_) fun hb => ?_ | refine u2 (fun hc => ?_) fun hc => ?_ | refine wI ?_ | refine ex_idx (by omega) ?_ | exact True.intro | fail)
  (rw [Try.results8]; refine ⟨_, _, rfl, by decide, rfl, rfl, ?_, ?_⟩ <;> simp [upd_at])

end Go.Proofs.Ytehdfifncbokeaa
