/- The law FnAllParts, walked by the engine. -/
import Derived.Test.YtaniaocanekajaaR20
import Derived.Test.YtaniaocanekajaaG1
import Derived.Test.YtaniaocanekajaaD9E
import Derived.Test.YtaniaocanekajaaF1
import Derived.Test.YtaniaocanekajaaS3
import Derived.Test.YtaniaocanekajaaR7a
import Derived.Test.YtaniaocanekajaaLV11
import Derived.Test.YtaniaocanekajaaEngMin
namespace Go.Proofs.Ytaniaocanekajaa
set_option linter.unusedSimpArgs false
set_option linter.unusedVariables false
set_option maxRecDepth 8000
set_option maxHeartbeats 2000000
open Go Go.RowKit AV

attribute [local go_sem] List.nil_prefix

theorem left_all {P : LL} (hcl : ∀ u ∈ P, ∀ m, m < 12 → ∀ v ∈ leftM u m, v ∈ P) {y : List Int} (hy : y ∈ P) {a c : Nat} (ha : a < 4) (hc : c < 3) : ∀ v ∈ partsOfD y (a : Int) (16 + (c : Int)), v ∈ P := by
  intro v hv
  unfold partsOfD at hv
  split at hv
  · refine hcl y hy (3 * a + c) (by omega) v ?_
    unfold leftM
    rw [show (3 * a + c) / 3 = a by omega, show (3 * a + c) % 3 = c by omega]
    simpa using hv
  · cases hv

theorem fnAllParts_ctr : CtrOK Try.prog 4 (pureC codeR1) := by
  refine ctr_pure' Try.func4 rfl rfl Try.ntmps4 ?_
  rintro _ _ ⟨bs, rfl, hl, hb256, rfl⟩
  refine ⟨by simp, fun κ hκ => ?_⟩
  have hbig := bigW_gt
  rw [argEnv_eq]
  simp only [envA]
  have hΓ := ctxOf_ok (P := Try.prog) (cx drawAllParts_ctr <| cx implAllParts_ctr <| cx sameLists_ctr <| cx specAllParts_ctr <| cx specKatValid_ctr <| cx aliveL_ctr <| cx hasList_ctr <| cx implKatValid_ctr <| cx implPartsOf_ctr <| cx katActs_ctr <| cx sameInts_ctr <| cx0)
  have hel := progX_len (bs.take 2000) 0 7 9
  obtain ⟨e, he⟩ : ∃ e, (progX (bs.take 2000) 0 7 9).1 = e := ⟨_, rfl⟩
  rw [he] at hel
  repeat' (first | refine wS fun K hK => ?_ | refine wB ?_ | ((first | refine wR hΓ ?_ | refine wD hΓ fun B hB => ?_); simp (config := { maxSteps := 2000000 }) only [go_sem]) | ((repeat ((fail_if_success (refine hK _ ?_)); clear hK K)); refine hK _ ?_; clear hK K) | (refine w1 ?_; simp only [xs, xi, Nat.reduceEqDiff, reduceCtorEq]) | (refine wC (fun hb => ?_) fun hb => ?_ <;> (try simp only [xb, reduceCtorEq] at hb)) | (refine w2 (fun hc => ?_) (fun hc => ?_) <;> (try simp only [xc] at hc) <;> (try simp only [go_sem, hc]) <;> (try simp only [xb] at hc)) | refine wI ?_ | refine ex_idx (by omega) ?_ | fail)
  · simp [Try.results4, RetOK, RetP, backA, upd_at, plainB, getP, isOwn, anyOwn, isP]
  (first | refine wA rfl ?_ ?_ ?_ | refine dA rfl ?_ ?_ ?_); exact (ints e); exact (⟨bs, rfl, by omega, hb256, by rw [he]⟩); simp (config := { maxSteps := 2000000 }) only [go_sem]
  repeat' (first | refine wS fun K hK => ?_ | refine wB ?_ | ((first | refine wR hΓ ?_ | refine wD hΓ fun B hB => ?_); simp (config := { maxSteps := 2000000 }) only [go_sem]) | ((repeat ((fail_if_success (refine hK _ ?_)); clear hK K)); refine hK _ ?_; clear hK K) | (refine w1 ?_; simp only [xs, xi, Nat.reduceEqDiff, reduceCtorEq]) | (refine wC (fun hb => ?_) fun hb => ?_ <;> (try simp only [xb, reduceCtorEq] at hb)) | (refine w2 (fun hc => ?_) (fun hc => ?_) <;> (try simp only [xc] at hc) <;> (try simp only [go_sem, hc]) <;> (try simp only [xb] at hc)) | refine wI ?_ | refine ex_idx (by omega) ?_ | fail)
  obtain ⟨P, hP⟩ : ∃ P, allD e = P := ⟨_, rfl⟩
  have hPb : P.length ≤ 41 ∧ ∀ x ∈ P, x.length ≤ 1601 := by
    rw [← hP]
    unfold allD
    split
    · rename_i hk
      obtain ⟨x, hw, rfl, h40⟩ := katB_tree hk
      exact ⟨allL_full hw h40, fun y hy => (allL_left hw y hy).short h40⟩
    · simp
  have hP3 : ∀ x ∈ P, x.length ≤ 1099511627776 := fun x hx => by have := hPb.2 x hx; omega
  (first | refine wA rfl ?_ ?_ ?_ | refine dA rfl ?_ ?_ ?_); exact (oorows P); exact (⟨e, rfl, by omega, by rw [hP]⟩); simp (config := { maxSteps := 2000000 }) only [go_sem]
  repeat' (first | refine wS fun K hK => ?_ | refine wB ?_ | ((first | refine wR hΓ ?_ | refine wD hΓ fun B hB => ?_); simp (config := { maxSteps := 2000000 }) only [go_sem]) | ((repeat ((fail_if_success (refine hK _ ?_)); clear hK K)); refine hK _ ?_; clear hK K) | (refine w1 ?_; simp only [xs, xi, Nat.reduceEqDiff, reduceCtorEq]) | (refine wC (fun hb => ?_) fun hb => ?_ <;> (try simp only [xb, reduceCtorEq] at hb)) | (refine w2 (fun hc => ?_) (fun hc => ?_) <;> (try simp only [xc] at hc) <;> (try simp only [go_sem, hc]) <;> (try simp only [xb] at hc)) | refine wI ?_ | refine ex_idx (by omega) ?_ | fail)
  (first | refine wA rfl ?_ ?_ ?_ | refine dA rfl ?_ ?_ ?_); exact (rows P); exact (⟨e, rfl, by omega, by rw [hP]⟩); simp (config := { maxSteps := 2000000 }) only [go_sem]
  repeat' (first | refine wS fun K hK => ?_ | refine wB ?_ | ((first | refine wR hΓ ?_ | refine wD hΓ fun B hB => ?_); simp (config := { maxSteps := 2000000 }) only [go_sem]) | ((repeat ((fail_if_success (refine hK _ ?_)); clear hK K)); refine hK _ ?_; clear hK K) | (refine w1 ?_; simp only [xs, xi, Nat.reduceEqDiff, reduceCtorEq]) | (refine wC (fun hb => ?_) fun hb => ?_ <;> (try simp only [xb, reduceCtorEq] at hb)) | (refine w2 (fun hc => ?_) (fun hc => ?_) <;> (try simp only [xc] at hc) <;> (try simp only [go_sem, hc]) <;> (try simp only [xb] at hc)) | refine wI ?_ | refine ex_idx (by omega) ?_ | fail)
  (first | refine wA rfl ?_ ?_ ?_ | refine dA rfl ?_ ?_ ?_); exact (.bool true); exact (⟨P, P, by simp [view, viewL_map, view_I, Function.comp_def], by omega, by omega, hP3, hP3, by simp⟩); simp (config := { maxSteps := 2000000 }) only [go_sem]
  obtain ⟨V, hV⟩ : ∃ V, katB e = V := ⟨_, rfl⟩
  repeat' (first | refine wS fun K hK => ?_ | refine wB ?_ | ((first | refine wR hΓ ?_ | refine wD hΓ fun B hB => ?_); simp (config := { maxSteps := 2000000 }) only [go_sem]) | ((repeat ((fail_if_success (refine hK _ ?_)); clear hK K)); refine hK _ ?_; clear hK K) | (refine w1 ?_; simp only [xs, xi, Nat.reduceEqDiff, reduceCtorEq]) | (refine wC (fun hb => ?_) fun hb => ?_ <;> (try simp only [xb, reduceCtorEq] at hb)) | (refine w2 (fun hc => ?_) (fun hc => ?_) <;> (try simp only [xc] at hc) <;> (try simp only [go_sem, hc]) <;> (try simp only [xb] at hc)) | refine wI ?_ | refine ex_idx (by omega) ?_ | fail)
  (first | refine wA rfl ?_ ?_ ?_ | refine dA rfl ?_ ?_ ?_); exact (.bool V); exact (⟨e, rfl, by omega, by rw [hV]⟩); simp (config := { maxSteps := 2000000 }) only [go_sem]
  repeat' (first | refine wS fun K hK => ?_ | refine wB ?_ | ((first | refine wR hΓ ?_ | refine wD hΓ fun B hB => ?_); simp (config := { maxSteps := 2000000 }) only [go_sem]) | ((repeat ((fail_if_success (refine hK _ ?_)); clear hK K)); refine hK _ ?_; clear hK K) | (refine w1 ?_; simp only [xs, xi, Nat.reduceEqDiff, reduceCtorEq]) | (refine wC (fun hb => ?_) fun hb => ?_ <;> (try simp only [xb, reduceCtorEq] at hb)) | (refine w2 (fun hc => ?_) (fun hc => ?_) <;> (try simp only [xc] at hc) <;> (try simp only [go_sem, hc]) <;> (try simp only [xb] at hc)) | refine wI ?_ | refine ex_idx (by omega) ?_ | fail)
  · (first | refine wA rfl _ (⟨rfl, rfl⟩) ?_ | refine dA rfl _ (⟨rfl, rfl⟩) ?_); simp (config := { maxSteps := 2000000 }) only [go_sem]
    repeat' (first | refine wS fun K hK => ?_ | refine wB ?_ | ((first | refine wR hΓ ?_ | refine wD hΓ fun B hB => ?_); simp (config := { maxSteps := 2000000 }) only [go_sem]) | ((repeat ((fail_if_success (refine hK _ ?_)); clear hK K)); refine hK _ ?_; clear hK K) | (refine w1 ?_; simp only [xs, xi, Nat.reduceEqDiff, reduceCtorEq]) | (refine wC (fun hb => ?_) fun hb => ?_ <;> (try simp only [xb, reduceCtorEq] at hb)) | (refine w2 (fun hc => ?_) (fun hc => ?_) <;> (try simp only [xc] at hc) <;> (try simp only [go_sem, hc]) <;> (try simp only [xb] at hc)) | refine wI ?_ | refine ex_idx (by omega) ?_ | fail)
    simp [Try.results4, RetOK, RetP, backA, upd_at, plainB, getP, isOwn, anyOwn, isP]
  · exfalso
    have : P = [] := by rw [← hP]; unfold allD; rw [if_neg (by rw [hV, hb]; decide)]
    rw [this] at hc
    simp at hc
  have hk : katB e = true := by rw [hV]; exact hb
  obtain ⟨x, hw, rfl, h40⟩ := katB_tree hk
  have hPe : P = allL x.steps := by rw [← hP]; unfold allD; rw [if_pos hk]
  have hnd : P.Nodup := by rw [hPe]; exact allL_nodup _
  have hcl : ∀ u ∈ P, ∀ m, m < 12 → ∀ v ∈ leftM u m, v ∈ P := fun u hu m hm v hv => by rw [hPe] at hu ⊢; exact allL_closed hw h40 hu hm hv
  have hcnt : P.length ≤ actsX x + 1 := by rw [hPe]; exact allL_count hw
  have hhd : P[0]? = some x.steps := by rw [hPe]; exact allL_head _
  have hacts : katActsI x.steps = (actsX x : Int) := by rw [show katActsI x.steps = ((actsF x.steps : Nat) : Int) from if_pos hk]; unfold actsF actsB; rw [acts_steps x hw]
  have hpos : 0 < P.length := by
    rcases Nat.eq_zero_or_pos P.length with e | e
    · rw [List.length_eq_zero_iff.1 e] at hhd; simp at hhd
    · exact e
  have hP0 : P[0] = x.steps := by rw [List.getElem?_eq_getElem hpos] at hhd; exact Option.some.inj hhd
  clear hP hPe hhd
  refine CW.loop (ι := Nat) (fun k => [(3, ints x.steps), (4, oorows P), (5, I (k : Nat))]) (fun k => k ≤ P.length) (fun k => P.length - k) 0 ?_ ?_
  · exact ⟨by (simp only [xe, xj, Nat.reduceEqDiff]; (try simp [view, viewL_map]); (try omega)), by omega⟩
  rintro k hkP
  simp only [envOf]
  repeat' (first | refine wS fun K hK => ?_ | refine wB ?_ | ((first | refine wR hΓ ?_ | refine wD hΓ fun B hB => ?_); simp (config := { maxSteps := 2000000 }) only [go_sem]) | ((repeat ((fail_if_success (refine hK _ ?_)); clear hK K)); refine hK _ ?_; clear hK K) | (refine w1 ?_; simp only [xs, xi, Nat.reduceEqDiff, reduceCtorEq]) | (refine wC (fun hb => ?_) fun hb => ?_ <;> (try simp only [xb, reduceCtorEq] at hb)) | (refine w2 (fun hc => ?_) (fun hc => ?_) <;> (try simp only [xc] at hc) <;> (try simp only [go_sem, hc]) <;> (try simp only [xb] at hc)) | refine wI ?_ | refine ex_idx (by omega) ?_ | fail)
  · have hkL : k < P.length := by omega
    have hkx : P[k].length ≤ 1601 := hPb.2 _ (List.getElem_mem hkL)
    have hno : decide (P[k] ∈ P.take k) = false := decide_eq_false (by
      intro h
      obtain ⟨i, hi, e1⟩ := List.mem_take_iff_getElem.1 h
      exact List.pairwise_iff_getElem.1 hnd i k (by omega) hkL (by omega) e1)
    (first | refine wA rfl ?_ ?_ ?_ | refine dA rfl ?_ ?_ ?_); exact (.bool false); exact (⟨P.take k, P[k], by simp [view, viewL_map, view_I, Function.comp_def, List.map_take], by simp; omega, fun y hy => hP3 y (List.mem_of_mem_take hy), by omega, by rw [hno]⟩); simp (config := { maxSteps := 2000000 }) only [go_sem]
    repeat' (first | refine wS fun K hK => ?_ | refine wB ?_ | ((first | refine wR hΓ ?_ | refine wD hΓ fun B hB => ?_); simp (config := { maxSteps := 2000000 }) only [go_sem]) | ((repeat ((fail_if_success (refine hK _ ?_)); clear hK K)); refine hK _ ?_; clear hK K) | (refine w1 ?_; simp only [xs, xi, Nat.reduceEqDiff, reduceCtorEq]) | (refine wC (fun hb => ?_) fun hb => ?_ <;> (try simp only [xb, reduceCtorEq] at hb)) | (refine w2 (fun hc => ?_) (fun hc => ?_) <;> (try simp only [xc] at hc) <;> (try simp only [go_sem, hc]) <;> (try simp only [xb] at hc)) | refine wI ?_ | refine ex_idx (by omega) ?_ | fail)
    obtain ⟨V2, hV2⟩ : ∃ V, katB P[k] = V := ⟨_, rfl⟩
    refine CW.loop (ι := Nat) (fun a => [(3, ints x.steps), (4, oorows P), (5, I (k : Nat)), (6, I (a : Int))]) (fun a => a ≤ 4) (fun a => 4 - a) 0 ?_ ?_
    · exact ⟨by (simp only [xe, xj, Nat.reduceEqDiff]; (try simp [view, viewL_map]); (try omega)), by omega⟩
    rintro a ha
    simp only [envOf]
    repeat' (first | refine wS fun K hK => ?_ | refine wB ?_ | ((first | refine wR hΓ ?_ | refine wD hΓ fun B hB => ?_); simp (config := { maxSteps := 2000000 }) only [go_sem]) | ((repeat ((fail_if_success (refine hK _ ?_)); clear hK K)); refine hK _ ?_; clear hK K) | (refine w1 ?_; simp only [xs, xi, Nat.reduceEqDiff, reduceCtorEq]) | (refine wC (fun hb => ?_) fun hb => ?_ <;> (try simp only [xb, reduceCtorEq] at hb)) | (refine w2 (fun hc => ?_) (fun hc => ?_) <;> (try simp only [xc] at hc) <;> (try simp only [go_sem, hc]) <;> (try simp only [xb] at hc)) | refine wI ?_ | refine ex_idx (by omega) ?_ | fail)
    · cases V2 with
      | false =>
        (first | refine wA rfl ?_ ?_ ?_ | refine dA rfl ?_ ?_ ?_); exact (.bool false); exact (⟨P[k], rfl, by omega, by rw [hV2]⟩); simp (config := { maxSteps := 2000000 }) only [go_sem]
        repeat' (first | refine wS fun K hK => ?_ | refine wB ?_ | ((first | refine wR hΓ ?_ | refine wD hΓ fun B hB => ?_); simp (config := { maxSteps := 2000000 }) only [go_sem]) | ((repeat ((fail_if_success (refine hK _ ?_)); clear hK K)); refine hK _ ?_; clear hK K) | (refine w1 ?_; simp only [xs, xi, Nat.reduceEqDiff, reduceCtorEq]) | (refine wC (fun hb => ?_) fun hb => ?_ <;> (try simp only [xb, reduceCtorEq] at hb)) | (refine w2 (fun hc => ?_) (fun hc => ?_) <;> (try simp only [xc] at hc) <;> (try simp only [go_sem, hc]) <;> (try simp only [xb] at hc)) | refine wI ?_ | refine ex_idx (by omega) ?_ | fail)
        exact ⟨k + 1, by (simp only [xe, xj, Nat.reduceEqDiff]; (try simp [view, viewL_map]); (try omega)), by omega, by omega⟩
      | true =>
        have hy41 : P[k].length ≤ 41 := by
          obtain ⟨x2, _, e2, h2⟩ := katB_tree hV2
          have e3 := congrArg List.length e2
          omega
        (first | refine wA rfl ?_ ?_ ?_ | refine dA rfl ?_ ?_ ?_); exact (.bool true); exact (⟨P[k], rfl, by omega, by rw [hV2]⟩); simp (config := { maxSteps := 2000000 }) only [go_sem]
        repeat' (first | refine wS fun K hK => ?_ | refine wB ?_ | ((first | refine wR hΓ ?_ | refine wD hΓ fun B hB => ?_); simp (config := { maxSteps := 2000000 }) only [go_sem]) | ((repeat ((fail_if_success (refine hK _ ?_)); clear hK K)); refine hK _ ?_; clear hK K) | (refine w1 ?_; simp only [xs, xi, Nat.reduceEqDiff, reduceCtorEq]) | (refine wC (fun hb => ?_) fun hb => ?_ <;> (try simp only [xb, reduceCtorEq] at hb)) | (refine w2 (fun hc => ?_) (fun hc => ?_) <;> (try simp only [xc] at hc) <;> (try simp only [go_sem, hc]) <;> (try simp only [xb] at hc)) | refine wI ?_ | refine ex_idx (by omega) ?_ | fail)
        refine CW.loop (ι := Nat) (fun c => [(3, ints x.steps), (4, oorows P), (5, I (k : Nat)), (6, I (a : Int)), (7, I (16 + (c : Int)))]) (fun c => c ≤ 3) (fun c => 3 - c) 0 ?_ ?_
        · exact ⟨by (simp only [xe, xj, Nat.reduceEqDiff]; (try simp [view, viewL_map]); (try omega)), by omega⟩
        rintro c hc3
        simp only [envOf]
        repeat' (first | refine wS fun K hK => ?_ | refine wB ?_ | ((first | refine wR hΓ ?_ | refine wD hΓ fun B hB => ?_); simp (config := { maxSteps := 2000000 }) only [go_sem]) | ((repeat ((fail_if_success (refine hK _ ?_)); clear hK K)); refine hK _ ?_; clear hK K) | (refine w1 ?_; simp only [xs, xi, Nat.reduceEqDiff, reduceCtorEq]) | (refine wC (fun hb => ?_) fun hb => ?_ <;> (try simp only [xb, reduceCtorEq] at hb)) | (refine w2 (fun hc => ?_) (fun hc => ?_) <;> (try simp only [xc] at hc) <;> (try simp only [go_sem, hc]) <;> (try simp only [xb] at hc)) | refine wI ?_ | refine ex_idx (by omega) ?_ | fail)
        · obtain ⟨hL2, hL3⟩ := poD_bd P[k] (a : Int) (16 + (c : Int)) hy41
          have hLP := left_all hcl (List.getElem_mem hkL) (a := a) (c := c) (by omega) (by omega)
          obtain ⟨L, hL⟩ : ∃ L, partsOfD P[k] (a : Int) (16 + (c : Int)) = L := ⟨_, rfl⟩
          rw [hL] at hL2 hL3 hLP
          (first | refine wA rfl ?_ ?_ ?_ | refine dA rfl ?_ ?_ ?_); exact (oorows L); exact (⟨P[k], (a : Int), 16 + (c : Int), rfl, by omega, by rw [hL]⟩); simp (config := { maxSteps := 2000000 }) only [go_sem]
          repeat' (first | refine wS fun K hK => ?_ | refine wB ?_ | ((first | refine wR hΓ ?_ | refine wD hΓ fun B hB => ?_); simp (config := { maxSteps := 2000000 }) only [go_sem]) | ((repeat ((fail_if_success (refine hK _ ?_)); clear hK K)); refine hK _ ?_; clear hK K) | (refine w1 ?_; simp only [xs, xi, Nat.reduceEqDiff, reduceCtorEq]) | (refine wC (fun hb => ?_) fun hb => ?_ <;> (try simp only [xb, reduceCtorEq] at hb)) | (refine w2 (fun hc => ?_) (fun hc => ?_) <;> (try simp only [xc] at hc) <;> (try simp only [go_sem, hc]) <;> (try simp only [xb] at hc)) | refine wI ?_ | refine ex_idx (by omega) ?_ | fail)
          refine CW.loop (ι := Nat) (fun j => [(3, ints x.steps), (4, oorows P), (5, I (k : Nat)), (6, I (a : Int)), (7, I (16 + (c : Int))), (8, oorows L), (9, I (j : Int))]) (fun j => j ≤ L.length) (fun j => L.length - j) 0 ?_ ?_
          · exact ⟨by (simp only [xe, xj, Nat.reduceEqDiff]; (try simp [view, viewL_map]); (try omega)), by omega⟩
          rintro j hj
          simp only [envOf]
          repeat' (first | refine wS fun K hK => ?_ | refine wB ?_ | ((first | refine wR hΓ ?_ | refine wD hΓ fun B hB => ?_); simp (config := { maxSteps := 2000000 }) only [go_sem]) | ((repeat ((fail_if_success (refine hK _ ?_)); clear hK K)); refine hK _ ?_; clear hK K) | (refine w1 ?_; simp only [xs, xi, Nat.reduceEqDiff, reduceCtorEq]) | (refine wC (fun hb => ?_) fun hb => ?_ <;> (try simp only [xb, reduceCtorEq] at hb)) | (refine w2 (fun hc => ?_) (fun hc => ?_) <;> (try simp only [xc] at hc) <;> (try simp only [go_sem, hc]) <;> (try simp only [xb] at hc)) | refine wI ?_ | refine ex_idx (by omega) ?_ | fail)
          · have hjL : j < L.length := by omega
            have hin : decide (L[j] ∈ P) = true := decide_eq_true (hLP _ (List.getElem_mem hjL))
            have hjx := hL3 _ (List.getElem_mem hjL)
            (first | refine wA rfl ?_ ?_ ?_ | refine dA rfl ?_ ?_ ?_); exact (.bool true); exact (⟨P, L[j], by simp [view, viewL_map, view_I, Function.comp_def], by omega, hP3, by omega, by rw [hin]⟩); simp (config := { maxSteps := 2000000 }) only [go_sem]
            repeat' (first | refine wS fun K hK => ?_ | refine wB ?_ | ((first | refine wR hΓ ?_ | refine wD hΓ fun B hB => ?_); simp (config := { maxSteps := 2000000 }) only [go_sem]) | ((repeat ((fail_if_success (refine hK _ ?_)); clear hK K)); refine hK _ ?_; clear hK K) | (refine w1 ?_; simp only [xs, xi, Nat.reduceEqDiff, reduceCtorEq]) | (refine wC (fun hb => ?_) fun hb => ?_ <;> (try simp only [xb, reduceCtorEq] at hb)) | (refine w2 (fun hc => ?_) (fun hc => ?_) <;> (try simp only [xc] at hc) <;> (try simp only [go_sem, hc]) <;> (try simp only [xb] at hc)) | refine wI ?_ | refine ex_idx (by omega) ?_ | fail)
            exact ⟨j + 1, by (simp only [xe, xj, Nat.reduceEqDiff]; (try simp [view, viewL_map]); (try omega)), by omega, by omega⟩
          · exact ⟨c + 1, by (simp only [xe, xj, Nat.reduceEqDiff]; (try simp [view, viewL_map]); (try omega)), by omega, by omega⟩
        · exact ⟨a + 1, by (simp only [xe, xj, Nat.reduceEqDiff]; (try simp [view, viewL_map]); (try omega)), by omega, by omega⟩
    · exact ⟨k + 1, by (simp only [xe, xj, Nat.reduceEqDiff]; (try simp [view, viewL_map]); (try omega)), by omega, by omega⟩
  · have hax : actsX x ≤ x.steps.length := by rw [← acts_steps x hw]; exact List.length_filter_le _ _
    (first | refine wA rfl ?_ ?_ ?_ | refine dA rfl ?_ ?_ ?_); exact (I (actsX x : Int)); exact (⟨x.steps, rfl, by omega, by rw [hacts]⟩); simp (config := { maxSteps := 2000000 }) only [go_sem]
    repeat' (first | refine wS fun K hK => ?_ | refine wB ?_ | ((first | refine wR hΓ ?_ | refine wD hΓ fun B hB => ?_); simp (config := { maxSteps := 2000000 }) only [go_sem]) | ((repeat ((fail_if_success (refine hK _ ?_)); clear hK K)); refine hK _ ?_; clear hK K) | (refine w1 ?_; simp only [xs, xi, Nat.reduceEqDiff, reduceCtorEq]) | (refine wC (fun hb => ?_) fun hb => ?_ <;> (try simp only [xb, reduceCtorEq] at hb)) | (refine w2 (fun hc => ?_) (fun hc => ?_) <;> (try simp only [xc] at hc) <;> (try simp only [go_sem, hc]) <;> (try simp only [xb] at hc)) | refine wI ?_ | refine ex_idx (by omega) ?_ | fail)
    · (first | refine wA rfl ?_ ?_ ?_ | refine dA rfl ?_ ?_ ?_); exact (.bool true); exact (⟨P[0], x.steps, rfl, by rw [hP0]; omega, by omega, by simp [hP0]⟩); simp (config := { maxSteps := 2000000 }) only [go_sem]
      repeat' (first | refine wS fun K hK => ?_ | refine wB ?_ | ((first | refine wR hΓ ?_ | refine wD hΓ fun B hB => ?_); simp (config := { maxSteps := 2000000 }) only [go_sem]) | ((repeat ((fail_if_success (refine hK _ ?_)); clear hK K)); refine hK _ ?_; clear hK K) | (refine w1 ?_; simp only [xs, xi, Nat.reduceEqDiff, reduceCtorEq]) | (refine wC (fun hb => ?_) fun hb => ?_ <;> (try simp only [xb, reduceCtorEq] at hb)) | (refine w2 (fun hc => ?_) (fun hc => ?_) <;> (try simp only [xc] at hc) <;> (try simp only [go_sem, hc]) <;> (try simp only [xb] at hc)) | refine wI ?_ | refine ex_idx (by omega) ?_ | fail)
      simp [Try.results4, RetOK, RetP, backA, upd_at, plainB, getP, isOwn, anyOwn, isP]
    · exfalso; omega
  · exfalso; omega

end Go.Proofs.Ytaniaocanekajaa
