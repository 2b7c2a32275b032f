/- Pairs that prove equality, in the reference. Walked by the engine. -/
import Derived.Test.YtboandkjhdaobaaQ2
import Derived.Test.YtboandkjhdaobaaPairsQ
import Derived.Test.YtboandkjhdaobaaEngMin
namespace Go.Proofs.Ytboandkjhdaobaa
set_option linter.unusedSimpArgs false
set_option linter.unusedVariables false
set_option maxRecDepth 8000
set_option maxHeartbeats 2000000
open Go Go.RowKit AV

def pairsOkSR (args : List AV) (r : AV) : Prop := ∃ (e f : List Int) (L : List (List Int)), args = [ints e, ints f, rows L] ∧ e.length ≤ 1048576 ∧ f.length ≤ 1048576 ∧ L.length ≤ 1099511627776 ∧ (∀ x ∈ L, x.length ≤ 1099511627776) ∧ r = .bool (okB (autD e) (autD f) L)
theorem specPairsOk_ctr : CtrOK Try.prog 57 (pureC pairsOkSR) := by
  refine ctr_pure' Try.func57 rfl rfl Try.ntmps57 ?_
  rintro _ _ ⟨e, f, L, rfl, he, hf, hL, hr, rfl⟩
  refine ⟨by simp, fun κ hκ => ?_⟩
  have hbig := bigW_gt
  rw [argEnv_eq]
  simp only [envA]
  have hΓ := ctxOf_ok (P := Try.prog) (cx specAutoOf_ctr <| cx l5Step_ctr <| cx l5Ends_ctr <| cx l1In_ctr <| cx l6Has_ctr <| cx0)
  have hokA := fun h => autD_okQ (e := e) h
  have hokB := fun h => autD_okQ (e := f) h
  obtain ⟨A, hA⟩ : ∃ A, autD e = A := ⟨_, rfl⟩
  obtain ⟨C, hC⟩ : ∃ A, autD f = A := ⟨_, rfl⟩
  rw [hA] at hokA
  rw [hC] at hokB
  rw [hA, hC]
  obtain ⟨M, hM⟩ : ∃ M, decide ([1, 1] ∈ L) = M := ⟨_, rfl⟩
  repeat' (first | refine wS fun K hK => ?_ | refine wB ?_ | ((first | refine wR hΓ ?_ | refine wD hΓ fun B hB => ?_); simp (config := { maxSteps := 2000000 }) only [go_sem]) | ((repeat ((fail_if_success (refine hK _ ?_)); clear hK K)); refine hK _ ?_; clear hK K) | (refine w1 ?_; simp only [xs, xi, Nat.reduceEqDiff, reduceCtorEq]) | (refine wC (fun hb => ?_) fun hb => ?_ <;> (try simp only [xb, reduceCtorEq] at hb)) | (refine w2 (fun hc => ?_) (fun hc => ?_) <;> (try simp only [xc] at hc) <;> (try simp only [go_sem, hc]) <;> (try simp only [xb] at hc)) | refine wI ?_ | refine ex_idx (by omega) ?_ | fail)
  (first | refine wA rfl ?_ ?_ ?_ | refine dA rfl ?_ ?_ ?_); exact (agg [oints A.ends, oorows A.next]); exact (⟨e, rfl, he, by rw [hA]⟩); simp (config := { maxSteps := 2000000 }) only [go_sem]
  repeat' (first | refine wS fun K hK => ?_ | refine wB ?_ | ((first | refine wR hΓ ?_ | refine wD hΓ fun B hB => ?_); simp (config := { maxSteps := 2000000 }) only [go_sem]) | ((repeat ((fail_if_success (refine hK _ ?_)); clear hK K)); refine hK _ ?_; clear hK K) | (refine w1 ?_; simp only [xs, xi, Nat.reduceEqDiff, reduceCtorEq]) | (refine wC (fun hb => ?_) fun hb => ?_ <;> (try simp only [xb, reduceCtorEq] at hb)) | (refine w2 (fun hc => ?_) (fun hc => ?_) <;> (try simp only [xc] at hc) <;> (try simp only [go_sem, hc]) <;> (try simp only [xb] at hc)) | refine wI ?_ | refine ex_idx (by omega) ?_ | fail)
  (first | refine wA rfl ?_ ?_ ?_ | refine dA rfl ?_ ?_ ?_); exact (agg [oints C.ends, oorows C.next]); exact (⟨f, rfl, hf, by rw [hC]⟩); simp (config := { maxSteps := 2000000 }) only [go_sem]
  repeat' (first | refine wS fun K hK => ?_ | refine wB ?_ | ((first | refine wR hΓ ?_ | refine wD hΓ fun B hB => ?_); simp (config := { maxSteps := 2000000 }) only [go_sem]) | ((repeat ((fail_if_success (refine hK _ ?_)); clear hK K)); refine hK _ ?_; clear hK K) | (refine w1 ?_; simp only [xs, xi, Nat.reduceEqDiff, reduceCtorEq]) | (refine wC (fun hb => ?_) fun hb => ?_ <;> (try simp only [xb, reduceCtorEq] at hb)) | (refine w2 (fun hc => ?_) (fun hc => ?_) <;> (try simp only [xc] at hc) <;> (try simp only [go_sem, hc]) <;> (try simp only [xb] at hc)) | refine wI ?_ | refine ex_idx (by omega) ?_ | fail)
  all_goals try (rw [okB_no (fun h => by omega)]; simp [Try.results57, RetOK, RetP, backA, upd_at, plainB, getP, isOwn, anyOwn, isP]; done)
  have hA0 : A.ends.length ≠ 0 := by omega
  have hC0 : C.ends.length ≠ 0 := by omega
  have hL100 : L.length ≤ 100 := by omega
  have hokA := hokA hA0
  have hokB := hokB hC0
  have hpA := hokA.pow_le
  have hpC := hokB.pow_le
  (first | refine wA rfl ?_ ?_ ?_ | refine dA rfl ?_ ?_ ?_); exact (.bool M); exact (⟨L, 1, 1, by simp [view, viewL_map, view_I, Function.comp_def], hL, hr, by rw [hM]⟩); simp (config := { maxSteps := 2000000 }) only [go_sem]
  cases M with
  | false =>
    repeat' (first | refine wS fun K hK => ?_ | refine wB ?_ | ((first | refine wR hΓ ?_ | refine wD hΓ fun B hB => ?_); simp (config := { maxSteps := 2000000 }) only [go_sem]) | ((repeat ((fail_if_success (refine hK _ ?_)); clear hK K)); refine hK _ ?_; clear hK K) | (refine w1 ?_; simp only [xs, xi, Nat.reduceEqDiff, reduceCtorEq]) | (refine wC (fun hb => ?_) fun hb => ?_ <;> (try simp only [xb, reduceCtorEq] at hb)) | (refine w2 (fun hc => ?_) (fun hc => ?_) <;> (try simp only [xc] at hc) <;> (try simp only [go_sem, hc]) <;> (try simp only [xb] at hc)) | refine wI ?_ | refine ex_idx (by omega) ?_ | fail)
    rw [okB_no (fun h => of_decide_eq_false hM h.2.2.2)]
    simp [Try.results57, RetOK, RetP, backA, upd_at, plainB, getP, isOwn, anyOwn, isP]
  | true =>
    have h11 := of_decide_eq_true hM
    repeat' (first | refine wS fun K hK => ?_ | refine wB ?_ | ((first | refine wR hΓ ?_ | refine wD hΓ fun B hB => ?_); simp (config := { maxSteps := 2000000 }) only [go_sem]) | ((repeat ((fail_if_success (refine hK _ ?_)); clear hK K)); refine hK _ ?_; clear hK K) | (refine w1 ?_; simp only [xs, xi, Nat.reduceEqDiff, reduceCtorEq]) | (refine wC (fun hb => ?_) fun hb => ?_ <;> (try simp only [xb, reduceCtorEq] at hb)) | (refine w2 (fun hc => ?_) (fun hc => ?_) <;> (try simp only [xc] at hc) <;> (try simp only [go_sem, hc]) <;> (try simp only [xb] at hc)) | refine wI ?_ | refine ex_idx (by omega) ?_ | fail)
    refine CW.loop (ι := Nat) (fun k => [(2, rows L), (7, box [oints A.ends, oorows A.next]), (8, box [oints C.ends, oorows C.next]), (9, I (k : Nat))]) (fun k => k ≤ L.length ∧ GoodR A C L k) (fun k => L.length - k) 0 ?_ ?_
    · exact ⟨by (simp only [xe, xj, Nat.reduceEqDiff]; (try simp [view, viewL_map]); (try omega)), by omega, GoodR.zero⟩
    rintro k ⟨hk, hG⟩
    simp only [envOf]
    by_cases hkL : k < L.length
    rotate_left
    · obtain rfl : k = L.length := by omega
      repeat' (first | refine wS fun K hK => ?_ | refine wB ?_ | ((first | refine wR hΓ ?_ | refine wD hΓ fun B hB => ?_); simp (config := { maxSteps := 2000000 }) only [go_sem]) | ((repeat ((fail_if_success (refine hK _ ?_)); clear hK K)); refine hK _ ?_; clear hK K) | (refine w1 ?_; simp only [xs, xi, Nat.reduceEqDiff, reduceCtorEq]) | (refine wC (fun hb => ?_) fun hb => ?_ <;> (try simp only [xb, reduceCtorEq] at hb)) | (refine w2 (fun hc => ?_) (fun hc => ?_) <;> (try simp only [xc] at hc) <;> (try simp only [go_sem, hc]) <;> (try simp only [xb] at hc)) | refine wI ?_ | refine ex_idx (by omega) ?_ | fail)
      all_goals try (exfalso; omega)
      rw [hG.yes hA0 hC0 hL100 h11]
      simp [Try.results57, RetOK, RetP, backA, upd_at, plainB, getP, isOwn, anyOwn, isP]
    by_cases h2 : L[k].length = 2
    rotate_left
    · repeat' (first | refine wS fun K hK => ?_ | refine wB ?_ | ((first | refine wR hΓ ?_ | refine wD hΓ fun B hB => ?_); simp (config := { maxSteps := 2000000 }) only [go_sem]) | ((repeat ((fail_if_success (refine hK _ ?_)); clear hK K)); refine hK _ ?_; clear hK K) | (refine w1 ?_; simp only [xs, xi, Nat.reduceEqDiff, reduceCtorEq]) | (refine wC (fun hb => ?_) fun hb => ?_ <;> (try simp only [xb, reduceCtorEq] at hb)) | (refine w2 (fun hc => ?_) (fun hc => ?_) <;> (try simp only [xc] at hc) <;> (try simp only [go_sem, hc]) <;> (try simp only [xb] at hc)) | refine wI ?_ | refine ex_idx (by omega) ?_ | fail)
      all_goals try (exfalso; omega)
      rw [okB_len hkL h2]
      simp [Try.results57, RetOK, RetP, backA, upd_at, plainB, getP, isOwn, anyOwn, isP]
    obtain ⟨a, b, hab⟩ : ∃ a b, L[k] = [a, b] := ⟨_, _, two_eq h2 rfl rfl⟩
    have h0 : L[k][0]'(by omega) = a := by simp [hab]
    have h1 : L[k][1]'(by omega) = b := by simp [hab]
    have n1 := fun h => okB_one (A := A) (B := C) (k := k) (a := a) (b := b) hkL hab h
    have n2 := fun h => okB_two (A := A) (B := C) (k := k) (a := a) (b := b) hkL hab h
    obtain ⟨qA, hqA⟩ : ∃ q, 2 ^ A.ends.length = q := ⟨_, rfl⟩
    obtain ⟨qC, hqC⟩ : ∃ q, 2 ^ C.ends.length = q := ⟨_, rfl⟩
    have eA : (2 : Int) ^ A.ends.length = (qA : Int) := by rw [← hqA]; simp
    have eC : (2 : Int) ^ C.ends.length = (qC : Int) := by rw [← hqC]; simp
    have hA10 := hokA.hi
    have hC10 := hokB.hi
    rw [eA] at n1
    rw [eC] at n2
    rw [hqA] at hpA
    rw [hqC] at hpC
    have hq1 : 0 < qA := by rw [← hqA]; exact Nat.pow_pos (by omega)
    have hq2 : 0 < qC := by rw [← hqC]; exact Nat.pow_pos (by omega)
    repeat' (first | refine wS fun K hK => ?_ | refine wB ?_ | ((first | refine wR hΓ ?_ | refine wD hΓ fun B hB => ?_); simp (config := { maxSteps := 2000000 }) only [go_sem, h0, h1]) | ((repeat ((fail_if_success (refine hK _ ?_)); clear hK K)); refine hK _ ?_; clear hK K) | (refine w1 ?_; simp only [xs, xi, Nat.reduceEqDiff, reduceCtorEq]) | (refine wC (fun hb => ?_) fun hb => ?_ <;> (try simp only [xb, reduceCtorEq] at hb)) | (refine w2 (fun hc => ?_) (fun hc => ?_) <;> (try simp only [xc] at hc) <;> (try simp only [go_sem, hc, h0, h1]) <;> (try simp only [xb] at hc)) | refine wI ?_ | refine ex_idx (by omega) ?_ | fail)
    all_goals try (exfalso; omega)
    try rw [eA]
    try refine ⟨⟨by omega, by omega, by omega⟩, ⟨by omega, by omega⟩, ?_⟩
    by_cases ha : 0 ≤ a ∧ a ≤ (qA : Int) - 1
    rotate_left
    · (first | refine wA rfl ?_ ?_ ?_ | refine dA rfl ?_ ?_ ?_); exact (.bool false); exact (⟨a, 0, 1 * (qA : Int) - 1, by rw [h0], by rw [decide_eq_false (by omega)]⟩); simp (config := { maxSteps := 2000000 }) only [go_sem]
      repeat' (first | refine wS fun K hK => ?_ | refine wB ?_ | ((first | refine wR hΓ ?_ | refine wD hΓ fun B hB => ?_); simp (config := { maxSteps := 2000000 }) only [go_sem, h0, h1]) | ((repeat ((fail_if_success (refine hK _ ?_)); clear hK K)); refine hK _ ?_; clear hK K) | (refine w1 ?_; simp only [xs, xi, Nat.reduceEqDiff, reduceCtorEq]) | (refine wC (fun hb => ?_) fun hb => ?_ <;> (try simp only [xb, reduceCtorEq] at hb)) | (refine w2 (fun hc => ?_) (fun hc => ?_) <;> (try simp only [xc] at hc) <;> (try simp only [go_sem, hc, h0, h1]) <;> (try simp only [xb] at hc)) | refine wI ?_ | refine ex_idx (by omega) ?_ | fail)
      rw [n1 (by omega)]
      simp [Try.results57, RetOK, RetP, backA, upd_at, plainB, getP, isOwn, anyOwn, isP]
    (first | refine wA rfl ?_ ?_ ?_ | refine dA rfl ?_ ?_ ?_); exact (.bool true); exact (⟨a, 0, 1 * (qA : Int) - 1, by rw [h0], by rw [decide_eq_true (by omega)]⟩); simp (config := { maxSteps := 2000000 }) only [go_sem]
    repeat' (first | refine wS fun K hK => ?_ | refine wB ?_ | ((first | refine wR hΓ ?_ | refine wD hΓ fun B hB => ?_); simp (config := { maxSteps := 2000000 }) only [go_sem, h0, h1]) | ((repeat ((fail_if_success (refine hK _ ?_)); clear hK K)); refine hK _ ?_; clear hK K) | (refine w1 ?_; simp only [xs, xi, Nat.reduceEqDiff, reduceCtorEq]) | (refine wC (fun hb => ?_) fun hb => ?_ <;> (try simp only [xb, reduceCtorEq] at hb)) | (refine w2 (fun hc => ?_) (fun hc => ?_) <;> (try simp only [xc] at hc) <;> (try simp only [go_sem, hc, h0, h1]) <;> (try simp only [xb] at hc)) | refine wI ?_ | refine ex_idx (by omega) ?_ | fail)
    try rw [eC]
    try refine ⟨⟨by omega, by omega, by omega⟩, ⟨by omega, by omega⟩, ?_⟩
    by_cases hb2 : 0 ≤ b ∧ b ≤ (qC : Int) - 1
    rotate_left
    · (first | refine wA rfl ?_ ?_ ?_ | refine dA rfl ?_ ?_ ?_); exact (.bool false); exact (⟨b, 0, 1 * (qC : Int) - 1, by rw [h1], by rw [decide_eq_false (by omega)]⟩); simp (config := { maxSteps := 2000000 }) only [go_sem]
      repeat' (first | refine wS fun K hK => ?_ | refine wB ?_ | ((first | refine wR hΓ ?_ | refine wD hΓ fun B hB => ?_); simp (config := { maxSteps := 2000000 }) only [go_sem, h0, h1]) | ((repeat ((fail_if_success (refine hK _ ?_)); clear hK K)); refine hK _ ?_; clear hK K) | (refine w1 ?_; simp only [xs, xi, Nat.reduceEqDiff, reduceCtorEq]) | (refine wC (fun hb => ?_) fun hb => ?_ <;> (try simp only [xb, reduceCtorEq] at hb)) | (refine w2 (fun hc => ?_) (fun hc => ?_) <;> (try simp only [xc] at hc) <;> (try simp only [go_sem, hc, h0, h1]) <;> (try simp only [xb] at hc)) | refine wI ?_ | refine ex_idx (by omega) ?_ | fail)
      rw [n2 (by omega)]
      simp [Try.results57, RetOK, RetP, backA, upd_at, plainB, getP, isOwn, anyOwn, isP]
    (first | refine wA rfl ?_ ?_ ?_ | refine dA rfl ?_ ?_ ?_); exact (.bool true); exact (⟨b, 0, 1 * (qC : Int) - 1, by rw [h1], by rw [decide_eq_true (by omega)]⟩); simp (config := { maxSteps := 2000000 }) only [go_sem]
    obtain ⟨x, rfl⟩ : ∃ x : Nat, a = (x : Int) := ⟨a.toNat, by omega⟩
    obtain ⟨y, rfl⟩ : ∃ x : Nat, b = (x : Int) := ⟨b.toNat, by omega⟩
    clear n1 n2
    have hrow : L[k] = rowP2 (x, y) := hab
    have n3 := fun h => okB_fin (A := A) (B := C) (k := k) hkL hrow h
    have n4 := fun {m : Nat} (hm : m < 12) h => okB_step (A := A) (B := C) (k := k) hkL hrow hm h
    have hnx := hG.next hkL hrow (by rw [hqA]; show x < qA; omega) (by rw [hqC]; show y < qC; omega)
    obtain ⟨u, hu⟩ : ∃ u, endF A x = u := ⟨_, rfl⟩
    obtain ⟨v, hv⟩ : ∃ u, endF C y = u := ⟨_, rfl⟩
    simp only [hu, hv] at n3 hnx
    repeat' (first | refine wS fun K hK => ?_ | refine wB ?_ | ((first | refine wR hΓ ?_ | refine wD hΓ fun B hB => ?_); simp (config := { maxSteps := 2000000 }) only [go_sem, h0, h1]) | ((repeat ((fail_if_success (refine hK _ ?_)); clear hK K)); refine hK _ ?_; clear hK K) | (refine w1 ?_; simp only [xs, xi, Nat.reduceEqDiff, reduceCtorEq]) | (refine wC (fun hb => ?_) fun hb => ?_ <;> (try simp only [xb, reduceCtorEq] at hb)) | (refine w2 (fun hc => ?_) (fun hc => ?_) <;> (try simp only [xc] at hc) <;> (try simp only [go_sem, hc, h0, h1]) <;> (try simp only [xb] at hc)) | refine wI ?_ | refine ex_idx (by omega) ?_ | fail)
    (first | refine wA rfl ?_ ?_ ?_ | refine dA rfl ?_ ?_ ?_); exact (I (u : Int)); exact (⟨A, x, by simp [h0, autA, view, viewL, viewL_map, view_I, Function.comp_def], hokA, by omega, by rw [hu]⟩); simp (config := { maxSteps := 2000000 }) only [go_sem]
    repeat' (first | refine wS fun K hK => ?_ | refine wB ?_ | ((first | refine wR hΓ ?_ | refine wD hΓ fun B hB => ?_); simp (config := { maxSteps := 2000000 }) only [go_sem, h0, h1]) | ((repeat ((fail_if_success (refine hK _ ?_)); clear hK K)); refine hK _ ?_; clear hK K) | (refine w1 ?_; simp only [xs, xi, Nat.reduceEqDiff, reduceCtorEq]) | (refine wC (fun hb => ?_) fun hb => ?_ <;> (try simp only [xb, reduceCtorEq] at hb)) | (refine w2 (fun hc => ?_) (fun hc => ?_) <;> (try simp only [xc] at hc) <;> (try simp only [go_sem, hc, h0, h1]) <;> (try simp only [xb] at hc)) | refine wI ?_ | refine ex_idx (by omega) ?_ | fail)
    (first | refine wA rfl ?_ ?_ ?_ | refine dA rfl ?_ ?_ ?_); exact (I (v : Int)); exact (⟨C, y, by simp [h1, autA, view, viewL, viewL_map, view_I, Function.comp_def], hokB, by omega, by rw [hv]⟩); simp (config := { maxSteps := 2000000 }) only [go_sem]
    repeat' (first | refine wS fun K hK => ?_ | refine wB ?_ | ((first | refine wR hΓ ?_ | refine wD hΓ fun B hB => ?_); simp (config := { maxSteps := 2000000 }) only [go_sem, h0, h1]) | ((repeat ((fail_if_success (refine hK _ ?_)); clear hK K)); refine hK _ ?_; clear hK K) | (refine w1 ?_; simp only [xs, xi, Nat.reduceEqDiff, reduceCtorEq]) | (refine wC (fun hb => ?_) fun hb => ?_ <;> (try simp only [xb, reduceCtorEq] at hb)) | (refine w2 (fun hc => ?_) (fun hc => ?_) <;> (try simp only [xc] at hc) <;> (try simp only [go_sem, hc, h0, h1]) <;> (try simp only [xb] at hc)) | refine wI ?_ | refine ex_idx (by omega) ?_ | fail)
    · rw [n3 (by omega)]
      simp [Try.results57, RetOK, RetP, backA, upd_at, plainB, getP, isOwn, anyOwn, isP]
    have huv : u = v := by omega
    have hst : ∀ (m : Nat), m < 12 → (stepP A C (x, y) m).1 < 1048576 ∧ (stepP A C (x, y) m).2 < 1048576 := fun m hm => by
      have := stepP_lt hokA hokB (p := (x, y)) hm
      omega
    refine CW.loop (ι := Nat) (fun m => [(2, rows L), (7, box [oints A.ends, oorows A.next]), (8, box [oints C.ends, oorows C.next]), (9, I (k : Nat)), (10, ints L[k]), (11, I (m : Nat))]) (fun m => m ≤ 12 ∧ ∀ j, j < m → rowP2 (stepP A C (x, y) j) ∈ L) (fun m => 12 - m) 0 ?_ ?_
    · exact ⟨by (simp only [xe, xj, Nat.reduceEqDiff]; (try simp [view, viewL_map]); (try omega)), by omega, by intros; omega⟩
    rintro m ⟨hm, hmem⟩
    simp only [envOf]
    repeat' (first | refine wS fun K hK => ?_ | refine wB ?_ | ((first | refine wR hΓ ?_ | refine wD hΓ fun B hB => ?_); simp (config := { maxSteps := 2000000 }) only [go_sem, h0, h1]) | ((repeat ((fail_if_success (refine hK _ ?_)); clear hK K)); refine hK _ ?_; clear hK K) | (refine w1 ?_; simp only [xs, xi, Nat.reduceEqDiff, reduceCtorEq]) | (refine wC (fun hb => ?_) fun hb => ?_ <;> (try simp only [xb, reduceCtorEq] at hb)) | (refine w2 (fun hc => ?_) (fun hc => ?_) <;> (try simp only [xc] at hc) <;> (try simp only [go_sem, hc, h0, h1]) <;> (try simp only [xb] at hc)) | refine wI ?_ | refine ex_idx (by omega) ?_ | fail)
    · have hs1 := hst m (by omega)
      have n5 := fun h => n4 (m := m) (by omega) h
      obtain ⟨⟨s, t⟩, hxy⟩ : ∃ z, stepP A C (x, y) m = z := ⟨_, rfl⟩
      rw [hxy] at hs1 n5
      dsimp only at hs1
      have hx : behF A x m = s := congrArg Prod.fst hxy
      have hy : behF C y m = t := congrArg Prod.snd hxy
      (first | refine wA rfl ?_ ?_ ?_ | refine dA rfl ?_ ?_ ?_); exact (I (s : Int)); exact (⟨A, x, m, by simp [h0, autA, view, viewL, viewL_map, view_I, Function.comp_def], hokA, by omega, by omega, by rw [hx]⟩); simp (config := { maxSteps := 2000000 }) only [go_sem]
      repeat' (first | refine wS fun K hK => ?_ | refine wB ?_ | ((first | refine wR hΓ ?_ | refine wD hΓ fun B hB => ?_); simp (config := { maxSteps := 2000000 }) only [go_sem, h0, h1]) | ((repeat ((fail_if_success (refine hK _ ?_)); clear hK K)); refine hK _ ?_; clear hK K) | (refine w1 ?_; simp only [xs, xi, Nat.reduceEqDiff, reduceCtorEq]) | (refine wC (fun hb => ?_) fun hb => ?_ <;> (try simp only [xb, reduceCtorEq] at hb)) | (refine w2 (fun hc => ?_) (fun hc => ?_) <;> (try simp only [xc] at hc) <;> (try simp only [go_sem, hc, h0, h1]) <;> (try simp only [xb] at hc)) | refine wI ?_ | refine ex_idx (by omega) ?_ | fail)
      (first | refine wA rfl ?_ ?_ ?_ | refine dA rfl ?_ ?_ ?_); exact (I (t : Int)); exact (⟨C, y, m, by simp [h1, autA, view, viewL, viewL_map, view_I, Function.comp_def], hokB, by omega, by omega, by rw [hy]⟩); simp (config := { maxSteps := 2000000 }) only [go_sem]
      repeat' (first | refine wS fun K hK => ?_ | refine wB ?_ | ((first | refine wR hΓ ?_ | refine wD hΓ fun B hB => ?_); simp (config := { maxSteps := 2000000 }) only [go_sem, h0, h1]) | ((repeat ((fail_if_success (refine hK _ ?_)); clear hK K)); refine hK _ ?_; clear hK K) | (refine w1 ?_; simp only [xs, xi, Nat.reduceEqDiff, reduceCtorEq]) | (refine wC (fun hb => ?_) fun hb => ?_ <;> (try simp only [xb, reduceCtorEq] at hb)) | (refine w2 (fun hc => ?_) (fun hc => ?_) <;> (try simp only [xc] at hc) <;> (try simp only [go_sem, hc, h0, h1]) <;> (try simp only [xb] at hc)) | refine wI ?_ | refine ex_idx (by omega) ?_ | fail)
      by_cases hin : rowP2 (s, t) ∈ L
      · (first | refine wA rfl ?_ ?_ ?_ | refine dA rfl ?_ ?_ ?_); exact (.bool true); exact (⟨L, (s : Int), (t : Int), by simp [view, viewL_map, view_I, Function.comp_def], hL, hr, by rw [decide_eq_true (show [(s : Int), (t : Int)] ∈ L from hin)]⟩); simp (config := { maxSteps := 2000000 }) only [go_sem]
        repeat' (first | refine wS fun K hK => ?_ | refine wB ?_ | ((first | refine wR hΓ ?_ | refine wD hΓ fun B hB => ?_); simp (config := { maxSteps := 2000000 }) only [go_sem, h0, h1]) | ((repeat ((fail_if_success (refine hK _ ?_)); clear hK K)); refine hK _ ?_; clear hK K) | (refine w1 ?_; simp only [xs, xi, Nat.reduceEqDiff, reduceCtorEq]) | (refine wC (fun hb => ?_) fun hb => ?_ <;> (try simp only [xb, reduceCtorEq] at hb)) | (refine w2 (fun hc => ?_) (fun hc => ?_) <;> (try simp only [xc] at hc) <;> (try simp only [go_sem, hc, h0, h1]) <;> (try simp only [xb] at hc)) | refine wI ?_ | refine ex_idx (by omega) ?_ | fail)
        refine ⟨m + 1, by (simp only [xe, xj, Nat.reduceEqDiff]; (try simp [view, viewL_map]); (try omega)), ⟨by omega, fun j hj => ?_⟩, by omega⟩
        rcases Nat.lt_or_ge j m with g | g
        · exact hmem j g
        · obtain rfl : j = m := by omega
          rw [hxy]; exact hin
      · (first | refine wA rfl ?_ ?_ ?_ | refine dA rfl ?_ ?_ ?_); exact (.bool false); exact (⟨L, (s : Int), (t : Int), by simp [view, viewL_map, view_I, Function.comp_def], hL, hr, by rw [decide_eq_false (show ¬ [(s : Int), (t : Int)] ∈ L from hin)]⟩); simp (config := { maxSteps := 2000000 }) only [go_sem]
        repeat' (first | refine wS fun K hK => ?_ | refine wB ?_ | ((first | refine wR hΓ ?_ | refine wD hΓ fun B hB => ?_); simp (config := { maxSteps := 2000000 }) only [go_sem, h0, h1]) | ((repeat ((fail_if_success (refine hK _ ?_)); clear hK K)); refine hK _ ?_; clear hK K) | (refine w1 ?_; simp only [xs, xi, Nat.reduceEqDiff, reduceCtorEq]) | (refine wC (fun hb => ?_) fun hb => ?_ <;> (try simp only [xb, reduceCtorEq] at hb)) | (refine w2 (fun hc => ?_) (fun hc => ?_) <;> (try simp only [xc] at hc) <;> (try simp only [go_sem, hc, h0, h1]) <;> (try simp only [xb] at hc)) | refine wI ?_ | refine ex_idx (by omega) ?_ | fail)
        rw [n5 hin]
        simp [Try.results57, RetOK, RetP, backA, upd_at, plainB, getP, isOwn, anyOwn, isP]
    · obtain rfl : m = 12 := by omega
      exact ⟨k + 1, by (simp only [xe, xj, Nat.reduceEqDiff]; (try simp [view, viewL_map]); (try omega)), ⟨by omega, hnx huv hmem⟩, by omega⟩

end Go.Proofs.Ytboandkjhdaobaa
