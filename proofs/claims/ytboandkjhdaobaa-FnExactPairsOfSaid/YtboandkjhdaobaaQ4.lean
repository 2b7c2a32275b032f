/- Pairs that prove equality, in the program. Walked by the engine. -/
import Derived.Test.YtboandkjhdaobaaQ3
import Derived.Test.YtboandkjhdaobaaK5
import Derived.Test.YtboandkjhdaobaaPairsQ
import Derived.Test.YtboandkjhdaobaaEngMin
namespace Go.Proofs.Ytboandkjhdaobaa
set_option linter.unusedSimpArgs false
set_option linter.unusedVariables false
set_option maxRecDepth 8000
set_option maxHeartbeats 2000000
open Go Go.RowKit AV

attribute [local go_sem] List.drop_zero List.drop_succ_cons List.take_zero List.take_succ_cons List.take_nil

def pairsOkR (args : List AV) (r : AV) : Prop := ∃ (e f : List Int) (L : List (List Int)), args = [ints e, ints f, rows L] ∧ e.length ≤ 1048576 ∧ f.length ≤ 1048576 ∧ L.length ≤ 1099511627776 ∧ (∀ x ∈ L, x.length ≤ 1099511627776) ∧ r = .bool (okB (autD e) (autD f) L)
theorem upd_P2 {K : List (Nat × Nat)} {x : Nat × Nat} (h : smP K) (hx : x.1 < 1048576 ∧ x.2 < 1048576) (hn : x ∈ K) : UpdOK Try.prog 82 (kP K) (tP K.length) (agg [I (x.1 : Int), I (x.2 : Int)]) (.bool true) (kP K) (tP K.length) := by
  unfold UpdOK
  rw [Ty_kkT_82]
  refine ⟨by decide, by show in64 _ ∧ in64 _; unfold in64; omega, kP_ok h, rfl, by simp, .inl ⟨kP_mem.2 hn, rfl, fun i hi => ?_⟩⟩
  refine List.ext_getElem (by simp) fun j h1 h2 => ?_
  rw [List.getElem_set]
  split <;> simp [tP]

theorem implPairsOk_ctr : CtrOK Try.prog 59 (pureC pairsOkR) := by
  refine ctr_pure' Try.func59 rfl rfl Try.ntmps59 ?_
  rintro _ _ ⟨e, f, L, rfl, he, hf, hL, hr, rfl⟩
  refine ⟨by simp, fun κ hκ => ?_⟩
  have hbig := bigW_gt
  rw [argEnv_eq]
  simp only [envA]
  have hΓ := ctxOf_ok (P := Try.prog) (cx autosOf_ctr <| cx apart_ctr <| cx togNext_ctr <| cx hasSet_ctr <| cx0)
  have hokA := fun h => autD_okQ (e := e) h
  have hokB := fun h => autD_okQ (e := f) h
  obtain ⟨A, hA⟩ : ∃ A, autD e = A := ⟨_, rfl⟩
  obtain ⟨C, hC⟩ : ∃ A, autD f = A := ⟨_, rfl⟩
  rw [hA] at hokA
  rw [hC] at hokB
  obtain ⟨T, hT⟩ : ∃ T, (decide (A.ends.length ≠ 0) && decide (C.ends.length ≠ 0)) = T := ⟨_, rfl⟩
  have hA2 : autosR [ints e, ints f] (.tup [togA A C, .bool T]) := ⟨e, f, rfl, he, hf, by rw [hA, hC, hT]⟩
  rw [hA, hC]
  repeat' (first | refine wS fun K hK => ?_ | refine wB ?_ | ((first | refine wX hΓ ?_ | refine wV hΓ fun B hB => ?_); simp (config := { maxSteps := 2000000 }) only [go_sem]) | ((repeat ((fail_if_success (refine hK _ ?_)); clear hK K)); refine hK _ ?_; clear hK K) | (refine w1 ?_; simp only [xs, xi, Nat.reduceEqDiff, reduceCtorEq]) | (refine wC (fun hb => ?_) fun hb => ?_ <;> (try simp only [xb, reduceCtorEq] at hb)) | (refine w2 (fun hc => ?_) (fun hc => ?_) <;> (try simp only [xc] at hc) <;> (try simp only [go_sem, hc]) <;> (try simp only [xb] at hc)) | refine wI ?_ | refine ex_idx (by omega) ?_ | fail)
  (first | refine wA rfl ?_ ?_ ?_ | refine dA rfl ?_ ?_ ?_); exact (.tup [togA A C, .bool T]); exact (hA2); simp (config := { maxSteps := 2000000 }) only [go_sem]
  cases T with
  | false =>
    repeat' (first | refine wS fun K hK => ?_ | refine wB ?_ | ((first | refine wX hΓ ?_ | refine wV hΓ fun B hB => ?_); simp (config := { maxSteps := 2000000 }) only [go_sem]) | ((repeat ((fail_if_success (refine hK _ ?_)); clear hK K)); refine hK _ ?_; clear hK K) | (refine w1 ?_; simp only [xs, xi, Nat.reduceEqDiff, reduceCtorEq]) | (refine wC (fun hb => ?_) fun hb => ?_ <;> (try simp only [xb, reduceCtorEq] at hb)) | (refine w2 (fun hc => ?_) (fun hc => ?_) <;> (try simp only [xc] at hc) <;> (try simp only [go_sem, hc]) <;> (try simp only [xb] at hc)) | refine wI ?_ | refine ex_idx (by omega) ?_ | fail)
    rw [okB_no (fun h => by rw [decide_eq_true h.1, decide_eq_true h.2.1] at hT; cases hT)]
    simp [Try.results59, RetOK, RetP, backA, upd_at, plainB, getP, isOwn, anyOwn, isP]
  | true =>
    rw [Bool.and_eq_true, decide_eq_true_eq, decide_eq_true_eq] at hT
    have hokA := hokA hT.1
    have hokB := hokB hT.2
    have hpA := hokA.pow_le
    have hpC := hokB.pow_le
    repeat' (first | refine wS fun K hK => ?_ | refine wB ?_ | ((first | refine wX hΓ ?_ | refine wV hΓ fun B hB => ?_); simp (config := { maxSteps := 2000000 }) only [go_sem]) | ((repeat ((fail_if_success (refine hK _ ?_)); clear hK K)); refine hK _ ?_; clear hK K) | (refine w1 ?_; simp only [xs, xi, Nat.reduceEqDiff, reduceCtorEq]) | (refine wC (fun hb => ?_) fun hb => ?_ <;> (try simp only [xb, reduceCtorEq] at hb)) | (refine w2 (fun hc => ?_) (fun hc => ?_) <;> (try simp only [xc] at hc) <;> (try simp only [go_sem, hc]) <;> (try simp only [xb] at hc)) | refine wI ?_ | refine ex_idx (by omega) ?_ | fail)
    · rw [okB_no (fun h => by omega)]
      simp [Try.results59, RetOK, RetP, backA, upd_at, plainB, getP, isOwn, anyOwn, isP]
    refine CW.loop (ι := Nat × List (Nat × Nat)) (fun y => [(7, box [ints A.ends, rows A.next, ints C.ends, rows C.next]), (9, omap (kP y.2) (tP y.2.length)), (28, rows L), (29, I L.length), (30, I (y.1 : Nat))]) (fun y => y.1 ≤ L.length ∧ HasP A C L y.1 y.2) (fun y => L.length - y.1) (0, []) ?_ ?_
    · exact ⟨by ((simp only [xe, xj, Nat.reduceEqDiff]; (try simp [view, viewL_map]); (try omega)); try simp [kP, tP]), by omega, HasP.zero⟩
    rintro ⟨k, G⟩ ⟨hk, hH⟩
    dsimp only at hk hH
    simp only [envOf]
    have hsm : smP G := fun p hp => by
      obtain ⟨_, b1, b2⟩ := hH.mem p hp
      omega
    by_cases hkL : k < L.length
    · by_cases h2 : L[k].length = 2
      rotate_left
      · repeat' (first | refine wS fun K hK => ?_ | refine wB ?_ | ((first | refine wX hΓ ?_ | refine wV hΓ fun B hB => ?_); simp (config := { maxSteps := 2000000 }) only [go_sem]) | ((repeat ((fail_if_success (refine hK _ ?_)); clear hK K)); refine hK _ ?_; clear hK K) | (refine w1 ?_; simp only [xs, xi, Nat.reduceEqDiff, reduceCtorEq]) | (refine wC (fun hb => ?_) fun hb => ?_ <;> (try simp only [xb, reduceCtorEq] at hb)) | (refine w2 (fun hc => ?_) (fun hc => ?_) <;> (try simp only [xc] at hc) <;> (try simp only [go_sem, hc]) <;> (try simp only [xb] at hc)) | refine wI ?_ | refine ex_idx (by omega) ?_ | fail)
        all_goals try (exfalso; omega)
        rw [okB_len hkL h2]
        simp [Try.results59, RetOK, RetP, backA, upd_at, plainB, getP, isOwn, anyOwn, isP]
      obtain ⟨a, b, hab⟩ : ∃ a b, L[k] = [a, b] := ⟨_, _, two_eq h2 rfl rfl⟩
      have h0 : L[k][0]'(by omega) = a := by simp [hab]
      have h1 : L[k][1]'(by omega) = b := by simp [hab]
      have n1 := fun h => okB_one (A := A) (B := C) (k := k) (a := a) (b := b) hkL hab h
      have n2 := fun h => okB_two (A := A) (B := C) (k := k) (a := a) (b := b) hkL hab h
      repeat' (first | refine wS fun K hK => ?_ | refine wB ?_ | ((first | refine wX hΓ ?_ | refine wV hΓ fun B hB => ?_); simp (config := { maxSteps := 2000000 }) only [go_sem, h0, h1]) | ((repeat ((fail_if_success (refine hK _ ?_)); clear hK K)); refine hK _ ?_; clear hK K) | (refine w1 ?_; simp only [xs, xi, Nat.reduceEqDiff, reduceCtorEq]) | (refine wC (fun hb => ?_) fun hb => ?_ <;> (try simp only [xb, reduceCtorEq] at hb)) | (refine w2 (fun hc => ?_) (fun hc => ?_) <;> (try simp only [xc] at hc) <;> (try simp only [go_sem, hc, h0, h1]) <;> (try simp only [xb] at hc)) | refine wI ?_ | refine ex_idx (by omega) ?_ | fail)
      all_goals try (exfalso; omega)
      by_cases ha : 0 ≤ a ∧ a < 2 ^ A.ends.length
      rotate_left
      · (first | refine wA rfl ?_ ?_ ?_ | refine dA rfl ?_ ?_ ?_); exact (.bool false); exact (⟨A, a, by simp [h0, autA], hokA, by rw [decide_eq_false ha]⟩); simp (config := { maxSteps := 2000000 }) only [go_sem]
        repeat' (first | refine wS fun K hK => ?_ | refine wB ?_ | ((first | refine wX hΓ ?_ | refine wV hΓ fun B hB => ?_); simp (config := { maxSteps := 2000000 }) only [go_sem, h0, h1]) | ((repeat ((fail_if_success (refine hK _ ?_)); clear hK K)); refine hK _ ?_; clear hK K) | (refine w1 ?_; simp only [xs, xi, Nat.reduceEqDiff, reduceCtorEq]) | (refine wC (fun hb => ?_) fun hb => ?_ <;> (try simp only [xb, reduceCtorEq] at hb)) | (refine w2 (fun hc => ?_) (fun hc => ?_) <;> (try simp only [xc] at hc) <;> (try simp only [go_sem, hc, h0, h1]) <;> (try simp only [xb] at hc)) | refine wI ?_ | refine ex_idx (by omega) ?_ | fail)
        rw [n1 ha]
        simp [Try.results59, RetOK, RetP, backA, upd_at, plainB, getP, isOwn, anyOwn, isP]
      (first | refine wA rfl ?_ ?_ ?_ | refine dA rfl ?_ ?_ ?_); exact (.bool true); exact (⟨A, a, by simp [h0, autA], hokA, by rw [decide_eq_true ha]⟩); simp (config := { maxSteps := 2000000 }) only [go_sem]
      repeat' (first | refine wS fun K hK => ?_ | refine wB ?_ | ((first | refine wX hΓ ?_ | refine wV hΓ fun B hB => ?_); simp (config := { maxSteps := 2000000 }) only [go_sem, h0, h1]) | ((repeat ((fail_if_success (refine hK _ ?_)); clear hK K)); refine hK _ ?_; clear hK K) | (refine w1 ?_; simp only [xs, xi, Nat.reduceEqDiff, reduceCtorEq]) | (refine wC (fun hb => ?_) fun hb => ?_ <;> (try simp only [xb, reduceCtorEq] at hb)) | (refine w2 (fun hc => ?_) (fun hc => ?_) <;> (try simp only [xc] at hc) <;> (try simp only [go_sem, hc, h0, h1]) <;> (try simp only [xb] at hc)) | refine wI ?_ | refine ex_idx (by omega) ?_ | fail)
      by_cases hb2 : 0 ≤ b ∧ b < 2 ^ C.ends.length
      rotate_left
      · (first | refine wA rfl ?_ ?_ ?_ | refine dA rfl ?_ ?_ ?_); exact (.bool false); exact (⟨C, b, by simp [h1, autA], hokB, by rw [decide_eq_false hb2]⟩); simp (config := { maxSteps := 2000000 }) only [go_sem]
        repeat' (first | refine wS fun K hK => ?_ | refine wB ?_ | ((first | refine wX hΓ ?_ | refine wV hΓ fun B hB => ?_); simp (config := { maxSteps := 2000000 }) only [go_sem, h0, h1]) | ((repeat ((fail_if_success (refine hK _ ?_)); clear hK K)); refine hK _ ?_; clear hK K) | (refine w1 ?_; simp only [xs, xi, Nat.reduceEqDiff, reduceCtorEq]) | (refine wC (fun hb => ?_) fun hb => ?_ <;> (try simp only [xb, reduceCtorEq] at hb)) | (refine w2 (fun hc => ?_) (fun hc => ?_) <;> (try simp only [xc] at hc) <;> (try simp only [go_sem, hc, h0, h1]) <;> (try simp only [xb] at hc)) | refine wI ?_ | refine ex_idx (by omega) ?_ | fail)
        rw [n2 hb2]
        simp [Try.results59, RetOK, RetP, backA, upd_at, plainB, getP, isOwn, anyOwn, isP]
      (first | refine wA rfl ?_ ?_ ?_ | refine dA rfl ?_ ?_ ?_); exact (.bool true); exact (⟨C, b, by simp [h1, autA], hokB, by rw [decide_eq_true hb2]⟩); simp (config := { maxSteps := 2000000 }) only [go_sem]
      obtain ⟨x, rfl⟩ : ∃ x : Nat, a = (x : Int) := ⟨a.toNat, by omega⟩
      obtain ⟨y, rfl⟩ : ∃ x : Nat, b = (x : Int) := ⟨b.toNat, by omega⟩
      clear n1 n2
      have hrow : L[k] = rowP2 (x, y) := hab
      have hx : x < 2 ^ A.ends.length := by
        have h := ha.2
        have e5 : ((2 ^ A.ends.length : Nat) : Int) = 2 ^ A.ends.length := by simp
        generalize 2 ^ A.ends.length = z at e5 ⊢
        rw [← e5] at h
        omega
      have hy : y < 2 ^ C.ends.length := by
        have h := hb2.2
        have e5 : ((2 ^ C.ends.length : Nat) : Int) = 2 ^ C.ends.length := by simp
        generalize 2 ^ C.ends.length = z at e5 ⊢
        rw [← e5] at h
        omega
      clear ha hb2
      have hbd : x < 1048576 ∧ y < 1048576 := by omega
      repeat' (first | refine wS fun K hK => ?_ | refine wB ?_ | ((first | refine wX hΓ ?_ | refine wV hΓ fun B hB => ?_); simp (config := { maxSteps := 2000000 }) only [go_sem, h0, h1]) | ((repeat ((fail_if_success (refine hK _ ?_)); clear hK K)); refine hK _ ?_; clear hK K) | (refine w1 ?_; simp only [xs, xi, Nat.reduceEqDiff, reduceCtorEq]) | (refine wC (fun hb => ?_) fun hb => ?_ <;> (try simp only [xb, reduceCtorEq] at hb)) | (refine w2 (fun hc => ?_) (fun hc => ?_) <;> (try simp only [xc] at hc) <;> (try simp only [go_sem, hc, h0, h1]) <;> (try simp only [xb] at hc)) | refine wI ?_ | refine ex_idx (by omega) ?_ | fail)
      by_cases hin : (x, y) ∈ G
      · refine ⟨kP G, tP G.length, by rw [h0, h1]; exact upd_P2 hsm (x := (x, y)) hbd hin, ?_⟩
        repeat' (first | refine wS fun K hK => ?_ | refine wB ?_ | ((first | refine wX hΓ ?_ | refine wV hΓ fun B hB => ?_); simp (config := { maxSteps := 2000000 }) only [go_sem, h0, h1]) | ((repeat ((fail_if_success (refine hK _ ?_)); clear hK K)); refine hK _ ?_; clear hK K) | (refine w1 ?_; simp only [xs, xi, Nat.reduceEqDiff, reduceCtorEq]) | (refine wC (fun hb => ?_) fun hb => ?_ <;> (try simp only [xb, reduceCtorEq] at hb)) | (refine w2 (fun hc => ?_) (fun hc => ?_) <;> (try simp only [xc] at hc) <;> (try simp only [go_sem, hc, h0, h1]) <;> (try simp only [xb] at hc)) | refine wI ?_ | refine ex_idx (by omega) ?_ | fail)
        exact ⟨(k + 1, G), by (simp only [xe, xj, Nat.reduceEqDiff]; (try simp [view, viewL_map]); (try omega)), ⟨by show k + 1 ≤ _; omega, hH.old hkL hin hrow⟩, by show L.length - (k + 1) < _; omega⟩
      · refine ⟨kP (G ++ [(x, y)]), tP (G ++ [(x, y)]).length, by rw [h0, h1]; exact upd_P hsm (x := (x, y)) hbd hin, ?_⟩
        repeat' (first | refine wS fun K hK => ?_ | refine wB ?_ | ((first | refine wX hΓ ?_ | refine wV hΓ fun B hB => ?_); simp (config := { maxSteps := 2000000 }) only [go_sem, h0, h1]) | ((repeat ((fail_if_success (refine hK _ ?_)); clear hK K)); refine hK _ ?_; clear hK K) | (refine w1 ?_; simp only [xs, xi, Nat.reduceEqDiff, reduceCtorEq]) | (refine wC (fun hb => ?_) fun hb => ?_ <;> (try simp only [xb, reduceCtorEq] at hb)) | (refine w2 (fun hc => ?_) (fun hc => ?_) <;> (try simp only [xc] at hc) <;> (try simp only [go_sem, hc, h0, h1]) <;> (try simp only [xb] at hc)) | refine wI ?_ | refine ex_idx (by omega) ?_ | fail)
        exact ⟨(k + 1, G ++ [(x, y)]), by (simp only [xe, xj, Nat.reduceEqDiff]; (try simp [view, viewL_map]); (try omega)), ⟨by show k + 1 ≤ _; omega, hH.new hkL hrow hx hy⟩, by show L.length - (k + 1) < _; omega⟩
    obtain rfl : k = L.length := by omega
    repeat' (first | refine wS fun K hK => ?_ | refine wB ?_ | ((first | refine wX hΓ ?_ | refine wV hΓ fun B hB => ?_); simp (config := { maxSteps := 2000000 }) only [go_sem]) | ((repeat ((fail_if_success (refine hK _ ?_)); clear hK K)); refine hK _ ?_; clear hK K) | (refine w1 ?_; simp only [xs, xi, Nat.reduceEqDiff, reduceCtorEq]) | (refine wC (fun hb => ?_) fun hb => ?_ <;> (try simp only [xb, reduceCtorEq] at hb)) | (refine w2 (fun hc => ?_) (fun hc => ?_) <;> (try simp only [xc] at hc) <;> (try simp only [go_sem, hc]) <;> (try simp only [xb] at hc)) | refine wI ?_ | refine ex_idx (by omega) ?_ | fail)
    all_goals try (exfalso; omega)
    refine ⟨_, look_P hsm (x := (1, 1)) ⟨by decide, by decide⟩, ?_⟩
    by_cases h11 : (1, 1) ∈ G
    rotate_left
    · rw [decide_eq_false h11]
      simp (config := { maxSteps := 2000000 }) only [go_sem]
      repeat' (first | refine wS fun K hK => ?_ | refine wB ?_ | ((first | refine wX hΓ ?_ | refine wV hΓ fun B hB => ?_); simp (config := { maxSteps := 2000000 }) only [go_sem]) | ((repeat ((fail_if_success (refine hK _ ?_)); clear hK K)); refine hK _ ?_; clear hK K) | (refine w1 ?_; simp only [xs, xi, Nat.reduceEqDiff, reduceCtorEq]) | (refine wC (fun hb => ?_) fun hb => ?_ <;> (try simp only [xb, reduceCtorEq] at hb)) | (refine w2 (fun hc => ?_) (fun hc => ?_) <;> (try simp only [xc] at hc) <;> (try simp only [go_sem, hc]) <;> (try simp only [xb] at hc)) | refine wI ?_ | refine ex_idx (by omega) ?_ | fail)
      rw [hH.no_one h11]
      simp [Try.results59, RetOK, RetP, backA, upd_at, plainB, getP, isOwn, anyOwn, isP]
    rw [decide_eq_true h11]
    simp (config := { maxSteps := 2000000 }) only [go_sem]
    (refine hK _ ?_; clear hK K)
    refine CW.frz 9 [] (omap (kP G) (tP G.length)) (by simp [upd_at, getP]) rfl ?_
    simp (config := { maxSteps := 2000000 }) only [go_sem]
    repeat' (first | refine wS fun K hK => ?_ | refine wB ?_ | ((first | refine wX hΓ ?_ | refine wV hΓ fun B hB => ?_); simp (config := { maxSteps := 2000000 }) only [go_sem]) | ((repeat ((fail_if_success (refine hK _ ?_)); clear hK K)); refine hK _ ?_; clear hK K) | (refine w1 ?_; simp only [xs, xi, Nat.reduceEqDiff, reduceCtorEq]) | (refine wC (fun hb => ?_) fun hb => ?_ <;> (try simp only [xb, reduceCtorEq] at hb)) | (refine w2 (fun hc => ?_) (fun hc => ?_) <;> (try simp only [xc] at hc) <;> (try simp only [go_sem, hc]) <;> (try simp only [xb] at hc)) | refine wI ?_ | refine ex_idx (by omega) ?_ | fail)
    have hGn : ∀ j (h : j < G.length), j < (kP G).length := fun j h => by simp [kP]; exact h
    have hst : ∀ (x : Nat × Nat) (m : Nat), m < 12 → (stepP A C x m).1 < 1048576 ∧ (stepP A C x m).2 < 1048576 := fun x m hm => by
      have := stepP_lt hokA hokB (p := x) hm
      omega
    refine CW.loop (ι := List Nat) (fun seen => [(7, box [ints A.ends, rows A.next, ints C.ends, rows C.next]), (9, .pmap (kP G) (tP G.length)), (69, .oiter (kP G) (tP G.length) seen)]) (fun seen => (seen.Nodup ∧ ∀ j ∈ seen, j < G.length) ∧ ∀ j (h : j < G.length), j ∈ seen → finP A C G[j] = 0 ∧ ∀ m, m < 12 → stepP A C G[j] m ∈ G) (fun seen => G.length - seen.length) [] ?_ ?_
    · exact ⟨by (simp only [xe, xj, Nat.reduceEqDiff]; (try simp [view, viewL_map]); (try omega)), by simp⟩
    rintro seen ⟨⟨hnd, hsl⟩, hgood⟩
    simp only [envOf]
    refine CW.seqK fun K hK => ?_
    refine CW.nextReg hΓ (d := 70) (t := 69) rfl rfl rfl [] (by rw [hκ]; rfl) (by simp only [upd_at, if_true, if_false, Nat.reduceEqDiff]; rfl) (by decide) (fun hall => ?_) (fun j hj hv hjs => ?_)
    · simp (config := { maxSteps := 2000000 }) only [go_sem]
      repeat' (first | refine wS fun K hK => ?_ | refine wB ?_ | ((first | refine wX hΓ ?_ | refine wV hΓ fun B hB => ?_); simp (config := { maxSteps := 2000000 }) only [go_sem]) | ((repeat ((fail_if_success (refine hK _ ?_)); clear hK K)); refine hK _ ?_; clear hK K) | (refine w1 ?_; simp only [xs, xi, Nat.reduceEqDiff, reduceCtorEq]) | (refine wC (fun hb => ?_) fun hb => ?_ <;> (try simp only [xb, reduceCtorEq] at hb)) | (refine w2 (fun hc => ?_) (fun hc => ?_) <;> (try simp only [xc] at hc) <;> (try simp only [go_sem, hc]) <;> (try simp only [xb] at hc)) | refine wI ?_ | refine ex_idx (by omega) ?_ | fail)
      rw [hH.yes hT.1 hT.2 (by omega) h11 (fun p hp => by
        obtain ⟨j, hj, rfl⟩ := List.getElem_of_mem hp
        exact hgood j hj (hall j (hGn j hj)))]
      simp [Try.results59, RetOK, RetP, backA, upd_at, plainB, getP, isOwn, anyOwn, isP]
    · have hjP : j < G.length := by simpa [kP] using hj
      obtain ⟨p, hPj⟩ : ∃ p, G[j] = p := ⟨_, rfl⟩
      have hpG : p ∈ G := hPj ▸ List.getElem_mem hjP
      have hpb := hsm p hpG
      have hkj : (kP G)[j] = agg [I (p.1 : Int), I (p.2 : Int)] := by simp [kP, hPj]
      have hvj : (tP G.length)[j] = .bool true := by simp [tP]
      have hlast : (seen ++ [j]).getLast? = some j := by simp
      have hkj' : (kP G)[j]? = some (agg [I (p.1 : Int), I (p.2 : Int)]) := by rw [List.getElem?_eq_getElem hj, hkj]
      have hvj' : (tP G.length)[j]? = some (.bool true) := by rw [List.getElem?_eq_getElem hv, hvj]
      have hnd3 : (seen ++ [j]).Nodup := by rw [List.nodup_append]; exact ⟨hnd, by simp, fun a ha b hb => by simp at hb; subst hb; exact fun e => hjs (e ▸ ha)⟩
      have hsl3 : ∀ x ∈ seen ++ [j], x < G.length := fun x hx => by
        rcases List.mem_append.1 hx with h | h
        · exact hsl x h
        · simp at h; omega
      have hjn : seen.length < G.length := by
        have := nodup_len (l := seen ++ [j]) (m := List.range G.length) hnd3 fun x hx => by rw [List.mem_range]; exact hsl3 x hx
        simp at this; omega
      simp only [hkj, hvj]
      simp (config := { maxSteps := 2000000 }) only [go_sem]
      repeat' (first | refine wS fun K hK => ?_ | refine wB ?_ | ((first | refine wX hΓ ?_ | refine wV hΓ fun B hB => ?_); simp (config := { maxSteps := 2000000 }) only [go_sem]) | ((repeat ((fail_if_success (refine hK _ ?_)); clear hK K)); refine hK _ ?_; clear hK K) | (refine w1 ?_; simp only [xs, xi, Nat.reduceEqDiff, reduceCtorEq]) | (refine wC (fun hb => ?_) fun hb => ?_ <;> (try simp only [xb, reduceCtorEq] at hb)) | (refine w2 (fun hc => ?_) (fun hc => ?_) <;> (try simp only [xc] at hc) <;> (try simp only [go_sem, hc]) <;> (try simp only [xb] at hc)) | refine wI ?_ | refine ex_idx (by omega) ?_ | fail)
      refine ⟨j, _, _, ⟨hlast, hkj', hvj'⟩, ?_⟩
      simp (config := { maxSteps := 2000000 }) only [go_sem]
      repeat' (first | refine wS fun K hK => ?_ | refine wB ?_ | ((first | refine wX hΓ ?_ | refine wV hΓ fun B hB => ?_); simp (config := { maxSteps := 2000000 }) only [go_sem]) | ((repeat ((fail_if_success (refine hK _ ?_)); clear hK K)); refine hK _ ?_; clear hK K) | (refine w1 ?_; simp only [xs, xi, Nat.reduceEqDiff, reduceCtorEq]) | (refine wC (fun hb => ?_) fun hb => ?_ <;> (try simp only [xb, reduceCtorEq] at hb)) | (refine w2 (fun hc => ?_) (fun hc => ?_) <;> (try simp only [xc] at hc) <;> (try simp only [go_sem, hc]) <;> (try simp only [xb] at hc)) | refine wI ?_ | refine ex_idx (by omega) ?_ | fail)
      have hf16 := finP_lt hokA hokB p
      obtain ⟨f, hf0⟩ : ∃ f, finP A C p = f := ⟨_, rfl⟩
      rw [hf0] at hf16
      (first | refine wA rfl ?_ ?_ ?_ | refine dA rfl ?_ ?_ ?_); exact (I (f : Int)); exact (⟨A, C, p, rfl, hokA, hokB, by omega, by omega, by rw [hf0]⟩); simp (config := { maxSteps := 2000000 }) only [go_sem]
      repeat' (first | refine wS fun K hK => ?_ | refine wB ?_ | ((first | refine wX hΓ ?_ | refine wV hΓ fun B hB => ?_); simp (config := { maxSteps := 2000000 }) only [go_sem]) | ((repeat ((fail_if_success (refine hK _ ?_)); clear hK K)); refine hK _ ?_; clear hK K) | (refine w1 ?_; simp only [xs, xi, Nat.reduceEqDiff, reduceCtorEq]) | (refine wC (fun hb => ?_) fun hb => ?_ <;> (try simp only [xb, reduceCtorEq] at hb)) | (refine w2 (fun hc => ?_) (fun hc => ?_) <;> (try simp only [xc] at hc) <;> (try simp only [go_sem, hc]) <;> (try simp only [xb] at hc)) | refine wI ?_ | refine ex_idx (by omega) ?_ | fail)
      · rw [hH.no_fin hpG (by omega)]
        simp [Try.results59, RetOK, RetP, backA, upd_at, plainB, getP, isOwn, anyOwn, isP]
      refine CW.loop (ι := Nat) (fun m => [(7, box [ints A.ends, rows A.next, ints C.ends, rows C.next]), (9, .pmap (kP G) (tP G.length)), (69, .oiter (kP G) (tP G.length) (seen ++ [j])), (12, box [I (p.1 : Int), I (p.2 : Int)]), (78, I (m : Int))]) (fun m => m ≤ 12 ∧ ∀ i, i < m → stepP A C p i ∈ G) (fun m => 12 - m) 0 ?_ ?_
      · exact ⟨by (simp only [xe, xj, Nat.reduceEqDiff]; (try simp [view, viewL_map]); (try omega)), by omega, by intros; omega⟩
      rintro m ⟨hm, hmem⟩
      simp only [envOf]
      repeat' (first | refine wS fun K hK => ?_ | refine wB ?_ | ((first | refine wX hΓ ?_ | refine wV hΓ fun B hB => ?_); simp (config := { maxSteps := 2000000 }) only [go_sem]) | ((repeat ((fail_if_success (refine hK _ ?_)); clear hK K)); refine hK _ ?_; clear hK K) | (refine w1 ?_; simp only [xs, xi, Nat.reduceEqDiff, reduceCtorEq]) | (refine wC (fun hb => ?_) fun hb => ?_ <;> (try simp only [xb, reduceCtorEq] at hb)) | (refine w2 (fun hc => ?_) (fun hc => ?_) <;> (try simp only [xc] at hc) <;> (try simp only [go_sem, hc]) <;> (try simp only [xb] at hc)) | refine wI ?_ | refine ex_idx (by omega) ?_ | fail)
      · have hs1 := hst p m (by omega)
        obtain ⟨z, hz⟩ : ∃ z, stepP A C p m = z := ⟨_, rfl⟩
        rw [hz] at hs1
        (first | refine wA rfl ?_ ?_ ?_ | refine dA rfl ?_ ?_ ?_); exact (agg [I (z.1 : Int), I (z.2 : Int)]); exact (⟨A, C, p, m, rfl, hokA, hokB, by omega, by omega, by omega, by rw [hz]⟩); simp (config := { maxSteps := 2000000 }) only [go_sem]
        repeat' (first | refine wS fun K hK => ?_ | refine wB ?_ | ((first | refine wX hΓ ?_ | refine wV hΓ fun B hB => ?_); simp (config := { maxSteps := 2000000 }) only [go_sem]) | ((repeat ((fail_if_success (refine hK _ ?_)); clear hK K)); refine hK _ ?_; clear hK K) | (refine w1 ?_; simp only [xs, xi, Nat.reduceEqDiff, reduceCtorEq]) | (refine wC (fun hb => ?_) fun hb => ?_ <;> (try simp only [xb, reduceCtorEq] at hb)) | (refine w2 (fun hc => ?_) (fun hc => ?_) <;> (try simp only [xc] at hc) <;> (try simp only [go_sem, hc]) <;> (try simp only [xb] at hc)) | refine wI ?_ | refine ex_idx (by omega) ?_ | fail)
        refine ⟨_, look_P hsm hs1, ?_⟩
        by_cases hin : z ∈ G
        · rw [decide_eq_true hin]
          simp (config := { maxSteps := 2000000 }) only [go_sem]
          repeat' (first | refine wS fun K hK => ?_ | refine wB ?_ | ((first | refine wX hΓ ?_ | refine wV hΓ fun B hB => ?_); simp (config := { maxSteps := 2000000 }) only [go_sem]) | ((repeat ((fail_if_success (refine hK _ ?_)); clear hK K)); refine hK _ ?_; clear hK K) | (refine w1 ?_; simp only [xs, xi, Nat.reduceEqDiff, reduceCtorEq]) | (refine wC (fun hb => ?_) fun hb => ?_ <;> (try simp only [xb, reduceCtorEq] at hb)) | (refine w2 (fun hc => ?_) (fun hc => ?_) <;> (try simp only [xc] at hc) <;> (try simp only [go_sem, hc]) <;> (try simp only [xb] at hc)) | refine wI ?_ | refine ex_idx (by omega) ?_ | fail)
          refine ⟨m + 1, by (simp only [xe, xj, Nat.reduceEqDiff]; (try simp [view, viewL_map]); (try omega)), ⟨by omega, fun i hi => ?_⟩, by omega⟩
          rcases Nat.lt_or_ge i m with g | g
          · exact hmem i g
          · obtain rfl : i = m := by omega
            rw [hz]; exact hin
        · rw [decide_eq_false hin]
          simp (config := { maxSteps := 2000000 }) only [go_sem]
          repeat' (first | refine wS fun K hK => ?_ | refine wB ?_ | ((first | refine wX hΓ ?_ | refine wV hΓ fun B hB => ?_); simp (config := { maxSteps := 2000000 }) only [go_sem]) | ((repeat ((fail_if_success (refine hK _ ?_)); clear hK K)); refine hK _ ?_; clear hK K) | (refine w1 ?_; simp only [xs, xi, Nat.reduceEqDiff, reduceCtorEq]) | (refine wC (fun hb => ?_) fun hb => ?_ <;> (try simp only [xb, reduceCtorEq] at hb)) | (refine w2 (fun hc => ?_) (fun hc => ?_) <;> (try simp only [xc] at hc) <;> (try simp only [go_sem, hc]) <;> (try simp only [xb] at hc)) | refine wI ?_ | refine ex_idx (by omega) ?_ | fail)
          rw [hH.no_step hpG (m := m) (by omega) (by rw [hz]; exact hin)]
          simp [Try.results59, RetOK, RetP, backA, upd_at, plainB, getP, isOwn, anyOwn, isP]
      · obtain rfl : m = 12 := by omega
        refine ⟨seen ++ [j], by (simp only [xe, xj, Nat.reduceEqDiff]; (try simp [view, viewL_map]); (try omega)), ⟨⟨hnd3, hsl3⟩, fun i hi his => ?_⟩, by simp; omega⟩
        rcases List.mem_append.1 his with g | g
        · exact hgood i hi g
        · obtain rfl : i = j := by simpa using g
          rw [hPj]
          exact ⟨by omega, hmem⟩

end Go.Proofs.Ytboandkjhdaobaa
