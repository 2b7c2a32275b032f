/- WeakTest of the reference, walked by the engine. -/
import Derived.Test.YtmhiipmajlmlgaaGreatGrpM
import Derived.Test.YtmhiipmajlmlgaaGreatB1
import Derived.Test.YtmhiipmajlmlgaaGreatHB
import Derived.Test.YtmhiipmajlmlgaaGreatGrpL
import Derived.Test.YtmhiipmajlmlgaaGreatGrpN
import Derived.Test.YtmhiipmajlmlgaaGreatGrpJ
import Derived.Test.YtmhiipmajlmlgaaGreatEngMin
namespace Go.Proofs.YtmhiipmajlmlgaaGreat
set_option linter.unusedSimpArgs false
set_option linter.unusedVariables false
set_option maxRecDepth 8000
set_option maxHeartbeats 2000000
open Go Go.RowKit AV

def weakR (args : List AV) (r : AV) : Prop := ∃ (e : List Int) (test : Int), args = [ints e, I test] ∧ e.length ≤ 1048576 ∧ r = I (weakI (autD e) test)

theorem katB_ok {e : List Int} (h : katB e = true) : KatOK e := by
  obtain ⟨x, hw, rfl, h40⟩ := katB_tree h
  exact KatOK.of hw h40
theorem autD_okB {e : List Int} (h : (autD e).ends.length ≠ 0) : AutoOK (autD e) := by
  by_cases hc : katB e = true ∧ (allL e).length ≤ 10
  · exact autD_ok (katB_ok hc.1) h
  · rw [autD_no hc] at h; exact absurd rfl h

def wkM (D : AutoD) (t k s m : Nat) : Bool := decide (0 < endsN D k &&& (15 - t)) || anyM D k s m
theorem wkM_succ (D : AutoD) (t k s m : Nat) : wkM D t k s (m + 1) = (wkM D t k s m || decide (0 < nextN D k m &&& s)) := by
  unfold wkM; rw [anyM, Bool.or_assoc]
theorem anyM_wk (D : AutoD) (t k s : Nat) : ∀ m, anyM (wkD D t) k s m = anyM D k s m
  | 0 => rfl
  | m + 1 => by rw [anyM, anyM, anyM_wk, wkD_next]
theorem wkM_all {D : AutoD} {t k : Nat} (s : Nat) (h : k < D.ends.length) : wkM D t k s 12 = liveC (wkD D t) k s := by
  unfold wkM liveC; rw [wkD_ends h, anyM_wk]
def wkT (D : AutoD) (t set k : Nat) : Nat := lvT (wkD D t) set k
theorem wkT_succ {D : AutoD} {t k : Nat} (s : Nat) (h : k < D.ends.length) : wkT D t s (k + 1) = if wkM D t k (wkT D t s k) 12 then wkT D t s k ||| 2 ^ k else wkT D t s k := by
  rw [wkM_all _ h]; rfl
def wkJ (D : AutoD) (t j : Nat) : Nat := lvI (wkD D t) j
theorem wkJ_succ (D : AutoD) (t j : Nat) : wkJ D t (j + 1) = wkT D t (wkJ D t j) D.ends.length := by
  show lvT (wkD D t) _ (wkD D t).ends.length = _
  rw [wkD_len]; rfl
theorem wkJ_lt (D : AutoD) (t j : Nat) : wkJ D t j < 2 ^ D.ends.length := by have := lvI_lt (wkD D t) j; rwa [wkD_len] at this
theorem wkT_lt {D : AutoD} {t set : Nat} (h : set < 2 ^ D.ends.length) {k : Nat} (hk : k ≤ D.ends.length) : wkT D t set k < 2 ^ D.ends.length := lvT_lt (wkD D t) h k hk
theorem wkJ_full (D : AutoD) (t : Nat) : wkJ D t (D.ends.length + 1) = liveF (wkD D t) := by
  show _ = lvI (wkD D t) ((wkD D t).ends.length + 1)
  rw [wkD_len]; rfl

def badM (D : AutoD) (t s a S : Nat) : Nat → Bool
  | 0 => (endsN D s).testBit a && !t.testBit a
  | c + 1 => badM D t s a S c || decide (0 < nextN D s (3 * a + c) &&& S)
theorem badM_iff (D : AutoD) (t s a S : Nat) : badM D t s a S 3 = true ↔ badP D t s a S := by
  simp only [badM, Bool.or_eq_true, Bool.and_eq_true, Bool.not_eq_true', decide_eq_true_eq, badP, Bool.not_eq_true]
  constructor
  · rintro (((h | h) | h) | h)
    · exact .inl h
    · exact .inr ⟨0, by omega, h⟩
    · exact .inr ⟨1, by omega, h⟩
    · exact .inr ⟨2, by omega, h⟩
  · rintro (h | ⟨c, hc, h⟩)
    · exact .inl (.inl (.inl h))
    · have : c = 0 ∨ c = 1 ∨ c = 2 := by omega
      rcases this with rfl | rfl | rfl
      · exact .inl (.inl (.inr h))
      · exact .inl (.inr h)
      · exact .inr h
def wkB (D : AutoD) (t : Nat) (a : Nat) : Bool := !badM D t 0 a (liveF (wkD D t)) 3
open Classical in
theorem weakN_eq (D : AutoD) (t : Nat) : weakN D t = sumB (wkB D t) 4 := by
  unfold weakN
  congr 1
  funext a
  unfold wkB
  congr 1
  rw [Bool.eq_iff_iff, decide_eq_true_eq, badM_iff]
theorem weakI_no {D : AutoD} {test : Int} (h : D.ends.length = 0 ∨ ¬ (0 ≤ test ∧ test ≤ 15)) : weakI D test = -1 := if_pos h
theorem weakI_yes {D : AutoD} {test : Int} (h : ¬ (D.ends.length = 0 ∨ ¬ (0 ≤ test ∧ test ≤ 15))) : weakI D test = (sumB (wkB D test.toNat) 4 : Nat) := by
  unfold weakI
  rw [if_neg h, weakN_eq]
theorem not_and_bit {x t a : Nat} (ht : t ≤ 15) (ha : a < 4) : (x &&& (15 - t)).testBit a = (x.testBit a && !t.testBit a) := by
  rw [Nat.testBit_and, not_testBit ht]; simp [ha]

def testNotSR (args : List AV) (r : AV) : Prop := ∃ n : Int, args = [I n] ∧ r = I (if 0 ≤ n ∧ n ≤ 15 then 15 - n else -1)
theorem specTestNotW_ctr : CtrOK Tryz.prog 85 (pureC testNotSR) := by
  refine ctr_pure' Tryz.func85 rfl rfl Tryz.ntmps85 ?_
  rintro _ _ ⟨n, rfl, rfl⟩
  refine ⟨by simp, fun κ hκ => ?_⟩
  have hbig := bigW_gt
  rw [argEnv_eq]
  simp only [envA]
  have hΓ := ctxOf_ok (P := Tryz.prog) (cx specTestValid_ctr <| cx0)
  repeat' (first | exact hb.elim | refine wS fun K hK => ?_ | refine wB ?_ | refine uR hΓ ?_ | refine uD hΓ fun B hB => ?_ | ((repeat ((fail_if_success (refine hK _ ?_)); clear hK K)); refine hK _ ?_; clear hK K) | refine u1 ?_ | refine uC (fun hb => ?_) fun hb => ?_ | refine u2 (fun hc => ?_) fun hc => ?_ | refine wI ?_ | refine ex_idx (by omega) ?_ | exact True.intro | fail)
  by_cases h : 0 ≤ n ∧ n ≤ 15
  · (first | refine wA rfl ?_ ?_ ?_ | refine dA rfl ?_ ?_ ?_); exact (.bool true); exact (⟨n, rfl, by rw [decide_eq_true h]⟩); simp (maxSteps := 2000000) only [go_sem]
    repeat' (first | exact hb.elim | refine wS fun K hK => ?_ | refine wB ?_ | refine uR hΓ ?_ | refine uD hΓ fun B hB => ?_ | ((repeat ((fail_if_success (refine hK _ ?_)); clear hK K)); refine hK _ ?_; clear hK K) | refine u1 ?_ | refine uC (fun hb => ?_) fun hb => ?_ | refine u2 (fun hc => ?_) fun hc => ?_ | refine wI ?_ | refine ex_idx (by omega) ?_ | exact True.intro | fail)
    rw [if_pos h]
    simp [Tryz.results85, RetOK, RetP, backA, upd_at, plainB, getP, isOwn, anyOwn, isP]
  · (first | refine wA rfl ?_ ?_ ?_ | refine dA rfl ?_ ?_ ?_); exact (.bool false); exact (⟨n, rfl, by rw [decide_eq_false h]⟩); simp (maxSteps := 2000000) only [go_sem]
    repeat' (first | exact hb.elim | refine wS fun K hK => ?_ | refine wB ?_ | refine uR hΓ ?_ | refine uD hΓ fun B hB => ?_ | ((repeat ((fail_if_success (refine hK _ ?_)); clear hK K)); refine hK _ ?_; clear hK K) | refine u1 ?_ | refine uC (fun hb => ?_) fun hb => ?_ | refine u2 (fun hc => ?_) fun hc => ?_ | refine wI ?_ | refine ex_idx (by omega) ?_ | exact True.intro | fail)
    rw [if_neg h]
    simp [Tryz.results85, RetOK, RetP, backA, upd_at, plainB, getP, isOwn, anyOwn, isP]

set_option maxHeartbeats 4000000 in
theorem specWeakTest_ctr : CtrOK Tryz.prog 49 (pureC weakR) := by
  refine ctr_pure' Tryz.func49 rfl rfl Tryz.ntmps49 ?_
  rintro _ _ ⟨e, test, rfl, hel, rfl⟩
  refine ⟨by simp, fun κ hκ => ?_⟩
  have hbig := bigW_gt
  rw [argEnv_eq]
  simp only [envA]
  have hΓ := ctxOf_ok (P := Tryz.prog) (cx specAutoOf_ctr <| cx specTestValid_ctr <| cx specTestNotW_ctr <| cx l1Both_ctr <| cx l1Either_ctr <| cx l1Bit_ctr <| cx0)
  have hbd := autD_bd e
  have hokD := fun h => autD_okB (e := e) h
  obtain ⟨⟨E, N⟩, hD⟩ : ∃ D, autD e = D := ⟨_, rfl⟩
  rw [hD] at hbd hokD ⊢
  dsimp only at hbd hokD
  repeat' (first | exact hb.elim | refine wS fun K hK => ?_ | refine wB ?_ | refine uR hΓ ?_ | refine uD hΓ fun B hB => ?_ | ((repeat ((fail_if_success (refine hK _ ?_)); clear hK K)); refine hK _ ?_; clear hK K) | refine u1 ?_ | refine uC (fun hb => ?_) fun hb => ?_ | refine u2 (fun hc => ?_) fun hc => ?_ | refine wI ?_ | refine ex_idx (by omega) ?_ | exact True.intro | fail)
  (first | refine wA rfl ?_ ?_ ?_ | refine dA rfl ?_ ?_ ?_); exact (agg [oints E, oorows N]); exact (⟨e, rfl, hel, by rw [hD]⟩); simp (maxSteps := 2000000) only [go_sem]
  repeat' (first | exact hb.elim | refine wS fun K hK => ?_ | refine wB ?_ | refine uR hΓ ?_ | refine uD hΓ fun B hB => ?_ | ((repeat ((fail_if_success (refine hK _ ?_)); clear hK K)); refine hK _ ?_; clear hK K) | refine u1 ?_ | refine uC (fun hb => ?_) fun hb => ?_ | refine u2 (fun hc => ?_) fun hc => ?_ | refine wI ?_ | refine ex_idx (by omega) ?_ | exact True.intro | fail)
  rotate_left
  · rw [weakI_no (.inl (show E.length = 0 by omega))]
    simp [Tryz.results49, RetOK, RetP, backA, upd_at, plainB, getP, isOwn, anyOwn, isP]
  have hok : AutoOK ⟨E, N⟩ := hokD (by omega)
  clear hokD hbd
  by_cases ht : 0 ≤ test ∧ test ≤ 15
  rotate_left
  · (first | refine wA rfl ?_ ?_ ?_ | refine dA rfl ?_ ?_ ?_); exact (.bool false); exact (⟨test, rfl, by rw [decide_eq_false ht]⟩); simp (maxSteps := 2000000) only [go_sem]
    repeat' (first | exact hb.elim | refine wS fun K hK => ?_ | refine wB ?_ | refine uR hΓ ?_ | refine uD hΓ fun B hB => ?_ | ((repeat ((fail_if_success (refine hK _ ?_)); clear hK K)); refine hK _ ?_; clear hK K) | refine u1 ?_ | refine uC (fun hb => ?_) fun hb => ?_ | refine u2 (fun hc => ?_) fun hc => ?_ | refine wI ?_ | refine ex_idx (by omega) ?_ | exact True.intro | fail)
    rw [weakI_no (.inr ht)]
    simp [Tryz.results49, RetOK, RetP, backA, upd_at, plainB, getP, isOwn, anyOwn, isP]
  (first | refine wA rfl ?_ ?_ ?_ | refine dA rfl ?_ ?_ ?_); exact (.bool true); exact (⟨test, rfl, by rw [decide_eq_true ht]⟩); simp (maxSteps := 2000000) only [go_sem]
  have hE1 : 1 ≤ E.length := hok.lo
  have hE2 : E.length ≤ 10 := hok.hi
  have hlen : N.length = E.length := hok.len
  have hwk := weakI_yes (D := ⟨E, N⟩) (test := test) (fun h => by
    rcases h with h | h
    · have : E.length = 0 := h
      omega
    · exact h ht)
  obtain ⟨t, rfl⟩ : ∃ t : Nat, test = (t : Int) := ⟨test.toNat, by omega⟩
  have ht15 : t ≤ 15 := by omega
  clear ht
  simp only [Int.toNat_natCast] at hwk
  have hn15 : (if 0 ≤ (t : Int) ∧ (t : Int) ≤ 15 then 15 - (t : Int) else -1) = ((15 - t : Nat) : Int) := by rw [if_pos ⟨by omega, by omega⟩]; omega
  have hp10 : 2 ^ E.length ≤ 2 ^ 10 := Nat.pow_le_pow_right (by omega) hE2
  have hJ := fun j => wkJ_lt ⟨E, N⟩ t j
  have hT := fun j k hk => wkT_lt (D := ⟨E, N⟩) (t := t) (hJ j) (k := k) hk
  have hJs := fun j => wkJ_succ ⟨E, N⟩ t j
  have hTs := fun j k hk => wkT_succ (D := ⟨E, N⟩) (t := t) (k := k) (wkJ ⟨E, N⟩ t j) hk
  have hTz := fun j => show wkT ⟨E, N⟩ t (wkJ ⟨E, N⟩ t j) 0 = wkJ ⟨E, N⟩ t j from rfl
  dsimp only at hJ hT hJs hTs
  repeat' (first | exact hb.elim | refine wS fun K hK => ?_ | refine wB ?_ | refine uR hΓ ?_ | refine uD hΓ fun B hB => ?_ | ((repeat ((fail_if_success (refine hK _ ?_)); clear hK K)); refine hK _ ?_; clear hK K) | refine u1 ?_ | refine uC (fun hb => ?_) fun hb => ?_ | refine u2 (fun hc => ?_) fun hc => ?_ | refine wI ?_ | refine ex_idx (by omega) ?_ | exact True.intro | fail)
  refine CW.loop (ι := Nat) (fun j => [(1, I (t : Int)), (5, box [oints E, oorows N]), (6, I (wkJ ⟨E, N⟩ t j : Int)), (7, I (j : Int))]) (fun j => j ≤ E.length + 1) (fun j => E.length + 1 - j) 0 ?_ ?_
  · exact ⟨by ((simp only [xe, xj, Nat.reduceEqDiff]; (try simp [view, viewL_map]); (try omega)); try rfl), by omega⟩
  rintro j hj
  simp only [envOf]
  have hj0 := hJ j
  repeat' (first | exact hb.elim | refine wS fun K hK => ?_ | refine wB ?_ | refine uR hΓ ?_ | refine uD hΓ fun B hB => ?_ | ((repeat ((fail_if_success (refine hK _ ?_)); clear hK K)); refine hK _ ?_; clear hK K) | refine u1 ?_ | refine uC (fun hb => ?_) fun hb => ?_ | refine u2 (fun hc => ?_) fun hc => ?_ | refine wI ?_ | refine ex_idx (by omega) ?_ | exact True.intro | fail)
  · refine CW.loop (ι := Nat) (fun k => [(1, I (t : Int)), (5, box [oints E, oorows N]), (6, I (wkT ⟨E, N⟩ t (wkJ ⟨E, N⟩ t j) k : Int)), (7, I (j : Int)), (8, I (k : Int))]) (fun k => k ≤ E.length) (fun k => E.length - k) 0 ?_ ?_
    · exact ⟨by ((simp only [xe, xj, Nat.reduceEqDiff]; (try simp [view, viewL_map]); (try omega)); try rw [hTz]), by omega⟩
    rintro k hk
    simp only [envOf]
    have hk0 := hT j k hk
    repeat' (first | exact hb.elim | refine wS fun K hK => ?_ | refine wB ?_ | refine uR hΓ ?_ | refine uD hΓ fun B hB => ?_ | ((repeat ((fail_if_success (refine hK _ ?_)); clear hK K)); refine hK _ ?_; clear hK K) | refine u1 ?_ | refine uC (fun hb => ?_) fun hb => ?_ | refine u2 (fun hc => ?_) fun hc => ?_ | refine wI ?_ | refine ex_idx (by omega) ?_ | exact True.intro | fail)
    · have hkE : k < E.length := by omega
      have hkN : k < N.length := by omega
      have hrl := row_len hok hkN
      have hel := ends_le hok hkE
      have hts := hTs j k hkE
      have htl := hT j (k + 1) (by omega)
      have hwm0 : wkM ⟨E, N⟩ t k (wkT ⟨E, N⟩ t (wkJ ⟨E, N⟩ t j) k) 0 = decide (0 < endsN ⟨E, N⟩ k &&& (15 - t)) := by simp [wkM, anyM]
      have hwms := fun m => wkM_succ ⟨E, N⟩ t k (wkT ⟨E, N⟩ t (wkJ ⟨E, N⟩ t j) k) m
      generalize wkM ⟨E, N⟩ t k (wkT ⟨E, N⟩ t (wkJ ⟨E, N⟩ t j) k) = M at hts hwm0 hwms
      generalize hS : wkT ⟨E, N⟩ t (wkJ ⟨E, N⟩ t j) k = S at hts hk0 hwms
      generalize hS1 : wkT ⟨E, N⟩ t (wkJ ⟨E, N⟩ t j) (k + 1) = S1 at hts htl
      have hand : endsN ⟨E, N⟩ k &&& (15 - t) ≤ endsN ⟨E, N⟩ k := Nat.and_le_left
      (first | refine wA rfl ?_ ?_ ?_ | refine dA rfl ?_ ?_ ?_); exact (I ((15 - t : Nat) : Int)); exact (⟨(t : Int), rfl, by rw [hn15]⟩); simp (maxSteps := 2000000) only [go_sem]
      rw [ends_cast hok hkE]
      repeat' (first | exact hb.elim | refine wS fun K hK => ?_ | refine wB ?_ | refine uR hΓ ?_ | refine uD hΓ fun B hB => ?_ | ((repeat ((fail_if_success (refine hK _ ?_)); clear hK K)); refine hK _ ?_; clear hK K) | refine u1 ?_ | refine uC (fun hb => ?_) fun hb => ?_ | refine u2 (fun hc => ?_) fun hc => ?_ | refine wI ?_ | refine ex_idx (by omega) ?_ | exact True.intro | fail)
      generalize hx : endsN ⟨E, N⟩ k = x at hel hand hwm0
      (first | refine wA rfl ?_ ?_ ?_ | refine dA rfl ?_ ?_ ?_); exact (I ((x &&& (15 - t) : Nat) : Int)); exact (⟨x, 15 - t, rfl, by omega, by omega, rfl⟩); simp (maxSteps := 2000000) only [go_sem]
      repeat' (first | exact hb.elim | refine wS fun K hK => ?_ | refine wB ?_ | refine uR hΓ ?_ | refine uD hΓ fun B hB => ?_ | ((repeat ((fail_if_success (refine hK _ ?_)); clear hK K)); refine hK _ ?_; clear hK K) | refine u1 ?_ | refine uC (fun hb => ?_) fun hb => ?_ | refine u2 (fun hc => ?_) fun hc => ?_ | refine wI ?_ | refine ex_idx (by omega) ?_ | exact True.intro | fail)
      refine CW.loop (ι := Nat) (fun m => [(1, I (t : Int)), (5, box [oints E, oorows N]), (6, I (S : Int)), (7, I (j : Int)), (8, I (k : Int)), (9, .bool (M m)), (10, I (m : Int))]) (fun m => m ≤ 12) (fun m => 12 - m) 0 ?_ ?_
      · exact ⟨by ((simp only [xe, xj, Nat.reduceEqDiff]; (try simp [view, viewL_map]); (try omega)); try (rw [hwm0]; simp)), by omega⟩
      rintro m hm
      simp only [envOf]
      have hws := hwms m
      cases hMm : M m with
      | true =>
        rw [hMm] at hws
        repeat' (first | exact hb.elim | refine wS fun K hK => ?_ | refine wB ?_ | refine uR hΓ ?_ | refine uD hΓ fun B hB => ?_ | ((repeat ((fail_if_success (refine hK _ ?_)); clear hK K)); refine hK _ ?_; clear hK K) | refine u1 ?_ | refine uC (fun hb => ?_) fun hb => ?_ | refine u2 (fun hc => ?_) fun hc => ?_ | refine wI ?_ | refine ex_idx (by omega) ?_ | exact True.intro | fail)
        · refine ⟨m + 1, by ((simp only [xe, xj, Nat.reduceEqDiff]; (try simp [view, viewL_map]); (try omega)); try (rw [hws]; simp)), by omega, by omega⟩
        · have : m = 12 := by omega
          subst this
          rw [hMm] at hts
          have hp2 : (2 : Nat) ^ k ≤ 2 ^ 10 := Nat.pow_le_pow_right (by omega) (by omega)
          obtain ⟨q, hq⟩ : ∃ q : Nat, q = 2 ^ k := ⟨_, rfl⟩
          have e5 : (1 : Int) * 2 ^ k = (q : Int) := by rw [hq]; simp
          rw [← hq] at hp2 hts
          repeat' (first | refine wS fun K hK => ?_ | refine wB ?_ | ((first | refine wR hΓ ?_ | refine wD hΓ fun B hB => ?_); simp (maxSteps := 2000000) only [go_sem, e5]) | ((repeat ((fail_if_success (refine hK _ ?_)); clear hK K)); refine hK _ ?_; clear hK K) | (refine w1 ?_; simp only [xs, xi, Nat.reduceEqDiff, reduceCtorEq]) | (refine wC (fun hb => ?_) fun hb => ?_ <;> (try simp only [xb, reduceCtorEq] at hb)) | (refine w2 (fun hc => ?_) (fun hc => ?_) <;> (try simp only [xc] at hc) <;> (try simp only [go_sem, hc, e5]) <;> (try simp only [xb] at hc)) | refine wI ?_ | refine ex_idx (by omega) ?_ | fail)
          rw [if_pos rfl] at hts
          simp only [e5]
          (first | refine wA rfl ?_ ?_ ?_ | refine dA rfl ?_ ?_ ?_); exact (I (S1 : Int)); exact (⟨S, q, rfl, by omega, by omega, by rw [hts]⟩); simp (maxSteps := 2000000) only [go_sem]
          repeat' (first | exact hb.elim | refine wS fun K hK => ?_ | refine wB ?_ | refine uR hΓ ?_ | refine uD hΓ fun B hB => ?_ | ((repeat ((fail_if_success (refine hK _ ?_)); clear hK K)); refine hK _ ?_; clear hK K) | refine u1 ?_ | refine uC (fun hb => ?_) fun hb => ?_ | refine u2 (fun hc => ?_) fun hc => ?_ | refine wI ?_ | refine ex_idx (by omega) ?_ | exact True.intro | fail)
          exact ⟨k + 1, by ((simp only [xe, xj, Nat.reduceEqDiff]; (try simp [view, viewL_map]); (try omega)); try rw [hS1]), by omega, by omega⟩
      | false =>
        rw [hMm, Bool.false_or] at hws
        repeat' (first | exact hb.elim | refine wS fun K hK => ?_ | refine wB ?_ | refine uR hΓ ?_ | refine uD hΓ fun B hB => ?_ | ((repeat ((fail_if_success (refine hK _ ?_)); clear hK K)); refine hK _ ?_; clear hK K) | refine u1 ?_ | refine uC (fun hb => ?_) fun hb => ?_ | refine u2 (fun hc => ?_) fun hc => ?_ | refine wI ?_ | refine ex_idx (by omega) ?_ | exact True.intro | fail)
        · have hnl := next_lt hok hkN (show m < N[k].length by omega)
          rw [next_cast hok hkN (show m < N[k].length by omega)]
          generalize hy : nextN ⟨E, N⟩ k m = y at hnl hws
          (first | refine wA rfl ?_ ?_ ?_ | refine dA rfl ?_ ?_ ?_); exact (I ((y &&& S : Nat) : Int)); exact (⟨y, S, rfl, by omega, by omega, rfl⟩); simp (maxSteps := 2000000) only [go_sem]
          repeat' (first | exact hb.elim | refine wS fun K hK => ?_ | refine wB ?_ | refine uR hΓ ?_ | refine uD hΓ fun B hB => ?_ | ((repeat ((fail_if_success (refine hK _ ?_)); clear hK K)); refine hK _ ?_; clear hK K) | refine u1 ?_ | refine uC (fun hb => ?_) fun hb => ?_ | refine u2 (fun hc => ?_) fun hc => ?_ | refine wI ?_ | refine ex_idx (by omega) ?_ | exact True.intro | fail)
          exact ⟨m + 1, by ((simp only [xe, xj, Nat.reduceEqDiff]; (try simp [view, viewL_map]); (try omega)); try (rw [hws]; simp)), by omega, by omega⟩
        · have : m = 12 := by omega
          subst this
          rw [hMm] at hts
          simp only [Bool.false_eq_true, if_false] at hts
          subst hts
          exact ⟨k + 1, by ((simp only [xe, xj, Nat.reduceEqDiff]; (try simp [view, viewL_map]); (try omega)); try rw [hS1]), by omega, by omega⟩
    · have : k = E.length := by omega
      subst this
      exact ⟨j + 1, by ((simp only [xe, xj, Nat.reduceEqDiff]; (try simp [view, viewL_map]); (try omega)); try rw [hJs]), by omega, by omega⟩
  · have : j = E.length + 1 := by omega
    subst this
    have hful := wkJ_full ⟨E, N⟩ t
    dsimp only at hful
    rw [hful] at hj0 ⊢
    have hel := ends_le hok (show 0 < E.length by omega)
    have hrl := row_len hok (show 0 < N.length by omega)
    generalize hL : liveF (wkD ⟨E, N⟩ t) = L at *
    generalize hWB : wkB ⟨E, N⟩ t = WB at *
    have hsl := fun J => sumB_lt WB J
    refine CW.loop (ι := Nat) (fun a => [(1, I (t : Int)), (5, box [oints E, oorows N]), (6, I (L : Int)), (11, I (sumB WB a : Int)), (12, I (a : Int))]) (fun a => a ≤ 4) (fun a => 4 - a) 0 ?_ ?_
    · exact ⟨by ((simp only [xe, xj, Nat.reduceEqDiff]; (try simp [view, viewL_map]); (try omega)); try rfl), by omega⟩
    rintro a ha
    simp only [envOf]
    have hs1 := hsl a
    have hp2 : (2 : Nat) ^ a ≤ 2 ^ 4 := Nat.pow_le_pow_right (by omega) ha
    repeat' (first | exact hb.elim | refine wS fun K hK => ?_ | refine wB ?_ | refine uR hΓ ?_ | refine uD hΓ fun B hB => ?_ | ((repeat ((fail_if_success (refine hK _ ?_)); clear hK K)); refine hK _ ?_; clear hK K) | refine u1 ?_ | refine uC (fun hb => ?_) fun hb => ?_ | refine u2 (fun hc => ?_) fun hc => ?_ | refine wI ?_ | refine ex_idx (by omega) ?_ | exact True.intro | fail)
    rotate_left
    · have : a = 4 := by omega
      subst this
      rw [hwk]
      simp [Tryz.results49, RetOK, RetP, backA, upd_at, plainB, getP, isOwn, anyOwn, isP]
    (first | refine wA rfl ?_ ?_ ?_ | refine dA rfl ?_ ?_ ?_); exact (I ((15 - t : Nat) : Int)); exact (⟨(t : Int), rfl, by rw [hn15]⟩); simp (maxSteps := 2000000) only [go_sem]
    have hWa : WB a = !badM ⟨E, N⟩ t 0 a L 3 := by rw [← hWB, wkB, hL]
    have hb0 : badM ⟨E, N⟩ t 0 a L 0 = (endsN ⟨E, N⟩ 0 &&& (15 - t)).testBit a := by rw [not_and_bit ht15 (by omega)]; rfl
    have hbs := fun c => show badM ⟨E, N⟩ t 0 a L (c + 1) = (badM ⟨E, N⟩ t 0 a L c || decide (0 < nextN ⟨E, N⟩ 0 (3 * a + c) &&& L)) from rfl
    generalize badM ⟨E, N⟩ t 0 a L = M at hWa hb0 hbs
    have hand : endsN ⟨E, N⟩ 0 &&& (15 - t) ≤ endsN ⟨E, N⟩ 0 := Nat.and_le_left
    rw [ends_cast hok (show 0 < E.length by omega)]
    repeat' (first | exact hb.elim | refine wS fun K hK => ?_ | refine wB ?_ | refine uR hΓ ?_ | refine uD hΓ fun B hB => ?_ | ((repeat ((fail_if_success (refine hK _ ?_)); clear hK K)); refine hK _ ?_; clear hK K) | refine u1 ?_ | refine uC (fun hb => ?_) fun hb => ?_ | refine u2 (fun hc => ?_) fun hc => ?_ | refine wI ?_ | refine ex_idx (by omega) ?_ | exact True.intro | fail)
    generalize hx : endsN ⟨E, N⟩ 0 = x at hel hand hb0
    (first | refine wA rfl ?_ ?_ ?_ | refine dA rfl ?_ ?_ ?_); exact (I ((x &&& (15 - t) : Nat) : Int)); exact (⟨x, 15 - t, rfl, by omega, by omega, rfl⟩); simp (maxSteps := 2000000) only [go_sem]
    repeat' (first | exact hb.elim | refine wS fun K hK => ?_ | refine wB ?_ | refine uR hΓ ?_ | refine uD hΓ fun B hB => ?_ | ((repeat ((fail_if_success (refine hK _ ?_)); clear hK K)); refine hK _ ?_; clear hK K) | refine u1 ?_ | refine uC (fun hb => ?_) fun hb => ?_ | refine u2 (fun hc => ?_) fun hc => ?_ | refine wI ?_ | refine ex_idx (by omega) ?_ | exact True.intro | fail)
    (first | refine wA rfl ?_ ?_ ?_ | refine dA rfl ?_ ?_ ?_); exact (I ((bitN (x &&& (15 - t)) a : Nat) : Int)); exact (⟨x &&& (15 - t), a, rfl, by omega, rfl⟩); simp (maxSteps := 2000000) only [go_sem]
    have hM0 : decide ((bitN (x &&& (15 - t)) a : Int) = 1) = M 0 := by
      rw [hb0]
      cases h : (x &&& (15 - t)).testBit a with
      | true => rw [bitN_t h]; rfl
      | false => rw [bitN_f h]; rfl
    repeat' (first | exact hb.elim | refine wS fun K hK => ?_ | refine wB ?_ | refine uR hΓ ?_ | refine uD hΓ fun B hB => ?_ | ((repeat ((fail_if_success (refine hK _ ?_)); clear hK K)); refine hK _ ?_; clear hK K) | refine u1 ?_ | refine uC (fun hb => ?_) fun hb => ?_ | refine u2 (fun hc => ?_) fun hc => ?_ | refine wI ?_ | refine ex_idx (by omega) ?_ | exact True.intro | fail)
    refine CW.loop (ι := Nat) (fun c => [(1, I (t : Int)), (5, box [oints E, oorows N]), (6, I (L : Int)), (11, I (sumB WB a : Int)), (12, I (a : Int)), (13, .bool (M c)), (14, I (c : Int))]) (fun c => c ≤ 3) (fun c => 3 - c) 0 ?_ ?_
    · exact ⟨by ((simp only [xe, xj, Nat.reduceEqDiff]; (try simp [view, viewL_map]); (try omega)); try (rw [← hM0])), by omega⟩
    rintro c hc3
    simp only [envOf]
    have hbc := hbs c
    have e3 : (3 : Int) * (a : Int) + (c : Int) = ((3 * a + c : Nat) : Int) := by omega
    cases hMc : M c with
    | true =>
      rw [hMc] at hbc
      repeat' (first | exact hb.elim | refine wS fun K hK => ?_ | refine wB ?_ | refine uR hΓ ?_ | refine uD hΓ fun B hB => ?_ | ((repeat ((fail_if_success (refine hK _ ?_)); clear hK K)); refine hK _ ?_; clear hK K) | refine u1 ?_ | refine uC (fun hb => ?_) fun hb => ?_ | refine u2 (fun hc => ?_) fun hc => ?_ | refine wI ?_ | refine ex_idx (by omega) ?_ | exact True.intro | fail)
      · exact ⟨c + 1, by ((simp only [xe, xj, Nat.reduceEqDiff]; (try simp [view, viewL_map]); (try omega)); try (rw [hbc]; simp)), by omega, by omega⟩
      · have : c = 3 := by omega
        subst this
        rw [hMc] at hWa
        have hsu : sumB WB (a + 1) = sumB WB a := by rw [sumB, hWa]; simp
        exact ⟨a + 1, by ((simp only [xe, xj, Nat.reduceEqDiff]; (try simp [view, viewL_map]); (try omega)); try rw [hsu]), by omega, by omega⟩
    | false =>
      rw [hMc, Bool.false_or] at hbc
      repeat' (first | refine wS fun K hK => ?_ | refine wB ?_ | ((first | refine wR hΓ ?_ | refine wD hΓ fun B hB => ?_); simp (maxSteps := 2000000) only [go_sem, e3]) | ((repeat ((fail_if_success (refine hK _ ?_)); clear hK K)); refine hK _ ?_; clear hK K) | (refine w1 ?_; simp only [xs, xi, Nat.reduceEqDiff, reduceCtorEq]) | (refine wC (fun hb => ?_) fun hb => ?_ <;> (try simp only [xb, reduceCtorEq] at hb)) | (refine w2 (fun hc => ?_) (fun hc => ?_) <;> (try simp only [xc] at hc) <;> (try simp only [go_sem, hc, e3]) <;> (try simp only [xb] at hc)) | refine wI ?_ | refine ex_idx (by omega) ?_ | fail)
      · have hnl := next_lt hok (show 0 < N.length by omega) (show 3 * a + c < N[0].length by omega)
        rw [next_cast hok (show 0 < N.length by omega) (show 3 * a + c < N[0].length by omega)]
        generalize hy : nextN ⟨E, N⟩ 0 (3 * a + c) = y at hnl hbc
        (first | refine wA rfl ?_ ?_ ?_ | refine dA rfl ?_ ?_ ?_); exact (I ((y &&& L : Nat) : Int)); exact (⟨y, L, rfl, by omega, by omega, rfl⟩); simp (maxSteps := 2000000) only [go_sem]
        repeat' (first | exact hb.elim | refine wS fun K hK => ?_ | refine wB ?_ | refine uR hΓ ?_ | refine uD hΓ fun B hB => ?_ | ((repeat ((fail_if_success (refine hK _ ?_)); clear hK K)); refine hK _ ?_; clear hK K) | refine u1 ?_ | refine uC (fun hb => ?_) fun hb => ?_ | refine u2 (fun hc => ?_) fun hc => ?_ | refine wI ?_ | refine ex_idx (by omega) ?_ | exact True.intro | fail)
        exact ⟨c + 1, by ((simp only [xe, xj, Nat.reduceEqDiff]; (try simp [view, viewL_map]); (try omega)); try (rw [hbc]; simp)), by omega, by omega⟩
      · have : c = 3 := by omega
        subst this
        rw [hMc] at hWa
        have hsu : sumB WB (a + 1) = sumB WB a + 2 ^ a := by rw [sumB, hWa]; simp
        obtain ⟨q, hq⟩ : ∃ q : Nat, q = 2 ^ a := ⟨_, rfl⟩
        have e5 : (1 : Int) * 2 ^ a = (q : Int) := by rw [hq]; simp
        rw [← hq] at hsu hp2 hs1
        rw [e5]
        refine ⟨by omega, by omega, ?_⟩
        repeat' (first | exact hb.elim | refine wS fun K hK => ?_ | refine wB ?_ | refine uR hΓ ?_ | refine uD hΓ fun B hB => ?_ | ((repeat ((fail_if_success (refine hK _ ?_)); clear hK K)); refine hK _ ?_; clear hK K) | refine u1 ?_ | refine uC (fun hb => ?_) fun hb => ?_ | refine u2 (fun hc => ?_) fun hc => ?_ | refine wI ?_ | refine ex_idx (by omega) ?_ | exact True.intro | fail)
        exact ⟨a + 1, by ((simp only [xe, xj, Nat.reduceEqDiff]; (try simp [view, viewL_map]); (try omega)); try (rw [hsu]; simp)), by omega, by omega⟩

end Go.Proofs.YtmhiipmajlmlgaaGreat
