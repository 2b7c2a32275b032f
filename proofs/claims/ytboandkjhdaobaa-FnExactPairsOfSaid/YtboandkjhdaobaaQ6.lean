/- The first trace of just one of two expressions, in the reference. Walked by the engine. -/
import Derived.Test.YtboandkjhdaobaaQ2
import Derived.Test.YtboandkjhdaobaaX1
import Derived.Test.YtboandkjhdaobaaX3
import Derived.Test.YtboandkjhdaobaaPairsQ
import Derived.Test.YtboandkjhdaobaaEngMin
namespace Go.Proofs.Ytboandkjhdaobaa
set_option linter.unusedSimpArgs false
set_option linter.unusedVariables false
set_option maxRecDepth 8000
set_option maxHeartbeats 2000000
open Go Go.RowKit AV

def differR (args : List AV) (r : AV) : Prop := ∃ e f : List Int, args = [ints e, ints f] ∧ e.length ≤ 1048576 ∧ f.length ≤ 1048576 ∧ r = .tup [oints (diffT (autD e) (autD f)), .bool (diffB (autD e) (autD f))]
def srows (S : List (Nat × Nat)) : AV := .own (S.map fun p => ints (rowP2 p))
attribute [local go_sem] srows
theorem pairsL_len (A B : AutoD) : (pairsL A B).length ≤ 100 := by
  unfold pairsL
  split
  · simp
  · split
    · rename_i l h
      rw [List.length_map]
      exact (prF_at h).hi
    · simp
theorem xor_bit {u v b : Nat} : (bitN u b ≠ bitN v b) ↔ (u ^^^ v).testBit b = true := by
  rw [Nat.testBit_xor]
  cases h1 : u.testBit b <;> cases h2 : v.testBit b
  · simp [bitN_f h1, bitN_f h2]
  · simp [bitN_f h1, bitN_t h2]
  · simp [bitN_t h1, bitN_f h2]
  · simp [bitN_t h1, bitN_t h2]

set_option maxHeartbeats 4000000 in
theorem specDiffer_ctr : CtrOK Try.prog 66 (pureC differR) := by
  refine ctr_pure' Try.func66 rfl rfl Try.ntmps66 ?_
  rintro _ _ ⟨e, f, rfl, he, hf, rfl⟩
  refine ⟨by simp, fun κ hκ => ?_⟩
  have hbig := bigW_gt
  rw [argEnv_eq]
  simp only [envA]
  have hΓ := ctxOf_ok (P := Try.prog) (cx specPairsOf_ctr <| cx specAutoOf_ctr <| cx l5Ends_ctr <| cx l1Bit_ctr <| cx l1Less_ctr <| cx l5Step_ctr <| cx l6Has_ctr <| cx0)
  have hokA := fun h => autD_okQ (e := e) h
  have hokB := fun h => autD_okQ (e := f) h
  obtain ⟨A, hA⟩ : ∃ A, autD e = A := ⟨_, rfl⟩
  obtain ⟨C, hC⟩ : ∃ A, autD f = A := ⟨_, rfl⟩
  rw [hA] at hokA
  rw [hC] at hokB
  rw [hA, hC]
  have hPl := pairsL_len A C
  have hPn : pairsL A C ≠ [] → A.ends.length ≠ 0 ∧ C.ends.length ≠ 0 := fun h => by
    rw [Ne, pairsL_nil] at h
    omega
  have hT0 : pairsL A C = [] → diffT A C = [] ∧ diffB A C = false := fun h => ⟨if_pos h, if_pos h⟩
  have hT1 : ∀ {t ok}, pairsL A C ≠ [] → ShR (stepP A C) (1, 1) (finP A C) t ok → diffT A C = t ∧ diffB A C = ok := fun {t ok} h hs => by
    obtain ⟨rfl, rfl⟩ := hs.eq
    exact ⟨if_neg h, if_neg h⟩
  obtain ⟨P, hP⟩ : ∃ P, pairsL A C = P := ⟨_, rfl⟩
  rw [hP] at hPl hPn hT0
  have hT1 := fun {t ok} h => @hT1 t ok h
  rw [hP] at hT1
  repeat' (first | refine wS fun K hK => ?_ | refine wB ?_ | ((first | refine wR hΓ ?_ | refine wD hΓ fun B hB => ?_); simp (config := { maxSteps := 2000000 }) only [go_sem]) | ((repeat ((fail_if_success (refine hK _ ?_)); clear hK K)); refine hK _ ?_; clear hK K) | (refine w1 ?_; simp only [xs, xi, Nat.reduceEqDiff, reduceCtorEq]) | (refine wC (fun hb => ?_) fun hb => ?_ <;> (try simp only [xb, reduceCtorEq] at hb)) | (refine w2 (fun hc => ?_) (fun hc => ?_) <;> (try simp only [xc] at hc) <;> (try simp only [go_sem, hc]) <;> (try simp only [xb] at hc)) | refine wI ?_ | refine ex_idx (by omega) ?_ | fail)
  (first | refine wA rfl ?_ ?_ ?_ | refine dA rfl ?_ ?_ ?_); exact (oorows P); exact (⟨e, f, rfl, he, hf, by rw [hA, hC, hP]⟩); simp (config := { maxSteps := 2000000 }) only [go_sem]
  repeat' (first | refine wS fun K hK => ?_ | refine wB ?_ | ((first | refine wR hΓ ?_ | refine wD hΓ fun B hB => ?_); simp (config := { maxSteps := 2000000 }) only [go_sem]) | ((repeat ((fail_if_success (refine hK _ ?_)); clear hK K)); refine hK _ ?_; clear hK K) | (refine w1 ?_; simp only [xs, xi, Nat.reduceEqDiff, reduceCtorEq]) | (refine wC (fun hb => ?_) fun hb => ?_ <;> (try simp only [xb, reduceCtorEq] at hb)) | (refine w2 (fun hc => ?_) (fun hc => ?_) <;> (try simp only [xc] at hc) <;> (try simp only [go_sem, hc]) <;> (try simp only [xb] at hc)) | refine wI ?_ | refine ex_idx (by omega) ?_ | fail)
  · obtain ⟨e1, e2⟩ := hT0 (List.length_eq_zero_iff.1 (by omega))
    rw [e1, e2]
    (rw [Try.results66]; refine ⟨_, _, rfl, by decide, rfl, rfl, ?_, ?_⟩ <;> simp [upd_at])
  have hP0 : P ≠ [] := fun h => by
    have g : ¬ (P.length : Int) = 0 := ‹_›
    rw [h] at g
    simp at g
  have hT1 := fun {t ok} => @hT1 t ok hP0
  have hok := hokA (hPn hP0).1
  have hokC := hokB (hPn hP0).2
  clear hokA hokB hPn hT0
  (first | refine wA rfl ?_ ?_ ?_ | refine dA rfl ?_ ?_ ?_); exact (agg [oints A.ends, oorows A.next]); exact (⟨e, rfl, he, by rw [hA]⟩); simp (config := { maxSteps := 2000000 }) only [go_sem]
  repeat' (first | refine wS fun K hK => ?_ | refine wB ?_ | ((first | refine wR hΓ ?_ | refine wD hΓ fun B hB => ?_); simp (config := { maxSteps := 2000000 }) only [go_sem]) | ((repeat ((fail_if_success (refine hK _ ?_)); clear hK K)); refine hK _ ?_; clear hK K) | (refine w1 ?_; simp only [xs, xi, Nat.reduceEqDiff, reduceCtorEq]) | (refine wC (fun hb => ?_) fun hb => ?_ <;> (try simp only [xb, reduceCtorEq] at hb)) | (refine w2 (fun hc => ?_) (fun hc => ?_) <;> (try simp only [xc] at hc) <;> (try simp only [go_sem, hc]) <;> (try simp only [xb] at hc)) | refine wI ?_ | refine ex_idx (by omega) ?_ | fail)
  (first | refine wA rfl ?_ ?_ ?_ | refine dA rfl ?_ ?_ ?_); exact (agg [oints C.ends, oorows C.next]); exact (⟨f, rfl, hf, by rw [hC]⟩); simp (config := { maxSteps := 2000000 }) only [go_sem]
  repeat' (first | refine wS fun K hK => ?_ | refine wB ?_ | ((first | refine wR hΓ ?_ | refine wD hΓ fun B hB => ?_); simp (config := { maxSteps := 2000000 }) only [go_sem]) | ((repeat ((fail_if_success (refine hK _ ?_)); clear hK K)); refine hK _ ?_; clear hK K) | (refine w1 ?_; simp only [xs, xi, Nat.reduceEqDiff, reduceCtorEq]) | (refine wC (fun hb => ?_) fun hb => ?_ <;> (try simp only [xb, reduceCtorEq] at hb)) | (refine w2 (fun hc => ?_) (fun hc => ?_) <;> (try simp only [xc] at hc) <;> (try simp only [go_sem, hc]) <;> (try simp only [xb] at hc)) | refine wI ?_ | refine ex_idx (by omega) ?_ | fail)
  have hst := stP_lt hok hokC
  refine CW.loop (ι := Nat × List Nat × List (Nat × Nat)) (fun y => [(6, box [oints A.ends, oorows A.next]), (7, box [oints C.ends, oorows C.next]), (8, srows y.2.2), (9, oorows (y.2.1.map (wdL y.1))), (10, oorows (y.2.1.map fun c => rowP2 (stP A C y.1 c))), (11, I y.1)]) (fun y => y.1 ≤ 21 ∧ LvW (stepP A C) (1, 1) (NewW (stepP A C) (1, 1) y.1) y.1 y.2.1 ∧ NoneW (stepP A C) (1, 1) (finP A C) y.1 ∧ (∀ x, (x ∈ y.2.2 ∨ x ∈ y.2.1.map (stP A C y.1)) ↔ SeenW (stepP A C) (1, 1) y.1 x) ∧ y.2.2.length ≤ y.1 * 1048576) (fun y => 21 - y.1) (0, [0], []) ?_ ?_
  · exact ⟨by ((simp only [xe, xj, Nat.reduceEqDiff]; (try simp [view, viewL_map]); (try omega)); try simp [wdL, stP, stA, srows, rowP2]), by omega, LvW.start _, NoneW.zero _ _ _, fun x => by rw [SeenW.zero]; simp [stP, stA], by simp⟩
  rintro ⟨n, L, S⟩ ⟨hn, hL, hN, hS0, hSl⟩
  simp only [envOf]
  dsimp only at hn hL hN hS0 hSl
  have hLl := lvP_len hok hokC hL.inj
  have hR : ∀ c, AccW (stepP A C) (1, 1) (finP A C) n c → NewW (stepP A C) (1, 1) n (c / 4) := fun c h => NewW.acc hN h
  obtain ⟨W, hW⟩ : ∃ W, L.map (wdL n) = W := ⟨_, rfl⟩
  obtain ⟨X, hX⟩ : ∃ X, L.map (fun c => rowP2 (stP A C n c)) = X := ⟨_, rfl⟩
  have hWl : W.length = L.length := by rw [← hW]; simp
  have hXl : X.length = L.length := by rw [← hX]; simp
  have hWk : ∀ k (h : k < W.length), W[k] = wdL n (L[k]'(by omega)) := by subst hW; simp
  have hXk : ∀ k (h : k < X.length), X[k] = rowP2 (stP A C n (L[k]'(by omega))) := by subst hX; simp
  rw [hW, hX]
  refine CW.frz 9 [] (oorows W) (by simp [upd_at, getP]) rfl ?_
  simp (config := { maxSteps := 2000000 }) only [go_sem]
  refine CW.frz 10 [] (oorows X) (by simp [upd_at, getP]) rfl ?_
  simp (config := { maxSteps := 2000000 }) only [go_sem]
  repeat' (first | refine wS fun K hK => ?_ | refine wB ?_ | ((first | refine wR hΓ ?_ | refine wD hΓ fun B hB => ?_); simp (config := { maxSteps := 2000000 }) only [go_sem]) | ((repeat ((fail_if_success (refine hK _ ?_)); clear hK K)); refine hK _ ?_; clear hK K) | (refine w1 ?_; simp only [xs, xi, Nat.reduceEqDiff, reduceCtorEq]) | (refine wC (fun hb => ?_) fun hb => ?_ <;> (try simp only [xb, reduceCtorEq] at hb)) | (refine w2 (fun hc => ?_) (fun hc => ?_) <;> (try simp only [xc] at hc) <;> (try simp only [go_sem, hc]) <;> (try simp only [xb] at hc)) | refine wI ?_ | refine ex_idx (by omega) ?_ | fail)
  rotate_left
  · have hN21 : NoneW (stepP A C) (1, 1) (finP A C) 21 := by
      have : n = 21 := by omega
      subst this; exact hN
    obtain ⟨e1, e2⟩ := hT1 (.inr ⟨rfl, rfl, hN21⟩)
    rw [e1, e2]
    (rw [Try.results66]; refine ⟨_, _, rfl, by decide, rfl, rfl, ?_, ?_⟩ <;> simp [upd_at])
  refine CW.loop (ι := Nat × List Int) (fun y => [(6, box [oints A.ends, oorows A.next]), (7, box [oints C.ends, oorows C.next]), (8, srows S), (9, rows W), (10, rows X), (11, I n), (12, oints y.2), (13, I y.1)]) (fun y => y.1 ≤ L.length ∧ BestW (stepP A C) (1, 1) (finP A C) n L y.1 4 y.2) (fun y => L.length - y.1) (0, []) ?_ ?_
  · exact ⟨by ((simp only [xe, xj, Nat.reduceEqDiff]; (try simp [view, viewL_map]); (try omega)); try simp [srows]), by omega, BestW.start _ _⟩
  rintro ⟨k, best⟩ ⟨hk, hB0⟩
  dsimp only at hk hB0
  simp only [envOf]
  have hbl := hB0.len
  repeat' (first | refine wS fun K hK => ?_ | refine wB ?_ | ((first | refine wR hΓ ?_ | refine wD hΓ fun B hB => ?_); simp (config := { maxSteps := 2000000 }) only [go_sem]) | ((repeat ((fail_if_success (refine hK _ ?_)); clear hK K)); refine hK _ ?_; clear hK K) | (refine w1 ?_; simp only [xs, xi, Nat.reduceEqDiff, reduceCtorEq]) | (refine wC (fun hb => ?_) fun hb => ?_ <;> (try simp only [xb, reduceCtorEq] at hb)) | (refine w2 (fun hc => ?_) (fun hc => ?_) <;> (try simp only [xc] at hc) <;> (try simp only [go_sem, hc]) <;> (try simp only [xb] at hc)) | refine wI ?_ | refine ex_idx (by omega) ?_ | fail)
  · have hkL : k < L.length := by omega
    have hWn : (W[k]'(by omega)).length = 2 * n := by rw [hWk]; exact wdL_len _ _
    refine CW.loop (ι := Nat × List Int) (fun y => [(6, box [oints A.ends, oorows A.next]), (7, box [oints C.ends, oorows C.next]), (8, srows S), (9, rows W), (10, rows X), (11, I n), (12, oints y.2), (13, I k), (14, I ((y.1 : Int) - 1))]) (fun y => y.1 ≤ 4 ∧ BestW (stepP A C) (1, 1) (finP A C) n L k y.1 y.2) (fun y => y.1) (4, best) ?_ ?_
    · exact ⟨by ((simp only [xe, xj, Nat.reduceEqDiff]; (try simp [view, viewL_map]); (try omega)); try simp [srows]), by omega, hB0⟩
    rintro ⟨a, best⟩ ⟨ha, hB⟩
    dsimp only at ha hB
    simp only [envOf]
    have hbl := hB.len
    cases a with
    | zero =>
      repeat' (first | refine wS fun K hK => ?_ | refine wB ?_ | ((first | refine wR hΓ ?_ | refine wD hΓ fun B hB => ?_); simp (config := { maxSteps := 2000000 }) only [go_sem]) | ((repeat ((fail_if_success (refine hK _ ?_)); clear hK K)); refine hK _ ?_; clear hK K) | (refine w1 ?_; simp only [xs, xi, Nat.reduceEqDiff, reduceCtorEq]) | (refine wC (fun hb => ?_) fun hb => ?_ <;> (try simp only [xb, reduceCtorEq] at hb)) | (refine w2 (fun hc => ?_) (fun hc => ?_) <;> (try simp only [xc] at hc) <;> (try simp only [go_sem, hc]) <;> (try simp only [xb] at hc)) | refine wI ?_ | refine ex_idx (by omega) ?_ | fail)
      · exfalso; omega
      · exact ⟨(k + 1, best), by (simp only [xe, xj, Nat.reduceEqDiff]; (try simp [view, viewL_map]); (try omega)), ⟨by show k + 1 ≤ _; omega, hB.word⟩, by show L.length - (k + 1) < _; omega⟩
    | succ b =>
      have e1 : ((b + 1 : Nat) : Int) - 1 = (b : Int) := by omega
      rw [e1]
      have hB' := bestD_atom hL hB hkL (by omega)
      obtain ⟨Y, hY⟩ : ∃ Y, trcL n (L[k] * 4 + b) = Y := ⟨_, rfl⟩
      have hYe : Y = W[k] ++ [(b : Int)] := by rw [← hY, trcL_mk n _ _ (by omega), hWk]
      have hYl : Y.length = 2 * n + 1 := by rw [← hY, trcL_len]
      obtain ⟨x, hx⟩ : ∃ x, stP A C n L[k] = x := ⟨_, rfl⟩
      have hXr : X[k] = rowP2 x := by rw [hXk, hx]
      have hX2 : (X[k]'(by omega)).length = 2 := by rw [hXr]; rfl
      have hX0 : X[k][0]'(by omega) = (x.1 : Int) := by simp [hXr, rowP2]
      have hX1 : X[k][1]'(by omega) = (x.2 : Int) := by simp [hXr, rowP2]
      have hxl := hst n L[k]
      rw [hx] at hxl
      have hul := hok.endF_lt x.1
      have hvl := hokC.endF_lt x.2
      obtain ⟨u, hu⟩ : ∃ u, endF A x.1 = u := ⟨_, rfl⟩
      obtain ⟨v, hv⟩ : ∃ v, endF C x.2 = v := ⟨_, rfl⟩
      rw [hY, show stA (stepP A C) (1, 1) n L[k] = x from hx, show finP A C x = u ^^^ v by rw [← hu, ← hv]; rfl] at hB'
      rw [hu] at hul
      rw [hv] at hvl
      have hbb : (u ^^^ v).testBit b = true ↔ ¬ bitN u b = bitN v b := xor_bit.symm
      repeat' (first | refine wS fun K hK => ?_ | refine wB ?_ | ((first | refine wR hΓ ?_ | refine wD hΓ fun B hB => ?_); simp (config := { maxSteps := 2000000 }) only [go_sem, hX0, hX1]) | ((repeat ((fail_if_success (refine hK _ ?_)); clear hK K)); refine hK _ ?_; clear hK K) | (refine w1 ?_; simp only [xs, xi, Nat.reduceEqDiff, reduceCtorEq]) | (refine wC (fun hb => ?_) fun hb => ?_ <;> (try simp only [xb, reduceCtorEq] at hb)) | (refine w2 (fun hc => ?_) (fun hc => ?_) <;> (try simp only [xc] at hc) <;> (try simp only [go_sem, hc, hX0, hX1]) <;> (try simp only [xb] at hc)) | refine wI ?_ | refine ex_idx (by omega) ?_ | fail)
      (first | refine wA rfl ?_ ?_ ?_ | refine dA rfl ?_ ?_ ?_); exact (I (u : Int)); exact (⟨A, x.1, by simp [hX0, autA, view, viewL, viewL_map, view_I, Function.comp_def], hok, by omega, by rw [hu]⟩); simp (config := { maxSteps := 2000000 }) only [go_sem]
      repeat' (first | refine wS fun K hK => ?_ | refine wB ?_ | ((first | refine wR hΓ ?_ | refine wD hΓ fun B hB => ?_); simp (config := { maxSteps := 2000000 }) only [go_sem, hX0, hX1]) | ((repeat ((fail_if_success (refine hK _ ?_)); clear hK K)); refine hK _ ?_; clear hK K) | (refine w1 ?_; simp only [xs, xi, Nat.reduceEqDiff, reduceCtorEq]) | (refine wC (fun hb => ?_) fun hb => ?_ <;> (try simp only [xb, reduceCtorEq] at hb)) | (refine w2 (fun hc => ?_) (fun hc => ?_) <;> (try simp only [xc] at hc) <;> (try simp only [go_sem, hc, hX0, hX1]) <;> (try simp only [xb] at hc)) | refine wI ?_ | refine ex_idx (by omega) ?_ | fail)
      (first | refine wA rfl ?_ ?_ ?_ | refine dA rfl ?_ ?_ ?_); exact (I ((bitN u b : Nat) : Int)); exact (⟨u, b, rfl, by omega, rfl⟩); simp (config := { maxSteps := 2000000 }) only [go_sem]
      repeat' (first | refine wS fun K hK => ?_ | refine wB ?_ | ((first | refine wR hΓ ?_ | refine wD hΓ fun B hB => ?_); simp (config := { maxSteps := 2000000 }) only [go_sem, hX0, hX1]) | ((repeat ((fail_if_success (refine hK _ ?_)); clear hK K)); refine hK _ ?_; clear hK K) | (refine w1 ?_; simp only [xs, xi, Nat.reduceEqDiff, reduceCtorEq]) | (refine wC (fun hb => ?_) fun hb => ?_ <;> (try simp only [xb, reduceCtorEq] at hb)) | (refine w2 (fun hc => ?_) (fun hc => ?_) <;> (try simp only [xc] at hc) <;> (try simp only [go_sem, hc, hX0, hX1]) <;> (try simp only [xb] at hc)) | refine wI ?_ | refine ex_idx (by omega) ?_ | fail)
      (first | refine wA rfl ?_ ?_ ?_ | refine dA rfl ?_ ?_ ?_); exact (I (v : Int)); exact (⟨C, x.2, by simp [hX1, autA, view, viewL, viewL_map, view_I, Function.comp_def], hokC, by omega, by rw [hv]⟩); simp (config := { maxSteps := 2000000 }) only [go_sem]
      repeat' (first | refine wS fun K hK => ?_ | refine wB ?_ | ((first | refine wR hΓ ?_ | refine wD hΓ fun B hB => ?_); simp (config := { maxSteps := 2000000 }) only [go_sem, hX0, hX1]) | ((repeat ((fail_if_success (refine hK _ ?_)); clear hK K)); refine hK _ ?_; clear hK K) | (refine w1 ?_; simp only [xs, xi, Nat.reduceEqDiff, reduceCtorEq]) | (refine wC (fun hb => ?_) fun hb => ?_ <;> (try simp only [xb, reduceCtorEq] at hb)) | (refine w2 (fun hc => ?_) (fun hc => ?_) <;> (try simp only [xc] at hc) <;> (try simp only [go_sem, hc, hX0, hX1]) <;> (try simp only [xb] at hc)) | refine wI ?_ | refine ex_idx (by omega) ?_ | fail)
      (first | refine wA rfl ?_ ?_ ?_ | refine dA rfl ?_ ?_ ?_); exact (I ((bitN v b : Nat) : Int)); exact (⟨v, b, rfl, by omega, rfl⟩); simp (config := { maxSteps := 2000000 }) only [go_sem]
      cases hyb : (u ^^^ v).testBit b with
      | false =>
        have hb0 : bitN u b = bitN v b := Classical.byContradiction fun h => by rw [hbb.2 h] at hyb; cases hyb
        rw [if_neg (fun h => by rw [hyb] at h; cases h.1)] at hB'
        clear hbb hyb
        repeat' (first | refine wS fun K hK => ?_ | refine wB ?_ | ((first | refine wR hΓ ?_ | refine wD hΓ fun B hB => ?_); simp (config := { maxSteps := 2000000 }) only [go_sem, hX0, hX1]) | ((repeat ((fail_if_success (refine hK _ ?_)); clear hK K)); refine hK _ ?_; clear hK K) | (refine w1 ?_; simp only [xs, xi, Nat.reduceEqDiff, reduceCtorEq]) | (refine wC (fun hb => ?_) fun hb => ?_ <;> (try simp only [xb, reduceCtorEq] at hb)) | (refine w2 (fun hc => ?_) (fun hc => ?_) <;> (try simp only [xc] at hc) <;> (try simp only [go_sem, hc, hX0, hX1]) <;> (try simp only [xb] at hc)) | refine wI ?_ | refine ex_idx (by omega) ?_ | fail)
        all_goals try (exfalso; omega)
        exact ⟨(b, best), by ((simp only [xe, xj, Nat.reduceEqDiff]; (try simp [view, viewL_map]); (try omega)); try simp [srows]), ⟨by show b ≤ 4; omega, hB'⟩, by show b < b + 1; omega⟩
      | true =>
        have hb0 : ¬ bitN u b = bitN v b := hbb.1 hyb
        clear hbb
        by_cases hl0 : best.length = 0
        · rw [if_pos ⟨hyb, .inl hl0⟩] at hB'
          clear hyb
          repeat' (first | refine wS fun K hK => ?_ | refine wB ?_ | ((first | refine wR hΓ ?_ | refine wD hΓ fun B hB => ?_); simp (config := { maxSteps := 2000000 }) only [go_sem, hX0, hX1]) | ((repeat ((fail_if_success (refine hK _ ?_)); clear hK K)); refine hK _ ?_; clear hK K) | (refine w1 ?_; simp only [xs, xi, Nat.reduceEqDiff, reduceCtorEq]) | (refine wC (fun hb => ?_) fun hb => ?_ <;> (try simp only [xb, reduceCtorEq] at hb)) | (refine w2 (fun hc => ?_) (fun hc => ?_) <;> (try simp only [xc] at hc) <;> (try simp only [go_sem, hc, hX0, hX1]) <;> (try simp only [xb] at hc)) | refine wI ?_ | refine ex_idx (by omega) ?_ | fail)
          all_goals try (exfalso; omega)
          exact ⟨(b, Y), by (rw [hYe]; (simp only [xe, xj, Nat.reduceEqDiff]; (try simp [view, viewL_map]); (try omega)); try simp [srows]), ⟨by show b ≤ 4; omega, hB'⟩, by show b < b + 1; omega⟩
        · obtain ⟨l, hlx⟩ : ∃ l, lexLt Y best = l := ⟨_, rfl⟩
          have hBy : l = true → BestW (stepP A C) (1, 1) (finP A C) n L k b Y := fun h => by rw [if_pos ⟨hyb, .inr (by rw [hlx, h])⟩] at hB'; exact hB'
          have hBn : l = false → BestW (stepP A C) (1, 1) (finP A C) n L k b best := fun h => by
            rw [if_neg (fun h2 => by
              rcases h2.2 with g | g
              · exact hl0 g
              · rw [hlx, h] at g; cases g)] at hB'
            exact hB'
          clear hyb hB'
          repeat' (first | refine wS fun K hK => ?_ | refine wB ?_ | ((first | refine wR hΓ ?_ | refine wD hΓ fun B hB => ?_); simp (config := { maxSteps := 2000000 }) only [go_sem, hX0, hX1]) | ((repeat ((fail_if_success (refine hK _ ?_)); clear hK K)); refine hK _ ?_; clear hK K) | (refine w1 ?_; simp only [xs, xi, Nat.reduceEqDiff, reduceCtorEq]) | (refine wC (fun hb => ?_) fun hb => ?_ <;> (try simp only [xb, reduceCtorEq] at hb)) | (refine w2 (fun hc => ?_) (fun hc => ?_) <;> (try simp only [xc] at hc) <;> (try simp only [go_sem, hc, hX0, hX1]) <;> (try simp only [xb] at hc)) | refine wI ?_ | refine ex_idx (by omega) ?_ | fail)
          all_goals try (exfalso; omega)
          (first | refine wA rfl ?_ ?_ ?_ | refine dA rfl ?_ ?_ ?_); exact (.bool l); exact (⟨Y, best, by rw [hYe]; simp [view_I, view], by omega, by omega, by rw [hlx]⟩); simp (config := { maxSteps := 2000000 }) only [go_sem]
          cases l with
          | true =>
            have hBy := hBy rfl
            clear hlx hBn
            repeat' (first | refine wS fun K hK => ?_ | refine wB ?_ | ((first | refine wR hΓ ?_ | refine wD hΓ fun B hB => ?_); simp (config := { maxSteps := 2000000 }) only [go_sem, hX0, hX1]) | ((repeat ((fail_if_success (refine hK _ ?_)); clear hK K)); refine hK _ ?_; clear hK K) | (refine w1 ?_; simp only [xs, xi, Nat.reduceEqDiff, reduceCtorEq]) | (refine wC (fun hb => ?_) fun hb => ?_ <;> (try simp only [xb, reduceCtorEq] at hb)) | (refine w2 (fun hc => ?_) (fun hc => ?_) <;> (try simp only [xc] at hc) <;> (try simp only [go_sem, hc, hX0, hX1]) <;> (try simp only [xb] at hc)) | refine wI ?_ | refine ex_idx (by omega) ?_ | fail)
            exact ⟨(b, Y), by (rw [hYe]; (simp only [xe, xj, Nat.reduceEqDiff]; (try simp [view, viewL_map]); (try omega)); try simp [srows]), ⟨by show b ≤ 4; omega, hBy⟩, by show b < b + 1; omega⟩
          | false =>
            have hBn := hBn rfl
            clear hlx hBy
            repeat' (first | refine wS fun K hK => ?_ | refine wB ?_ | ((first | refine wR hΓ ?_ | refine wD hΓ fun B hB => ?_); simp (config := { maxSteps := 2000000 }) only [go_sem, hX0, hX1]) | ((repeat ((fail_if_success (refine hK _ ?_)); clear hK K)); refine hK _ ?_; clear hK K) | (refine w1 ?_; simp only [xs, xi, Nat.reduceEqDiff, reduceCtorEq]) | (refine wC (fun hb => ?_) fun hb => ?_ <;> (try simp only [xb, reduceCtorEq] at hb)) | (refine w2 (fun hc => ?_) (fun hc => ?_) <;> (try simp only [xc] at hc) <;> (try simp only [go_sem, hc, hX0, hX1]) <;> (try simp only [xb] at hc)) | refine wI ?_ | refine ex_idx (by omega) ?_ | fail)
            exact ⟨(b, best), by ((simp only [xe, xj, Nat.reduceEqDiff]; (try simp [view, viewL_map]); (try omega)); try simp [srows]), ⟨by show b ≤ 4; omega, hBn⟩, by show b < b + 1; omega⟩
  · obtain ⟨c, hc, rfl⟩ := (show BestW (stepP A C) (1, 1) (finP A C) n L k 4 best from hB0).found hL hN hR (by omega) (by omega)
    obtain ⟨e1, e2⟩ := hT1 (.inl ⟨rfl, n, c, by omega, hc, rfl⟩)
    rw [e1, e2]
    (rw [Try.results66]; refine ⟨_, _, rfl, by decide, rfl, rfl, ?_, ?_⟩ <;> simp [upd_at])
  · have hN' := (show BestW (stepP A C) (1, 1) (finP A C) n L k 4 best from hB0).none hL hN hR (by omega) (by omega)
    clear hB0
    obtain ⟨S2, hS2⟩ : ∃ S2, S ++ L.map (stP A C n) = S2 := ⟨_, rfl⟩
    have hS2l : S2.length ≤ (n + 1) * 1048576 := by rw [← hS2]; simp; omega
    have hSee : ∀ x, x ∈ S2 ↔ SeenW (stepP A C) (1, 1) n x := fun x => by rw [← hS2, List.mem_append, hS0]
    have hSr : (S.map fun p => ints (rowP2 p)) ++ X.map ints = S2.map fun p => ints (rowP2 p) := by rw [← hS2, ← hX]; simp
    rw [hSr]
    refine CW.loop (ι := Nat × List Nat) (fun y => [(6, box [oints A.ends, oorows A.next]), (7, box [oints C.ends, oorows C.next]), (8, srows S2), (9, rows W), (10, rows X), (11, I n), (17, oorows (y.2.map (wdL (n + 1)))), (18, oorows (y.2.map fun c => rowP2 (stP A C (n + 1) c))), (19, I y.1)]) (fun y => y.1 ≤ L.length ∧ NextW (stepP A C) (1, 1) (SeenW (stepP A C) (1, 1) n) n L y.1 0 y.2) (fun y => L.length - y.1) (0, []) ?_ ?_
    · exact ⟨by ((simp only [xe, xj, Nat.reduceEqDiff]; (try simp [view, viewL_map]); (try omega)); try simp [srows]), by omega, NextW.start _ _ _⟩
    rintro ⟨k, F⟩ ⟨hk, hF0⟩
    dsimp only at hk hF0
    simp only [envOf]
    repeat' (first | refine wS fun K hK => ?_ | refine wB ?_ | ((first | refine wR hΓ ?_ | refine wD hΓ fun B hB => ?_); simp (config := { maxSteps := 2000000 }) only [go_sem]) | ((repeat ((fail_if_success (refine hK _ ?_)); clear hK K)); refine hK _ ?_; clear hK K) | (refine w1 ?_; simp only [xs, xi, Nat.reduceEqDiff, reduceCtorEq]) | (refine wC (fun hb => ?_) fun hb => ?_ <;> (try simp only [xb, reduceCtorEq] at hb)) | (refine w2 (fun hc => ?_) (fun hc => ?_) <;> (try simp only [xc] at hc) <;> (try simp only [go_sem, hc]) <;> (try simp only [xb] at hc)) | refine wI ?_ | refine ex_idx (by omega) ?_ | fail)
    · refine CW.loop (ι := Nat × List Nat) (fun y => [(6, box [oints A.ends, oorows A.next]), (7, box [oints C.ends, oorows C.next]), (8, srows S2), (9, rows W), (10, rows X), (11, I n), (17, oorows (y.2.map (wdL (n + 1)))), (18, oorows (y.2.map fun c => rowP2 (stP A C (n + 1) c))), (19, I k), (20, I y.1)]) (fun y => y.1 ≤ 12 ∧ NextW (stepP A C) (1, 1) (SeenW (stepP A C) (1, 1) n) n L k y.1 y.2) (fun y => 12 - y.1) (0, F) ?_ ?_
      · exact ⟨by ((simp only [xe, xj, Nat.reduceEqDiff]; (try simp [view, viewL_map]); (try omega)); try simp [srows]), by omega, hF0⟩
      rintro ⟨m, F⟩ ⟨hm, hF⟩
      dsimp only at hm hF
      simp only [envOf]
      have hFl := lvP_len hok hokC hF.inj
      have hkL : k < L.length := by omega
      have hWn : (W[k]'(by omega)).length = 2 * n := by rw [hWk]; exact wdL_len _ _
      obtain ⟨x, hx⟩ : ∃ x, stP A C n L[k] = x := ⟨_, rfl⟩
      have hXr : X[k] = rowP2 x := by rw [hXk, hx]
      have hX2 : (X[k]'(by omega)).length = 2 := by rw [hXr]; rfl
      have hX0 : X[k][0]'(by omega) = (x.1 : Int) := by simp [hXr, rowP2]
      have hX1 : X[k][1]'(by omega) = (x.2 : Int) := by simp [hXr, rowP2]
      have hxl := hst n L[k]
      rw [hx] at hxl
      repeat' (first | refine wS fun K hK => ?_ | refine wB ?_ | ((first | refine wR hΓ ?_ | refine wD hΓ fun B hB => ?_); simp (config := { maxSteps := 2000000 }) only [go_sem, hX0, hX1]) | ((repeat ((fail_if_success (refine hK _ ?_)); clear hK K)); refine hK _ ?_; clear hK K) | (refine w1 ?_; simp only [xs, xi, Nat.reduceEqDiff, reduceCtorEq]) | (refine wC (fun hb => ?_) fun hb => ?_ <;> (try simp only [xb, reduceCtorEq] at hb)) | (refine w2 (fun hc => ?_) (fun hc => ?_) <;> (try simp only [xc] at hc) <;> (try simp only [go_sem, hc, hX0, hX1]) <;> (try simp only [xb] at hc)) | refine wI ?_ | refine ex_idx (by omega) ?_ | fail)
      · have hyl := hst (n + 1) (L[k] * 12 + m)
        have hst1 : stP A C (n + 1) (L[k] * 12 + m) = stepP A C x m := by rw [← hx]; exact stA_succ _ _ _ _ _ (by omega)
        rw [hst1] at hyl
        have hwm : wdL (n + 1) (L[k] * 12 + m) = W[k] ++ [((m / 3 : Nat) : Int), ((16 + m % 3 : Nat) : Int)] := by rw [wdL_succ n _ m (by omega), hWk]
        have hsk := fun hz => hF.skip hL hkL (m := m) hz
        have had := fun hz hf => hF.add hL hkL (m := m) (by omega) hz hf
        rw [show stA (stepP A C) (1, 1) (n + 1) (L[k] * 12 + m) = stepP A C x m from hst1] at hsk had
        obtain ⟨⟨y1, y2⟩, hy⟩ : ∃ y, stepP A C x m = y := ⟨_, rfl⟩
        rw [hy] at hyl hst1 hsk had
        have hy1 : behF A x.1 m = y1 := congrArg Prod.fst hy
        have hy2 : behF C x.2 m = y2 := congrArg Prod.snd hy
        dsimp only at hyl
        (first | refine wA rfl ?_ ?_ ?_ | refine dA rfl ?_ ?_ ?_); exact (I (y1 : Int)); exact (⟨A, x.1, m, by simp [hX0, autA, view, viewL, viewL_map, view_I, Function.comp_def], hok, by omega, by omega, by rw [hy1]⟩); simp (config := { maxSteps := 2000000 }) only [go_sem]
        repeat' (first | refine wS fun K hK => ?_ | refine wB ?_ | ((first | refine wR hΓ ?_ | refine wD hΓ fun B hB => ?_); simp (config := { maxSteps := 2000000 }) only [go_sem, hX0, hX1]) | ((repeat ((fail_if_success (refine hK _ ?_)); clear hK K)); refine hK _ ?_; clear hK K) | (refine w1 ?_; simp only [xs, xi, Nat.reduceEqDiff, reduceCtorEq]) | (refine wC (fun hb => ?_) fun hb => ?_ <;> (try simp only [xb, reduceCtorEq] at hb)) | (refine w2 (fun hc => ?_) (fun hc => ?_) <;> (try simp only [xc] at hc) <;> (try simp only [go_sem, hc, hX0, hX1]) <;> (try simp only [xb] at hc)) | refine wI ?_ | refine ex_idx (by omega) ?_ | fail)
        (first | refine wA rfl ?_ ?_ ?_ | refine dA rfl ?_ ?_ ?_); exact (I (y2 : Int)); exact (⟨C, x.2, m, by simp [hX1, autA, view, viewL, viewL_map, view_I, Function.comp_def], hokC, by omega, by omega, by rw [hy2]⟩); simp (config := { maxSteps := 2000000 }) only [go_sem]
        repeat' (first | refine wS fun K hK => ?_ | refine wB ?_ | ((first | refine wR hΓ ?_ | refine wD hΓ fun B hB => ?_); simp (config := { maxSteps := 2000000 }) only [go_sem, hX0, hX1]) | ((repeat ((fail_if_success (refine hK _ ?_)); clear hK K)); refine hK _ ?_; clear hK K) | (refine w1 ?_; simp only [xs, xi, Nat.reduceEqDiff, reduceCtorEq]) | (refine wC (fun hb => ?_) fun hb => ?_ <;> (try simp only [xb, reduceCtorEq] at hb)) | (refine w2 (fun hc => ?_) (fun hc => ?_) <;> (try simp only [xc] at hc) <;> (try simp only [go_sem, hc, hX0, hX1]) <;> (try simp only [xb] at hc)) | refine wI ?_ | refine ex_idx (by omega) ?_ | fail)
        have hr2 : ∀ (T : List (Nat × Nat)), ∀ r ∈ T.map rowP2, r.length ≤ 1099511627776 := fun T r hr => by
          obtain ⟨w, _, rfl⟩ := List.mem_map.1 hr
          show 2 ≤ _
          omega
        by_cases hin : (y1, y2) ∈ S2
        · (first | refine wA rfl ?_ ?_ ?_ | refine dA rfl ?_ ?_ ?_); exact (.bool true); exact (⟨S2.map rowP2, (y1 : Int), (y2 : Int), by simp [view, viewL, viewL_map, view_I, Function.comp_def], by rw [List.length_map]; omega, hr2 _, by rw [decide_eq_true (show [(y1 : Int), (y2 : Int)] ∈ _ from memP2 (z := (y1, y2)).2 hin)]⟩); simp (config := { maxSteps := 2000000 }) only [go_sem]
          repeat' (first | refine wS fun K hK => ?_ | refine wB ?_ | ((first | refine wR hΓ ?_ | refine wD hΓ fun B hB => ?_); simp (config := { maxSteps := 2000000 }) only [go_sem, hX0, hX1]) | ((repeat ((fail_if_success (refine hK _ ?_)); clear hK K)); refine hK _ ?_; clear hK K) | (refine w1 ?_; simp only [xs, xi, Nat.reduceEqDiff, reduceCtorEq]) | (refine wC (fun hb => ?_) fun hb => ?_ <;> (try simp only [xb, reduceCtorEq] at hb)) | (refine w2 (fun hc => ?_) (fun hc => ?_) <;> (try simp only [xc] at hc) <;> (try simp only [go_sem, hc, hX0, hX1]) <;> (try simp only [xb] at hc)) | refine wI ?_ | refine ex_idx (by omega) ?_ | fail)
          exact ⟨(m + 1, F), by ((simp only [xe, xj, Nat.reduceEqDiff]; (try simp [view, viewL_map]); (try omega)); try simp [srows]), ⟨by show m + 1 ≤ 12; omega, hsk (.inl ((hSee _).1 hin))⟩, by show 12 - (m + 1) < _; omega⟩
        · (first | refine wA rfl ?_ ?_ ?_ | refine dA rfl ?_ ?_ ?_); exact (.bool false); exact (⟨S2.map rowP2, (y1 : Int), (y2 : Int), by simp [view, viewL, viewL_map, view_I, Function.comp_def], by rw [List.length_map]; omega, hr2 _, by rw [decide_eq_false (show ¬ [(y1 : Int), (y2 : Int)] ∈ _ from fun h => hin (memP2 (z := (y1, y2)).1 h))]⟩); simp (config := { maxSteps := 2000000 }) only [go_sem]
          repeat' (first | refine wS fun K hK => ?_ | refine wB ?_ | ((first | refine wR hΓ ?_ | refine wD hΓ fun B hB => ?_); simp (config := { maxSteps := 2000000 }) only [go_sem, hX0, hX1]) | ((repeat ((fail_if_success (refine hK _ ?_)); clear hK K)); refine hK _ ?_; clear hK K) | (refine w1 ?_; simp only [xs, xi, Nat.reduceEqDiff, reduceCtorEq]) | (refine wC (fun hb => ?_) fun hb => ?_ <;> (try simp only [xb, reduceCtorEq] at hb)) | (refine w2 (fun hc => ?_) (fun hc => ?_) <;> (try simp only [xc] at hc) <;> (try simp only [go_sem, hc, hX0, hX1]) <;> (try simp only [xb] at hc)) | refine wI ?_ | refine ex_idx (by omega) ?_ | fail)
          by_cases hin2 : (y1, y2) ∈ F.map (stP A C (n + 1))
          · (first | refine wA rfl ?_ ?_ ?_ | refine dA rfl ?_ ?_ ?_); exact (.bool true); exact (⟨(F.map (stP A C (n + 1))).map rowP2, (y1 : Int), (y2 : Int), by simp [view, viewL, viewL_map, view_I, Function.comp_def], by rw [List.length_map, List.length_map]; omega, hr2 _, by rw [decide_eq_true (show [(y1 : Int), (y2 : Int)] ∈ _ from memP2 (z := (y1, y2)).2 hin2)]⟩); simp (config := { maxSteps := 2000000 }) only [go_sem]
            repeat' (first | refine wS fun K hK => ?_ | refine wB ?_ | ((first | refine wR hΓ ?_ | refine wD hΓ fun B hB => ?_); simp (config := { maxSteps := 2000000 }) only [go_sem, hX0, hX1]) | ((repeat ((fail_if_success (refine hK _ ?_)); clear hK K)); refine hK _ ?_; clear hK K) | (refine w1 ?_; simp only [xs, xi, Nat.reduceEqDiff, reduceCtorEq]) | (refine wC (fun hb => ?_) fun hb => ?_ <;> (try simp only [xb, reduceCtorEq] at hb)) | (refine w2 (fun hc => ?_) (fun hc => ?_) <;> (try simp only [xc] at hc) <;> (try simp only [go_sem, hc, hX0, hX1]) <;> (try simp only [xb] at hc)) | refine wI ?_ | refine ex_idx (by omega) ?_ | fail)
            refine ⟨(m + 1, F), by ((simp only [xe, xj, Nat.reduceEqDiff]; (try simp [view, viewL_map]); (try omega)); try simp [srows]), ⟨by show m + 1 ≤ 12; omega, hsk (.inr ?_)⟩, by show 12 - (m + 1) < _; omega⟩
            obtain ⟨f, hf, e⟩ := List.mem_map.1 hin2
            exact ⟨f, hf, e⟩
          · (first | refine wA rfl ?_ ?_ ?_ | refine dA rfl ?_ ?_ ?_); exact (.bool false); exact (⟨(F.map (stP A C (n + 1))).map rowP2, (y1 : Int), (y2 : Int), by simp [view, viewL, viewL_map, view_I, Function.comp_def], by rw [List.length_map, List.length_map]; omega, hr2 _, by rw [decide_eq_false (show ¬ [(y1 : Int), (y2 : Int)] ∈ _ from fun h => hin2 (memP2 (z := (y1, y2)).1 h))]⟩); simp (config := { maxSteps := 2000000 }) only [go_sem]
            repeat' (first | refine wS fun K hK => ?_ | refine wB ?_ | ((first | refine wR hΓ ?_ | refine wD hΓ fun B hB => ?_); simp (config := { maxSteps := 2000000 }) only [go_sem, hX0, hX1]) | ((repeat ((fail_if_success (refine hK _ ?_)); clear hK K)); refine hK _ ?_; clear hK K) | (refine w1 ?_; simp only [xs, xi, Nat.reduceEqDiff, reduceCtorEq]) | (refine wC (fun hb => ?_) fun hb => ?_ <;> (try simp only [xb, reduceCtorEq] at hb)) | (refine w2 (fun hc => ?_) (fun hc => ?_) <;> (try simp only [xc] at hc) <;> (try simp only [go_sem, hc, hX0, hX1]) <;> (try simp only [xb] at hc)) | refine wI ?_ | refine ex_idx (by omega) ?_ | fail)
            refine ⟨(m + 1, F ++ [L[k] * 12 + m]), ?_, ⟨by show m + 1 ≤ 12; omega, had (fun h => hin ((hSee _).2 h)) fun f hf e => hin2 (List.mem_map.2 ⟨f, hf, e⟩)⟩, by show 12 - (m + 1) < _; omega⟩
            simp only [List.map_append, List.map_cons, List.map_nil, hwm, hst1, rowP2]
            ((simp only [xe, xj, Nat.reduceEqDiff]; (try simp [view, viewL_map]); (try omega)); try simp [srows])
      · obtain rfl : m = 12 := by omega
        exact ⟨(k + 1, F), by ((simp only [xe, xj, Nat.reduceEqDiff]; (try simp [view, viewL_map]); (try omega)); try simp [srows]), ⟨by show k + 1 ≤ _; omega, hF.word⟩, by show L.length - (k + 1) < _; omega⟩
    · have hLv := hF0.level (R' := NewW (stepP A C) (1, 1) (n + 1)) hL (by omega) fun c hc hz => hz.up hc
      refine ⟨(n + 1, F, S2), by ((simp only [xe, xj, Nat.reduceEqDiff]; (try simp [view, viewL_map]); (try omega)); try simp [srows]), ⟨by show n + 1 ≤ 21; omega, hLv, hN', fun x => ?_, hS2l⟩, by show 21 - (n + 1) < _; omega⟩
      rw [SeenW.next hL hLv, hSee]
      simp only [List.mem_map]
      rfl

end Go.Proofs.Ytboandkjhdaobaa
