/- The reference's TraceBy, walked by the engine. -/
import Derived.Test.YtmhiipmajlmlgaaF1
import Derived.Test.YtmhiipmajlmlgaaEngMin
namespace Go.Proofs.Ytmhiipmajlmlgaa
set_option linter.unusedSimpArgs false
set_option linter.unusedVariables false
set_option maxRecDepth 8000
set_option maxHeartbeats 2000000
open Go Go.RowKit AV

def traceByR (args : List AV) (r : AV) : Prop := ∃ e t : List Int, args = [ints e, ints t] ∧ e.length ≤ 1048576 ∧ t.length ≤ 1048576 ∧ r = .bool (trbB e t)

theorem ordL_nil : ordL [] = [] := rfl
theorem stepF_bd {x : Ex} (hw : x.wf) (hl : x.steps.length ≤ 40) {s : LL} (hs : ∀ t ∈ s, InLeft x t) (hn : s.length ≤ 41) {atom : Nat} {act : Int} (h16 : 16 ≤ act) (j : Nat) : ((s.take j).flatMap (partsOfL atom act)).length ≤ 32841 ∧ ∀ t ∈ (s.take j).flatMap (partsOfL atom act), t.length ≤ 1601 := by
  have hin : ∀ t ∈ s.take j, InLeft x t := fun t ht => hs t (List.mem_of_mem_take ht)
  refine ⟨?_, fun t ht => (flat_left hw hin h16 t ht).short hl⟩
  have h1 : ((s.take j).flatMap (partsOfL atom act)).length ≤ (s.take j).length * 801 := flatMap_len fun t ht => by
    obtain ⟨p, hp, hps, _⟩ := (hin t ht).tree
    have hsh := (hin t ht).short hl
    rw [← hps, partsOfL_steps hp]
    have h2 := partsL_count (atom := atom) h16 p
    have h3 := actsX_len p
    rw [hps] at h3
    omega
  have h2 : (s.take j).length ≤ 41 := by rw [List.length_take]; omega
  have h3 := Nat.mul_le_mul_right 801 h2
  omega

theorem specTraceBy_ctr : CtrOK Try.prog 30 (pureC traceByR) := by
  refine ctr_pure' Try.func30 rfl rfl Try.ntmps30 ?_
  rintro _ _ ⟨e, t, rfl, hl, htl, rfl⟩
  refine ⟨by simp, fun κ hκ => ?_⟩
  have hbig := bigW_gt
  rw [argEnv_eq]
  simp only [envA]
  have hΓ := ctxOf_ok (P := Try.prog) (cx specKatValid_ctr <| cx specTraceValid_ctr <| cx l4Parts_ctr <| cx l3Add_ctr <| cx l4Ends_ctr <| cx l1Bit_ctr <| cx0)
  repeat' (first | refine wS fun K hK => ?_ | refine wB ?_ | ((first | refine wR hΓ ?_ | refine wD hΓ fun B hB => ?_); simp (config := { maxSteps := 2000000 }) only [go_sem]) | ((repeat ((fail_if_success (refine hK _ ?_)); clear hK K)); refine hK _ ?_; clear hK K) | (refine w1 ?_; simp only [xs, xi, Nat.reduceEqDiff, reduceCtorEq]) | (refine wC (fun hb => ?_) fun hb => ?_ <;> (try simp only [xb, reduceCtorEq] at hb)) | (refine w2 (fun hc => ?_) (fun hc => ?_) <;> (try simp only [xc] at hc) <;> (try simp only [go_sem, hc]) <;> (try simp only [xb] at hc)) | refine wI ?_ | refine ex_idx (by omega) ?_ | fail)
  (first | refine wA rfl _ (⟨e, rfl, by omega, rfl⟩) ?_ | refine dA rfl _ (⟨e, rfl, by omega, rfl⟩) ?_); simp (config := { maxSteps := 2000000 }) only [go_sem]
  repeat' (first | refine wS fun K hK => ?_ | refine wB ?_ | ((first | refine wR hΓ ?_ | refine wD hΓ fun B hB => ?_); simp (config := { maxSteps := 2000000 }) only [go_sem]) | ((repeat ((fail_if_success (refine hK _ ?_)); clear hK K)); refine hK _ ?_; clear hK K) | (refine w1 ?_; simp only [xs, xi, Nat.reduceEqDiff, reduceCtorEq]) | (refine wC (fun hb => ?_) fun hb => ?_ <;> (try simp only [xb, reduceCtorEq] at hb)) | (refine w2 (fun hc => ?_) (fun hc => ?_) <;> (try simp only [xc] at hc) <;> (try simp only [go_sem, hc]) <;> (try simp only [xb] at hc)) | refine wI ?_ | refine ex_idx (by omega) ?_ | fail)
  rotate_left
  · have hkb := ‹katB e = false›
    have hf : trbB e t = false := trbB_false.2 fun h => by simp [hkb] at h
    rw [hf]
    simp [Try.results30, RetOK, RetP, backA, upd_at, plainB, getP, isOwn, anyOwn, isP]
  (first | refine wA rfl _ (⟨t, rfl, by omega, rfl⟩) ?_ | refine dA rfl _ (⟨t, rfl, by omega, rfl⟩) ?_); simp (config := { maxSteps := 2000000 }) only [go_sem]
  repeat' (first | refine wS fun K hK => ?_ | refine wB ?_ | ((first | refine wR hΓ ?_ | refine wD hΓ fun B hB => ?_); simp (config := { maxSteps := 2000000 }) only [go_sem]) | ((repeat ((fail_if_success (refine hK _ ?_)); clear hK K)); refine hK _ ?_; clear hK K) | (refine w1 ?_; simp only [xs, xi, Nat.reduceEqDiff, reduceCtorEq]) | (refine wC (fun hb => ?_) fun hb => ?_ <;> (try simp only [xb, reduceCtorEq] at hb)) | (refine w2 (fun hc => ?_) (fun hc => ?_) <;> (try simp only [xc] at hc) <;> (try simp only [go_sem, hc]) <;> (try simp only [xb] at hc)) | refine wI ?_ | refine ex_idx (by omega) ?_ | fail)
  · have hkb := ‹traceOKB t = false›
    have hf : trbB e t = false := trbB_false.2 fun h => traceOKB_false.1 hkb h.2.1
    rw [hf]
    simp [Try.results30, RetOK, RetP, backA, upd_at, plainB, getP, isOwn, anyOwn, isP]
  have hkb := ‹katB e = true›
  have htr := traceOKB_true.1 ‹traceOKB t = true›
  obtain ⟨x, hw, rfl, h40⟩ := katB_tree hkb
  have hodd := htr.odd
  have h41 := htr.len
  refine CW.loop (ι := Nat) (fun k => [(0, ints x.steps), (1, ints t), (5, rows (setTo x.steps t k)), (6, I ((2 * k : Nat) : Int))]) (fun k => 2 * k ≤ t.length) (fun k => t.length - 2 * k) 0 ?_ ?_
  · exact ⟨by (simp only [xe, xj, Nat.reduceEqDiff]; (try simp [view, viewL_map]); (try omega)); simp [setTo], by omega⟩
  rintro k hk
  simp only [envOf]
  obtain ⟨hS1, hS2⟩ := setTo_left hw htr k hk
  have hS3 := setTo_len hw htr hk
  have hacx := actsX_len x
  generalize hS : setTo x.steps t k = S at *
  have e20 : ((2 * k : Nat) : Int) + 1 = ((2 * k + 1 : Nat) : Int) := by omega
  repeat' (first | refine wS fun K hK => ?_ | refine wB ?_ | ((first | refine wR hΓ ?_ | refine wD hΓ fun B hB => ?_); simp (config := { maxSteps := 2000000 }) only [go_sem, e20]) | ((repeat ((fail_if_success (refine hK _ ?_)); clear hK K)); refine hK _ ?_; clear hK K) | (refine w1 ?_; simp only [xs, xi, Nat.reduceEqDiff, reduceCtorEq]) | (refine wC (fun hb => ?_) fun hb => ?_ <;> (try simp only [xb, reduceCtorEq] at hb)) | (refine w2 (fun hc => ?_) (fun hc => ?_) <;> (try simp only [xc] at hc) <;> (try simp only [go_sem, hc, e20]) <;> (try simp only [xb] at hc)) | refine wI ?_ | refine ex_idx (by omega) ?_ | fail)
  · have hkl : 2 * k + 1 < t.length := by omega
    have hat := htr.atoms k (by omega)
    have hac := htr.acts k hkl
    have hn0 : nth t (2 * k) = t[2 * k] := nth_getElem (by omega)
    have hn1 : nth t (2 * k + 1) = t[2 * k + 1] := nth_getElem hkl
    have hSs : setTo x.steps t (k + 1) = ordL (S.flatMap (partsOfL (nth t (2 * k)).toNat (nth t (2 * k + 1)))) := by rw [setTo, hS]; rfl
    have hbd := fun j => stepF_bd hw h40 hS1 (by omega) (atom := (nth t (2 * k)).toNat) hac.1 j
    generalize hF : partsOfL (nth t (2 * k)).toNat (nth t (2 * k + 1)) = F at *
    refine CW.loop (ι := Nat) (fun j => [(0, ints x.steps), (1, ints t), (5, rows S), (6, I ((2 * k : Nat) : Int)), (7, rows (ordL ((S.take j).flatMap F))), (8, I j)]) (fun j => j ≤ S.length) (fun j => S.length - j) 0 ?_ ?_
    · exact ⟨by (simp only [xe, xj, Nat.reduceEqDiff]; (try simp [view, viewL_map]); (try omega)); simp [ordL_nil], by omega⟩
    rintro j hj
    simp only [envOf]
    repeat' (first | refine wS fun K hK => ?_ | refine wB ?_ | ((first | refine wR hΓ ?_ | refine wD hΓ fun B hB => ?_); simp (config := { maxSteps := 2000000 }) only [go_sem, e20]) | ((repeat ((fail_if_success (refine hK _ ?_)); clear hK K)); refine hK _ ?_; clear hK K) | (refine w1 ?_; simp only [xs, xi, Nat.reduceEqDiff, reduceCtorEq]) | (refine wC (fun hb => ?_) fun hb => ?_ <;> (try simp only [xb, reduceCtorEq] at hb)) | (refine w2 (fun hc => ?_) (fun hc => ?_) <;> (try simp only [xc] at hc) <;> (try simp only [go_sem, hc, e20]) <;> (try simp only [xb] at hc)) | refine wI ?_ | refine ex_idx (by omega) ?_ | fail)
    · have hjl : j < S.length := by omega
      obtain ⟨p, hpw, hps, hpe⟩ := (hS1 _ (List.getElem_mem hjl)).tree
      have hsh := (hS1 _ (List.getElem_mem hjl)).short h40
      have h0 : (((nth t (2 * k)).toNat : Nat) : Int) = t[2 * k] := by rw [← hn0]; omega
      have hbj := hbd j
      have hbj1 := hbd (j + 1)
      have hst : (S.take (j + 1)).flatMap F = (S.take j).flatMap F ++ F S[j] := flatMap_take hjl
      have hFj : partsL (nth t (2 * k)).toNat (nth t (2 * k + 1)) p = F S[j] := by rw [← hF, ← hps, partsOfL_steps hpw]
      (first | refine wA rfl _ (⟨p, (nth t (2 * k)).toNat, nth t (2 * k + 1), by rw [h0, hn1, hps], hpw, by rw [hps]; omega, by omega, hac.1, hac.2, rfl⟩) ?_ | refine dA rfl _ (⟨p, (nth t (2 * k)).toNat, nth t (2 * k + 1), by rw [h0, hn1, hps], hpw, by rw [hps]; omega, by omega, hac.1, hac.2, rfl⟩) ?_); simp (config := { maxSteps := 2000000 }) only [go_sem]
      generalize hps' : partsL (nth t (2 * k)).toNat (nth t (2 * k + 1)) p = ps at *
      subst hFj
      rw [hst] at hbj1
      have hFl : (F S[j]).length ≤ 32841 := by have := hbj1.1; rw [List.length_append] at this; omega
      repeat' (first | refine wS fun K hK => ?_ | refine wB ?_ | ((first | refine wR hΓ ?_ | refine wD hΓ fun B hB => ?_); simp (config := { maxSteps := 2000000 }) only [go_sem, e20]) | ((repeat ((fail_if_success (refine hK _ ?_)); clear hK K)); refine hK _ ?_; clear hK K) | (refine w1 ?_; simp only [xs, xi, Nat.reduceEqDiff, reduceCtorEq]) | (refine wC (fun hb => ?_) fun hb => ?_ <;> (try simp only [xb, reduceCtorEq] at hb)) | (refine w2 (fun hc => ?_) (fun hc => ?_) <;> (try simp only [xc] at hc) <;> (try simp only [go_sem, hc, e20]) <;> (try simp only [xb] at hc)) | refine wI ?_ | refine ex_idx (by omega) ?_ | fail)
      refine CW.loop (ι := Nat) (fun i => [(0, ints x.steps), (1, ints t), (5, rows S), (6, I ((2 * k : Nat) : Int)), (7, rows (addsL (ordL ((S.take j).flatMap F)) ((F S[j]).take i))), (8, I j), (9, rows (F S[j])), (10, I i)]) (fun i => i ≤ (F S[j]).length) (fun i => (F S[j]).length - i) 0 ?_ ?_
      · exact ⟨by (simp only [xe, xj, Nat.reduceEqDiff]; (try simp [view, viewL_map]); (try omega)); simp [addsL_nil], by omega⟩
      rintro i hi
      simp only [envOf]
      repeat' (first | refine wS fun K hK => ?_ | refine wB ?_ | ((first | refine wR hΓ ?_ | refine wD hΓ fun B hB => ?_); simp (config := { maxSteps := 2000000 }) only [go_sem, e20]) | ((repeat ((fail_if_success (refine hK _ ?_)); clear hK K)); refine hK _ ?_; clear hK K) | (refine w1 ?_; simp only [xs, xi, Nat.reduceEqDiff, reduceCtorEq]) | (refine wC (fun hb => ?_) fun hb => ?_ <;> (try simp only [xb, reduceCtorEq] at hb)) | (refine w2 (fun hc => ?_) (fun hc => ?_) <;> (try simp only [xc] at hc) <;> (try simp only [go_sem, hc, e20]) <;> (try simp only [xb] at hc)) | refine wI ?_ | refine ex_idx (by omega) ?_ | fail)
      · have hil : i < (F S[j]).length := by omega
        have hlen2 : (addsL (ordL ((S.take j).flatMap F)) ((F S[j]).take i)).length ≤ 1048576 := by
          have h1 := addsL_length ((F S[j]).take i) (ordL ((S.take j).flatMap F))
          have h2 := ordL_length ((S.take j).flatMap F)
          have h3 : ((F S[j]).take i).length ≤ (F S[j]).length := by rw [List.length_take]; omega
          have h4 := hbj1.1
          rw [List.length_append] at h4
          omega
        have hel2 : ∀ s ∈ addsL (ordL ((S.take j).flatMap F)) ((F S[j]).take i), s.length ≤ 1099511627776 := fun s hs => by
          rw [mem_addsL, mem_ordL] at hs
          have h9 := hbj1.2 s (by rw [List.mem_append]; exact hs.imp id List.mem_of_mem_take)
          exact Nat.le_trans h9 (by omega)
        have hel3 : (F S[j])[i].length ≤ 1601 := hbj1.2 _ (by rw [List.mem_append]; exact .inr (List.getElem_mem hil))
        (first | refine wA rfl _ (⟨_, _, rfl, hlen2, hel2, by omega, rfl⟩) ?_ | refine dA rfl _ (⟨_, _, rfl, hlen2, hel2, by omega, rfl⟩) ?_); simp (config := { maxSteps := 2000000 }) only [go_sem]
        repeat' (first | refine wS fun K hK => ?_ | refine wB ?_ | ((first | refine wR hΓ ?_ | refine wD hΓ fun B hB => ?_); simp (config := { maxSteps := 2000000 }) only [go_sem, e20]) | ((repeat ((fail_if_success (refine hK _ ?_)); clear hK K)); refine hK _ ?_; clear hK K) | (refine w1 ?_; simp only [xs, xi, Nat.reduceEqDiff, reduceCtorEq]) | (refine wC (fun hb => ?_) fun hb => ?_ <;> (try simp only [xb, reduceCtorEq] at hb)) | (refine w2 (fun hc => ?_) (fun hc => ?_) <;> (try simp only [xc] at hc) <;> (try simp only [go_sem, hc, e20]) <;> (try simp only [xb] at hc)) | refine wI ?_ | refine ex_idx (by omega) ?_ | fail)
        refine ⟨i + 1, ?_, by omega, by omega⟩
        rw [addsL_take _ _ hil]
        (simp only [xe, xj, Nat.reduceEqDiff]; (try simp [view, viewL_map]); (try omega))
      · have hie : i = (F S[j]).length := by omega
        subst hie
        refine ⟨j + 1, ?_, by omega, by omega⟩
        rw [hst, ← addsL_ord, List.take_length]
        (simp only [xe, xj, Nat.reduceEqDiff]; (try simp [view, viewL_map]); (try omega))
    · have hje : j = S.length := by omega
      subst hje
      refine ⟨k + 1, ?_, by omega, by omega⟩
      rw [hSs, List.take_length]
      (simp only [xe, xj, Nat.reduceEqDiff]; (try simp [view, viewL_map]); (try omega))
  · have hke : k = t.length / 2 := by omega
    have hlast := htr.atoms (t.length / 2) (by omega)
    have e21 : 2 * (t.length / 2) = t.length - 1 := by omega
    have e22 : ((t.length : Nat) : Int) - 1 = ((t.length - 1 : Nat) : Int) := by omega
    rw [e21] at hlast
    have hnl : nth t (t.length - 1) = t[t.length - 1] := nth_getElem (by omega)
    have hend : trbB x.steps t = true ↔ ∃ p ∈ S, (endX (exOf p)).testBit (nth t (t.length - 1)).toNat = true := by
      rw [trbB_true, ← hke, hS]
      exact ⟨fun h => h.2.2, fun h => ⟨hkb, htr, h⟩⟩
    refine CW.loop (ι := Nat) (fun j => [(1, ints t), (5, rows S), (11, I j)]) (fun j => j ≤ S.length ∧ ∀ p ∈ S.take j, ¬ (endX (exOf p)).testBit (nth t (t.length - 1)).toNat = true) (fun j => S.length - j) 0 ?_ ?_
    · exact ⟨by (simp only [xe, xj, Nat.reduceEqDiff]; (try simp [view, viewL_map]); (try omega)), by simp⟩
    rintro j ⟨hj, hno⟩
    simp only [envOf]
    repeat' (first | refine wS fun K hK => ?_ | refine wB ?_ | ((first | refine wR hΓ ?_ | refine wD hΓ fun B hB => ?_); simp (config := { maxSteps := 2000000 }) only [go_sem, e22]) | ((repeat ((fail_if_success (refine hK _ ?_)); clear hK K)); refine hK _ ?_; clear hK K) | (refine w1 ?_; simp only [xs, xi, Nat.reduceEqDiff, reduceCtorEq]) | (refine wC (fun hb => ?_) fun hb => ?_ <;> (try simp only [xb, reduceCtorEq] at hb)) | (refine w2 (fun hc => ?_) (fun hc => ?_) <;> (try simp only [xc] at hc) <;> (try simp only [go_sem, hc, e22]) <;> (try simp only [xb] at hc)) | refine wI ?_ | refine ex_idx (by omega) ?_ | fail)
    · have hjl : j < S.length := by omega
      obtain ⟨p, hpw, hps, hpe⟩ := (hS1 _ (List.getElem_mem hjl)).tree
      have hsh := (hS1 _ (List.getElem_mem hjl)).short h40
      have h0 : (((nth t (t.length - 1)).toNat : Nat) : Int) = t[t.length - 1] := by rw [← hnl]; omega
      (first | refine wA rfl _ (⟨p, by rw [hps], hpw, by rw [hps]; omega, rfl⟩) ?_ | refine dA rfl _ (⟨p, by rw [hps], hpw, by rw [hps]; omega, rfl⟩) ?_); simp (config := { maxSteps := 2000000 }) only [go_sem]
      repeat' (first | refine wS fun K hK => ?_ | refine wB ?_ | ((first | refine wR hΓ ?_ | refine wD hΓ fun B hB => ?_); simp (config := { maxSteps := 2000000 }) only [go_sem, e22]) | ((repeat ((fail_if_success (refine hK _ ?_)); clear hK K)); refine hK _ ?_; clear hK K) | (refine w1 ?_; simp only [xs, xi, Nat.reduceEqDiff, reduceCtorEq]) | (refine wC (fun hb => ?_) fun hb => ?_ <;> (try simp only [xb, reduceCtorEq] at hb)) | (refine w2 (fun hc => ?_) (fun hc => ?_) <;> (try simp only [xc] at hc) <;> (try simp only [go_sem, hc, e22]) <;> (try simp only [xb] at hc)) | refine wI ?_ | refine ex_idx (by omega) ?_ | fail)
      (first | refine wA rfl _ (⟨endX p, (nth t (t.length - 1)).toNat, by simp only [show ((t.length : Int) - 1).toNat = t.length - 1 by omega]; rw [h0], by have := endX_lt hpw; omega, rfl⟩) ?_ | refine dA rfl _ (⟨endX p, (nth t (t.length - 1)).toNat, by simp only [show ((t.length : Int) - 1).toNat = t.length - 1 by omega]; rw [h0], by have := endX_lt hpw; omega, rfl⟩) ?_); simp (config := { maxSteps := 2000000 }) only [go_sem]
      repeat' (first | refine wS fun K hK => ?_ | refine wB ?_ | ((first | refine wR hΓ ?_ | refine wD hΓ fun B hB => ?_); simp (config := { maxSteps := 2000000 }) only [go_sem, e22]) | ((repeat ((fail_if_success (refine hK _ ?_)); clear hK K)); refine hK _ ?_; clear hK K) | (refine w1 ?_; simp only [xs, xi, Nat.reduceEqDiff, reduceCtorEq]) | (refine wC (fun hb => ?_) fun hb => ?_ <;> (try simp only [xb, reduceCtorEq] at hb)) | (refine w2 (fun hc => ?_) (fun hc => ?_) <;> (try simp only [xc] at hc) <;> (try simp only [go_sem, hc, e22]) <;> (try simp only [xb] at hc)) | refine wI ?_ | refine ex_idx (by omega) ?_ | fail)
      · have ht : trbB x.steps t = true := hend.2 ⟨S[j], List.getElem_mem hjl, by
          rw [hpe]
          cases hbt : (endX p).testBit (nth t (t.length - 1)).toNat with
          | true => rfl
          | false => have h1 := bitN_f hbt; omega⟩
        rw [ht]
        simp [Try.results30, RetOK, RetP, backA, upd_at, plainB, getP, isOwn, anyOwn, isP]
      · refine ⟨j + 1, ?_, ⟨by omega, fun q hq => ?_⟩, by omega⟩
        · (simp only [xe, xj, Nat.reduceEqDiff]; (try simp [view, viewL_map]); (try omega))
        · rw [List.take_succ_eq_append_getElem hjl, List.mem_append] at hq
          rcases hq with hq | hq
          · exact hno q hq
          · simp only [List.mem_cons, List.not_mem_nil, or_false] at hq
            rw [hq, hpe]
            intro hbt
            have h1 := bitN_t hbt
            omega
    · have hje : j = S.length := by omega
      subst hje
      rw [List.take_length] at hno
      have hf : trbB x.steps t = false := by
        cases hb : trbB x.steps t with
        | false => rfl
        | true =>
          obtain ⟨q, hq, h⟩ := hend.1 hb
          exact absurd h (hno q hq)
      rw [hf]
      simp [Try.results30, RetOK, RetP, backA, upd_at, plainB, getP, isOwn, anyOwn, isP]

end Go.Proofs.Ytmhiipmajlmlgaa
