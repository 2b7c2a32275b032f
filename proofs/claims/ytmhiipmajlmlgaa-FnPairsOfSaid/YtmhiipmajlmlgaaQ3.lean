/- Pairs reached together, in the program, and PairsOf. Walked by the engine. -/
import Derived.Test.YtmhiipmajlmlgaaX3
import Derived.Test.YtmhiipmajlmlgaaQ2
import Derived.Test.YtmhiipmajlmlgaaEngMin
namespace Go.Proofs.Ytmhiipmajlmlgaa
set_option linter.unusedSimpArgs false
set_option linter.unusedVariables false
set_option maxRecDepth 8000
set_option maxHeartbeats 2000000
open Go Go.RowKit AV

attribute [local go_sem] List.drop_zero List.drop_succ_cons List.take_zero List.take_succ_cons List.take_nil

def flatP : List (Nat × Nat) → List AV
  | [] => []
  | p :: L => I (p.1 : Int) :: I (p.2 : Int) :: flatP L
theorem flatP_len : ∀ L, (flatP L).length = L.length * 2
  | [] => rfl
  | p :: L => by simp only [flatP, List.length_cons, flatP_len L]; omega
theorem flatP_app (q : Nat × Nat) : ∀ L, flatP (L ++ [q]) = flatP L ++ [I (q.1 : Int), I (q.2 : Int)]
  | [] => rfl
  | p :: L => by simp only [List.cons_append, flatP, flatP_app q L]
theorem flatP_at : ∀ (L : List (Nat × Nat)) (i : Nat) (h : i < L.length), [I (L[i].1 : Int), I (L[i].2 : Int)] <+: (flatP L).drop (i * 2)
  | p :: L, 0, _ => ⟨flatP L, rfl⟩
  | p :: L, i + 1, h => by
    have h2 := flatP_at L i (by simpa using h)
    rw [Nat.add_mul, Nat.one_mul]
    simpa only [flatP, List.getElem_cons_succ, List.drop_succ_cons] using h2

def pairsX (A B : AutoD) : List (Nat × Nat) := (reachP A B).getD []
def pairsB (A B : AutoD) : Bool := (reachP A B).isSome
def tpairsR (args : List AV) (r : AV) : Prop := ∃ A B : AutoD, args = [togA A B] ∧ AutoOK A ∧ AutoOK B ∧ r = .tup [.orec 2 (flatP (pairsX A B)), .bool (pairsB A B)]

theorem togPairs_ctr : CtrOK Try.prog 38 (pureC tpairsR) := by
  refine ctr_pure' Try.func38 rfl rfl Try.ntmps38 ?_
  rintro _ _ ⟨A, C, rfl, hokA, hokB, rfl⟩
  refine ⟨by simp, fun κ hκ => ?_⟩
  have hbig := bigW_gt
  rw [argEnv_eq]
  simp only [envA]
  have hΓ := ctxOf_ok (P := Try.prog) (cx togNext_ctr <| cx0)
  have hpA := hokA.pow_le
  have hpC := hokB.pow_le
  have hst : ∀ (x : Nat × Nat) (m : Nat), m < 12 → (stepP A C x m).1 < 1048576 ∧ (stepP A C x m).2 < 1048576 := fun x m hm =>
    ⟨Nat.lt_of_lt_of_le (stepP_lt hokA hokB hm).1 (Nat.le_trans hpA (by decide)), Nat.lt_of_lt_of_le (stepP_lt hokA hokB hm).2 (Nat.le_trans hpC (by decide))⟩
  clear hpA hpC
  repeat' (first | refine wS fun K hK => ?_ | refine wB ?_ | ((first | refine wX hΓ ?_ | refine wV hΓ fun B hB => ?_); simp (config := { maxSteps := 2000000 }) only [go_sem]) | ((repeat ((fail_if_success (refine hK _ ?_)); clear hK K)); refine hK _ ?_; clear hK K) | (refine w1 ?_; simp only [xs, xi, Nat.reduceEqDiff, reduceCtorEq]) | (refine wC (fun hb => ?_) fun hb => ?_ <;> (try simp only [xb, reduceCtorEq] at hb)) | (refine w2 (fun hc => ?_) (fun hc => ?_) <;> (try simp only [xc] at hc) <;> (try simp only [go_sem, hc]) <;> (try simp only [xb] at hc)) | refine wI ?_ | refine ex_idx (by omega) ?_ | fail)
  refine ⟨[I 1, I 1], ⟨rfl, rfl, ⟨[], rfl⟩⟩, ?_⟩
  simp (config := { maxSteps := 2000000 }) only [go_sem]
  refine ⟨kP [(1, 1)], tP 1, upd_P (K := []) (x := (1, 1)) (by simp [smP]) ⟨by decide, by decide⟩ (by simp), ?_⟩
  repeat' (first | refine wS fun K hK => ?_ | refine wB ?_ | ((first | refine wX hΓ ?_ | refine wV hΓ fun B hB => ?_); simp (config := { maxSteps := 2000000 }) only [go_sem]) | ((repeat ((fail_if_success (refine hK _ ?_)); clear hK K)); refine hK _ ?_; clear hK K) | (refine w1 ?_; simp only [xs, xi, Nat.reduceEqDiff, reduceCtorEq]) | (refine wC (fun hb => ?_) fun hb => ?_ <;> (try simp only [xb, reduceCtorEq] at hb)) | (refine w2 (fun hc => ?_) (fun hc => ?_) <;> (try simp only [xc] at hc) <;> (try simp only [go_sem, hc]) <;> (try simp only [xb] at hc)) | refine wI ?_ | refine ex_idx (by omega) ?_ | fail)
  refine CW.loop (ι := Nat × List (Nat × Nat)) (fun y => [(1, box [ints A.ends, rows A.next, ints C.ends, rows C.next]), (4, .orec 2 (flatP y.2)), (5, omap (kP y.2) (tP y.2.length)), (6, I (y.1 : Nat))]) (fun y => AtP (stepP A C) (1, 1) y.1 y.2 ∧ smP y.2) (fun y => 101 - y.1) (0, [(1, 1)]) ?_ ?_
  · exact ⟨by ((simp only [xe, xj, Nat.reduceEqDiff]; (try simp [view, viewL_map]); (try omega)); try simp [flatP, kP, tP]), AtP.start _ _, by intro p hp; simp at hp; subst hp; exact ⟨by decide, by decide⟩⟩
  rintro ⟨k, l⟩ ⟨hAt, hsm⟩
  dsimp only at hAt hsm
  simp only [envOf]
  have hle := hAt.le
  have hhi := hAt.hi
  have hfl := flatP_len l
  repeat' (first | refine wS fun K hK => ?_ | refine wB ?_ | ((first | refine wX hΓ ?_ | refine wV hΓ fun B hB => ?_); simp (config := { maxSteps := 2000000 }) only [go_sem]) | ((repeat ((fail_if_success (refine hK _ ?_)); clear hK K)); refine hK _ ?_; clear hK K) | (refine w1 ?_; simp only [xs, xi, Nat.reduceEqDiff, reduceCtorEq]) | (refine wC (fun hb => ?_) fun hb => ?_ <;> (try simp only [xb, reduceCtorEq] at hb)) | (refine w2 (fun hc => ?_) (fun hc => ?_) <;> (try simp only [xc] at hc) <;> (try simp only [go_sem, hc]) <;> (try simp only [xb] at hc)) | refine wI ?_ | refine ex_idx (by omega) ?_ | fail)
  refine ⟨l.length, hfl, ?_⟩
  repeat' (first | refine wS fun K hK => ?_ | refine wB ?_ | ((first | refine wX hΓ ?_ | refine wV hΓ fun B hB => ?_); simp (config := { maxSteps := 2000000 }) only [go_sem]) | ((repeat ((fail_if_success (refine hK _ ?_)); clear hK K)); refine hK _ ?_; clear hK K) | (refine w1 ?_; simp only [xs, xi, Nat.reduceEqDiff, reduceCtorEq]) | (refine wC (fun hb => ?_) fun hb => ?_ <;> (try simp only [xb, reduceCtorEq] at hb)) | (refine w2 (fun hc => ?_) (fun hc => ?_) <;> (try simp only [xc] at hc) <;> (try simp only [go_sem, hc]) <;> (try simp only [xb] at hc)) | refine wI ?_ | refine ex_idx (by omega) ?_ | fail)
  · have hkl : k < l.length := by omega
    obtain ⟨q, hq⟩ : ∃ q, l[k] = q := ⟨_, rfl⟩
    have hqs : q.1 < 1048576 ∧ q.2 < 1048576 := hq ▸ hsm _ (List.getElem_mem hkl)
    refine CW.loop (ι := Nat) (fun m => [(1, box [ints A.ends, rows A.next, ints C.ends, rows C.next]), (4, .orec 2 (flatP (prM (stepP A C) l q m))), (5, omap (kP (prM (stepP A C) l q m)) (tP (prM (stepP A C) l q m).length)), (6, I (k : Nat)), (22, I (m : Int))]) (fun m => m ≤ 12) (fun m => 12 - m) 0 ?_ ?_
    · exact ⟨by (simp only [prM]; (simp only [xe, xj, Nat.reduceEqDiff]; (try simp [view, viewL_map]); (try omega))), by omega⟩
    rintro m hm
    obtain ⟨P, hP⟩ : ∃ P, prM (stepP A C) l q m = P := ⟨_, rfl⟩
    have hP1 : prM (stepP A C) l q (m + 1) = addP P (stepP A C q m) := by rw [← hP]; rfl
    have hpre : l <+: P := by rw [← hP]; exact prM_pre ..
    have hPl : P.length ≤ l.length + m := by rw [← hP]; exact prM_len ..
    have hPs : smP P := by rw [← hP]; exact prM_all (p := fun p : Nat × Nat => p.1 < 1048576 ∧ p.2 < 1048576) (fun x m hm _ => hst x m hm) hsm hqs hm
    have hkP : k < P.length := Nat.lt_of_lt_of_le hkl hpre.length_le
    have hPk : P[k] = q := by rw [← hq]; exact (hpre.getElem hkl).symm
    have hPf := flatP_len P
    have hPa := flatP_at P k hkP
    rw [hPk] at hPa
    simp only [envOf, hP]
    repeat' (first | refine wS fun K hK => ?_ | refine wB ?_ | ((first | refine wX hΓ ?_ | refine wV hΓ fun B hB => ?_); simp (config := { maxSteps := 2000000 }) only [go_sem]) | ((repeat ((fail_if_success (refine hK _ ?_)); clear hK K)); refine hK _ ?_; clear hK K) | (refine w1 ?_; simp only [xs, xi, Nat.reduceEqDiff, reduceCtorEq]) | (refine wC (fun hb => ?_) fun hb => ?_ <;> (try simp only [xb, reduceCtorEq] at hb)) | (refine w2 (fun hc => ?_) (fun hc => ?_) <;> (try simp only [xc] at hc) <;> (try simp only [go_sem, hc]) <;> (try simp only [xb] at hc)) | refine wI ?_ | refine ex_idx (by omega) ?_ | fail)
    · refine ⟨[I (q.1 : Int), I (q.2 : Int)], ⟨rfl, rfl, hPa⟩, ?_⟩
      simp (config := { maxSteps := 2000000 }) only [go_sem]
      have hs1 := hst q m (by omega)
      obtain ⟨z, hz⟩ : ∃ z, stepP A C q m = z := ⟨_, rfl⟩
      rw [hz] at hP1 hs1
      (first | refine wA rfl ?_ ?_ ?_ | refine dA rfl ?_ ?_ ?_); exact (agg [I (z.1 : Int), I (z.2 : Int)]); exact (⟨A, C, q, m, rfl, hokA, hokB, by omega, by omega, by omega, by rw [hz]⟩); simp (config := { maxSteps := 2000000 }) only [go_sem]
      repeat' (first | refine wS fun K hK => ?_ | refine wB ?_ | ((first | refine wX hΓ ?_ | refine wV hΓ fun B hB => ?_); simp (config := { maxSteps := 2000000 }) only [go_sem]) | ((repeat ((fail_if_success (refine hK _ ?_)); clear hK K)); refine hK _ ?_; clear hK K) | (refine w1 ?_; simp only [xs, xi, Nat.reduceEqDiff, reduceCtorEq]) | (refine wC (fun hb => ?_) fun hb => ?_ <;> (try simp only [xb, reduceCtorEq] at hb)) | (refine w2 (fun hc => ?_) (fun hc => ?_) <;> (try simp only [xc] at hc) <;> (try simp only [go_sem, hc]) <;> (try simp only [xb] at hc)) | refine wI ?_ | refine ex_idx (by omega) ?_ | fail)
      refine ⟨_, look_P hPs hs1, ?_⟩
      by_cases hin : z ∈ P
      · rw [decide_eq_true hin]
        rw [addP, if_pos hin] at hP1
        simp (config := { maxSteps := 2000000 }) only [go_sem]
        repeat' (first | refine wS fun K hK => ?_ | refine wB ?_ | ((first | refine wX hΓ ?_ | refine wV hΓ fun B hB => ?_); simp (config := { maxSteps := 2000000 }) only [go_sem]) | ((repeat ((fail_if_success (refine hK _ ?_)); clear hK K)); refine hK _ ?_; clear hK K) | (refine w1 ?_; simp only [xs, xi, Nat.reduceEqDiff, reduceCtorEq]) | (refine wC (fun hb => ?_) fun hb => ?_ <;> (try simp only [xb, reduceCtorEq] at hb)) | (refine w2 (fun hc => ?_) (fun hc => ?_) <;> (try simp only [xc] at hc) <;> (try simp only [go_sem, hc]) <;> (try simp only [xb] at hc)) | refine wI ?_ | refine ex_idx (by omega) ?_ | fail)
        exact ⟨m + 1, by (rw [hP1]; (simp only [xe, xj, Nat.reduceEqDiff]; (try simp [view, viewL_map]); (try omega))), by omega, by omega⟩
      · have hu := upd_P hPs hs1 hin
        rw [decide_eq_false hin]
        rw [addP, if_neg hin] at hP1
        simp (config := { maxSteps := 2000000 }) only [go_sem]
        repeat' (first | refine wS fun K hK => ?_ | refine wB ?_ | ((first | refine wX hΓ ?_ | refine wV hΓ fun B hB => ?_); simp (config := { maxSteps := 2000000 }) only [go_sem]) | ((repeat ((fail_if_success (refine hK _ ?_)); clear hK K)); refine hK _ ?_; clear hK K) | (refine w1 ?_; simp only [xs, xi, Nat.reduceEqDiff, reduceCtorEq]) | (refine wC (fun hb => ?_) fun hb => ?_ <;> (try simp only [xb, reduceCtorEq] at hb)) | (refine w2 (fun hc => ?_) (fun hc => ?_) <;> (try simp only [xc] at hc) <;> (try simp only [go_sem, hc]) <;> (try simp only [xb] at hc)) | refine wI ?_ | refine ex_idx (by omega) ?_ | fail)
        refine ⟨_, _, hu, ?_⟩
        repeat' (first | refine wS fun K hK => ?_ | refine wB ?_ | ((first | refine wX hΓ ?_ | refine wV hΓ fun B hB => ?_); simp (config := { maxSteps := 2000000 }) only [go_sem]) | ((repeat ((fail_if_success (refine hK _ ?_)); clear hK K)); refine hK _ ?_; clear hK K) | (refine w1 ?_; simp only [xs, xi, Nat.reduceEqDiff, reduceCtorEq]) | (refine wC (fun hb => ?_) fun hb => ?_ <;> (try simp only [xb, reduceCtorEq] at hb)) | (refine w2 (fun hc => ?_) (fun hc => ?_) <;> (try simp only [xc] at hc) <;> (try simp only [go_sem, hc]) <;> (try simp only [xb] at hc)) | refine wI ?_ | refine ex_idx (by omega) ?_ | fail)
        exact ⟨m + 1, by (rw [hP1, flatP_app]; (simp only [xe, xj, Nat.reduceEqDiff]; (try simp [view, viewL_map]); (try omega))), by omega, by omega⟩
    · obtain rfl : m = 12 := by omega
      refine ⟨P.length, hPf, ?_⟩
      repeat' (first | refine wS fun K hK => ?_ | refine wB ?_ | ((first | refine wX hΓ ?_ | refine wV hΓ fun B hB => ?_); simp (config := { maxSteps := 2000000 }) only [go_sem]) | ((repeat ((fail_if_success (refine hK _ ?_)); clear hK K)); refine hK _ ?_; clear hK K) | (refine w1 ?_; simp only [xs, xi, Nat.reduceEqDiff, reduceCtorEq]) | (refine wC (fun hb => ?_) fun hb => ?_ <;> (try simp only [xb, reduceCtorEq] at hb)) | (refine w2 (fun hc => ?_) (fun hc => ?_) <;> (try simp only [xc] at hc) <;> (try simp only [go_sem, hc]) <;> (try simp only [xb] at hc)) | refine wI ?_ | refine ex_idx (by omega) ?_ | fail)
      · have hmany : reachP A C = none := hAt.many hkl (by rw [hq, hP]; omega)
        rw [show pairsX A C = [] by unfold pairsX; rw [hmany]; rfl, show pairsB A C = false by unfold pairsB; rw [hmany]; rfl]
        (rw [Try.results38]; refine ⟨_, _, rfl, by decide, rfl, rfl, ?_, ?_⟩ <;> simp [upd_at])
        exact .inl rfl
      · have hn := hAt.next hkl (by rw [hq, hP]; omega)
        rw [hq, hP] at hn
        exact ⟨(k + 1, P), by (simp only [xe, xj, Nat.reduceEqDiff]; (try simp [view, viewL_map]); (try omega)), ⟨hn, hPs⟩, by dsimp only; omega⟩
  · rw [show pairsX A C = l by unfold pairsX; rw [show reachP A C = some l from hAt.done (by omega)]; rfl, show pairsB A C = true by unfold pairsB; rw [show reachP A C = some l from hAt.done (by omega)]; rfl]
    (rw [Try.results38]; refine ⟨_, _, rfl, by decide, rfl, rfl, ?_, ?_⟩ <;> simp [upd_at])

def pairsOfIR (args : List AV) (r : AV) : Prop := ∃ e f : List Int, args = [ints e, ints f] ∧ e.length ≤ 1048576 ∧ f.length ≤ 1048576 ∧ r = oorows (pairsL (autD e) (autD f))
theorem implPairsOf_ctr : CtrOK Try.prog 9 (pureC pairsOfIR) := by
  refine ctr_pure' Try.func9 rfl rfl Try.ntmps9 ?_
  rintro _ _ ⟨e, f, rfl, he, hf, rfl⟩
  refine ⟨by simp, fun κ hκ => ?_⟩
  have hbig := bigW_gt
  rw [argEnv_eq]
  simp only [envA]
  have hΓ := ctxOf_ok (P := Try.prog) (cx autosOf_ctr <| cx togPairs_ctr <| cx0)
  have hokA := fun h => autD_okQ (e := e) h
  have hokB := fun h => autD_okQ (e := f) h
  obtain ⟨A, hA⟩ : ∃ A, autD e = A := ⟨_, rfl⟩
  obtain ⟨C, hC⟩ : ∃ A, autD f = A := ⟨_, rfl⟩
  rw [hA] at hokA
  rw [hC] at hokB
  obtain ⟨T, hT⟩ : ∃ T, (decide (A.ends.length ≠ 0) && decide (C.ends.length ≠ 0)) = T := ⟨_, rfl⟩
  have hA2 : autosR [ints e, ints f] (.tup [togA A C, .bool T]) := ⟨e, f, rfl, he, hf, by rw [hA, hC, hT]⟩
  rw [hA, hC]
  repeat' (first | refine wS fun K hK => ?_ | refine wB ?_ | ((first | refine wX hΓ ?_ | refine wV hΓ fun B hB => ?_); simp (config := { maxSteps := 2000000 }) only [go_sem]) | ((repeat ((fail_if_success (refine hK _ ?_)); clear hK K)); refine hK _ ?_; clear hK K) | (refine w1 ?_; simp only [xs, xi, Nat.reduceEqDiff, reduceCtorEq]) | (refine wC (fun hb => ?_) fun hb => ?_ <;> (try simp only [xb, reduceCtorEq] at hb)) | (refine w2 (fun hc => ?_) (fun hc => ?_) <;> (try simp only [xc] at hc) <;> (try simp only [go_sem, hc]) <;> (try simp only [xb] at hc)) | refine wI ?_ | refine ex_idx (by omega) ?_ | fail)
  (first | refine wA rfl ?_ ?_ ?_ | refine dA rfl ?_ ?_ ?_); exact (.tup [togA A C, .bool T]); exact (hA2); simp (config := { maxSteps := 2000000 }) only [go_sem]
  cases T with
  | false =>
    repeat' (first | refine wS fun K hK => ?_ | refine wB ?_ | ((first | refine wX hΓ ?_ | refine wV hΓ fun B hB => ?_); simp (config := { maxSteps := 2000000 }) only [go_sem]) | ((repeat ((fail_if_success (refine hK _ ?_)); clear hK K)); refine hK _ ?_; clear hK K) | (refine w1 ?_; simp only [xs, xi, Nat.reduceEqDiff, reduceCtorEq]) | (refine wC (fun hb => ?_) fun hb => ?_ <;> (try simp only [xb, reduceCtorEq] at hb)) | (refine w2 (fun hc => ?_) (fun hc => ?_) <;> (try simp only [xc] at hc) <;> (try simp only [go_sem, hc]) <;> (try simp only [xb] at hc)) | refine wI ?_ | refine ex_idx (by omega) ?_ | fail)
    rw [pairsL_no (by
      rcases Bool.and_eq_false_iff.1 hT with h | h
      · exact .inl (Classical.byContradiction (of_decide_eq_false h))
      · exact .inr (Classical.byContradiction (of_decide_eq_false h)))]
    simp [Try.results9, RetOK, RetP, backA, upd_at, plainB, getP, isOwn, anyOwn, isP]
  | true =>
    rw [Bool.and_eq_true, decide_eq_true_eq, decide_eq_true_eq] at hT
    have hokA := hokA hT.1
    have hokB := hokB hT.2
    have hpl : pairsL A C = (pairsX A C).map rowP2 := by
      unfold pairsX
      cases hr : reachP A C with
      | none => rw [pairsL_many hr]; rfl
      | some l => rw [pairsL_yes (by omega) hr]; rfl
    have hlen : (pairsX A C).length ≤ 100 := by
      unfold pairsX
      cases hr : reachP A C with
      | none => simp
      | some l => exact (prF_at hr).hi
    obtain ⟨L, hL⟩ : ∃ L, pairsX A C = L := ⟨_, rfl⟩
    obtain ⟨O, hO⟩ : ∃ L, pairsB A C = L := ⟨_, rfl⟩
    rw [hL] at hlen hpl
    have hfl := flatP_len L
    have hfa := fun k h => flatP_at L k h
    repeat' (first | refine wS fun K hK => ?_ | refine wB ?_ | ((first | refine wX hΓ ?_ | refine wV hΓ fun B hB => ?_); simp (config := { maxSteps := 2000000 }) only [go_sem]) | ((repeat ((fail_if_success (refine hK _ ?_)); clear hK K)); refine hK _ ?_; clear hK K) | (refine w1 ?_; simp only [xs, xi, Nat.reduceEqDiff, reduceCtorEq]) | (refine wC (fun hb => ?_) fun hb => ?_ <;> (try simp only [xb, reduceCtorEq] at hb)) | (refine w2 (fun hc => ?_) (fun hc => ?_) <;> (try simp only [xc] at hc) <;> (try simp only [go_sem, hc]) <;> (try simp only [xb] at hc)) | refine wI ?_ | refine ex_idx (by omega) ?_ | fail)
    have hnl : allN (flatP L) = true := (allN_iff _).2 fun a ha => by
      clear hpl hL hlen hfl hfa
      induction L with
      | nil => simp [flatP] at ha
      | cons p L ih =>
        simp only [flatP, List.mem_cons] at ha
        rcases ha with rfl | rfl | ha
        · rfl
        · rfl
        · exact ih ha
    (first | refine wA rfl ?_ ?_ ?_ | refine dA rfl ?_ ?_ ?_); exact (.tup [.orec 2 (flatP L), .bool O]); exact (⟨A, C, rfl, hokA, hokB, by rw [hL, hO]⟩); simp (config := { maxSteps := 2000000 }) only [go_sem]
    simp (config := { maxSteps := 2000000 }) only [go_sem, hnl]
    repeat' (first | refine wS fun K hK => ?_ | refine wB ?_ | ((first | refine wX hΓ ?_ | refine wV hΓ fun B hB => ?_); simp (config := { maxSteps := 2000000 }) only [go_sem]) | ((repeat ((fail_if_success (refine hK _ ?_)); clear hK K)); refine hK _ ?_; clear hK K) | (refine w1 ?_; simp only [xs, xi, Nat.reduceEqDiff, reduceCtorEq]) | (refine wC (fun hb => ?_) fun hb => ?_ <;> (try simp only [xb, reduceCtorEq] at hb)) | (refine w2 (fun hc => ?_) (fun hc => ?_) <;> (try simp only [xc] at hc) <;> (try simp only [go_sem, hc]) <;> (try simp only [xb] at hc)) | refine wI ?_ | refine ex_idx (by omega) ?_ | fail)
    refine ⟨L.length, hfl, ?_⟩
    repeat' (first | refine wS fun K hK => ?_ | refine wB ?_ | ((first | refine wX hΓ ?_ | refine wV hΓ fun B hB => ?_); simp (config := { maxSteps := 2000000 }) only [go_sem]) | ((repeat ((fail_if_success (refine hK _ ?_)); clear hK K)); refine hK _ ?_; clear hK K) | (refine w1 ?_; simp only [xs, xi, Nat.reduceEqDiff, reduceCtorEq]) | (refine wC (fun hb => ?_) fun hb => ?_ <;> (try simp only [xb, reduceCtorEq] at hb)) | (refine w2 (fun hc => ?_) (fun hc => ?_) <;> (try simp only [xc] at hc) <;> (try simp only [go_sem, hc]) <;> (try simp only [xb] at hc)) | refine wI ?_ | refine ex_idx (by omega) ?_ | fail)
    refine CW.loop (ι := Nat) (fun k => [(7, .orec 2 (flatP L)), (9, oorows ((L.take k).map rowP2)), (25, .alias 7 []), (26, I L.length), (27, I (k : Nat))]) (fun k => k ≤ L.length) (fun k => L.length - k) 0 ?_ ?_
    · exact ⟨by ((simp only [xe, xj, Nat.reduceEqDiff]; (try simp [view, viewL_map]); (try omega)); try simp), by omega⟩
    rintro k hk
    simp only [envOf]
    repeat' (first | refine wS fun K hK => ?_ | refine wB ?_ | ((first | refine wX hΓ ?_ | refine wV hΓ fun B hB => ?_); simp (config := { maxSteps := 2000000 }) only [go_sem]) | ((repeat ((fail_if_success (refine hK _ ?_)); clear hK K)); refine hK _ ?_; clear hK K) | (refine w1 ?_; simp only [xs, xi, Nat.reduceEqDiff, reduceCtorEq]) | (refine wC (fun hb => ?_) fun hb => ?_ <;> (try simp only [xb, reduceCtorEq] at hb)) | (refine w2 (fun hc => ?_) (fun hc => ?_) <;> (try simp only [xc] at hc) <;> (try simp only [go_sem, hc]) <;> (try simp only [xb] at hc)) | refine wI ?_ | refine ex_idx (by omega) ?_ | fail)
    · have hkL : k < L.length := by omega
      refine ⟨[I (L[k].1 : Int), I (L[k].2 : Int)], ⟨rfl, rfl, hfa k hkL⟩, ?_⟩
      simp (config := { maxSteps := 2000000 }) only [go_sem]
      repeat' (first | refine wS fun K hK => ?_ | refine wB ?_ | ((first | refine wX hΓ ?_ | refine wV hΓ fun B hB => ?_); simp (config := { maxSteps := 2000000 }) only [go_sem]) | ((repeat ((fail_if_success (refine hK _ ?_)); clear hK K)); refine hK _ ?_; clear hK K) | (refine w1 ?_; simp only [xs, xi, Nat.reduceEqDiff, reduceCtorEq]) | (refine wC (fun hb => ?_) fun hb => ?_ <;> (try simp only [xb, reduceCtorEq] at hb)) | (refine w2 (fun hc => ?_) (fun hc => ?_) <;> (try simp only [xc] at hc) <;> (try simp only [go_sem, hc]) <;> (try simp only [xb] at hc)) | refine wI ?_ | refine ex_idx (by omega) ?_ | fail)
      refine ⟨k + 1, ?_, by omega, by omega⟩
      rw [List.take_succ_eq_append_getElem hkL, List.map_append]
      ((simp only [xe, xj, Nat.reduceEqDiff]; (try simp [view, viewL_map]); (try omega)); try simp [rowP2])
    · obtain rfl : k = L.length := by omega
      rw [hpl, List.take_length]
      simp [Try.results9, RetOK, RetP, backA, upd_at, plainB, getP, isOwn, anyOwn, isP]

end Go.Proofs.Ytmhiipmajlmlgaa
