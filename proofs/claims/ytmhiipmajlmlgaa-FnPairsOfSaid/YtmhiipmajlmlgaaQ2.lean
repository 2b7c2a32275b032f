/- Pairs that are reached, in the reference. Walked by the engine. -/
import Derived.Test.YtmhiipmajlmlgaaGrpM
import Derived.Test.YtmhiipmajlmlgaaGrpL
import Derived.Test.YtmhiipmajlmlgaaGrpU
import Derived.Test.YtmhiipmajlmlgaaGrpD
import Derived.Test.YtmhiipmajlmlgaaPairsP
import Derived.Test.YtmhiipmajlmlgaaEngMin
namespace Go.Proofs.Ytmhiipmajlmlgaa
set_option linter.unusedSimpArgs false
set_option linter.unusedVariables false
set_option maxRecDepth 8000
set_option maxHeartbeats 2000000
open Go Go.RowKit AV

theorem katB_okQ {e : List Int} (h : katB e = true) : KatOK e := by
  obtain ⟨x, hw, rfl, h40⟩ := katB_tree h
  exact KatOK.of hw h40
theorem autD_okQ {e : List Int} (h : (autD e).ends.length ≠ 0) : AutoOK (autD e) := by
  by_cases hc : katB e = true ∧ (allL e).length ≤ 10
  · exact autD_ok (katB_okQ hc.1) h
  · rw [autD_no hc] at h; exact absurd rfl h
def hasPR (args : List AV) (r : AV) : Prop := ∃ (L : List (List Int)) (a b : Int), args = [rows L, I a, I b] ∧ L.length ≤ 1099511627776 ∧ (∀ x ∈ L, x.length ≤ 1099511627776) ∧ r = .bool (decide ([a, b] ∈ L))
theorem two_eq {x : List Int} {a b : Int} (h : x.length = 2) (h0 : x[0] = a) (h1 : x[1] = b) : x = [a, b] := by
  match x, h with
  | [c, d], _ => simp at h0 h1; rw [h0, h1]
theorem l6Has_ctr : CtrOK Try.prog 42 (pureC hasPR) := by
  refine ctr_pure' Try.func42 rfl rfl Try.ntmps42 ?_
  rintro _ _ ⟨L, a, b, rfl, hL, hr, rfl⟩
  refine ⟨by simp, fun κ hκ => ?_⟩
  have hbig := bigW_gt
  rw [argEnv_eq]
  simp only [envA]
  have hΓ := noCtx_ok Try.prog
  repeat' (first | refine wS fun K hK => ?_ | refine wB ?_ | ((first | refine wR hΓ ?_ | refine wD hΓ fun B hB => ?_); simp (config := { maxSteps := 2000000 }) only [go_sem]) | ((repeat ((fail_if_success (refine hK _ ?_)); clear hK K)); refine hK _ ?_; clear hK K) | (refine w1 ?_; simp only [xs, xi, Nat.reduceEqDiff, reduceCtorEq]) | (refine wC (fun hb => ?_) fun hb => ?_ <;> (try simp only [xb, reduceCtorEq] at hb)) | (refine w2 (fun hc => ?_) (fun hc => ?_) <;> (try simp only [xc] at hc) <;> (try simp only [go_sem, hc]) <;> (try simp only [xb] at hc)) | refine wI ?_ | refine ex_idx (by omega) ?_ | fail)
  refine CW.loop (ι := Nat) (fun k => [(0, rows L), (1, I a), (2, I b), (7, I (k : Int))]) (fun k => k ≤ L.length ∧ [a, b] ∉ L.take k) (fun k => L.length - k) 0 ?_ ?_
  · exact ⟨by (simp only [xe, xj, Nat.reduceEqDiff]; (try simp [view, viewL_map]); (try omega)), by omega, by simp⟩
  rintro k ⟨hk, hno⟩
  simp only [envOf]
  repeat' (first | refine wS fun K hK => ?_ | refine wB ?_ | ((first | refine wR hΓ ?_ | refine wD hΓ fun B hB => ?_); simp (config := { maxSteps := 2000000 }) only [go_sem]) | ((repeat ((fail_if_success (refine hK _ ?_)); clear hK K)); refine hK _ ?_; clear hK K) | (refine w1 ?_; simp only [xs, xi, Nat.reduceEqDiff, reduceCtorEq]) | (refine wC (fun hb => ?_) fun hb => ?_ <;> (try simp only [xb, reduceCtorEq] at hb)) | (refine w2 (fun hc => ?_) (fun hc => ?_) <;> (try simp only [xc] at hc) <;> (try simp only [go_sem, hc]) <;> (try simp only [xb] at hc)) | refine wI ?_ | refine ex_idx (by omega) ?_ | fail)
  rotate_right
  · have : L.take k = L := List.take_of_length_le (by omega)
    rw [this] at hno
    have h2 : decide ([a, b] ∈ L) = false := decide_eq_false hno
    rw [h2]
    simp [Try.results42, RetOK, RetP, backA, upd_at, plainB, getP, isOwn, anyOwn, isP]
  all_goals have hkL : k < L.length := by omega
  all_goals first
    | (have hd : L[k] = [a, b] := two_eq (by omega) (by assumption) (by assumption)
       have h2 : decide ([a, b] ∈ L) = true := decide_eq_true (hd ▸ List.getElem_mem hkL)
       rw [h2]
       simp [Try.results42, RetOK, RetP, backA, upd_at, plainB, getP, isOwn, anyOwn, isP]
       done)
    | (refine ⟨k + 1, by (simp only [xe, xj, Nat.reduceEqDiff]; (try simp [view, viewL_map]); (try omega)), ⟨by omega, ?_⟩, by omega⟩
       rw [List.take_succ_eq_append_getElem hkL, List.mem_append, List.mem_singleton]
       rintro (h | h)
       · exact hno h
       · have hl : L[k].length = 2 := by rw [← h]; rfl
         have h0 : L[k][0]'(by omega) = a := by simp [← h]
         have h1 : L[k][1]'(by omega) = b := by simp [← h]
         first
           | omega
           | (exfalso; simp_all; done))

def smQ (K : List (Nat × Nat)) : Prop := ∀ p ∈ K, p.1 < 1048576 ∧ p.2 < 1048576
def pairsOfR (args : List AV) (r : AV) : Prop := ∃ e f : List Int, args = [ints e, ints f] ∧ e.length ≤ 1048576 ∧ f.length ≤ 1048576 ∧ r = oorows (pairsL (autD e) (autD f))
theorem memP2 {P : List (Nat × Nat)} {z : Nat × Nat} : rowP2 z ∈ P.map rowP2 ↔ z ∈ P :=
  ⟨fun h => by obtain ⟨w, hw, e⟩ := List.mem_map.1 h; exact rowP2_inj e ▸ hw, fun h => List.mem_map.2 ⟨z, h, rfl⟩⟩

attribute [local go_sem] Function.comp_apply rowP2

theorem specPairsOf_ctr : CtrOK Try.prog 11 (pureC pairsOfR) := by
  refine ctr_pure' Try.func11 rfl rfl Try.ntmps11 ?_
  rintro _ _ ⟨e, f, rfl, he, hf, rfl⟩
  refine ⟨by simp, fun κ hκ => ?_⟩
  have hbig := bigW_gt
  rw [argEnv_eq]
  simp only [envA]
  have hΓ := ctxOf_ok (P := Try.prog) (cx specAutoOf_ctr <| cx l5Step_ctr <| cx l6Has_ctr <| cx0)
  have hokA := fun h => autD_okQ (e := e) h
  have hokB := fun h => autD_okQ (e := f) h
  obtain ⟨A, hA⟩ : ∃ A, autD e = A := ⟨_, rfl⟩
  obtain ⟨C, hC⟩ : ∃ A, autD f = A := ⟨_, rfl⟩
  rw [hA] at hokA
  rw [hC] at hokB
  rw [hA, hC]
  repeat' (first | refine wS fun K hK => ?_ | refine wB ?_ | ((first | refine wR hΓ ?_ | refine wD hΓ fun B hB => ?_); simp (config := { maxSteps := 2000000 }) only [go_sem]) | ((repeat ((fail_if_success (refine hK _ ?_)); clear hK K)); refine hK _ ?_; clear hK K) | (refine w1 ?_; simp only [xs, xi, Nat.reduceEqDiff, reduceCtorEq]) | (refine wC (fun hb => ?_) fun hb => ?_ <;> (try simp only [xb, reduceCtorEq] at hb)) | (refine w2 (fun hc => ?_) (fun hc => ?_) <;> (try simp only [xc] at hc) <;> (try simp only [go_sem, hc]) <;> (try simp only [xb] at hc)) | refine wI ?_ | refine ex_idx (by omega) ?_ | fail)
  (first | refine wA rfl ?_ ?_ ?_ | refine dA rfl ?_ ?_ ?_); exact (agg [oints A.ends, oorows A.next]); exact (⟨e, rfl, he, by rw [hA]⟩); simp (config := { maxSteps := 2000000 }) only [go_sem]
  repeat' (first | refine wS fun K hK => ?_ | refine wB ?_ | ((first | refine wR hΓ ?_ | refine wD hΓ fun B hB => ?_); simp (config := { maxSteps := 2000000 }) only [go_sem]) | ((repeat ((fail_if_success (refine hK _ ?_)); clear hK K)); refine hK _ ?_; clear hK K) | (refine w1 ?_; simp only [xs, xi, Nat.reduceEqDiff, reduceCtorEq]) | (refine wC (fun hb => ?_) fun hb => ?_ <;> (try simp only [xb, reduceCtorEq] at hb)) | (refine w2 (fun hc => ?_) (fun hc => ?_) <;> (try simp only [xc] at hc) <;> (try simp only [go_sem, hc]) <;> (try simp only [xb] at hc)) | refine wI ?_ | refine ex_idx (by omega) ?_ | fail)
  (first | refine wA rfl ?_ ?_ ?_ | refine dA rfl ?_ ?_ ?_); exact (agg [oints C.ends, oorows C.next]); exact (⟨f, rfl, hf, by rw [hC]⟩); simp (config := { maxSteps := 2000000 }) only [go_sem]
  repeat' (first | refine wS fun K hK => ?_ | refine wB ?_ | ((first | refine wR hΓ ?_ | refine wD hΓ fun B hB => ?_); simp (config := { maxSteps := 2000000 }) only [go_sem]) | ((repeat ((fail_if_success (refine hK _ ?_)); clear hK K)); refine hK _ ?_; clear hK K) | (refine w1 ?_; simp only [xs, xi, Nat.reduceEqDiff, reduceCtorEq]) | (refine wC (fun hb => ?_) fun hb => ?_ <;> (try simp only [xb, reduceCtorEq] at hb)) | (refine w2 (fun hc => ?_) (fun hc => ?_) <;> (try simp only [xc] at hc) <;> (try simp only [go_sem, hc]) <;> (try simp only [xb] at hc)) | refine wI ?_ | refine ex_idx (by omega) ?_ | fail)
  rotate_left
  all_goals try (rw [pairsL_no (by omega)]; simp [Try.results11, RetOK, RetP, backA, upd_at, plainB, getP, isOwn, anyOwn, isP]; done)
  have hA0 : A.ends.length ≠ 0 := by omega
  have hC0 : C.ends.length ≠ 0 := by omega
  have hokA := hokA hA0
  have hokB := hokB hC0
  have hpA := hokA.pow_le
  have hpC := hokB.pow_le
  refine CW.loop (ι := Nat × List (Nat × Nat)) (fun y => [(5, box [oints A.ends, oorows A.next]), (6, box [oints C.ends, oorows C.next]), (7, oorows (y.2.map rowP2)), (8, I (y.1 : Nat))]) (fun y => AtP (stepP A C) (1, 1) y.1 y.2 ∧ smQ y.2) (fun y => 101 - y.1) (0, [(1, 1)]) ?_ ?_
  · exact ⟨by ((simp only [xe, xj, Nat.reduceEqDiff]; (try simp [view, viewL_map]); (try omega)); try simp [rowP2]), AtP.start _ _, by intro p hp; simp at hp; subst hp; exact ⟨by decide, by decide⟩⟩
  rintro ⟨k, l⟩ ⟨hAt, hsm⟩
  dsimp only at hAt hsm
  simp only [envOf]
  have hle := hAt.le
  have hhi := hAt.hi
  repeat' (first | refine wS fun K hK => ?_ | refine wB ?_ | ((first | refine wR hΓ ?_ | refine wD hΓ fun B hB => ?_); simp (config := { maxSteps := 2000000 }) only [go_sem]) | ((repeat ((fail_if_success (refine hK _ ?_)); clear hK K)); refine hK _ ?_; clear hK K) | (refine w1 ?_; simp only [xs, xi, Nat.reduceEqDiff, reduceCtorEq]) | (refine wC (fun hb => ?_) fun hb => ?_ <;> (try simp only [xb, reduceCtorEq] at hb)) | (refine w2 (fun hc => ?_) (fun hc => ?_) <;> (try simp only [xc] at hc) <;> (try simp only [go_sem, hc]) <;> (try simp only [xb] at hc)) | refine wI ?_ | refine ex_idx (by omega) ?_ | fail)
  · have hkl : k < l.length := by omega
    obtain ⟨q, hq⟩ : ∃ q, l[k] = q := ⟨_, rfl⟩
    have hqs : q.1 < 1048576 ∧ q.2 < 1048576 := hq ▸ hsm _ (List.getElem_mem hkl)
    have hst : ∀ (x : Nat × Nat) (m : Nat), m < 12 → (stepP A C x m).1 < 1048576 ∧ (stepP A C x m).2 < 1048576 := fun x m hm =>
      ⟨Nat.lt_of_lt_of_le (stepP_lt hokA hokB hm).1 (Nat.le_trans hpA (by decide)), Nat.lt_of_lt_of_le (stepP_lt hokA hokB hm).2 (Nat.le_trans hpC (by decide))⟩
    clear hpA hpC
    refine CW.loop (ι := Nat) (fun m => [(5, box [oints A.ends, oorows A.next]), (6, box [oints C.ends, oorows C.next]), (7, oorows ((prM (stepP A C) l q m).map rowP2)), (8, I (k : Nat)), (9, I (m : Int))]) (fun m => m ≤ 12) (fun m => 12 - m) 0 ?_ ?_
    · exact ⟨by (simp only [prM]; (simp only [xe, xj, Nat.reduceEqDiff]; (try simp [view, viewL_map]); (try omega))), by omega⟩
    rintro m hm
    obtain ⟨P, hP⟩ : ∃ P, prM (stepP A C) l q m = P := ⟨_, rfl⟩
    have hP1 : prM (stepP A C) l q (m + 1) = addP P (stepP A C q m) := by rw [← hP]; rfl
    have hpre : l <+: P := by rw [← hP]; exact prM_pre ..
    have hPl : P.length ≤ l.length + m := by rw [← hP]; exact prM_len ..
    have hPs : smQ P := by rw [← hP]; exact prM_all (p := fun p : Nat × Nat => p.1 < 1048576 ∧ p.2 < 1048576) (fun x m hm _ => hst x m hm) hsm hqs hm
    have hkP : k < P.length := Nat.lt_of_lt_of_le hkl hpre.length_le
    have hPk : P[k] = q := by rw [← hq]; exact (hpre.getElem hkl).symm
    simp only [envOf, hP]
    repeat' (first | refine wS fun K hK => ?_ | refine wB ?_ | ((first | refine wR hΓ ?_ | refine wD hΓ fun B hB => ?_); simp (config := { maxSteps := 2000000 }) only [go_sem]) | ((repeat ((fail_if_success (refine hK _ ?_)); clear hK K)); refine hK _ ?_; clear hK K) | (refine w1 ?_; simp only [xs, xi, Nat.reduceEqDiff, reduceCtorEq]) | (refine wC (fun hb => ?_) fun hb => ?_ <;> (try simp only [xb, reduceCtorEq] at hb)) | (refine w2 (fun hc => ?_) (fun hc => ?_) <;> (try simp only [xc] at hc) <;> (try simp only [go_sem, hc]) <;> (try simp only [xb] at hc)) | refine wI ?_ | refine ex_idx (by omega) ?_ | fail)
    rotate_left
    · obtain rfl : m = 12 := by omega
      rw [pairsL_many (show reachP A C = none from hAt.many hkl (by rw [hq, hP]; omega))]
      simp [Try.results11, RetOK, RetP, backA, upd_at, plainB, getP, isOwn, anyOwn, isP]
    · obtain rfl : m = 12 := by omega
      have hn := hAt.next hkl (by rw [hq, hP]; omega)
      rw [hq, hP] at hn
      exact ⟨(k + 1, P), by (simp only [xe, xj, Nat.reduceEqDiff]; (try simp [view, viewL_map]); (try omega)), ⟨hn, hPs⟩, by dsimp only; omega⟩
    have hs1 := hst q m (by omega)
    obtain ⟨⟨x, y⟩, hxy⟩ : ∃ z, stepP A C q m = z := ⟨_, rfl⟩
    rw [hxy] at hP1 hs1
    dsimp only at hs1
    have hx : behF A q.1 m = x := congrArg Prod.fst hxy
    have hy : behF C q.2 m = y := congrArg Prod.snd hxy
    (first | refine wA rfl ?_ ?_ ?_ | refine dA rfl ?_ ?_ ?_); exact (I (x : Int)); exact (⟨A, q.1, m, by simp [hPk, autA, view, viewL, viewL_map, view_I, Function.comp_def], hokA, by omega, by omega, by rw [hx]⟩); simp (config := { maxSteps := 2000000 }) only [go_sem]
    repeat' (first | refine wS fun K hK => ?_ | refine wB ?_ | ((first | refine wR hΓ ?_ | refine wD hΓ fun B hB => ?_); simp (config := { maxSteps := 2000000 }) only [go_sem]) | ((repeat ((fail_if_success (refine hK _ ?_)); clear hK K)); refine hK _ ?_; clear hK K) | (refine w1 ?_; simp only [xs, xi, Nat.reduceEqDiff, reduceCtorEq]) | (refine wC (fun hb => ?_) fun hb => ?_ <;> (try simp only [xb, reduceCtorEq] at hb)) | (refine w2 (fun hc => ?_) (fun hc => ?_) <;> (try simp only [xc] at hc) <;> (try simp only [go_sem, hc]) <;> (try simp only [xb] at hc)) | refine wI ?_ | refine ex_idx (by omega) ?_ | fail)
    (first | refine wA rfl ?_ ?_ ?_ | refine dA rfl ?_ ?_ ?_); exact (I (y : Int)); exact (⟨C, q.2, m, by simp [hPk, autA, view, viewL, viewL_map, view_I, Function.comp_def], hokB, by omega, by omega, by rw [hy]⟩); simp (config := { maxSteps := 2000000 }) only [go_sem]
    repeat' (first | refine wS fun K hK => ?_ | refine wB ?_ | ((first | refine wR hΓ ?_ | refine wD hΓ fun B hB => ?_); simp (config := { maxSteps := 2000000 }) only [go_sem]) | ((repeat ((fail_if_success (refine hK _ ?_)); clear hK K)); refine hK _ ?_; clear hK K) | (refine w1 ?_; simp only [xs, xi, Nat.reduceEqDiff, reduceCtorEq]) | (refine wC (fun hb => ?_) fun hb => ?_ <;> (try simp only [xb, reduceCtorEq] at hb)) | (refine w2 (fun hc => ?_) (fun hc => ?_) <;> (try simp only [xc] at hc) <;> (try simp only [go_sem, hc]) <;> (try simp only [xb] at hc)) | refine wI ?_ | refine ex_idx (by omega) ?_ | fail)
    have hrl : ∀ r ∈ P.map rowP2, r.length ≤ 1099511627776 := fun r hr => by
      obtain ⟨w, _, rfl⟩ := List.mem_map.1 hr
      show 2 ≤ _
      omega
    have hml : (P.map rowP2).length ≤ 1099511627776 := by rw [List.length_map]; have := hAt.hi; omega
    have hm2 : ([(x : Int), (y : Int)] ∈ P.map rowP2) ↔ (x, y) ∈ P := memP2 (z := (x, y))
    by_cases hin : (x, y) ∈ P
    · (first | refine wA rfl ?_ ?_ ?_ | refine dA rfl ?_ ?_ ?_); exact (.bool true); exact (⟨P.map rowP2, (x : Int), (y : Int), by simp [view, viewL, viewL_map, view_I, Function.comp_def, rowP2], hml, hrl, by rw [decide_eq_true (hm2.2 hin)]⟩); simp (config := { maxSteps := 2000000 }) only [go_sem]
      repeat' (first | refine wS fun K hK => ?_ | refine wB ?_ | ((first | refine wR hΓ ?_ | refine wD hΓ fun B hB => ?_); simp (config := { maxSteps := 2000000 }) only [go_sem]) | ((repeat ((fail_if_success (refine hK _ ?_)); clear hK K)); refine hK _ ?_; clear hK K) | (refine w1 ?_; simp only [xs, xi, Nat.reduceEqDiff, reduceCtorEq]) | (refine wC (fun hb => ?_) fun hb => ?_ <;> (try simp only [xb, reduceCtorEq] at hb)) | (refine w2 (fun hc => ?_) (fun hc => ?_) <;> (try simp only [xc] at hc) <;> (try simp only [go_sem, hc]) <;> (try simp only [xb] at hc)) | refine wI ?_ | refine ex_idx (by omega) ?_ | fail)
      rw [addP, if_pos hin] at hP1
      exact ⟨m + 1, by rw [hP1]; (simp only [xe, xj, Nat.reduceEqDiff]; (try simp [view, viewL_map]); (try omega)), by omega, by omega⟩
    · (first | refine wA rfl ?_ ?_ ?_ | refine dA rfl ?_ ?_ ?_); exact (.bool false); exact (⟨P.map rowP2, (x : Int), (y : Int), by simp [view, viewL, viewL_map, view_I, Function.comp_def, rowP2], hml, hrl, by rw [decide_eq_false (fun h => hin (hm2.1 h))]⟩); simp (config := { maxSteps := 2000000 }) only [go_sem]
      repeat' (first | refine wS fun K hK => ?_ | refine wB ?_ | ((first | refine wR hΓ ?_ | refine wD hΓ fun B hB => ?_); simp (config := { maxSteps := 2000000 }) only [go_sem]) | ((repeat ((fail_if_success (refine hK _ ?_)); clear hK K)); refine hK _ ?_; clear hK K) | (refine w1 ?_; simp only [xs, xi, Nat.reduceEqDiff, reduceCtorEq]) | (refine wC (fun hb => ?_) fun hb => ?_ <;> (try simp only [xb, reduceCtorEq] at hb)) | (refine w2 (fun hc => ?_) (fun hc => ?_) <;> (try simp only [xc] at hc) <;> (try simp only [go_sem, hc]) <;> (try simp only [xb] at hc)) | refine wI ?_ | refine ex_idx (by omega) ?_ | fail)
      rw [addP, if_neg hin] at hP1
      exact ⟨m + 1, by (rw [hP1, List.map_append]; (simp only [xe, xj, Nat.reduceEqDiff]; (try simp [view, viewL_map]); (try omega)); rfl), by omega, by omega⟩
  · rw [pairsL_yes (by omega) (show reachP A C = some l from hAt.done (by omega))]
    simp [Try.results11, RetOK, RetP, backA, upd_at, plainB, getP, isOwn, anyOwn, isP]

end Go.Proofs.Ytmhiipmajlmlgaa
