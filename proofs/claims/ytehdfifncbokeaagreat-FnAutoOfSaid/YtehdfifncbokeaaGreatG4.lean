/- The program's AutoOf, walked by the engine. -/
import Derived.Test.YtehdfifncbokeaaGreatGrpM
import Derived.Test.YtehdfifncbokeaaGreatD9
import Derived.Test.YtehdfifncbokeaaGreatG1
import Derived.Test.YtehdfifncbokeaaGreatGrpT
import Derived.Test.YtehdfifncbokeaaGreatEngMin
namespace Go.Proofs.YtehdfifncbokeaaGreat
set_option linter.unusedSimpArgs false
set_option linter.unusedVariables false
set_option maxRecDepth 8000
set_option maxHeartbeats 2000000
open Go Go.RowKit AV

theorem idxF_idxOf (q : List Int) : ∀ (l : LL) (n : Nat), q ∈ l → idxF (fun a => decide (q = a)) n l = ((n + l.idxOf q : Nat) : Int)
  | [], _, h => by simp at h
  | x :: l, n, h => by
    by_cases e : q = x
    · subst e; simp [idxF]
    · have hm : q ∈ l := by simpa [e] using h
      have hne : ¬ x = q := fun h => e h.symm
      have hb : (x == q) = false := by simpa using hne
      rw [idxF, if_neg (by simpa using e), idxF_idxOf q l (n + 1) hm, List.idxOf_cons, hb]
      simp only [cond_false]
      omega

def rowP (l : LL) (t : List Int) (m i : Nat) : List Int := rowM l t m ++ ((plcTo l (leftM t m) i : Nat) : Int) :: List.replicate (11 - m) 0
def rowZ (l : LL) (t : List Int) (m : Nat) : List Int := rowM l t m ++ List.replicate (12 - m) 0
theorem rowZ_P {l : LL} {t : List Int} {m : Nat} (h : m < 12) : rowZ l t m = rowP l t m 0 := by
  rw [rowZ, rowP, show 12 - m = (11 - m) + 1 by omega, List.replicate_succ]; rfl
theorem rowP_Z {l : LL} {t : List Int} {m : Nat} (hn : l.Nodup) (hs : ∀ s ∈ leftM t m, s ∈ l) : rowP l t m (leftM t m).length = rowZ l t (m + 1) := by
  rw [rowP, rowZ, plcTo_full hn hs, rowM_succ, show 12 - (m + 1) = 11 - m by omega, List.append_assoc]; rfl
theorem rowP_len {l : LL} {t : List Int} {m i : Nat} (h : m < 12) : (rowP l t m i).length = 12 := by
  simp [rowP, rowM_len]; omega
theorem rowP_get {l : LL} {t : List Int} {m i : Nat} (h : m < (rowP l t m i).length) : (rowP l t m i)[m] = ((plcTo l (leftM t m) i : Nat) : Int) := by
  have h1 := rowM_len l t m
  simp only [rowP]
  rw [List.getElem_append_right (by omega)]
  simp [h1]
theorem rowP_set {l : LL} {t : List Int} {m i : Nat} : rowP l t m (i + 1) = (rowP l t m i).set m (((plcTo l (leftM t m) i ||| 2 ^ (l.idxOf ((leftM t m).getD i [])) : Nat) : Nat) : Int) := by
  have h1 := rowM_len l t m
  rw [rowP, rowP, List.set_append_right _ _ (by omega), h1, Nat.sub_self, List.set_cons_zero, plcTo]

theorem implAutoOf_ctr : CtrOK Tryz.prog 5 (pureC autoOfR) := by
  refine ctr_pure' Tryz.func5 rfl rfl Tryz.ntmps5 ?_
  rintro _ _ ⟨e, rfl, hl, rfl⟩
  refine ⟨by simp, fun κ hκ => ?_⟩
  have hbig := bigW_gt
  rw [argEnv_eq]
  simp only [envA]
  have hΓ := ctxOf_ok (P := Tryz.prog) (cx implKatValid_ctr <| cx allParts_ctr <| cx build_ctr <| cx tparts_ctr <| cx ends_ctr <| cx move_ctr <| cx partAt_ctr <| cx0)
  repeat' (first | exact hb.elim | refine wS fun K hK => ?_ | refine wB ?_ | refine uR hΓ ?_ | refine uD hΓ fun B hB => ?_ | ((repeat ((fail_if_success (refine hK _ ?_)); clear hK K)); refine hK _ ?_; clear hK K) | refine u1 ?_ | refine uC (fun hb => ?_) fun hb => ?_ | refine u2 (fun hc => ?_) fun hc => ?_ | refine wI ?_ | refine ex_idx (by omega) ?_ | exact True.intro | fail)
  (first | refine wA rfl _ (⟨e, rfl, by omega, rfl⟩) ?_ | refine dA rfl _ (⟨e, rfl, by omega, rfl⟩) ?_); simp (maxSteps := 2000000) only [go_sem]
  repeat' (first | exact hb.elim | refine wS fun K hK => ?_ | refine wB ?_ | refine uR hΓ ?_ | refine uD hΓ fun B hB => ?_ | ((repeat ((fail_if_success (refine hK _ ?_)); clear hK K)); refine hK _ ?_; clear hK K) | refine u1 ?_ | refine uC (fun hb => ?_) fun hb => ?_ | refine u2 (fun hc => ?_) fun hc => ?_ | refine wI ?_ | refine ex_idx (by omega) ?_ | exact True.intro | fail)
  · have hkb := ‹katB e = false›
    rw [autD_no (e := e) (by simp [hkb])]
    (rw [Tryz.results5]; exact retOK_box Ty_aggT_27 Ty_szT_27 (by simp [upd_at]))
  have hkb := ‹katB e = true›
  obtain ⟨x, hw, rfl, h40⟩ := katB_tree hkb
  obtain ⟨hfa, hln, hps0⟩ := allL_facts hw h40
  have hnd := allL_nodup x.steps
  have hcl : ∀ t ∈ allL x.steps, ∀ m, m < 12 → ∀ s ∈ leftM t m, s ∈ allL x.steps := fun t ht m hm s hs => allL_closed hw h40 ht hm hs
  have hno : 10 < (allL x.steps).length → autD x.steps = ⟨[], []⟩ := fun h => autD_no (by omega)
  have hyes : (allL x.steps).length ≤ 10 → autD x.steps = ⟨endsM (allL x.steps), (allL x.steps).map fun t => rowM (allL x.steps) t 12⟩ := fun h => autD_yes hkb h
  (first | refine wA rfl _ (⟨x, rfl, hw, h40, rfl⟩) ?_ | refine dA rfl _ (⟨x, rfl, hw, h40, rfl⟩) ?_); simp (maxSteps := 2000000) only [go_sem]
  generalize hA : allL x.steps = A at *
  repeat' (first | exact hb.elim | refine wS fun K hK => ?_ | refine wB ?_ | refine uR hΓ ?_ | refine uD hΓ fun B hB => ?_ | ((repeat ((fail_if_success (refine hK _ ?_)); clear hK K)); refine hK _ ?_; clear hK K) | refine u1 ?_ | refine uC (fun hb => ?_) fun hb => ?_ | refine u2 (fun hc => ?_) fun hc => ?_ | refine wI ?_ | refine ex_idx (by omega) ?_ | exact True.intro | fail)
  · rw [hno (by omega)]
    (rw [Tryz.results5]; exact retOK_box Ty_aggT_27 Ty_szT_27 (by simp [upd_at]))
  have h10 : A.length ≤ 10 := by omega
  refine CW.loop (ι := Nat) (fun k => [(2, box [own [], own []]), (3, rows A), (4, box [oints (endsM (A.take k)), oorows ((A.take k).map fun t => rowM A t 12)]), (23, rows A), (24, I A.length), (25, I k)]) (fun k => k ≤ A.length) (fun k => A.length - k) 0 ?_ ?_
  · exact ⟨by ((simp only [xe, xj, Nat.reduceEqDiff]; (try simp [view, viewL_map]); (try omega)); simp [endsM]), by omega⟩
  rintro k hk
  simp only [envOf]
  repeat' (first | exact hb.elim | refine wS fun K hK => ?_ | refine wB ?_ | refine uR hΓ ?_ | refine uD hΓ fun B hB => ?_ | ((repeat ((fail_if_success (refine hK _ ?_)); clear hK K)); refine hK _ ?_; clear hK K) | refine u1 ?_ | refine uC (fun hb => ?_) fun hb => ?_ | refine u2 (fun hc => ?_) fun hc => ?_ | refine wI ?_ | refine ex_idx (by omega) ?_ | exact True.intro | fail)
  rotate_left
  · have hke : k = A.length := by omega
    subst hke
    rw [List.take_length, hyes h10]
    (rw [Tryz.results5]; exact retOK_box Ty_aggT_27 Ty_szT_27 (by simp [upd_at]))
  have hkl : k < A.length := by omega
  obtain ⟨hin, hsh⟩ := hfa _ (List.getElem_mem hkl)
  obtain ⟨p, hpw, hps, hpe⟩ := hin.tree
  have h16 := endX_lt hpw
  have hel : (endsM (A.take k)).length = k := by simp [endsM]; omega
  have hrl : ((A.take k).map fun t => rowM A t 12).length = k := by simp; omega
  have hclk := hcl _ (List.getElem_mem hkl)
  (first | refine wA rfl _ (⟨p, by rw [hps], hpw, by rw [hps]; omega, (treeA_eq p).symm⟩) ?_ | refine dA rfl _ (⟨p, by rw [hps], hpw, by rw [hps]; omega, (treeA_eq p).symm⟩) ?_); simp (maxSteps := 2000000) only [go_sem]
  repeat' (first | exact hb.elim | refine wS fun K hK => ?_ | refine wB ?_ | refine uR hΓ ?_ | refine uD hΓ fun B hB => ?_ | ((repeat ((fail_if_success (refine hK _ ?_)); clear hK K)); refine hK _ ?_; clear hK K) | refine u1 ?_ | refine uC (fun hb => ?_) fun hb => ?_ | refine u2 (fun hc => ?_) fun hc => ?_ | refine wI ?_ | refine ex_idx (by omega) ?_ | exact True.intro | fail)
  refine CW.loop (ι := Nat) (fun a => [(2, box [own [], own []]), (3, rows A), (4, box [oints (endsM (A.take k)), oorows ((A.take k).map fun t => rowM A t 12)]), (6, ints p.steps), (7, .pbox [I p.op, .sh (p.subs.map treeA)]), (8, oints (rowZ A A[k] (3 * a))), (23, rows A), (24, I A.length), (25, I k), (32, I a)]) (fun a => a ≤ 4) (fun a => 4 - a) 0 ?_ ?_
  · refine ⟨by rw [hps]; ((simp only [xe, xj, Nat.reduceEqDiff]; (try simp [view, viewL_map]); (try omega)); simp [rowZ, rowM]), by omega⟩
  rintro a ha
  simp only [envOf]
  repeat' (first | exact hb.elim | refine wS fun K hK => ?_ | refine wB ?_ | refine uR hΓ ?_ | refine uD hΓ fun B hB => ?_ | ((repeat ((fail_if_success (refine hK _ ?_)); clear hK K)); refine hK _ ?_; clear hK K) | refine u1 ?_ | refine uC (fun hb => ?_) fun hb => ?_ | refine u2 (fun hc => ?_) fun hc => ?_ | refine wI ?_ | refine ex_idx (by omega) ?_ | exact True.intro | fail)
  rotate_left
  · have ha4 : a = 4 := by omega
    subst ha4
    have hz : rowZ A A[k] (3 * 4) = rowM A A[k] 12 := by simp [rowZ]
    rw [hz]
    (first | refine wA rfl _ (⟨p, rfl, hpw, by rw [hps]; omega, rfl⟩) ?_ | refine dA rfl _ (⟨p, rfl, hpw, by rw [hps]; omega, rfl⟩) ?_); simp (maxSteps := 2000000) only [go_sem]
    repeat' (first | exact hb.elim | refine wS fun K hK => ?_ | refine wB ?_ | refine uR hΓ ?_ | refine uD hΓ fun B hB => ?_ | ((repeat ((fail_if_success (refine hK _ ?_)); clear hK K)); refine hK _ ?_; clear hK K) | refine u1 ?_ | refine uC (fun hb => ?_) fun hb => ?_ | refine u2 (fun hc => ?_) fun hc => ?_ | refine wI ?_ | refine ex_idx (by omega) ?_ | exact True.intro | fail)
    refine ⟨k + 1, ?_, by omega, by omega⟩
    rw [endsM_take hkl, rows_take hkl, hpe]
    (simp only [xe, xj, Nat.reduceEqDiff]; (try simp [view, viewL_map]); (try omega))
  refine CW.loop (ι := Nat) (fun c => [(2, box [own [], own []]), (3, rows A), (4, box [oints (endsM (A.take k)), oorows ((A.take k).map fun t => rowM A t 12)]), (6, ints p.steps), (7, .pbox [I p.op, .sh (p.subs.map treeA)]), (8, oints (rowZ A A[k] (3 * a + c))), (9, I a), (10, I ((16 + c : Nat) : Int)), (23, rows A), (24, I A.length), (25, I k), (32, I a)]) (fun c => c ≤ 3) (fun c => 3 - c) 0 ?_ ?_
  · exact ⟨by (simp only [xe, xj, Nat.reduceEqDiff]; (try simp [view, viewL_map]); (try omega)), by omega⟩
  rintro c hc
  simp only [envOf]
  repeat' (first | exact hb.elim | refine wS fun K hK => ?_ | refine wB ?_ | refine uR hΓ ?_ | refine uD hΓ fun B hB => ?_ | ((repeat ((fail_if_success (refine hK _ ?_)); clear hK K)); refine hK _ ?_; clear hK K) | refine u1 ?_ | refine uC (fun hb => ?_) fun hb => ?_ | refine u2 (fun hc => ?_) fun hc => ?_ | refine wI ?_ | refine ex_idx (by omega) ?_ | exact True.intro | fail)
  rotate_left
  · have hc3 : c = 3 := by omega
    subst hc3
    exact ⟨a + 1, by rw [show 3 * a + 3 = 3 * (a + 1) by omega]; (simp only [xe, xj, Nat.reduceEqDiff]; (try simp [view, viewL_map]); (try omega)), by omega, by omega⟩
  have hc2 : c < 3 := by omega
  have hac : ((16 + c : Nat) : Int) = 16 + (c : Int) := by omega
  have hpo : partsL a ((16 + c : Nat) : Int) p = leftM A[k] (3 * a + c) := by
    rw [leftM, ← hps, partsOfL_steps hpw, show (3 * a + c) / 3 = a by omega, show (3 * a + c) % 3 = c by omega, hac]
  have hbd := partsL_bd (x := p) (by rw [hps]; omega) hpw (atom := a) (act := ((16 + c : Nat) : Int)) (by omega)
  have hsub := hclk (3 * a + c) (by omega)
  have hPZ := rowP_Z (t := A[k]) (m := 3 * a + c) hnd hsub
  have hZP := rowZ_P (l := A) (t := A[k]) (m := 3 * a + c) (by omega)
  have hPl := fun i => rowP_len (l := A) (t := A[k]) (m := 3 * a + c) (i := i) (by omega)
  have hPg := fun i => rowP_get (l := A) (t := A[k]) (m := 3 * a + c) (i := i)
  have hPs := fun i => rowP_set (l := A) (t := A[k]) (m := 3 * a + c) (i := i)
  have hlt := plcTo_lt hsub
  (first | refine wA rfl _ (⟨p, a, _, by rw [treeA_eq], hpw, by rw [hps]; omega, by omega, by omega, by omega, rfl⟩) ?_ | refine dA rfl _ (⟨p, a, _, by rw [treeA_eq], hpw, by rw [hps]; omega, by omega, by omega, by omega, rfl⟩) ?_); simp (maxSteps := 2000000) only [go_sem]
  rw [hpo] at hbd ⊢
  rw [hZP]
  generalize hP : rowP A A[k] (3 * a + c) = P at *
  generalize hL : leftM A[k] (3 * a + c) = L at *
  repeat' (first | exact hb.elim | refine wS fun K hK => ?_ | refine wB ?_ | refine uR hΓ ?_ | refine uD hΓ fun B hB => ?_ | ((repeat ((fail_if_success (refine hK _ ?_)); clear hK K)); refine hK _ ?_; clear hK K) | refine u1 ?_ | refine uC (fun hb => ?_) fun hb => ?_ | refine u2 (fun hc => ?_) fun hc => ?_ | refine wI ?_ | refine ex_idx (by omega) ?_ | exact True.intro | fail)
  refine CW.loop (ι := Nat) (fun i => [(2, box [own [], own []]), (3, rows A), (4, box [oints (endsM (A.take k)), oorows ((A.take k).map fun t => rowM A t 12)]), (6, ints p.steps), (7, .pbox [I p.op, .sh (p.subs.map treeA)]), (8, oints (P i)), (9, I a), (10, I ((16 + c : Nat) : Int)), (23, rows A), (24, I A.length), (25, I k), (32, I a), (42, rows L), (43, I L.length), (44, I i)]) (fun i => i ≤ L.length) (fun i => L.length - i) 0 ?_ ?_
  · exact ⟨by (simp only [xe, xj, Nat.reduceEqDiff]; (try simp [view, viewL_map]); (try omega)), by omega⟩
  rintro i hi
  simp only [envOf]
  repeat' (first | exact hb.elim | refine wS fun K hK => ?_ | refine wB ?_ | refine uR hΓ ?_ | refine uD hΓ fun B hB => ?_ | ((repeat ((fail_if_success (refine hK _ ?_)); clear hK K)); refine hK _ ?_; clear hK K) | refine u1 ?_ | refine uC (fun hb => ?_) fun hb => ?_ | refine u2 (fun hc => ?_) fun hc => ?_ | refine wI ?_ | refine ex_idx (by omega) ?_ | exact True.intro | fail)
  rotate_left
  · have hie : i = L.length := by omega
    subst hie
    refine ⟨c + 1, ?_, by omega, by omega⟩
    rw [show rowZ A A[k] (3 * a + (c + 1)) = P L.length from hPZ.symm]
    (simp only [xe, xj, Nat.reduceEqDiff]; (try simp [view, viewL_map]); (try omega))
  have hil : i < L.length := by omega
  have hgd : L.getD i [] = L[i] := by simp [List.getD, hil]
  have hmem := hsub _ (List.getElem_mem hil)
  have hix : A.idxOf L[i] < A.length := List.idxOf_lt_length_iff.2 hmem
  have hidx := idxF_idxOf L[i] A 0 hmem
  rw [Nat.zero_add] at hidx
  have hpi := hlt i (by omega)
  have hpow : 2 ^ A.length ≤ 2 ^ 10 := Nat.pow_le_pow_right (by omega) h10
  have hpow2 : 2 ^ A.idxOf L[i] < 2 ^ A.length := Nat.pow_lt_pow_right (by omega) hix
  have hsti := hPs i
  rw [hgd] at hsti
  have hLi := (hfa _ hmem).2
  have hPli := hPl i
  have hPgi : ∀ h : 3 * a + c < (P i).length, (P i)[3 * a + c] = ((plcTo A L i : Nat) : Int) := hPg i
  generalize hj : A.idxOf L[i] = j at *
  obtain ⟨q, hq⟩ : ∃ q : Nat, q = 2 ^ j := ⟨_, rfl⟩
  have e5 : (1 : Int) * 2 ^ j = (q : Int) := by rw [hq]; simp
  rw [← hq] at hpow2 hsti
  (first | refine wA rfl _ (⟨a, c, rfl, by omega, by omega, rfl⟩) ?_ | refine dA rfl _ (⟨a, c, rfl, by omega, by omega, rfl⟩) ?_); simp (maxSteps := 2000000) only [go_sem]
  repeat' (first | refine wS fun K hK => ?_ | refine wB ?_ | ((first | refine wR hΓ ?_ | refine wD hΓ fun B hB => ?_); simp (maxSteps := 2000000) only [go_sem, hPgi, e5]) | ((repeat ((fail_if_success (refine hK _ ?_)); clear hK K)); refine hK _ ?_; clear hK K) | (refine w1 ?_; simp only [xs, xi, Nat.reduceEqDiff, reduceCtorEq]) | (refine wC (fun hb => ?_) fun hb => ?_ <;> (try simp only [xb, reduceCtorEq] at hb)) | (refine w2 (fun hc => ?_) (fun hc => ?_) <;> (try simp only [xc] at hc) <;> (try simp only [go_sem, hc, hPgi, e5]) <;> (try simp only [xb] at hc)) | refine wI ?_ | refine ex_idx (by omega) ?_ | fail)
  (first | refine wA rfl _ (⟨A, L[i], rfl, by omega, fun s hs => Nat.le_trans (hfa s hs).2 (by omega), by omega, rfl⟩) ?_ | refine dA rfl _ (⟨A, L[i], rfl, by omega, fun s hs => Nat.le_trans (hfa s hs).2 (by omega), by omega, rfl⟩) ?_); simp (maxSteps := 2000000) only [go_sem]
  simp only [hPgi, hidx, e5, Int.toNat_natCast]
  repeat' (first | exact hb.elim | refine wS fun K hK => ?_ | refine wB ?_ | refine uR hΓ ?_ | refine uD hΓ fun B hB => ?_ | ((repeat ((fail_if_success (refine hK _ ?_)); clear hK K)); refine hK _ ?_; clear hK K) | refine u1 ?_ | refine uC (fun hb => ?_) fun hb => ?_ | refine u2 (fun hc => ?_) fun hc => ?_ | refine wI ?_ | refine ex_idx (by omega) ?_ | exact True.intro | fail)
  refine ⟨i + 1, ?_, by omega, by omega⟩
  rw [hsti]
  simp only [LeL, envOf, upd_at, if_true, if_false, Nat.reduceEqDiff, true_or, and_true, true_and, and_self, Int.toNat_natCast, List.map_set]
  exact ⟨.inl (by simp [oints, List.map_set]), .inl (by simp)⟩

end Go.Proofs.YtehdfifncbokeaaGreat
