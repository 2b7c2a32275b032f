/- All parts of an expression, in the program, walked by the engine. -/
import Derived.Test.YtehdfifncbokeaaGreatGrpE
import Derived.Test.YtehdfifncbokeaaGreatD7
import Derived.Test.YtehdfifncbokeaaGreatGrpH
import Derived.Test.YtehdfifncbokeaaGreatEngMin
namespace Go.Proofs.YtehdfifncbokeaaGreat
set_option linter.unusedSimpArgs false
set_option linter.unusedVariables false
set_option maxRecDepth 8000
set_option maxHeartbeats 2000000
open Go Go.RowKit AV

theorem idx_has {t : List Int} {l : LL} : idxF (fun a => decide (t = a)) 0 l < 0 ↔ ¬ t ∈ l := by
  rw [idxF_neg]
  constructor
  · intro h hm
    have := h t hm
    simp at this
  · intro h x hx
    simp only [decide_eq_false_iff_not]
    rintro rfl
    exact h hx

theorem allParts_ctr : CtrOK Tryz.prog 18 (pureC allR) := by
  refine ctr_pure' Tryz.func18 rfl rfl Tryz.ntmps18 ?_
  rintro _ _ ⟨x, rfl, hw, hl, rfl⟩
  refine ⟨by simp, fun κ hκ => ?_⟩
  have hbig := bigW_gt
  rw [argEnv_eq]
  simp only [envA]
  have hΓ := ctxOf_ok (P := Tryz.prog) (cx clone_ctr <| cx build_ctr <| cx tparts_ctr <| cx partAt_ctr <| cx0)
  repeat' (first | exact hb.elim | refine wS fun K hK => ?_ | refine wB ?_ | refine uR hΓ ?_ | refine uD hΓ fun B hB => ?_ | ((repeat ((fail_if_success (refine hK _ ?_)); clear hK K)); refine hK _ ?_; clear hK K) | refine u1 ?_ | refine uC (fun hb => ?_) fun hb => ?_ | refine u2 (fun hc => ?_) fun hc => ?_ | refine wI ?_ | refine ex_idx (by omega) ?_ | exact True.intro | fail)
  (first | refine wA rfl _ (⟨x.steps, rfl, steps_ne x, by omega, rfl⟩) ?_ | refine dA rfl _ (⟨x.steps, rfl, steps_ne x, by omega, rfl⟩) ?_); simp (maxSteps := 2000000) only [go_sem]
  repeat' (first | exact hb.elim | refine wS fun K hK => ?_ | refine wB ?_ | refine uR hΓ ?_ | refine uD hΓ fun B hB => ?_ | ((repeat ((fail_if_success (refine hK _ ?_)); clear hK K)); refine hK _ ?_; clear hK K) | refine u1 ?_ | refine uC (fun hb => ?_) fun hb => ?_ | refine u2 (fun hc => ?_) fun hc => ?_ | refine wI ?_ | refine ex_idx (by omega) ?_ | exact True.intro | fail)
  refine CW.frz 3 [0] (oints x.steps) (by simp [upd_at, getP, kids]) rfl ?_
  refine CW.loop (ι := Nat) (fun k => [(3, orows (allTo x.steps k)), (4, I k)]) (fun k => k ≤ (allTo x.steps k).length) (fun k => 42 - k) 0 ?_ ?_
  · refine ⟨?_, by simp⟩
    simp [LeL, Wr.app, upd_at, isOwn, view, viewL_map, setP, kids, withKids, allTo]
  rintro k hk
  simp only [envOf]
  have hnd := allTo_nodup x.steps k
  have hin := allTo_left hw k
  have hln := allTo_len hw k
  have hac := actsX_len x
  generalize hout : allTo x.steps k = out at *
  have hob := midL_bd hw hl hnd hin (hin _ (List.getElem_mem (l := out) (n := 0) (by rw [← hout]; have := (allTo_pre x.steps 0 k).length_le; simp [allTo] at this ⊢; omega))) 0 0
  rw [midL_zero, roundL] at hob
  by_cases hkl : k < out.length
  case neg =>
    have hfin : allL x.steps = out := by rw [← hout]; exact allL_eq hw (by rw [hout]; omega) (by omega)
    rw [hfin]
    repeat' (first | exact hb.elim | refine wS fun K hK => ?_ | refine wB ?_ | refine uR hΓ ?_ | refine uD hΓ fun B hB => ?_ | ((repeat ((fail_if_success (refine hK _ ?_)); clear hK K)); refine hK _ ?_; clear hK K) | refine u1 ?_ | refine uC (fun hb => ?_) fun hb => ?_ | refine u2 (fun hc => ?_) fun hc => ?_ | refine wI ?_ | refine ex_idx (by omega) ?_ | exact True.intro | fail)
    · omega
    · simp [Tryz.results18, RetOK, RetP, backA, upd_at, plainB, getP, isOwn, anyOwn, isP]
      simp [view, viewL_map, view_ints]
      rw [hfin]
  have htl := hin _ (List.getElem_mem hkl)
  have hsucc : allTo x.steps (k + 1) = roundL out out[k] 12 := by rw [allTo_succ (by rw [hout]; exact hkl)]; simp only [hout]
  obtain ⟨p, hpw, hpt, _⟩ := id htl
  have hpl : p.steps.length ≤ 1601 := by
    have h3 := htl.len
    have h4 := Nat.mul_le_mul hl hl
    rw [hpt]; omega
  repeat' (first | exact hb.elim | refine wS fun K hK => ?_ | refine wB ?_ | refine uR hΓ ?_ | refine uD hΓ fun B hB => ?_ | ((repeat ((fail_if_success (refine hK _ ?_)); clear hK K)); refine hK _ ?_; clear hK K) | refine u1 ?_ | refine uC (fun hb => ?_) fun hb => ?_ | refine u2 (fun hc => ?_) fun hc => ?_ | refine wI ?_ | refine ex_idx (by omega) ?_ | exact True.intro | fail)
  rotate_left
  · omega
  (first | refine wA rfl _ (⟨p, by rw [hpt], hpw, by omega, (treeA_eq p).symm⟩) ?_ | refine dA rfl _ (⟨p, by rw [hpt], hpw, by omega, (treeA_eq p).symm⟩) ?_); simp (maxSteps := 2000000) only [go_sem]
  repeat' (first | refine wS fun K hK => ?_ | refine wB ?_ | ((first | refine wR hΓ ?_ | refine wD hΓ fun B hB => ?_); simp (maxSteps := 2000000) only [go_sem, treeA_eq]) | ((repeat ((fail_if_success (refine hK _ ?_)); clear hK K)); refine hK _ ?_; clear hK K) | (refine w1 ?_; simp only [xs, xi, Nat.reduceEqDiff, reduceCtorEq]) | (refine wC (fun hb => ?_) fun hb => ?_ <;> (try simp only [xb, reduceCtorEq] at hb)) | (refine w2 (fun hc => ?_) (fun hc => ?_) <;> (try simp only [xc] at hc) <;> (try simp only [go_sem, hc, treeA_eq]) <;> (try simp only [xb] at hc)) | refine wI ?_ | refine ex_idx (by omega) ?_ | fail)
  generalize ht : out[k] = t at *
  refine CW.loop (ι := Nat) (fun a => [(3, orows (midL out t (3 * a) 0)), (4, I k), (5, .pbox [I p.op, .sh (p.subs.map treeA)]), (24, I a)]) (fun a => a ≤ 4) (fun a => 4 - a) 0 ?_ ?_
  · exact ⟨by (simp only [xe, xj, Nat.reduceEqDiff]; (try simp [view, viewL_map]); (try omega)); simp [midL_zero, roundL], by omega⟩
  rintro a ha
  simp only [envOf]
  repeat' (first | exact hb.elim | refine wS fun K hK => ?_ | refine wB ?_ | refine uR hΓ ?_ | refine uD hΓ fun B hB => ?_ | ((repeat ((fail_if_success (refine hK _ ?_)); clear hK K)); refine hK _ ?_; clear hK K) | refine u1 ?_ | refine uC (fun hb => ?_) fun hb => ?_ | refine u2 (fun hc => ?_) fun hc => ?_ | refine wI ?_ | refine ex_idx (by omega) ?_ | exact True.intro | fail)
  rotate_left
  · have ha4 : a = 4 := by omega
    subst ha4
    have h12 : midL out t (3 * 4) 0 = allTo x.steps (k + 1) := by rw [midL_zero, hsucc]
    rw [h12]
    exact ⟨k + 1, by (simp only [xe, xj, Nat.reduceEqDiff]; (try simp [view, viewL_map]); (try omega)), by rw [hsucc]; have := (roundL_prefix out t 12).length_le; omega, by omega⟩
  have ha3 : a < 4 := by omega
  refine CW.loop (ι := Nat) (fun c => [(3, orows (midL out t (3 * a + c) 0)), (4, I k), (5, .pbox [I p.op, .sh (p.subs.map treeA)]), (6, I a), (24, I a), (7, I ((16 + c : Nat) : Int))]) (fun c => c ≤ 3) (fun c => 3 - c) 0 ?_ ?_
  · exact ⟨by (simp only [xe, xj, Nat.reduceEqDiff]; (try simp [view, viewL_map]); (try omega)), by omega⟩
  rintro c hc
  simp only [envOf]
  repeat' (first | exact hb.elim | refine wS fun K hK => ?_ | refine wB ?_ | refine uR hΓ ?_ | refine uD hΓ fun B hB => ?_ | ((repeat ((fail_if_success (refine hK _ ?_)); clear hK K)); refine hK _ ?_; clear hK K) | refine u1 ?_ | refine uC (fun hb => ?_) fun hb => ?_ | refine u2 (fun hc => ?_) fun hc => ?_ | refine wI ?_ | refine ex_idx (by omega) ?_ | exact True.intro | fail)
  rotate_left
  · have hc3 : c = 3 := by omega
    subst hc3
    exact ⟨a + 1, by rw [show 3 * a + 3 = 3 * (a + 1) by omega]; (simp only [xe, xj, Nat.reduceEqDiff]; (try simp [view, viewL_map]); (try omega)), by omega, by omega⟩
  have hc2 : c < 3 := by omega
  have hm3 : (3 * a + c) / 3 = a := by omega
  have hmm : (3 * a + c) % 3 = c := by omega
  have hmid := fun j => midL_bd hw hl hnd hin htl (3 * a + c) j
  have hact : ((16 + c : Nat) : Int) = 16 + (c : Int) := by omega
  have hps0 : partsOfL ((3 * a + c) / 3) (16 + (((3 * a + c) % 3 : Nat) : Int)) t = partsL a ((16 + c : Nat) : Int) p := by rw [hm3, hmm, ← hpt, partsOfL_steps hpw, hact]
  have hpb : ∀ s ∈ partsL a ((16 + c : Nat) : Int) p, s.length ≤ 1601 := fun s hs => by
    have h3 := (htl.parts hw (atom := (3 * a + c) / 3) (act := 16 + (((3 * a + c) % 3 : Nat) : Int)) (by omega) (by rw [hps0]; exact hs)).len
    have h4 := Nat.mul_le_mul hl hl
    omega
  have hpc := partsL_count (atom := a) (act := ((16 + c : Nat) : Int)) (by omega) p
  have hpa := actsX_len p
  (first | refine wA rfl _ (⟨p, a, _, by rw [treeA_eq], hpw, by omega, ha3, by omega, by omega, rfl⟩) ?_ | refine dA rfl _ (⟨p, a, _, by rw [treeA_eq], hpw, by omega, ha3, by omega, by omega, rfl⟩) ?_); simp (maxSteps := 2000000) only [go_sem]
  generalize hps : partsL a ((16 + c : Nat) : Int) p = ps at *
  have hmj : ∀ j, midL out t (3 * a + c) j = addNew (roundL out t (3 * a + c)) (ps.take j) := fun j => by rw [midL, hps0]
  have hend : midL out t (3 * a + c) ps.length = midL out t (3 * a + (c + 1)) 0 := by rw [hmj, List.take_length, midL_zero, ← Nat.add_assoc, roundL, hps0]
  repeat' (first | exact hb.elim | refine wS fun K hK => ?_ | refine wB ?_ | refine uR hΓ ?_ | refine uD hΓ fun B hB => ?_ | ((repeat ((fail_if_success (refine hK _ ?_)); clear hK K)); refine hK _ ?_; clear hK K) | refine u1 ?_ | refine uC (fun hb => ?_) fun hb => ?_ | refine u2 (fun hc => ?_) fun hc => ?_ | refine wI ?_ | refine ex_idx (by omega) ?_ | exact True.intro | fail)
  refine CW.frz 34 [] (oorows ps) (by simp [upd_at, getP]) rfl ?_
  refine CW.loop (ι := Nat) (fun j => [(3, orows (midL out t (3 * a + c) j)), (4, I k), (5, .pbox [I p.op, .sh (p.subs.map treeA)]), (6, I a), (24, I a), (7, I ((16 + c : Nat) : Int)), (34, rows ps), (35, I ps.length), (36, I j)]) (fun j => j ≤ ps.length) (fun j => ps.length - j) 0 ?_ ?_
  · refine ⟨?_, by omega⟩
    simp [LeL, Wr.app, upd_at, isOwn, view, viewL_map, setP, kids, withKids]
  rintro j hj
  simp only [envOf]
  by_cases hjl : j < ps.length
  case neg =>
    have hje : j = ps.length := by omega
    subst hje
    repeat' (first | exact hb.elim | refine wS fun K hK => ?_ | refine wB ?_ | refine uR hΓ ?_ | refine uD hΓ fun B hB => ?_ | ((repeat ((fail_if_success (refine hK _ ?_)); clear hK K)); refine hK _ ?_; clear hK K) | refine u1 ?_ | refine uC (fun hb => ?_) fun hb => ?_ | refine u2 (fun hc => ?_) fun hc => ?_ | refine wI ?_ | refine ex_idx (by omega) ?_ | exact True.intro | fail)
    · omega
    · refine ⟨c + 1, ?_, by omega, by omega⟩
      rw [hend]
      (simp only [xe, xj, Nat.reduceEqDiff]; (try simp [view, viewL_map]); (try omega))
  have hstep : midL out t (3 * a + c) (j + 1) = add1 (midL out t (3 * a + c) j) ps[j] := by rw [hmj, hmj, addNew_take _ _ hjl]
  obtain ⟨hb1, hb2⟩ := hmid j
  have hb3 := hpb _ (List.getElem_mem hjl)
  repeat' (first | exact hb.elim | refine wS fun K hK => ?_ | refine wB ?_ | refine uR hΓ ?_ | refine uD hΓ fun B hB => ?_ | ((repeat ((fail_if_success (refine hK _ ?_)); clear hK K)); refine hK _ ?_; clear hK K) | refine u1 ?_ | refine uC (fun hb => ?_) fun hb => ?_ | refine u2 (fun hc => ?_) fun hc => ?_ | refine wI ?_ | refine ex_idx (by omega) ?_ | exact True.intro | fail)
  rotate_left
  · omega
  (first | refine wA rfl _ (⟨midL out t (3 * a + c) j, ps[j], rfl, by omega, fun s hs => Nat.le_trans (hb2 s hs) (by omega), by omega, rfl⟩) ?_ | refine dA rfl _ (⟨midL out t (3 * a + c) j, ps[j], rfl, by omega, fun s hs => Nat.le_trans (hb2 s hs) (by omega), by omega, rfl⟩) ?_); simp (maxSteps := 2000000) only [go_sem]
  repeat' (first | exact hb.elim | refine wS fun K hK => ?_ | refine wB ?_ | refine uR hΓ ?_ | refine uD hΓ fun B hB => ?_ | ((repeat ((fail_if_success (refine hK _ ?_)); clear hK K)); refine hK _ ?_; clear hK K) | refine u1 ?_ | refine uC (fun hb => ?_) fun hb => ?_ | refine u2 (fun hc => ?_) fun hc => ?_ | refine wI ?_ | refine ex_idx (by omega) ?_ | exact True.intro | fail)
  · have hni : ¬ ps[j] ∈ midL out t (3 * a + c) j := idx_has.1 (by assumption)
    refine ⟨j + 1, ?_, by omega, by omega⟩
    rw [hstep, add1, if_neg hni]
    (simp only [xe, xj, Nat.reduceEqDiff]; (try simp [view, viewL_map]); (try omega))
  · have hin2 : ps[j] ∈ midL out t (3 * a + c) j := by
      have hn : ¬ idxF (fun a => decide (ps[j] = a)) 0 (midL out t (3 * a + c) j) < 0 := by assumption
      rw [idx_has] at hn
      simpa using hn
    refine ⟨j + 1, ?_, by omega, by omega⟩
    rw [hstep, add1, if_pos hin2]
    (simp only [xe, xj, Nat.reduceEqDiff]; (try simp [view, viewL_map]); (try omega))

end Go.Proofs.YtehdfifncbokeaaGreat
