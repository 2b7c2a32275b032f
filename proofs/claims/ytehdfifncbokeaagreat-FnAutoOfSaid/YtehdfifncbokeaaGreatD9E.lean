/- All parts of an expression, in the program, each in memory of its own, walked by the engine. -/
import Derived.Test.YtehdfifncbokeaaGreatD9
import Derived.Test.YtehdfifncbokeaaGreatD1E
import Derived.Test.YtehdfifncbokeaaGreatGrpM
import Derived.Test.YtehdfifncbokeaaGreatEngMin
namespace Go.Proofs.YtehdfifncbokeaaGreat
set_option linter.unusedSimpArgs false
set_option linter.unusedVariables false
set_option maxRecDepth 8000
set_option maxHeartbeats 2000000
open Go Go.RowKit AV

def allOR (args : List AV) (r : AV) : Prop := ∃ x : Ex, args = [ints x.steps] ∧ x.wf ∧ x.steps.length ≤ 40 ∧ r = oorows (allL x.steps)
def restL (ps : LL) (j : Nat) : List AV := List.replicate j .junk ++ (ps.drop j).map oints
theorem restL_zero (ps : LL) : AV.own (restL ps 0) = oorows ps := by simp [restL, oorows]
theorem restL_len (ps : LL) {j : Nat} (h : j ≤ ps.length) : (restL ps j).length = ps.length := by simp [restL]; omega
theorem restL_get (ps : LL) {j : Nat} (h : j < ps.length) : (restL ps j)[j]? = some (own (List.map I ps[j])) := by
  rw [restL, List.getElem?_append_right (by simp)]
  simp [h, oints]
theorem restL_set (ps : LL) {j : Nat} (h : j < ps.length) : (restL ps j).set j .junk = restL ps (j + 1) := by
  rw [restL, List.set_append_right _ _ (by simp), List.drop_eq_getElem_cons h, List.map_cons, List.length_replicate, Nat.sub_self, List.set_cons_zero, restL, List.replicate_succ', List.append_assoc]
  rfl

theorem allPartsO_ctr : CtrOK Tryz.prog 18 (pureC allOR) := by
  refine ctr_pure' Tryz.func18 rfl rfl Tryz.ntmps18 ?_
  rintro _ _ ⟨x, rfl, hw, hl, rfl⟩
  refine ⟨by simp, fun κ hκ => ?_⟩
  have hbig := bigW_gt
  rw [argEnv_eq]
  simp only [envA]
  have hΓ := ctxOf_ok (P := Tryz.prog) (cx clone_ctr <| cx buildE_ctr <| cx tparts_ctr <| cx partAt_ctr <| cx0)
  repeat' (first | exact hb.elim | refine wS fun K hK => ?_ | refine wB ?_ | refine uR hΓ ?_ | refine uD hΓ fun B hB => ?_ | ((repeat ((fail_if_success (refine hK _ ?_)); clear hK K)); refine hK _ ?_; clear hK K) | refine u1 ?_ | refine uC (fun hb => ?_) fun hb => ?_ | refine u2 (fun hc => ?_) fun hc => ?_ | refine wI ?_ | refine ex_idx (by omega) ?_ | exact True.intro | fail)
  (first | refine wA rfl _ (⟨x.steps, rfl, steps_ne x, by omega, rfl⟩) ?_ | refine dA rfl _ (⟨x.steps, rfl, steps_ne x, by omega, rfl⟩) ?_); simp (maxSteps := 2000000) only [go_sem]
  repeat' (first | exact hb.elim | refine wS fun K hK => ?_ | refine wB ?_ | refine uR hΓ ?_ | refine uD hΓ fun B hB => ?_ | ((repeat ((fail_if_success (refine hK _ ?_)); clear hK K)); refine hK _ ?_; clear hK K) | refine u1 ?_ | refine uC (fun hb => ?_) fun hb => ?_ | refine u2 (fun hc => ?_) fun hc => ?_ | refine wI ?_ | refine ex_idx (by omega) ?_ | exact True.intro | fail)
  refine CW.loop (ι := Nat) (fun k => [(3, oorows (allTo x.steps k)), (4, I k)]) (fun k => k ≤ (allTo x.steps k).length) (fun k => 42 - k) 0 ?_ ?_
  · refine ⟨?_, by simp⟩
    (simp only [xe, xj, Nat.reduceEqDiff]; (try simp [view, viewL_map]); (try omega))
    simp [allTo]
  rintro k hk
  simp only [envOf]
  have hnd := allTo_nodup x.steps k
  have hin := allTo_left hw k
  have hln := allTo_len hw k
  have hac := actsX_len x
  generalize hout : allTo x.steps k = out at *
  have hob := midL_bd hw hl hnd hin (hin _ (List.getElem_mem (l := out) (n := 0) (by rw [← hout]; have := (allTo_pre x.steps 0 k).length_le; simp [allTo] at this ⊢; omega))) 0 0
  rw [midL_zero, roundL] at hob
  by_cases hkl : k < out.length
  case neg =>
    have hfin : allL x.steps = out := by rw [← hout]; exact allL_eq hw (by rw [hout]; omega) (by omega)
    rw [hfin]
    repeat' (first | exact hb.elim | refine wS fun K hK => ?_ | refine wB ?_ | refine uR hΓ ?_ | refine uD hΓ fun B hB => ?_ | ((repeat ((fail_if_success (refine hK _ ?_)); clear hK K)); refine hK _ ?_; clear hK K) | refine u1 ?_ | refine uC (fun hb => ?_) fun hb => ?_ | refine u2 (fun hc => ?_) fun hc => ?_ | refine wI ?_ | refine ex_idx (by omega) ?_ | exact True.intro | fail)
    · omega
    · simp [Tryz.results18, RetOK, RetP, backA, upd_at, plainB, getP, isOwn, anyOwn, isP]
      simp [view, viewL_map, view_ints]
      rw [hfin]
  have htl := hin _ (List.getElem_mem hkl)
  have hsucc : allTo x.steps (k + 1) = roundL out out[k] 12 := by rw [allTo_succ (by rw [hout]; exact hkl)]; simp only [hout]
  obtain ⟨p, hpw, hpt, _⟩ := id htl
  have hpl : p.steps.length ≤ 1601 := by
    have h3 := htl.len
    have h4 := Nat.mul_le_mul hl hl
    rw [hpt]; omega
  repeat' (first | exact hb.elim | refine wS fun K hK => ?_ | refine wB ?_ | refine uR hΓ ?_ | refine uD hΓ fun B hB => ?_ | ((repeat ((fail_if_success (refine hK _ ?_)); clear hK K)); refine hK _ ?_; clear hK K) | refine u1 ?_ | refine uC (fun hb => ?_) fun hb => ?_ | refine u2 (fun hc => ?_) fun hc => ?_ | refine wI ?_ | refine ex_idx (by omega) ?_ | exact True.intro | fail)
  rotate_left
  · omega
  (first | refine W_askE rfl _ _ (⟨p, by rw [hpt], hpw, by omega, (treeA_eq p).symm, rfl⟩) ?_ | refine D_askE rfl _ _ (⟨p, by rw [hpt], hpw, by omega, (treeA_eq p).symm, rfl⟩) ?_); simp (maxSteps := 2000000) only [go_sem]
  repeat' (first | refine wS fun K hK => ?_ | refine wB ?_ | ((first | refine wR hΓ ?_ | refine wD hΓ fun B hB => ?_); simp (maxSteps := 2000000) only [go_sem, treeA_eq]) | ((repeat ((fail_if_success (refine hK _ ?_)); clear hK K)); refine hK _ ?_; clear hK K) | (refine w1 ?_; simp only [xs, xi, Nat.reduceEqDiff, reduceCtorEq]) | (refine wC (fun hb => ?_) fun hb => ?_ <;> (try simp only [xb, reduceCtorEq] at hb)) | (refine w2 (fun hc => ?_) (fun hc => ?_) <;> (try simp only [xc] at hc) <;> (try simp only [go_sem, hc, treeA_eq]) <;> (try simp only [xb] at hc)) | refine wI ?_ | refine ex_idx (by omega) ?_ | fail)
  generalize ht : out[k] = t at *
  have hset : (out.map oints).set k (own (List.map I p.steps)) = out.map oints := by
    rw [show own (List.map I p.steps) = (out.map oints)[k]'(by simpa using hkl) by simp [oints, hpt, ht], List.set_getElem_self]
  refine CW.loop (ι := Nat) (fun a => [(3, oorows (midL out t (3 * a) 0)), (4, I k), (5, .pbox [I p.op, .sh (p.subs.map treeA)]), (24, I a)]) (fun a => a ≤ 4) (fun a => 4 - a) 0 ?_ ?_
  · refine ⟨?_, by omega⟩
    rw [midL_zero, roundL]
    (simp only [xe, xj, Nat.reduceEqDiff]; (try simp [view, viewL_map]); (try omega))
    exact hset.symm
  rintro a ha
  simp only [envOf]
  repeat' (first | exact hb.elim | refine wS fun K hK => ?_ | refine wB ?_ | refine uR hΓ ?_ | refine uD hΓ fun B hB => ?_ | ((repeat ((fail_if_success (refine hK _ ?_)); clear hK K)); refine hK _ ?_; clear hK K) | refine u1 ?_ | refine uC (fun hb => ?_) fun hb => ?_ | refine u2 (fun hc => ?_) fun hc => ?_ | refine wI ?_ | refine ex_idx (by omega) ?_ | exact True.intro | fail)
  rotate_left
  · have ha4 : a = 4 := by omega
    subst ha4
    have h12 : midL out t (3 * 4) 0 = allTo x.steps (k + 1) := by rw [midL_zero, hsucc]
    rw [h12]
    exact ⟨k + 1, by (simp only [xe, xj, Nat.reduceEqDiff]; (try simp [view, viewL_map]); (try omega)), by rw [hsucc]; have := (roundL_prefix out t 12).length_le; omega, by omega⟩
  have ha3 : a < 4 := by omega
  refine CW.loop (ι := Nat) (fun c => [(3, oorows (midL out t (3 * a + c) 0)), (4, I k), (5, .pbox [I p.op, .sh (p.subs.map treeA)]), (6, I a), (24, I a), (7, I ((16 + c : Nat) : Int))]) (fun c => c ≤ 3) (fun c => 3 - c) 0 ?_ ?_
  · exact ⟨by (simp only [xe, xj, Nat.reduceEqDiff]; (try simp [view, viewL_map]); (try omega)), by omega⟩
  rintro c hc
  simp only [envOf]
  repeat' (first | exact hb.elim | refine wS fun K hK => ?_ | refine wB ?_ | refine uR hΓ ?_ | refine uD hΓ fun B hB => ?_ | ((repeat ((fail_if_success (refine hK _ ?_)); clear hK K)); refine hK _ ?_; clear hK K) | refine u1 ?_ | refine uC (fun hb => ?_) fun hb => ?_ | refine u2 (fun hc => ?_) fun hc => ?_ | refine wI ?_ | refine ex_idx (by omega) ?_ | exact True.intro | fail)
  rotate_left
  · have hc3 : c = 3 := by omega
    subst hc3
    exact ⟨a + 1, by rw [show 3 * a + 3 = 3 * (a + 1) by omega]; (simp only [xe, xj, Nat.reduceEqDiff]; (try simp [view, viewL_map]); (try omega)), by omega, by omega⟩
  have hc2 : c < 3 := by omega
  have hm3 : (3 * a + c) / 3 = a := by omega
  have hmm : (3 * a + c) % 3 = c := by omega
  have hmid := fun j => midL_bd hw hl hnd hin htl (3 * a + c) j
  have hact : ((16 + c : Nat) : Int) = 16 + (c : Int) := by omega
  have hps0 : partsOfL ((3 * a + c) / 3) (16 + (((3 * a + c) % 3 : Nat) : Int)) t = partsL a ((16 + c : Nat) : Int) p := by rw [hm3, hmm, ← hpt, partsOfL_steps hpw, hact]
  have hpb : ∀ s ∈ partsL a ((16 + c : Nat) : Int) p, s.length ≤ 1601 := fun s hs => by
    have h3 := (htl.parts hw (atom := (3 * a + c) / 3) (act := 16 + (((3 * a + c) % 3 : Nat) : Int)) (by omega) (by rw [hps0]; exact hs)).len
    have h4 := Nat.mul_le_mul hl hl
    omega
  have hpc := partsL_count (atom := a) (act := ((16 + c : Nat) : Int)) (by omega) p
  have hpa := actsX_len p
  (first | refine wA rfl _ (⟨p, a, _, by rw [treeA_eq], hpw, by omega, ha3, by omega, by omega, rfl⟩) ?_ | refine dA rfl _ (⟨p, a, _, by rw [treeA_eq], hpw, by omega, ha3, by omega, by omega, rfl⟩) ?_); simp (maxSteps := 2000000) only [go_sem]
  generalize hps : partsL a ((16 + c : Nat) : Int) p = ps at *
  have hmj : ∀ j, midL out t (3 * a + c) j = addNew (roundL out t (3 * a + c)) (ps.take j) := fun j => by rw [midL, hps0]
  have hend : midL out t (3 * a + c) ps.length = midL out t (3 * a + (c + 1)) 0 := by rw [hmj, List.take_length, midL_zero, ← Nat.add_assoc, roundL, hps0]
  repeat' (first | exact hb.elim | refine wS fun K hK => ?_ | refine wB ?_ | refine uR hΓ ?_ | refine uD hΓ fun B hB => ?_ | ((repeat ((fail_if_success (refine hK _ ?_)); clear hK K)); refine hK _ ?_; clear hK K) | refine u1 ?_ | refine uC (fun hb => ?_) fun hb => ?_ | refine u2 (fun hc => ?_) fun hc => ?_ | refine wI ?_ | refine ex_idx (by omega) ?_ | exact True.intro | fail)
  refine CW.loop (ι := Nat) (fun j => [(3, oorows (midL out t (3 * a + c) j)), (4, I k), (5, .pbox [I p.op, .sh (p.subs.map treeA)]), (6, I a), (24, I a), (7, I ((16 + c : Nat) : Int)), (34, .own (restL ps j)), (35, I ps.length), (36, I j)]) (fun j => j ≤ ps.length) (fun j => ps.length - j) 0 ?_ ?_
  · refine ⟨?_, by omega⟩
    rw [restL_zero]
    (simp only [xe, xj, Nat.reduceEqDiff]; (try simp [view, viewL_map]); (try omega))
  rintro j hj
  simp only [envOf]
  by_cases hjl : j < ps.length
  case neg =>
    have hje : j = ps.length := by omega
    subst hje
    repeat' (first | exact hb.elim | refine wS fun K hK => ?_ | refine wB ?_ | refine uR hΓ ?_ | refine uD hΓ fun B hB => ?_ | ((repeat ((fail_if_success (refine hK _ ?_)); clear hK K)); refine hK _ ?_; clear hK K) | refine u1 ?_ | refine uC (fun hb => ?_) fun hb => ?_ | refine u2 (fun hc => ?_) fun hc => ?_ | refine wI ?_ | refine ex_idx (by omega) ?_ | exact True.intro | fail)
    · omega
    · refine ⟨c + 1, ?_, by omega, by omega⟩
      rw [hend]
      (simp only [xe, xj, Nat.reduceEqDiff]; (try simp [view, viewL_map]); (try omega))
  have hstep : midL out t (3 * a + c) (j + 1) = add1 (midL out t (3 * a + c) j) ps[j] := by rw [hmj, hmj, addNew_take _ _ hjl]
  obtain ⟨hb1, hb2⟩ := hmid j
  have hb3 := hpb _ (List.getElem_mem hjl)
  have hrl := restL_len ps hj
  have hrg : ∀ h : j < (restL ps j).length, (restL ps j)[j] = own (List.map I ps[j]) := fun h => by have := restL_get ps hjl; rw [List.getElem?_eq_getElem h] at this; injection this
  have hrs := restL_set ps hjl
  repeat' (first | exact hb.elim | refine wS fun K hK => ?_ | refine wB ?_ | refine uR hΓ ?_ | refine uD hΓ fun B hB => ?_ | ((repeat ((fail_if_success (refine hK _ ?_)); clear hK K)); refine hK _ ?_; clear hK K) | refine u1 ?_ | refine uC (fun hb => ?_) fun hb => ?_ | refine u2 (fun hc => ?_) fun hc => ?_ | refine wI ?_ | refine ex_idx (by omega) ?_ | exact True.intro | fail)
  rotate_left
  · omega
  simp (maxSteps := 2000000) only [go_sem, hrg]
  repeat' (first | exact hb.elim | refine wS fun K hK => ?_ | refine wB ?_ | refine uR hΓ ?_ | refine uD hΓ fun B hB => ?_ | ((repeat ((fail_if_success (refine hK _ ?_)); clear hK K)); refine hK _ ?_; clear hK K) | refine u1 ?_ | refine uC (fun hb => ?_) fun hb => ?_ | refine u2 (fun hc => ?_) fun hc => ?_ | refine wI ?_ | refine ex_idx (by omega) ?_ | exact True.intro | fail)
  (first | refine wA rfl _ (⟨midL out t (3 * a + c) j, ps[j], rfl, by omega, fun s hs => Nat.le_trans (hb2 s hs) (by omega), by omega, rfl⟩) ?_ | refine dA rfl _ (⟨midL out t (3 * a + c) j, ps[j], rfl, by omega, fun s hs => Nat.le_trans (hb2 s hs) (by omega), by omega, rfl⟩) ?_); simp (maxSteps := 2000000) only [go_sem]
  repeat' (first | exact hb.elim | refine wS fun K hK => ?_ | refine wB ?_ | refine uR hΓ ?_ | refine uD hΓ fun B hB => ?_ | ((repeat ((fail_if_success (refine hK _ ?_)); clear hK K)); refine hK _ ?_; clear hK K) | refine u1 ?_ | refine uC (fun hb => ?_) fun hb => ?_ | refine u2 (fun hc => ?_) fun hc => ?_ | refine wI ?_ | refine ex_idx (by omega) ?_ | exact True.intro | fail)
  · have hni : ¬ ps[j] ∈ midL out t (3 * a + c) j := idx_has.1 (by assumption)
    refine ⟨j + 1, ?_, by omega, by omega⟩
    rw [hstep, add1, if_neg hni]
    (simp only [xe, xj, Nat.reduceEqDiff]; (try simp [view, viewL_map]); (try omega))
    exact hrs.symm
  · have hin2 : ps[j] ∈ midL out t (3 * a + c) j := by
      have hn : ¬ idxF (fun a => decide (ps[j] = a)) 0 (midL out t (3 * a + c) j) < 0 := by assumption
      rw [idx_has] at hn
      simpa using hn
    refine ⟨j + 1, ?_, by omega, by omega⟩
    rw [hstep, add1, if_pos hin2]
    (simp only [xe, xj, Nat.reduceEqDiff]; (try simp [view, viewL_map]); (try omega))
    exact hrs.symm

def allPartsIR (args : List AV) (r : AV) : Prop := ∃ e : List Int, args = [ints e] ∧ e.length ≤ 1048576 ∧ r = oorows (allD e)
theorem implAllParts_ctr : CtrOK Tryz.prog 8 (pureC allPartsIR) := by
  refine ctr_pure' Tryz.func8 rfl rfl Tryz.ntmps8 ?_
  rintro _ _ ⟨e, rfl, hl, rfl⟩
  refine ⟨by simp, fun κ hκ => ?_⟩
  have hbig := bigW_gt
  rw [argEnv_eq]
  simp only [envA]
  have hΓ := ctxOf_ok (P := Tryz.prog) (cx implKatValid_ctr <| cx allPartsO_ctr <| cx0)
  repeat' (first | exact hb.elim | refine wS fun K hK => ?_ | refine wB ?_ | refine uR hΓ ?_ | refine uD hΓ fun B hB => ?_ | ((repeat ((fail_if_success (refine hK _ ?_)); clear hK K)); refine hK _ ?_; clear hK K) | refine u1 ?_ | refine uC (fun hb => ?_) fun hb => ?_ | refine u2 (fun hc => ?_) fun hc => ?_ | refine wI ?_ | refine ex_idx (by omega) ?_ | exact True.intro | fail)
  (first | refine wA rfl _ (⟨e, rfl, by omega, rfl⟩) ?_ | refine dA rfl _ (⟨e, rfl, by omega, rfl⟩) ?_); simp (maxSteps := 2000000) only [go_sem]
  repeat' (first | exact hb.elim | refine wS fun K hK => ?_ | refine wB ?_ | refine uR hΓ ?_ | refine uD hΓ fun B hB => ?_ | ((repeat ((fail_if_success (refine hK _ ?_)); clear hK K)); refine hK _ ?_; clear hK K) | refine u1 ?_ | refine uC (fun hb => ?_) fun hb => ?_ | refine u2 (fun hc => ?_) fun hc => ?_ | refine wI ?_ | refine ex_idx (by omega) ?_ | exact True.intro | fail)
  · have hk := ‹katB e = false›
    rw [allD_no hk]
    simp [Tryz.results8, RetOK, RetP, backA, upd_at, plainB, getP, isOwn, anyOwn, isP]
  · have hk := ‹katB e = true›
    obtain ⟨x, hw, rfl, h40⟩ := katB_tree hk
    (first | refine wA rfl _ (⟨x, rfl, hw, h40, rfl⟩) ?_ | refine dA rfl _ (⟨x, rfl, hw, h40, rfl⟩) ?_); simp (maxSteps := 2000000) only [go_sem]
    repeat' (first | exact hb.elim | refine wS fun K hK => ?_ | refine wB ?_ | refine uR hΓ ?_ | refine uD hΓ fun B hB => ?_ | ((repeat ((fail_if_success (refine hK _ ?_)); clear hK K)); refine hK _ ?_; clear hK K) | refine u1 ?_ | refine uC (fun hb => ?_) fun hb => ?_ | refine u2 (fun hc => ?_) fun hc => ?_ | refine wI ?_ | refine ex_idx (by omega) ?_ | exact True.intro | fail)
    rw [allD_yes hk]
    simp [Tryz.results8, RetOK, RetP, backA, upd_at, plainB, getP, isOwn, anyOwn, isP]

end Go.Proofs.YtehdfifncbokeaaGreat
