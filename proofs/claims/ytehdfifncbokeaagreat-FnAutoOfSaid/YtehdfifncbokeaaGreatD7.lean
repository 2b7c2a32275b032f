/- What is left of a tree behind an atom and an action, in the program, walked by the engine. -/
import Derived.Test.YtehdfifncbokeaaGreatGrpE
import Derived.Test.YtehdfifncbokeaaGreatGrpH
import Derived.Test.YtehdfifncbokeaaGreatD6
import Derived.Test.YtehdfifncbokeaaGreatGrpJ
import Derived.Test.YtehdfifncbokeaaGreatEngMin
namespace Go.Proofs.YtehdfifncbokeaaGreat
set_option linter.unusedSimpArgs false
set_option linter.unusedVariables false
set_option maxRecDepth 8000
set_option maxHeartbeats 2000000
open Go Go.RowKit AV

theorem partsL_ne {x : Ex} {atom : Nat} {act : Int} {t : List Int} (h : t ∈ partsL atom act x) : t ≠ [] := by
  obtain ⟨p, _, rfl⟩ := mem_partsL.1 h
  intro e
  have := p.steps_pos
  rw [e] at this
  simp at this
theorem steps_ne (x : Ex) : x.steps ≠ [] := fun e => by
  have := x.steps_pos
  rw [e] at this
  simp at this

theorem app_bd {l m : LL} {C : Nat} (hC : C ≤ 1099511627776) (h1 : ∀ t ∈ l, t.length ≤ C) (h2 : ∀ t ∈ m, t.length ≤ C) : ∀ t ∈ l ++ m, t.length ≤ 1099511627776 := fun t ht => by
  rcases List.mem_append.1 ht with h | h
  · exact Nat.le_trans (h1 t h) hC
  · exact Nat.le_trans (h2 t h) hC

def tpartsR (N : Nat) (args : List AV) (r : AV) : Prop := ∃ (x : Ex) (atom : Nat) (act : Int), args = [treeA x, I atom, I act] ∧ x.wf ∧ x.steps.length ≤ N ∧ atom < 4 ∧ 16 ≤ act ∧ act ≤ 18 ∧ r = oorows (partsL atom act x)

theorem tparts_step (N : Nat) (hN : N ≤ 4096) (ih : CtrOK Tryz.prog 20 (pureC (tpartsR (N - 1)))) : CtrOK Tryz.prog 20 (pureC (tpartsR N)) := by
  have tparts_ctr := ih
  refine ctr_pure' Tryz.func20 rfl rfl Tryz.ntmps20 ?_
  rintro _ _ ⟨x, atom, act, rfl, hw, hl, hat, h16, h18, rfl⟩
  refine ⟨by simp, fun κ hκ => ?_⟩
  have hbig := bigW_gt
  rw [argEnv_eq]
  simp only [envA]
  have hΓ := ctxOf_ok (P := Tryz.prog) (cx isAct_ctr <| cx tparts_ctr <| cx tsteps_ctr <| cx behind2_ctr <| cx ends_ctr <| cx holds_ctr <| cx ordered_ctr <| cx0)
  cases x with
  | leaf n =>
    have h0 := hw.1
    have h1 := hw.2
    have h19 : decide (n = 19) = false := by simp; omega
    have h20 : decide (n = 20) = false := by simp; omega
    have h21 : decide (n = 21) = false := by simp; omega
    have hord : ordL (partsL atom act (.leaf n)) = partsL atom act (.leaf n) := ordL_srt (srt_partsL _ _ _)
    repeat' (first | refine wS fun K hK => ?_ | refine wB ?_ | ((first | refine wR hΓ ?_ | refine wD hΓ fun B hB => ?_); simp (maxSteps := 2000000) only [go_sem, treeA_eq, Ex.op, Ex.subs]) | ((repeat ((fail_if_success (refine hK _ ?_)); clear hK K)); refine hK _ ?_; clear hK K) | (refine w1 ?_; simp only [xs, xi, Nat.reduceEqDiff, reduceCtorEq]) | (refine wC (fun hb => ?_) fun hb => ?_ <;> (try simp only [xb, reduceCtorEq] at hb)) | (refine w2 (fun hc => ?_) (fun hc => ?_) <;> (try simp only [xc] at hc) <;> (try simp only [go_sem, hc, treeA_eq, Ex.op, Ex.subs]) <;> (try simp only [xb] at hc)) | refine wI ?_ | refine ex_idx (by omega) ?_ | fail)
    (first | refine wA rfl _ (⟨n, rfl, rfl⟩) ?_ | refine dA rfl _ (⟨n, rfl, rfl⟩) ?_); simp (maxSteps := 2000000) only [go_sem]
    repeat' (first | refine wS fun K hK => ?_ | refine wB ?_ | ((first | refine wR hΓ ?_ | refine wD hΓ fun B hB => ?_); simp (maxSteps := 2000000) only [go_sem, treeA_eq, Ex.op, Ex.subs, h19, h20, h21]) | ((repeat ((fail_if_success (refine hK _ ?_)); clear hK K)); refine hK _ ?_; clear hK K) | (refine w1 ?_; simp only [xs, xi, Nat.reduceEqDiff, reduceCtorEq]) | (refine wC (fun hb => ?_) fun hb => ?_ <;> (try simp only [xb, reduceCtorEq] at hb)) | (refine w2 (fun hc => ?_) (fun hc => ?_) <;> (try simp only [xc] at hc) <;> (try simp only [go_sem, hc, treeA_eq, Ex.op, Ex.subs, h19, h20, h21]) <;> (try simp only [xb] at hc)) | refine wI ?_ | refine ex_idx (by omega) ?_ | fail)
    · have hp : partsL atom act (.leaf n) = [[15]] := by rw [partsL_leaf]; exact if_pos (by assumption)
      (first | refine W_askT rfl _ (⟨partsL atom act (.leaf n), by rw [hp]; rfl, by rw [hp]; simp, by rw [hp]; simp, rfl⟩) ?_ | refine D_askT rfl _ (⟨partsL atom act (.leaf n), by rw [hp]; rfl, by rw [hp]; simp, by rw [hp]; simp, rfl⟩) ?_); simp (maxSteps := 2000000) only [go_sem]
      repeat' (first | exact hb.elim | refine wS fun K hK => ?_ | refine wB ?_ | refine uR hΓ ?_ | refine uD hΓ fun B hB => ?_ | ((repeat ((fail_if_success (refine hK _ ?_)); clear hK K)); refine hK _ ?_; clear hK K) | refine u1 ?_ | refine uC (fun hb => ?_) fun hb => ?_ | refine u2 (fun hc => ?_) fun hc => ?_ | refine wI ?_ | refine ex_idx (by omega) ?_ | exact True.intro | fail)
      rw [hord]
      simp [Tryz.results20, RetOK, RetP, backA, upd_at, plainB, getP, isOwn, anyOwn, isP, *]
    · have hp : partsL atom act (.leaf n) = [] := by rw [partsL_leaf]; exact if_neg (by assumption)
      (first | refine W_askT rfl _ (⟨partsL atom act (.leaf n), by rw [hp]; rfl, by rw [hp]; simp, by rw [hp]; simp, rfl⟩) ?_ | refine D_askT rfl _ (⟨partsL atom act (.leaf n), by rw [hp]; rfl, by rw [hp]; simp, by rw [hp]; simp, rfl⟩) ?_); simp (maxSteps := 2000000) only [go_sem]
      repeat' (first | exact hb.elim | refine wS fun K hK => ?_ | refine wB ?_ | refine uR hΓ ?_ | refine uD hΓ fun B hB => ?_ | ((repeat ((fail_if_success (refine hK _ ?_)); clear hK K)); refine hK _ ?_; clear hK K) | refine u1 ?_ | refine uC (fun hb => ?_) fun hb => ?_ | refine u2 (fun hc => ?_) fun hc => ?_ | refine wI ?_ | refine ex_idx (by omega) ?_ | exact True.intro | fail)
      rw [hord]
      simp [Tryz.results20, RetOK, RetP, backA, upd_at, plainB, getP, isOwn, anyOwn, isP, *]
    · have hp : partsL atom act (.leaf n) = [] := by rw [partsL_leaf]; exact if_neg (by omega)
      (first | refine W_askT rfl _ (⟨partsL atom act (.leaf n), by rw [hp]; rfl, by rw [hp]; simp, by rw [hp]; simp, rfl⟩) ?_ | refine D_askT rfl _ (⟨partsL atom act (.leaf n), by rw [hp]; rfl, by rw [hp]; simp, by rw [hp]; simp, rfl⟩) ?_); simp (maxSteps := 2000000) only [go_sem]
      repeat' (first | exact hb.elim | refine wS fun K hK => ?_ | refine wB ?_ | refine uR hΓ ?_ | refine uD hΓ fun B hB => ?_ | ((repeat ((fail_if_success (refine hK _ ?_)); clear hK K)); refine hK _ ?_; clear hK K) | refine u1 ?_ | refine uC (fun hb => ?_) fun hb => ?_ | refine u2 (fun hc => ?_) fun hc => ?_ | refine wI ?_ | refine ex_idx (by omega) ?_ | exact True.intro | fail)
      rw [hord]
      simp [Tryz.results20, RetOK, RetP, backA, upd_at, plainB, getP, isOwn, anyOwn, isP, *]
  | pls a b =>
    have o1 : (Ex.pls a b).op = 20 := rfl
    have o2 : (Ex.pls a b).subs = [a, b] := rfl
    have hact : AV.bool false = AV.bool (decide ((16 : Int) ≤ 20 ∧ (20 : Int) ≤ 18)) := by simp
    have hsl : (Ex.pls a b).steps.length = a.steps.length + b.steps.length + 1 := by simp [Ex.steps]; omega
    have hba := partsL_bd (x := a) (by omega) hw.1 (atom := atom) h16
    have hbb := partsL_bd (x := b) (by omega) hw.2 (atom := atom) h16
    have ha : decide ((16 : Int) ≤ 20 ∧ (20 : Int) ≤ 18) = false := by decide
    have h20 : decide ((20 : Int) = 20) = true := by decide
    repeat' (first | refine wS fun K hK => ?_ | refine wB ?_ | ((first | refine wR hΓ ?_ | refine wD hΓ fun B hB => ?_); simp (maxSteps := 2000000) only [go_sem, treeA_eq, o1, o2]) | ((repeat ((fail_if_success (refine hK _ ?_)); clear hK K)); refine hK _ ?_; clear hK K) | (refine w1 ?_; simp only [xs, xi, Nat.reduceEqDiff, reduceCtorEq]) | (refine wC (fun hb => ?_) fun hb => ?_ <;> (try simp only [xb, reduceCtorEq] at hb)) | (refine w2 (fun hc => ?_) (fun hc => ?_) <;> (try simp only [xc] at hc) <;> (try simp only [go_sem, hc, treeA_eq, o1, o2]) <;> (try simp only [xb] at hc)) | refine wI ?_ | refine ex_idx (by omega) ?_ | fail)
    (first | refine wA rfl _ (⟨20, rfl, hact⟩) ?_ | refine dA rfl _ (⟨20, rfl, hact⟩) ?_); simp (maxSteps := 2000000) only [go_sem]
    repeat' (first | refine wS fun K hK => ?_ | refine wB ?_ | ((first | refine wR hΓ ?_ | refine wD hΓ fun B hB => ?_); simp (maxSteps := 2000000) only [go_sem, treeA_eq, o1, o2, ha, h20]) | ((repeat ((fail_if_success (refine hK _ ?_)); clear hK K)); refine hK _ ?_; clear hK K) | (refine w1 ?_; simp only [xs, xi, Nat.reduceEqDiff, reduceCtorEq]) | (refine wC (fun hb => ?_) fun hb => ?_ <;> (try simp only [xb, reduceCtorEq] at hb)) | (refine w2 (fun hc => ?_) (fun hc => ?_) <;> (try simp only [xc] at hc) <;> (try simp only [go_sem, hc, treeA_eq, o1, o2, ha, h20]) <;> (try simp only [xb] at hc)) | refine wI ?_ | refine ex_idx (by omega) ?_ | fail)
    (first | refine wA rfl _ (⟨a, atom, act, by rw [treeA_eq], hw.1, by omega, hat, h16, h18, rfl⟩) ?_ | refine dA rfl _ (⟨a, atom, act, by rw [treeA_eq], hw.1, by omega, hat, h16, h18, rfl⟩) ?_); simp (maxSteps := 2000000) only [go_sem]
    repeat' (first | refine wS fun K hK => ?_ | refine wB ?_ | ((first | refine wR hΓ ?_ | refine wD hΓ fun B hB => ?_); simp (maxSteps := 2000000) only [go_sem, treeA_eq, o1, o2, ha, h20]) | ((repeat ((fail_if_success (refine hK _ ?_)); clear hK K)); refine hK _ ?_; clear hK K) | (refine w1 ?_; simp only [xs, xi, Nat.reduceEqDiff, reduceCtorEq]) | (refine wC (fun hb => ?_) fun hb => ?_ <;> (try simp only [xb, reduceCtorEq] at hb)) | (refine w2 (fun hc => ?_) (fun hc => ?_) <;> (try simp only [xc] at hc) <;> (try simp only [go_sem, hc, treeA_eq, o1, o2, ha, h20]) <;> (try simp only [xb] at hc)) | refine wI ?_ | refine ex_idx (by omega) ?_ | fail)
    (first | refine wA rfl _ (⟨b, atom, act, by rw [treeA_eq], hw.2, by omega, hat, h16, h18, rfl⟩) ?_ | refine dA rfl _ (⟨b, atom, act, by rw [treeA_eq], hw.2, by omega, hat, h16, h18, rfl⟩) ?_); simp (maxSteps := 2000000) only [go_sem]
    repeat' (first | refine wS fun K hK => ?_ | refine wB ?_ | ((first | refine wR hΓ ?_ | refine wD hΓ fun B hB => ?_); simp (maxSteps := 2000000) only [go_sem, treeA_eq, o1, o2, ha, h20]) | ((repeat ((fail_if_success (refine hK _ ?_)); clear hK K)); refine hK _ ?_; clear hK K) | (refine w1 ?_; simp only [xs, xi, Nat.reduceEqDiff, reduceCtorEq]) | (refine wC (fun hb => ?_) fun hb => ?_ <;> (try simp only [xb, reduceCtorEq] at hb)) | (refine w2 (fun hc => ?_) (fun hc => ?_) <;> (try simp only [xc] at hc) <;> (try simp only [go_sem, hc, treeA_eq, o1, o2, ha, h20]) <;> (try simp only [xb] at hc)) | refine wI ?_ | refine ex_idx (by omega) ?_ | fail)
    (first | refine W_askT rfl _ (⟨partsL atom act a ++ partsL atom act b, by simp [List.map_append], by rw [List.length_append]; omega, app_bd (by omega) hba.2 hbb.2, rfl⟩) ?_ | refine D_askT rfl _ (⟨partsL atom act a ++ partsL atom act b, by simp [List.map_append], by rw [List.length_append]; omega, app_bd (by omega) hba.2 hbb.2, rfl⟩) ?_); simp (maxSteps := 2000000) only [go_sem]
    repeat' (first | exact hb.elim | refine wS fun K hK => ?_ | refine wB ?_ | refine uR hΓ ?_ | refine uD hΓ fun B hB => ?_ | ((repeat ((fail_if_success (refine hK _ ?_)); clear hK K)); refine hK _ ?_; clear hK K) | refine u1 ?_ | refine uC (fun hb => ?_) fun hb => ?_ | refine u2 (fun hc => ?_) fun hc => ?_ | refine wI ?_ | refine ex_idx (by omega) ?_ | exact True.intro | fail)
    rw [← partsL_pls]
    simp [Tryz.results20, RetOK, RetP, backA, upd_at, plainB, getP, isOwn, anyOwn, isP, *]
  | thn a b =>
    have o1 : (Ex.thn a b).op = 19 := rfl
    have o2 : (Ex.thn a b).subs = [a, b] := rfl
    have hact : AV.bool false = AV.bool (decide ((16 : Int) ≤ 19 ∧ (19 : Int) ≤ 18)) := by simp
    have hsl : (Ex.thn a b).steps.length = a.steps.length + b.steps.length + 1 := by simp [Ex.steps]; omega
    have hba := partsL_bd (x := a) (by omega) hw.1 (atom := atom) h16
    have hbb := partsL_bd (x := b) (by omega) hw.2 (atom := atom) h16
    have ha : decide ((16 : Int) ≤ 19 ∧ (19 : Int) ≤ 18) = false := by decide
    have h20 : decide ((19 : Int) = 20) = false := by decide
    have h19 : decide ((19 : Int) = 19) = true := by decide
    repeat' (first | refine wS fun K hK => ?_ | refine wB ?_ | ((first | refine wR hΓ ?_ | refine wD hΓ fun B hB => ?_); simp (maxSteps := 2000000) only [go_sem, treeA_eq, o1, o2]) | ((repeat ((fail_if_success (refine hK _ ?_)); clear hK K)); refine hK _ ?_; clear hK K) | (refine w1 ?_; simp only [xs, xi, Nat.reduceEqDiff, reduceCtorEq]) | (refine wC (fun hb => ?_) fun hb => ?_ <;> (try simp only [xb, reduceCtorEq] at hb)) | (refine w2 (fun hc => ?_) (fun hc => ?_) <;> (try simp only [xc] at hc) <;> (try simp only [go_sem, hc, treeA_eq, o1, o2]) <;> (try simp only [xb] at hc)) | refine wI ?_ | refine ex_idx (by omega) ?_ | fail)
    (first | refine wA rfl _ (⟨19, rfl, hact⟩) ?_ | refine dA rfl _ (⟨19, rfl, hact⟩) ?_); simp (maxSteps := 2000000) only [go_sem]
    repeat' (first | refine wS fun K hK => ?_ | refine wB ?_ | ((first | refine wR hΓ ?_ | refine wD hΓ fun B hB => ?_); simp (maxSteps := 2000000) only [go_sem, treeA_eq, o1, o2, ha, h20, h19]) | ((repeat ((fail_if_success (refine hK _ ?_)); clear hK K)); refine hK _ ?_; clear hK K) | (refine w1 ?_; simp only [xs, xi, Nat.reduceEqDiff, reduceCtorEq]) | (refine wC (fun hb => ?_) fun hb => ?_ <;> (try simp only [xb, reduceCtorEq] at hb)) | (refine w2 (fun hc => ?_) (fun hc => ?_) <;> (try simp only [xc] at hc) <;> (try simp only [go_sem, hc, treeA_eq, o1, o2, ha, h20, h19]) <;> (try simp only [xb] at hc)) | refine wI ?_ | refine ex_idx (by omega) ?_ | fail)
    (first | refine wA rfl _ (⟨a, atom, act, by rw [treeA_eq], hw.1, by omega, hat, h16, h18, rfl⟩) ?_ | refine dA rfl _ (⟨a, atom, act, by rw [treeA_eq], hw.1, by omega, hat, h16, h18, rfl⟩) ?_); simp (maxSteps := 2000000) only [go_sem]
    repeat' (first | refine wS fun K hK => ?_ | refine wB ?_ | ((first | refine wR hΓ ?_ | refine wD hΓ fun B hB => ?_); simp (maxSteps := 2000000) only [go_sem, treeA_eq, o1, o2, ha, h20, h19]) | ((repeat ((fail_if_success (refine hK _ ?_)); clear hK K)); refine hK _ ?_; clear hK K) | (refine w1 ?_; simp only [xs, xi, Nat.reduceEqDiff, reduceCtorEq]) | (refine wC (fun hb => ?_) fun hb => ?_ <;> (try simp only [xb, reduceCtorEq] at hb)) | (refine w2 (fun hc => ?_) (fun hc => ?_) <;> (try simp only [xc] at hc) <;> (try simp only [go_sem, hc, treeA_eq, o1, o2, ha, h20, h19]) <;> (try simp only [xb] at hc)) | refine wI ?_ | refine ex_idx (by omega) ?_ | fail)
    generalize hla : partsL atom act a = la at *
    refine CW.frz 67 [] (oorows la) (by simp [upd_at, getP]) rfl ?_
    refine CW.loop (ι := Nat) (fun k => [(0, .pbox [I 19, .sh [.pbox [I a.op, .sh (a.subs.map treeA)], .pbox [I b.op, .sh (b.subs.map treeA)]]]), (1, I atom), (2, I act), (7, oorows ((la.take k).map fun p => behL p b.steps)), (67, rows la), (68, I la.length), (69, I k)]) (fun k => k ≤ la.length) (fun k => la.length - k) 0 ?_ ?_
    · refine ⟨?_, by omega⟩
      simp [LeL, Wr.app, upd_at, isOwn, view, viewL_map, setP, kids, withKids]
    rintro k hk
    simp only [envOf]
    have hea := endX_lt hw.1
    have hMb := behM_bd (l := la) (b := b.steps) (C := 16777217) hba.2
    have hMl : (la.map fun p => behL p b.steps).length = la.length := by simp
    have hfin := partsL_thn atom act a b
    rw [hla] at hfin
    repeat' (first | exact hb.elim | refine wS fun K hK => ?_ | refine wB ?_ | refine uR hΓ ?_ | refine uD hΓ fun B hB => ?_ | ((repeat ((fail_if_success (refine hK _ ?_)); clear hK K)); refine hK _ ?_; clear hK K) | refine u1 ?_ | refine uC (fun hb => ?_) fun hb => ?_ | refine u2 (fun hc => ?_) fun hc => ?_ | refine wI ?_ | refine ex_idx (by omega) ?_ | exact True.intro | fail)
    · have hkl : k < la.length := by omega
      have hmem : la[k] ∈ partsL atom act a := by rw [hla]; exact List.getElem_mem hkl
      have hak := hba.2 _ (List.getElem_mem hkl)
      (first | refine wA rfl _ (⟨b, by rw [treeA_eq], by omega, rfl⟩) ?_ | refine dA rfl _ (⟨b, by rw [treeA_eq], by omega, rfl⟩) ?_); simp (maxSteps := 2000000) only [go_sem]
      (first | refine wA rfl _ (⟨la[k], b.steps, rfl, partsL_ne hmem, steps_ne b, by omega, by omega, rfl⟩) ?_ | refine dA rfl _ (⟨la[k], b.steps, rfl, partsL_ne hmem, steps_ne b, by omega, by omega, rfl⟩) ?_); simp (maxSteps := 2000000) only [go_sem]
      repeat' (first | exact hb.elim | refine wS fun K hK => ?_ | refine wB ?_ | refine uR hΓ ?_ | refine uD hΓ fun B hB => ?_ | ((repeat ((fail_if_success (refine hK _ ?_)); clear hK K)); refine hK _ ?_; clear hK K) | refine u1 ?_ | refine uC (fun hb => ?_) fun hb => ?_ | refine u2 (fun hc => ?_) fun hc => ?_ | refine wI ?_ | refine ex_idx (by omega) ?_ | exact True.intro | fail)
      refine ⟨k + 1, ?_, by omega, by omega⟩
      (simp only [xe, xj, Nat.reduceEqDiff]; (try simp [view, viewL_map]); (try omega))
      rw [List.take_succ_eq_append_getElem (by simpa using hkl), List.getElem_map]
      rfl
    · have hke : la.take k = la := List.take_of_length_le (by omega)
      rw [hke]
      generalize hM : (la.map fun p => behL p b.steps) = M at *
      (first | refine wA rfl _ (⟨a, by rw [treeA_eq], by omega, rfl⟩) ?_ | refine dA rfl _ (⟨a, by rw [treeA_eq], by omega, rfl⟩) ?_); simp (maxSteps := 2000000) only [go_sem]
      (first | refine wA rfl _ (⟨a, rfl, hw.1, by omega, rfl⟩) ?_ | refine dA rfl _ (⟨a, rfl, hw.1, by omega, rfl⟩) ?_); simp (maxSteps := 2000000) only [go_sem]
      (first | refine wA rfl _ (⟨endX a, atom, rfl, by omega, by omega, rfl⟩) ?_ | refine dA rfl _ (⟨endX a, atom, rfl, by omega, by omega, rfl⟩) ?_); simp (maxSteps := 2000000) only [go_sem]
      repeat' (first | exact hb.elim | refine wS fun K hK => ?_ | refine wB ?_ | refine uR hΓ ?_ | refine uD hΓ fun B hB => ?_ | ((repeat ((fail_if_success (refine hK _ ?_)); clear hK K)); refine hK _ ?_; clear hK K) | refine u1 ?_ | refine uC (fun hb => ?_) fun hb => ?_ | refine u2 (fun hc => ?_) fun hc => ?_ | refine wI ?_ | refine ex_idx (by omega) ?_ | exact True.intro | fail)
      · have htb : (endX a).testBit atom = true := by assumption
        (first | refine wA rfl _ (⟨b, atom, act, by rw [treeA_eq], hw.2, by omega, hat, h16, h18, rfl⟩) ?_ | refine dA rfl _ (⟨b, atom, act, by rw [treeA_eq], hw.2, by omega, hat, h16, h18, rfl⟩) ?_); simp (maxSteps := 2000000) only [go_sem]
        repeat' (first | exact hb.elim | refine wS fun K hK => ?_ | refine wB ?_ | refine uR hΓ ?_ | refine uD hΓ fun B hB => ?_ | ((repeat ((fail_if_success (refine hK _ ?_)); clear hK K)); refine hK _ ?_; clear hK K) | refine u1 ?_ | refine uC (fun hb => ?_) fun hb => ?_ | refine u2 (fun hc => ?_) fun hc => ?_ | refine wI ?_ | refine ex_idx (by omega) ?_ | exact True.intro | fail)
        (first | refine W_askT rfl _ (⟨M ++ partsL atom act b, by simp [List.map_append], by rw [List.length_append]; omega, app_bd (by omega) hMb (fun t h => Nat.le_trans (hbb.2 t h) (by omega)), rfl⟩) ?_ | refine D_askT rfl _ (⟨M ++ partsL atom act b, by simp [List.map_append], by rw [List.length_append]; omega, app_bd (by omega) hMb (fun t h => Nat.le_trans (hbb.2 t h) (by omega)), rfl⟩) ?_); simp (maxSteps := 2000000) only [go_sem]
        repeat' (first | exact hb.elim | refine wS fun K hK => ?_ | refine wB ?_ | refine uR hΓ ?_ | refine uD hΓ fun B hB => ?_ | ((repeat ((fail_if_success (refine hK _ ?_)); clear hK K)); refine hK _ ?_; clear hK K) | refine u1 ?_ | refine uC (fun hb => ?_) fun hb => ?_ | refine u2 (fun hc => ?_) fun hc => ?_ | refine wI ?_ | refine ex_idx (by omega) ?_ | exact True.intro | fail)
        rw [hfin, htb, if_pos rfl]
        simp [Tryz.results20, RetOK, RetP, backA, upd_at, plainB, getP, isOwn, anyOwn, isP, *]
      · have htb : (endX a).testBit atom = false := by simp_all
        (first | refine W_askT rfl _ (⟨M, rfl, by omega, fun t ht => by have := hMb t ht; omega, rfl⟩) ?_ | refine D_askT rfl _ (⟨M, rfl, by omega, fun t ht => by have := hMb t ht; omega, rfl⟩) ?_); simp (maxSteps := 2000000) only [go_sem]
        repeat' (first | exact hb.elim | refine wS fun K hK => ?_ | refine wB ?_ | refine uR hΓ ?_ | refine uD hΓ fun B hB => ?_ | ((repeat ((fail_if_success (refine hK _ ?_)); clear hK K)); refine hK _ ?_; clear hK K) | refine u1 ?_ | refine uC (fun hb => ?_) fun hb => ?_ | refine u2 (fun hc => ?_) fun hc => ?_ | refine wI ?_ | refine ex_idx (by omega) ?_ | exact True.intro | fail)
        rw [hfin, htb, if_neg (by simp), List.append_nil]
        simp [Tryz.results20, RetOK, RetP, backA, upd_at, plainB, getP, isOwn, anyOwn, isP, *]
  | str a =>
    have o1 : (Ex.str a).op = 21 := rfl
    have o2 : (Ex.str a).subs = [a] := rfl
    have hact : AV.bool false = AV.bool (decide ((16 : Int) ≤ 21 ∧ (21 : Int) ≤ 18)) := by simp
    have hsl : (Ex.str a).steps.length = a.steps.length + 1 := by simp [Ex.steps]
    have hba := partsL_bd (x := a) (by omega) hw (atom := atom) h16
    have ha : decide ((16 : Int) ≤ 21 ∧ (21 : Int) ≤ 18) = false := by decide
    have h20 : decide ((21 : Int) = 20) = false := by decide
    have h19 : decide ((21 : Int) = 19) = false := by decide
    have h21 : decide ((21 : Int) = 21) = true := by decide
    repeat' (first | refine wS fun K hK => ?_ | refine wB ?_ | ((first | refine wR hΓ ?_ | refine wD hΓ fun B hB => ?_); simp (maxSteps := 2000000) only [go_sem, treeA_eq, o1, o2]) | ((repeat ((fail_if_success (refine hK _ ?_)); clear hK K)); refine hK _ ?_; clear hK K) | (refine w1 ?_; simp only [xs, xi, Nat.reduceEqDiff, reduceCtorEq]) | (refine wC (fun hb => ?_) fun hb => ?_ <;> (try simp only [xb, reduceCtorEq] at hb)) | (refine w2 (fun hc => ?_) (fun hc => ?_) <;> (try simp only [xc] at hc) <;> (try simp only [go_sem, hc, treeA_eq, o1, o2]) <;> (try simp only [xb] at hc)) | refine wI ?_ | refine ex_idx (by omega) ?_ | fail)
    (first | refine wA rfl _ (⟨21, rfl, hact⟩) ?_ | refine dA rfl _ (⟨21, rfl, hact⟩) ?_); simp (maxSteps := 2000000) only [go_sem]
    repeat' (first | refine wS fun K hK => ?_ | refine wB ?_ | ((first | refine wR hΓ ?_ | refine wD hΓ fun B hB => ?_); simp (maxSteps := 2000000) only [go_sem, treeA_eq, o1, o2, ha, h20, h19, h21]) | ((repeat ((fail_if_success (refine hK _ ?_)); clear hK K)); refine hK _ ?_; clear hK K) | (refine w1 ?_; simp only [xs, xi, Nat.reduceEqDiff, reduceCtorEq]) | (refine wC (fun hb => ?_) fun hb => ?_ <;> (try simp only [xb, reduceCtorEq] at hb)) | (refine w2 (fun hc => ?_) (fun hc => ?_) <;> (try simp only [xc] at hc) <;> (try simp only [go_sem, hc, treeA_eq, o1, o2, ha, h20, h19, h21]) <;> (try simp only [xb] at hc)) | refine wI ?_ | refine ex_idx (by omega) ?_ | fail)
    (first | refine wA rfl _ (⟨a, atom, act, by rw [treeA_eq], hw, by omega, hat, h16, h18, rfl⟩) ?_ | refine dA rfl _ (⟨a, atom, act, by rw [treeA_eq], hw, by omega, hat, h16, h18, rfl⟩) ?_); simp (maxSteps := 2000000) only [go_sem]
    repeat' (first | refine wS fun K hK => ?_ | refine wB ?_ | ((first | refine wR hΓ ?_ | refine wD hΓ fun B hB => ?_); simp (maxSteps := 2000000) only [go_sem, treeA_eq, o1, o2, ha, h20, h19, h21]) | ((repeat ((fail_if_success (refine hK _ ?_)); clear hK K)); refine hK _ ?_; clear hK K) | (refine w1 ?_; simp only [xs, xi, Nat.reduceEqDiff, reduceCtorEq]) | (refine wC (fun hb => ?_) fun hb => ?_ <;> (try simp only [xb, reduceCtorEq] at hb)) | (refine w2 (fun hc => ?_) (fun hc => ?_) <;> (try simp only [xc] at hc) <;> (try simp only [go_sem, hc, treeA_eq, o1, o2, ha, h20, h19, h21]) <;> (try simp only [xb] at hc)) | refine wI ?_ | refine ex_idx (by omega) ?_ | fail)
    generalize hla : partsL atom act a = la at *
    refine CW.frz 121 [] (oorows la) (by simp [upd_at, getP]) rfl ?_
    refine CW.loop (ι := Nat) (fun k => [(0, .pbox [I 21, .sh [.pbox [I a.op, .sh (a.subs.map treeA)]]]), (7, oorows ((la.take k).map fun p => behL p (Ex.str a).steps)), (121, rows la), (122, I la.length), (123, I k)]) (fun k => k ≤ la.length) (fun k => la.length - k) 0 ?_ ?_
    · refine ⟨?_, by omega⟩
      simp [LeL, Wr.app, upd_at, isOwn, view, viewL_map, setP, kids, withKids]
    rintro k hk
    simp only [envOf]
    have hMb := behM_bd (l := la) (b := (Ex.str a).steps) (C := 16777217) hba.2
    have hMl : (la.map fun p => behL p (Ex.str a).steps).length = la.length := by simp
    have hfin := partsL_str atom act a
    rw [hla] at hfin
    repeat' (first | exact hb.elim | refine wS fun K hK => ?_ | refine wB ?_ | refine uR hΓ ?_ | refine uD hΓ fun B hB => ?_ | ((repeat ((fail_if_success (refine hK _ ?_)); clear hK K)); refine hK _ ?_; clear hK K) | refine u1 ?_ | refine uC (fun hb => ?_) fun hb => ?_ | refine u2 (fun hc => ?_) fun hc => ?_ | refine wI ?_ | refine ex_idx (by omega) ?_ | exact True.intro | fail)
    · have hkl : k < la.length := by omega
      have hmem : la[k] ∈ partsL atom act a := by rw [hla]; exact List.getElem_mem hkl
      have hak := hba.2 _ (List.getElem_mem hkl)
      (first | refine wA rfl _ (⟨.str a, by rw [treeA_eq, o1, o2, List.map_cons, List.map_nil, treeA_eq a], by omega, rfl⟩) ?_ | refine dA rfl _ (⟨.str a, by rw [treeA_eq, o1, o2, List.map_cons, List.map_nil, treeA_eq a], by omega, rfl⟩) ?_); simp (maxSteps := 2000000) only [go_sem]
      (first | refine wA rfl _ (⟨la[k], (Ex.str a).steps, rfl, partsL_ne hmem, steps_ne _, by omega, by omega, rfl⟩) ?_ | refine dA rfl _ (⟨la[k], (Ex.str a).steps, rfl, partsL_ne hmem, steps_ne _, by omega, by omega, rfl⟩) ?_); simp (maxSteps := 2000000) only [go_sem]
      repeat' (first | exact hb.elim | refine wS fun K hK => ?_ | refine wB ?_ | refine uR hΓ ?_ | refine uD hΓ fun B hB => ?_ | ((repeat ((fail_if_success (refine hK _ ?_)); clear hK K)); refine hK _ ?_; clear hK K) | refine u1 ?_ | refine uC (fun hb => ?_) fun hb => ?_ | refine u2 (fun hc => ?_) fun hc => ?_ | refine wI ?_ | refine ex_idx (by omega) ?_ | exact True.intro | fail)
      refine ⟨k + 1, ?_, by omega, by omega⟩
      (simp only [xe, xj, Nat.reduceEqDiff]; (try simp [view, viewL_map]); (try omega))
      rw [List.take_succ_eq_append_getElem (by simpa using hkl), List.getElem_map]
      rfl
    · have hke : la.take k = la := List.take_of_length_le (by omega)
      rw [hke]
      (first | refine W_askT rfl _ (⟨la.map fun p => behL p (Ex.str a).steps, rfl, by omega, fun t ht => by have := hMb t ht; omega, rfl⟩) ?_ | refine D_askT rfl _ (⟨la.map fun p => behL p (Ex.str a).steps, rfl, by omega, fun t ht => by have := hMb t ht; omega, rfl⟩) ?_); simp (maxSteps := 2000000) only [go_sem]
      repeat' (first | exact hb.elim | refine wS fun K hK => ?_ | refine wB ?_ | refine uR hΓ ?_ | refine uD hΓ fun B hB => ?_ | ((repeat ((fail_if_success (refine hK _ ?_)); clear hK K)); refine hK _ ?_; clear hK K) | refine u1 ?_ | refine uC (fun hb => ?_) fun hb => ?_ | refine u2 (fun hc => ?_) fun hc => ?_ | refine wI ?_ | refine ex_idx (by omega) ?_ | exact True.intro | fail)
      rw [hfin]
      simp [Tryz.results20, RetOK, RetP, backA, upd_at, plainB, getP, isOwn, anyOwn, isP, *]

theorem tparts_all : ∀ N : Nat, N ≤ 4096 → CtrOK Tryz.prog 20 (pureC (tpartsR N))
  | 0, _ => tparts_step 0 (by omega) ⟨⟨_, _, Tryz.func20, rfl, rfl⟩, fun args r args' ⟨_, x, _, _, _, _, h, _⟩ => by have := x.steps_pos; omega⟩
  | N + 1, h => tparts_step (N + 1) h (tparts_all N (by omega))
theorem tparts_ctr : CtrOK Tryz.prog 20 (pureC (tpartsR 4096)) := tparts_all 4096 (by omega)

end Go.Proofs.YtehdfifncbokeaaGreat
