/- How many traces have just so many actions: the reference and the program. Walked by the engine. -/
import Derived.Test.YtehdfifncbokeaaGrpO
import Derived.Test.YtehdfifncbokeaaTO
import Derived.Test.YtehdfifncbokeaaEngMin
namespace Go.Proofs.Ytehdfifncbokeaa
set_option linter.unusedSimpArgs false
set_option linter.unusedVariables false
set_option maxRecDepth 8000
set_option maxHeartbeats 2000000
open Go Go.RowKit AV

attribute [local go_sem] List.nil_prefix

theorem l3List_step (N : Nat) (hN : N ≤ 1048576) (ih : CtrOK Try.prog 15 (pureC (l3R (N - 1)))) : CtrOK Try.prog 15 (pureC (l3R N)) :=
  ⟨ih.1, fun args r args' h => by
    obtain ⟨hp, x, m, h1, hw, hl, hm, hr⟩ := h
    cases x with
    | leaf n => exact l3Leaf_ctr.2 args r args' ⟨hp, n, m, h1, hw, hm, hr⟩
    | thn a b => exact (l3Thn_step N hN ih).2 args r args' ⟨hp, a, b, m, h1, hw, hl, hm, hr⟩
    | pls a b => exact (l3Pls_step N hN ih).2 args r args' ⟨hp, a, b, m, h1, hw, hl, hm, hr⟩
    | str a => exact (l3Str_step N hN ih).2 args r args' ⟨hp, a, m, h1, hw, hl, hm, hr⟩⟩
theorem l3List_all : ∀ N : Nat, N ≤ 1048576 → CtrOK Try.prog 15 (pureC (l3R N))
  | 0, _ => ⟨⟨_, _, Try.func15, rfl, rfl⟩, fun args r args' ⟨_, x, _, _, _, h, _⟩ => by have := x.steps_pos; omega⟩
  | N + 1, h => l3List_step (N + 1) h (l3List_all N (by omega))
theorem l3List_ctr : CtrOK Try.prog 15 (pureC (l3R 4096)) := l3List_all 4096 (by omega)

def manyR (args : List AV) (r : AV) : Prop := ∃ (e : List Int) (m : Int), args = [ints e, I m] ∧ e.length ≤ 1048576 ∧ r = I (manyI e m)
theorem specMany_ctr : CtrOK Try.prog 6 (pureC manyR) := by
  refine ctr_pure' Try.func6 rfl rfl Try.ntmps6 ?_
  rintro _ _ ⟨e, m, rfl, he, rfl⟩
  refine ⟨by simp, fun κ hκ => ?_⟩
  have hbig := bigW_gt
  rw [argEnv_eq]
  simp only [envA]
  have hΓ := ctxOf_ok (P := Try.prog) (cx specKatValid_ctr <| cx l1In_ctr <| cx l3List_ctr <| cx0)
  cases hV : katB e with
  | false =>
    rw [manyI_no (by rw [hV]; simp)]
    repeat' (first | exact hb.elim | refine wS fun K hK => ?_ | refine wB ?_ | refine uR hΓ ?_ | refine uD hΓ fun B hB => ?_ | ((repeat ((fail_if_success (refine hK _ ?_)); clear hK K)); refine hK _ ?_; clear hK K) | refine u1 ?_ | refine uC (fun hb => ?_) fun hb => ?_ | refine u2 (fun hc => ?_) fun hc => ?_ | refine wI ?_ | refine ex_idx (by omega) ?_ | exact True.intro | fail)
    (first | refine wA rfl ?_ ?_ ?_ | refine dA rfl ?_ ?_ ?_); exact (.bool false); exact (⟨e, rfl, by omega, by rw [hV]⟩); simp (maxSteps := 2000000) only [go_sem]
    repeat' (first | exact hb.elim | refine wS fun K hK => ?_ | refine wB ?_ | refine uR hΓ ?_ | refine uD hΓ fun B hB => ?_ | ((repeat ((fail_if_success (refine hK _ ?_)); clear hK K)); refine hK _ ?_; clear hK K) | refine u1 ?_ | refine uC (fun hb => ?_) fun hb => ?_ | refine u2 (fun hc => ?_) fun hc => ?_ | refine wI ?_ | refine ex_idx (by omega) ?_ | exact True.intro | fail)
    all_goals try (exfalso; first | exact absurd ‹true = false› (by decide) | exact absurd ‹false = true› (by decide) | exact absurd rfl ‹¬ true = true› | exact absurd trivial ‹¬ True› | omega)
    simp [Try.results6, RetOK, RetP, backA, upd_at, plainB, getP, isOwn, anyOwn, isP]
  | true =>
    by_cases hm : 0 ≤ m ∧ m ≤ 2
    rotate_left
    · rw [manyI_no (fun h => hm h.2)]
      repeat' (first | exact hb.elim | refine wS fun K hK => ?_ | refine wB ?_ | refine uR hΓ ?_ | refine uD hΓ fun B hB => ?_ | ((repeat ((fail_if_success (refine hK _ ?_)); clear hK K)); refine hK _ ?_; clear hK K) | refine u1 ?_ | refine uC (fun hb => ?_) fun hb => ?_ | refine u2 (fun hc => ?_) fun hc => ?_ | refine wI ?_ | refine ex_idx (by omega) ?_ | exact True.intro | fail)
      (first | refine wA rfl ?_ ?_ ?_ | refine dA rfl ?_ ?_ ?_); exact (.bool true); exact (⟨e, rfl, by omega, by rw [hV]⟩); simp (maxSteps := 2000000) only [go_sem]
      repeat' (first | exact hb.elim | refine wS fun K hK => ?_ | refine wB ?_ | refine uR hΓ ?_ | refine uD hΓ fun B hB => ?_ | ((repeat ((fail_if_success (refine hK _ ?_)); clear hK K)); refine hK _ ?_; clear hK K) | refine u1 ?_ | refine uC (fun hb => ?_) fun hb => ?_ | refine u2 (fun hc => ?_) fun hc => ?_ | refine wI ?_ | refine ex_idx (by omega) ?_ | exact True.intro | fail)
      all_goals try (exfalso; first | exact absurd ‹true = false› (by decide) | exact absurd ‹false = true› (by decide) | exact absurd rfl ‹¬ true = true› | exact absurd trivial ‹¬ True› | omega)
      (first | refine wA rfl ?_ ?_ ?_ | refine dA rfl ?_ ?_ ?_); exact (.bool false); exact (⟨m, 0, 2, rfl, by rw [decide_eq_false hm]⟩); simp (maxSteps := 2000000) only [go_sem]
      repeat' (first | exact hb.elim | refine wS fun K hK => ?_ | refine wB ?_ | refine uR hΓ ?_ | refine uD hΓ fun B hB => ?_ | ((repeat ((fail_if_success (refine hK _ ?_)); clear hK K)); refine hK _ ?_; clear hK K) | refine u1 ?_ | refine uC (fun hb => ?_) fun hb => ?_ | refine u2 (fun hc => ?_) fun hc => ?_ | refine wI ?_ | refine ex_idx (by omega) ?_ | exact True.intro | fail)
      all_goals try (exfalso; first | exact absurd ‹true = false› (by decide) | exact absurd ‹false = true› (by decide) | exact absurd rfl ‹¬ true = true› | exact absurd trivial ‹¬ True› | omega)
      simp [Try.results6, RetOK, RetP, backA, upd_at, plainB, getP, isOwn, anyOwn, isP]
    obtain ⟨k, rfl⟩ : ∃ k : Nat, m = (k : Int) := ⟨m.toNat, by omega⟩
    obtain ⟨x, hw, rfl, h40⟩ := katB_tree hV
    have hk2 : k ≤ 2 := by omega
    rw [manyI_yes hw hV hk2]
    have hbd := listX_bd x hk2
    obtain ⟨L, hL⟩ : ∃ L, listX x k = L := ⟨_, rfl⟩
    rw [hL] at hbd ⊢
    repeat' (first | exact hb.elim | refine wS fun K hK => ?_ | refine wB ?_ | refine uR hΓ ?_ | refine uD hΓ fun B hB => ?_ | ((repeat ((fail_if_success (refine hK _ ?_)); clear hK K)); refine hK _ ?_; clear hK K) | refine u1 ?_ | refine uC (fun hb => ?_) fun hb => ?_ | refine u2 (fun hc => ?_) fun hc => ?_ | refine wI ?_ | refine ex_idx (by omega) ?_ | exact True.intro | fail)
    (first | refine wA rfl ?_ ?_ ?_ | refine dA rfl ?_ ?_ ?_); exact (.bool true); exact (⟨x.steps, rfl, by omega, by rw [hV]⟩); simp (maxSteps := 2000000) only [go_sem]
    repeat' (first | exact hb.elim | refine wS fun K hK => ?_ | refine wB ?_ | refine uR hΓ ?_ | refine uD hΓ fun B hB => ?_ | ((repeat ((fail_if_success (refine hK _ ?_)); clear hK K)); refine hK _ ?_; clear hK K) | refine u1 ?_ | refine uC (fun hb => ?_) fun hb => ?_ | refine u2 (fun hc => ?_) fun hc => ?_ | refine wI ?_ | refine ex_idx (by omega) ?_ | exact True.intro | fail)
    all_goals try (exfalso; first | exact absurd ‹true = false› (by decide) | exact absurd ‹false = true› (by decide) | exact absurd rfl ‹¬ true = true› | exact absurd trivial ‹¬ True› | omega)
    (first | refine wA rfl ?_ ?_ ?_ | refine dA rfl ?_ ?_ ?_); exact (.bool true); exact (⟨(k : Int), 0, 2, rfl, by rw [decide_eq_true hm]⟩); simp (maxSteps := 2000000) only [go_sem]
    repeat' (first | exact hb.elim | refine wS fun K hK => ?_ | refine wB ?_ | refine uR hΓ ?_ | refine uD hΓ fun B hB => ?_ | ((repeat ((fail_if_success (refine hK _ ?_)); clear hK K)); refine hK _ ?_; clear hK K) | refine u1 ?_ | refine uC (fun hb => ?_) fun hb => ?_ | refine u2 (fun hc => ?_) fun hc => ?_ | refine wI ?_ | refine ex_idx (by omega) ?_ | exact True.intro | fail)
    all_goals try (exfalso; first | exact absurd ‹true = false› (by decide) | exact absurd ‹false = true› (by decide) | exact absurd rfl ‹¬ true = true› | exact absurd trivial ‹¬ True› | omega)
    (first | refine wA rfl ?_ ?_ ?_ | refine dA rfl ?_ ?_ ?_); exact (rows L); exact (⟨x, k, rfl, hw, by omega, hk2, by rw [hL]⟩); simp (maxSteps := 2000000) only [go_sem]
    repeat' (first | exact hb.elim | refine wS fun K hK => ?_ | refine wB ?_ | refine uR hΓ ?_ | refine uD hΓ fun B hB => ?_ | ((repeat ((fail_if_success (refine hK _ ?_)); clear hK K)); refine hK _ ?_; clear hK K) | refine u1 ?_ | refine uC (fun hb => ?_) fun hb => ?_ | refine u2 (fun hc => ?_) fun hc => ?_ | refine wI ?_ | refine ex_idx (by omega) ?_ | exact True.intro | fail)
    refine CW.loop (ι := Nat) (fun j => [(1, I (k : Int)), (5, I ((cntL (L.take j) (2 * k + 1) : Nat) : Int)), (6, rows L), (7, I (j : Int))]) (fun j => j ≤ L.length) (fun j => L.length - j) 0 ?_ ?_
    · exact ⟨by (simp only [xe, xj, Nat.reduceEqDiff]; (try simp [view, viewL_map]); (try omega)); simp [cntL], by omega⟩
    rintro j hj
    simp only [envOf]
    have hcl : cntL (L.take j) (2 * k + 1) ≤ j := Nat.le_trans (cntL_le _ _) (by simp; omega)
    by_cases hjl : j < L.length
    · have hbk := hbd.2 _ (List.getElem_mem hjl)
      have hct := cnt_take (n := 2 * k + 1) hjl
      by_cases hlen : L[j].length = 2 * k + 1
      · rw [if_pos hlen] at hct
        repeat' (first | exact hb.elim | refine wS fun K hK => ?_ | refine wB ?_ | refine uR hΓ ?_ | refine uD hΓ fun B hB => ?_ | ((repeat ((fail_if_success (refine hK _ ?_)); clear hK K)); refine hK _ ?_; clear hK K) | refine u1 ?_ | refine uC (fun hb => ?_) fun hb => ?_ | refine u2 (fun hc => ?_) fun hc => ?_ | refine wI ?_ | refine ex_idx (by omega) ?_ | exact True.intro | fail)
        all_goals try (exfalso; omega)
        refine ⟨j + 1, ?_, by omega, by omega⟩
        rw [hct]
        (simp only [xe, xj, Nat.reduceEqDiff]; (try simp [view, viewL_map]); (try omega))
      · rw [if_neg hlen, Nat.add_zero] at hct
        repeat' (first | exact hb.elim | refine wS fun K hK => ?_ | refine wB ?_ | refine uR hΓ ?_ | refine uD hΓ fun B hB => ?_ | ((repeat ((fail_if_success (refine hK _ ?_)); clear hK K)); refine hK _ ?_; clear hK K) | refine u1 ?_ | refine uC (fun hb => ?_) fun hb => ?_ | refine u2 (fun hc => ?_) fun hc => ?_ | refine wI ?_ | refine ex_idx (by omega) ?_ | exact True.intro | fail)
        all_goals try (exfalso; omega)
        refine ⟨j + 1, ?_, by omega, by omega⟩
        rw [hct]
        (simp only [xe, xj, Nat.reduceEqDiff]; (try simp [view, viewL_map]); (try omega))
    · obtain rfl : j = L.length := by omega
      rw [List.take_length] at hcl ⊢
      repeat' (first | exact hb.elim | refine wS fun K hK => ?_ | refine wB ?_ | refine uR hΓ ?_ | refine uD hΓ fun B hB => ?_ | ((repeat ((fail_if_success (refine hK _ ?_)); clear hK K)); refine hK _ ?_; clear hK K) | refine u1 ?_ | refine uC (fun hb => ?_) fun hb => ?_ | refine u2 (fun hc => ?_) fun hc => ?_ | refine wI ?_ | refine ex_idx (by omega) ?_ | exact True.intro | fail)
      all_goals try (exfalso; omega)
      simp [Try.results6, RetOK, RetP, backA, upd_at, plainB, getP, isOwn, anyOwn, isP]

theorem tof_cnt {x : Ex} {m : Nat} (hw : x.wf) (hV : katB x.steps = true) (hm : m ≤ 2) (n : Nat) : cntL (tofL x.steps (m : Int)) n = cntL (listX x m) n ∧ (tofL x.steps (m : Int)).length ≤ 676 ∧ ∀ t ∈ tofL x.steps (m : Int), t.length ≤ 5 := by
  have hT : tofL x.steps (m : Int) = keepL (notIn x) (allTr m 4) := by unfold tofL; rw [if_pos ⟨hV, by omega, by omega⟩, exOf_steps hw, Int.toNat_natCast]
  have hmem : ∀ t, t ∈ keepL (notIn x) (allTr m 4) ↔ t ∈ listX x m := fun t => by
    unfold keepL notIn listX
    rw [mem_ordL, List.mem_filter, List.mem_filter, Bool.not_not]
  have hnd : (keepL (notIn x) (allTr m 4)).Nodup := (allTr_nodup m).sublist List.filter_sublist
  have hbd := listX_bd x hm
  rw [hT]
  exact ⟨cnt_eq hnd (srt_nodup (srt_listX _ _)) hmem n, Nat.le_trans (nodup_len hnd fun t ht => (hmem t).1 ht) hbd.1, fun t ht => hbd.2 t ((hmem t).1 ht)⟩
def tofVR (args : List AV) (r : AV) : Prop := ∃ (e : List Int) (m : Int), args = [ints e, I m] ∧ e.length ≤ 1048576 ∧ r = rows (tofL e m)
theorem implTracesOfV_ctr : CtrOK Try.prog 12 (pureC tofVR) := ctr_view implTracesOf_ctr fun args x ⟨e, m, h1, h2, h3⟩ =>
  ⟨_, ⟨e, m, h1, h2, rfl⟩, by simp [isOwn, anyOwn], by rw [h3]; simp [view, viewL_map]⟩
theorem implMany_ctr : CtrOK Try.prog 5 (pureC manyR) := by
  refine ctr_pure' Try.func5 rfl rfl Try.ntmps5 ?_
  rintro _ _ ⟨e, m, rfl, he, rfl⟩
  refine ⟨by simp, fun κ hκ => ?_⟩
  have hbig := bigW_gt
  rw [argEnv_eq]
  simp only [envA]
  have hΓ := ctxOf_ok (P := Try.prog) (cx implKatValid_ctr <| cx implTracesOfV_ctr <| cx0)
  cases hV : katB e with
  | false =>
    rw [manyI_no (by rw [hV]; simp)]
    repeat' (first | exact hb.elim | refine wS fun K hK => ?_ | refine wB ?_ | refine uR hΓ ?_ | refine uD hΓ fun B hB => ?_ | ((repeat ((fail_if_success (refine hK _ ?_)); clear hK K)); refine hK _ ?_; clear hK K) | refine u1 ?_ | refine uC (fun hb => ?_) fun hb => ?_ | refine u2 (fun hc => ?_) fun hc => ?_ | refine wI ?_ | refine ex_idx (by omega) ?_ | exact True.intro | fail)
    (first | refine wA rfl ?_ ?_ ?_ | refine dA rfl ?_ ?_ ?_); exact (.bool false); exact (⟨e, rfl, by omega, by rw [hV]⟩); simp (maxSteps := 2000000) only [go_sem]
    repeat' (first | exact hb.elim | refine wS fun K hK => ?_ | refine wB ?_ | refine uR hΓ ?_ | refine uD hΓ fun B hB => ?_ | ((repeat ((fail_if_success (refine hK _ ?_)); clear hK K)); refine hK _ ?_; clear hK K) | refine u1 ?_ | refine uC (fun hb => ?_) fun hb => ?_ | refine u2 (fun hc => ?_) fun hc => ?_ | refine wI ?_ | refine ex_idx (by omega) ?_ | exact True.intro | fail)
    all_goals try (exfalso; first | exact absurd ‹true = false› (by decide) | exact absurd ‹false = true› (by decide) | exact absurd rfl ‹¬ true = true› | exact absurd trivial ‹¬ True› | omega)
    simp [Try.results5, RetOK, RetP, backA, upd_at, plainB, getP, isOwn, anyOwn, isP]
  | true =>
    by_cases hm : 0 ≤ m ∧ m ≤ 2
    rotate_left
    · rw [manyI_no (fun h => hm h.2)]
      repeat' (first | exact hb.elim | refine wS fun K hK => ?_ | refine wB ?_ | refine uR hΓ ?_ | refine uD hΓ fun B hB => ?_ | ((repeat ((fail_if_success (refine hK _ ?_)); clear hK K)); refine hK _ ?_; clear hK K) | refine u1 ?_ | refine uC (fun hb => ?_) fun hb => ?_ | refine u2 (fun hc => ?_) fun hc => ?_ | refine wI ?_ | refine ex_idx (by omega) ?_ | exact True.intro | fail)
      (first | refine wA rfl ?_ ?_ ?_ | refine dA rfl ?_ ?_ ?_); exact (.bool true); exact (⟨e, rfl, by omega, by rw [hV]⟩); simp (maxSteps := 2000000) only [go_sem]
      repeat' (first | exact hb.elim | refine wS fun K hK => ?_ | refine wB ?_ | refine uR hΓ ?_ | refine uD hΓ fun B hB => ?_ | ((repeat ((fail_if_success (refine hK _ ?_)); clear hK K)); refine hK _ ?_; clear hK K) | refine u1 ?_ | refine uC (fun hb => ?_) fun hb => ?_ | refine u2 (fun hc => ?_) fun hc => ?_ | refine wI ?_ | refine ex_idx (by omega) ?_ | exact True.intro | fail)
      all_goals try (exfalso; first | exact absurd ‹true = false› (by decide) | exact absurd ‹false = true› (by decide) | exact absurd rfl ‹¬ true = true› | exact absurd trivial ‹¬ True› | omega)
      all_goals (simp [Try.results5, RetOK, RetP, backA, upd_at, plainB, getP, isOwn, anyOwn, isP])
    obtain ⟨k, rfl⟩ : ∃ k : Nat, m = (k : Int) := ⟨m.toNat, by omega⟩
    obtain ⟨x, hw, rfl, h40⟩ := katB_tree hV
    have hk2 : k ≤ 2 := by omega
    rw [manyI_yes hw hV hk2]
    have hbd := tof_cnt hw hV hk2 (2 * k + 1)
    obtain ⟨L, hL⟩ : ∃ L, tofL x.steps (k : Int) = L := ⟨_, rfl⟩
    rw [hL] at hbd
    rw [← hbd.1]
    replace hbd := hbd.2
    repeat' (first | exact hb.elim | refine wS fun K hK => ?_ | refine wB ?_ | refine uR hΓ ?_ | refine uD hΓ fun B hB => ?_ | ((repeat ((fail_if_success (refine hK _ ?_)); clear hK K)); refine hK _ ?_; clear hK K) | refine u1 ?_ | refine uC (fun hb => ?_) fun hb => ?_ | refine u2 (fun hc => ?_) fun hc => ?_ | refine wI ?_ | refine ex_idx (by omega) ?_ | exact True.intro | fail)
    (first | refine wA rfl ?_ ?_ ?_ | refine dA rfl ?_ ?_ ?_); exact (.bool true); exact (⟨x.steps, rfl, by omega, by rw [hV]⟩); simp (maxSteps := 2000000) only [go_sem]
    repeat' (first | exact hb.elim | refine wS fun K hK => ?_ | refine wB ?_ | refine uR hΓ ?_ | refine uD hΓ fun B hB => ?_ | ((repeat ((fail_if_success (refine hK _ ?_)); clear hK K)); refine hK _ ?_; clear hK K) | refine u1 ?_ | refine uC (fun hb => ?_) fun hb => ?_ | refine u2 (fun hc => ?_) fun hc => ?_ | refine wI ?_ | refine ex_idx (by omega) ?_ | exact True.intro | fail)
    all_goals try (exfalso; first | exact absurd ‹true = false› (by decide) | exact absurd ‹false = true› (by decide) | exact absurd rfl ‹¬ true = true› | exact absurd trivial ‹¬ True› | omega)
    (first | refine wA rfl ?_ ?_ ?_ | refine dA rfl ?_ ?_ ?_); exact (rows L); exact (⟨x.steps, (k : Int), rfl, by omega, by rw [hL]⟩); simp (maxSteps := 2000000) only [go_sem]
    repeat' (first | exact hb.elim | refine wS fun K hK => ?_ | refine wB ?_ | refine uR hΓ ?_ | refine uD hΓ fun B hB => ?_ | ((repeat ((fail_if_success (refine hK _ ?_)); clear hK K)); refine hK _ ?_; clear hK K) | refine u1 ?_ | refine uC (fun hb => ?_) fun hb => ?_ | refine u2 (fun hc => ?_) fun hc => ?_ | refine wI ?_ | refine ex_idx (by omega) ?_ | exact True.intro | fail)
    refine CW.loop (ι := Nat) (fun j => [(1, I (k : Int)), (5, I ((cntL (L.take j) (2 * k + 1) : Nat) : Int)), (21, rows L), (22, I (L.length : Int)), (23, I (j : Int))]) (fun j => j ≤ L.length) (fun j => L.length - j) 0 ?_ ?_
    · exact ⟨by (simp only [xe, xj, Nat.reduceEqDiff]; (try simp [view, viewL_map]); (try omega)); simp [cntL], by omega⟩
    rintro j hj
    simp only [envOf]
    have hcl : cntL (L.take j) (2 * k + 1) ≤ j := Nat.le_trans (cntL_le _ _) (by simp; omega)
    by_cases hjl : j < L.length
    · have hbk := hbd.2 _ (List.getElem_mem hjl)
      have hct := cnt_take (n := 2 * k + 1) hjl
      by_cases hlen : L[j].length = 2 * k + 1
      · rw [if_pos hlen] at hct
        repeat' (first | exact hb.elim | refine wS fun K hK => ?_ | refine wB ?_ | refine uR hΓ ?_ | refine uD hΓ fun B hB => ?_ | ((repeat ((fail_if_success (refine hK _ ?_)); clear hK K)); refine hK _ ?_; clear hK K) | refine u1 ?_ | refine uC (fun hb => ?_) fun hb => ?_ | refine u2 (fun hc => ?_) fun hc => ?_ | refine wI ?_ | refine ex_idx (by omega) ?_ | exact True.intro | fail)
        all_goals try (exfalso; omega)
        refine ⟨j + 1, ?_, by omega, by omega⟩
        rw [hct]
        (simp only [xe, xj, Nat.reduceEqDiff]; (try simp [view, viewL_map]); (try omega))
      · rw [if_neg hlen, Nat.add_zero] at hct
        repeat' (first | exact hb.elim | refine wS fun K hK => ?_ | refine wB ?_ | refine uR hΓ ?_ | refine uD hΓ fun B hB => ?_ | ((repeat ((fail_if_success (refine hK _ ?_)); clear hK K)); refine hK _ ?_; clear hK K) | refine u1 ?_ | refine uC (fun hb => ?_) fun hb => ?_ | refine u2 (fun hc => ?_) fun hc => ?_ | refine wI ?_ | refine ex_idx (by omega) ?_ | exact True.intro | fail)
        all_goals try (exfalso; omega)
        refine ⟨j + 1, ?_, by omega, by omega⟩
        rw [hct]
        (simp only [xe, xj, Nat.reduceEqDiff]; (try simp [view, viewL_map]); (try omega))
    · obtain rfl : j = L.length := by omega
      rw [List.take_length] at hcl ⊢
      repeat' (first | exact hb.elim | refine wS fun K hK => ?_ | refine wB ?_ | refine uR hΓ ?_ | refine uD hΓ fun B hB => ?_ | ((repeat ((fail_if_success (refine hK _ ?_)); clear hK K)); refine hK _ ?_; clear hK K) | refine u1 ?_ | refine uC (fun hb => ?_) fun hb => ?_ | refine u2 (fun hc => ?_) fun hc => ?_ | refine wI ?_ | refine ex_idx (by omega) ?_ | exact True.intro | fail)
      all_goals try (exfalso; omega)
      simp [Try.results5, RetOK, RetP, backA, upd_at, plainB, getP, isOwn, anyOwn, isP]

end Go.Proofs.Ytehdfifncbokeaa
