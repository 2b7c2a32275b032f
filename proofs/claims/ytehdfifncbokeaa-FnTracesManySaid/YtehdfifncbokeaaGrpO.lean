/- The short traces of an expression, in the reference: of a test or an action. Walked by the engine. -/
import Derived.Test.YtehdfifncbokeaaM4P
import Derived.Test.YtehdfifncbokeaaM3
import Derived.Test.YtehdfifncbokeaaGrpE
import Derived.Test.YtehdfifncbokeaaEngMin
namespace Go.Proofs.Ytehdfifncbokeaa
set_option linter.unusedSimpArgs false
set_option linter.unusedVariables false
set_option maxRecDepth 8000
set_option maxHeartbeats 2000000
open Go Go.RowKit AV

def l3R (N : Nat) (args : List AV) (r : AV) : Prop := ∃ (x : Ex) (m : Nat), args = [ints x.steps, I (m : Int)] ∧ x.wf ∧ x.steps.length ≤ N ∧ m ≤ 2 ∧ r = rows (listX x m)
def l3LeafR (args : List AV) (r : AV) : Prop := ∃ (n : Int) (m : Nat), args = [ints [n], I (m : Int)] ∧ (Ex.leaf n).wf ∧ m ≤ 2 ∧ r = rows (listX (.leaf n) m)
theorem l3Leaf_ctr : CtrOK Try.prog 15 (pureC l3LeafR) := by
  refine ctr_pure' Try.func15 rfl rfl Try.ntmps15 ?_
  rintro _ _ ⟨n, m, rfl, hw, hm, rfl⟩
  refine ⟨by simp, fun κ hκ => ?_⟩
  have hbig := bigW_gt
  rw [argEnv_eq]
  simp only [envA]
  have hΓ := ctxOf_ok (P := Try.prog) (cx l1Bit_ctr <| cx0)
  have h1 := hw.1
  have h2 := hw.2
  have e1 : ((1 : Nat) : Int) - 1 = ((0 : Nat) : Int) := rfl
  by_cases hn : n ≤ 15
  · obtain ⟨s, rfl⟩ : ∃ s : Nat, n = (s : Int) := ⟨n.toNat, by omega⟩
    rw [← listX_test (by omega) hm]
    repeat' (first | refine wS fun K hK => ?_ | refine wB ?_ | ((first | refine wR hΓ ?_ | refine wD hΓ fun B hB => ?_); simp (maxSteps := 2000000) only [go_sem, e1]) | ((repeat ((fail_if_success (refine hK _ ?_)); clear hK K)); refine hK _ ?_; clear hK K) | (refine w1 ?_; simp only [xs, xi, Nat.reduceEqDiff, reduceCtorEq]) | (refine wC (fun hb => ?_) fun hb => ?_ <;> (try simp only [xb, reduceCtorEq] at hb)) | (refine w2 (fun hc => ?_) (fun hc => ?_) <;> (try simp only [xc] at hc) <;> (try simp only [go_sem, hc, e1]) <;> (try simp only [xb] at hc)) | refine wI ?_ | refine ex_idx (by omega) ?_ | fail)
    all_goals try (exfalso; omega)
    refine CW.loop (ι := Nat) (fun k => [(6, I (s : Int)), (7, oorows (tsL s k)), (8, I (k : Int))]) (fun k => k ≤ 4) (fun k => 4 - k) 0 ?_ ?_
    · exact ⟨by (simp only [xe, xj, Nat.reduceEqDiff]; (try simp [view, viewL_map]); (try omega)); simp [tsL], by omega⟩
    rintro k hk
    simp only [envOf]
    have hl := tsL_len s k
    by_cases hk4 : k < 4
    · have hb1 := tsL_succ s k
      cases hb0 : s.testBit k with
      | true =>
        rw [hb0, if_pos rfl] at hb1
        repeat' (first | exact hb.elim | refine wS fun K hK => ?_ | refine wB ?_ | refine uR hΓ ?_ | refine uD hΓ fun B hB => ?_ | ((repeat ((fail_if_success (refine hK _ ?_)); clear hK K)); refine hK _ ?_; clear hK K) | refine u1 ?_ | refine uC (fun hb => ?_) fun hb => ?_ | refine u2 (fun hc => ?_) fun hc => ?_ | refine wI ?_ | refine ex_idx (by omega) ?_ | exact True.intro | fail)
        all_goals try (exfalso; omega)
        (first | refine wA rfl ?_ ?_ ?_ | refine dA rfl ?_ ?_ ?_); exact (I ((1 : Nat) : Int)); exact (⟨s, k, rfl, by omega, by rw [bitN_t hb0]⟩); simp (maxSteps := 2000000) only [go_sem]
        repeat' (first | exact hb.elim | refine wS fun K hK => ?_ | refine wB ?_ | refine uR hΓ ?_ | refine uD hΓ fun B hB => ?_ | ((repeat ((fail_if_success (refine hK _ ?_)); clear hK K)); refine hK _ ?_; clear hK K) | refine u1 ?_ | refine uC (fun hb => ?_) fun hb => ?_ | refine u2 (fun hc => ?_) fun hc => ?_ | refine wI ?_ | refine ex_idx (by omega) ?_ | exact True.intro | fail)
        all_goals try (exfalso; first | omega | exact ‹¬ True› trivial)
        refine ⟨k + 1, ?_, by omega, by omega⟩
        rw [hb1]
        (simp only [xe, xj, Nat.reduceEqDiff]; (try simp [view, viewL_map]); (try omega))
      | false =>
        rw [hb0, if_neg (by decide), List.append_nil] at hb1
        repeat' (first | exact hb.elim | refine wS fun K hK => ?_ | refine wB ?_ | refine uR hΓ ?_ | refine uD hΓ fun B hB => ?_ | ((repeat ((fail_if_success (refine hK _ ?_)); clear hK K)); refine hK _ ?_; clear hK K) | refine u1 ?_ | refine uC (fun hb => ?_) fun hb => ?_ | refine u2 (fun hc => ?_) fun hc => ?_ | refine wI ?_ | refine ex_idx (by omega) ?_ | exact True.intro | fail)
        all_goals try (exfalso; omega)
        (first | refine wA rfl ?_ ?_ ?_ | refine dA rfl ?_ ?_ ?_); exact (I ((0 : Nat) : Int)); exact (⟨s, k, rfl, by omega, by rw [bitN_f hb0]⟩); simp (maxSteps := 2000000) only [go_sem]
        repeat' (first | exact hb.elim | refine wS fun K hK => ?_ | refine wB ?_ | refine uR hΓ ?_ | refine uD hΓ fun B hB => ?_ | ((repeat ((fail_if_success (refine hK _ ?_)); clear hK K)); refine hK _ ?_; clear hK K) | refine u1 ?_ | refine uC (fun hb => ?_) fun hb => ?_ | refine u2 (fun hc => ?_) fun hc => ?_ | refine wI ?_ | refine ex_idx (by omega) ?_ | exact True.intro | fail)
        all_goals try (exfalso; first | omega | exact ‹¬ True› trivial)
        refine ⟨k + 1, ?_, by omega, by omega⟩
        rw [hb1]
        (simp only [xe, xj, Nat.reduceEqDiff]; (try simp [view, viewL_map]); (try omega))
    · obtain rfl : k = 4 := by omega
      repeat' (first | exact hb.elim | refine wS fun K hK => ?_ | refine wB ?_ | refine uR hΓ ?_ | refine uD hΓ fun B hB => ?_ | ((repeat ((fail_if_success (refine hK _ ?_)); clear hK K)); refine hK _ ?_; clear hK K) | refine u1 ?_ | refine uC (fun hb => ?_) fun hb => ?_ | refine u2 (fun hc => ?_) fun hc => ?_ | refine wI ?_ | refine ex_idx (by omega) ?_ | exact True.intro | fail)
      all_goals try (exfalso; omega)
      simp [Try.results15, RetOK, RetP, backA, upd_at, plainB, getP, isOwn, anyOwn, isP]
      simp [view, viewL_map, view_oo]
  · have hc : 16 ≤ n ∧ n ≤ 18 := ⟨by omega, by omega⟩
    by_cases hm0 : m = 0
    · subst hm0
      rw [← listX_act0 hc]
      repeat' (first | refine wS fun K hK => ?_ | refine wB ?_ | ((first | refine wR hΓ ?_ | refine wD hΓ fun B hB => ?_); simp (maxSteps := 2000000) only [go_sem, e1]) | ((repeat ((fail_if_success (refine hK _ ?_)); clear hK K)); refine hK _ ?_; clear hK K) | (refine w1 ?_; simp only [xs, xi, Nat.reduceEqDiff, reduceCtorEq]) | (refine wC (fun hb => ?_) fun hb => ?_ <;> (try simp only [xb, reduceCtorEq] at hb)) | (refine w2 (fun hc => ?_) (fun hc => ?_) <;> (try simp only [xc] at hc) <;> (try simp only [go_sem, hc, e1]) <;> (try simp only [xb] at hc)) | refine wI ?_ | refine ex_idx (by omega) ?_ | fail)
      all_goals try (exfalso; omega)
      refine CW.loop (ι := Nat) (fun k => [(1, I ((0 : Nat) : Int)), (6, I n), (7, oorows []), (9, I (k : Int))]) (fun k => k = 0) (fun k => 1 - k) 0 ?_ ?_
      · exact ⟨by (simp only [xe, xj, Nat.reduceEqDiff]; (try simp [view, viewL_map]); (try omega)), rfl⟩
      rintro k rfl
      simp only [envOf]
      repeat' (first | exact hb.elim | refine wS fun K hK => ?_ | refine wB ?_ | refine uR hΓ ?_ | refine uD hΓ fun B hB => ?_ | ((repeat ((fail_if_success (refine hK _ ?_)); clear hK K)); refine hK _ ?_; clear hK K) | refine u1 ?_ | refine uC (fun hb => ?_) fun hb => ?_ | refine u2 (fun hc => ?_) fun hc => ?_ | refine wI ?_ | refine ex_idx (by omega) ?_ | exact True.intro | fail)
      all_goals try (exfalso; omega)
      simp [Try.results15, RetOK, RetP, backA, upd_at, plainB, getP, isOwn, anyOwn, isP]
      simp [view, viewL_map, view_oo]
    rw [← listX_act hc hm (by omega)]
    repeat' (first | refine wS fun K hK => ?_ | refine wB ?_ | ((first | refine wR hΓ ?_ | refine wD hΓ fun B hB => ?_); simp (maxSteps := 2000000) only [go_sem, e1]) | ((repeat ((fail_if_success (refine hK _ ?_)); clear hK K)); refine hK _ ?_; clear hK K) | (refine w1 ?_; simp only [xs, xi, Nat.reduceEqDiff, reduceCtorEq]) | (refine wC (fun hb => ?_) fun hb => ?_ <;> (try simp only [xb, reduceCtorEq] at hb)) | (refine w2 (fun hc => ?_) (fun hc => ?_) <;> (try simp only [xc] at hc) <;> (try simp only [go_sem, hc, e1]) <;> (try simp only [xb] at hc)) | refine wI ?_ | refine ex_idx (by omega) ?_ | fail)
    all_goals try (exfalso; omega)
    refine CW.loop (ι := Nat) (fun k => [(1, I (m : Int)), (6, I n), (7, oorows (acL n k)), (9, I (k : Int))]) (fun k => k ≤ 16) (fun k => 16 - k) 0 ?_ ?_
    · exact ⟨by (simp only [xe, xj, Nat.reduceEqDiff]; (try simp [view, viewL_map]); (try omega)); simp [acL], by omega⟩
    rintro k hk
    simp only [envOf]
    have hl := acL_len n k
    by_cases hk16 : k < 16
    · have hb1 := acL_succ n k
      have e1 : (k : Int) / 4 = ((k / 4 : Nat) : Int) := by omega
      have e2 : (k : Int) % 4 = ((k % 4 : Nat) : Int) := by omega
      repeat' (first | exact hb.elim | refine wS fun K hK => ?_ | refine wB ?_ | refine uR hΓ ?_ | refine uD hΓ fun B hB => ?_ | ((repeat ((fail_if_success (refine hK _ ?_)); clear hK K)); refine hK _ ?_; clear hK K) | refine u1 ?_ | refine uC (fun hb => ?_) fun hb => ?_ | refine u2 (fun hc => ?_) fun hc => ?_ | refine wI ?_ | refine ex_idx (by omega) ?_ | exact True.intro | fail)
      all_goals try (exfalso; omega)
      refine ⟨k + 1, ?_, by omega, by omega⟩
      rw [hb1]
      (simp only [xe, xj, Nat.reduceEqDiff]; (try simp [view, viewL_map]); (try omega))
    · obtain rfl : k = 16 := by omega
      repeat' (first | exact hb.elim | refine wS fun K hK => ?_ | refine wB ?_ | refine uR hΓ ?_ | refine uD hΓ fun B hB => ?_ | ((repeat ((fail_if_success (refine hK _ ?_)); clear hK K)); refine hK _ ?_; clear hK K) | refine u1 ?_ | refine uC (fun hb => ?_) fun hb => ?_ | refine u2 (fun hc => ?_) fun hc => ?_ | refine wI ?_ | refine ex_idx (by omega) ?_ | exact True.intro | fail)
      all_goals try (exfalso; omega)
      simp [Try.results15, RetOK, RetP, backA, upd_at, plainB, getP, isOwn, anyOwn, isP]
      simp [view, viewL_map, view_oo]

end Go.Proofs.Ytehdfifncbokeaa

namespace Go.Proofs.Ytehdfifncbokeaa
set_option linter.unusedSimpArgs false
set_option linter.unusedVariables false
set_option maxRecDepth 8000
set_option maxHeartbeats 2000000
open Go Go.RowKit AV

def l3PlsR (N : Nat) (args : List AV) (r : AV) : Prop := ∃ (a b : Ex) (m : Nat), args = [ints (Ex.pls a b).steps, I (m : Int)] ∧ (Ex.pls a b).wf ∧ (Ex.pls a b).steps.length ≤ N ∧ m ≤ 2 ∧ r = rows (listX (.pls a b) m)
theorem l3Pls_step (N : Nat) (hN : N ≤ 1048576) (ih : CtrOK Try.prog 15 (pureC (l3R (N - 1)))) : CtrOK Try.prog 15 (pureC (l3PlsR N)) := by
  have l3List_ctr := ih
  refine ctr_pure' Try.func15 rfl rfl Try.ntmps15 ?_
  rintro _ _ ⟨a, b, m, rfl, hw, hl, hm, rfl⟩
  refine ⟨by simp, fun κ hκ => ?_⟩
  have hbig := bigW_gt
  rw [argEnv_eq]
  simp only [envA]
  have hΓ := ctxOf_ok (P := Try.prog) (cx l2Halves_ctr <| cx l3List_ctr <| cx l3Add_ctr <| cx0)
  have hpos := (Ex.pls a b).steps_pos
  have e1 : (((Ex.pls a b).steps.length : Nat) : Int) - 1 = (((Ex.pls a b).steps.length - 1 : Nat) : Int) := by omega
  have hlast : (Ex.pls a b).steps[(Ex.pls a b).steps.length - 1]'(by omega) = 20 := steps_get (x := Ex.pls a b) (by omega)
  have hlen : (Ex.pls a b).steps.length = a.steps.length + b.steps.length + 1 := by simp only [Ex.steps, List.length_append, List.length_cons, List.length_nil]; omega
  have hpa := a.steps_pos
  have hpb := b.steps_pos
  have hba := listX_bd a hm
  have hbb := listX_bd b hm
  have hres := listX_pls (x := a) (y := b) hm
  obtain ⟨A, hA⟩ : ∃ A, listX a m = A := ⟨_, rfl⟩
  obtain ⟨B0, hB0⟩ : ∃ B, listX b m = B := ⟨_, rfl⟩
  rw [hA, hB0] at hres
  rw [hA] at hba
  rw [hB0] at hbb
  rw [← hres]
  repeat' (first | refine wS fun K hK => ?_ | refine wB ?_ | ((first | refine wR hΓ ?_ | refine wD hΓ fun B hB => ?_); simp (maxSteps := 2000000) only [go_sem, e1, hlast]) | ((repeat ((fail_if_success (refine hK _ ?_)); clear hK K)); refine hK _ ?_; clear hK K) | (refine w1 ?_; simp only [xs, xi, Nat.reduceEqDiff, reduceCtorEq]) | (refine wC (fun hb => ?_) fun hb => ?_ <;> (try simp only [xb, reduceCtorEq] at hb)) | (refine w2 (fun hc => ?_) (fun hc => ?_) <;> (try simp only [xc] at hc) <;> (try simp only [go_sem, hc, e1, hlast]) <;> (try simp only [xb] at hc)) | refine wI ?_ | refine ex_idx (by omega) ?_ | fail)
  all_goals try (exfalso; omega)
  (first | refine wA rfl _ (⟨a, b, 20, rfl, hw.1, hw.2, by show (Ex.pls a b).steps.length ≤ _; omega, rfl⟩) ?_ | refine dA rfl _ (⟨a, b, 20, rfl, hw.1, hw.2, by show (Ex.pls a b).steps.length ≤ _; omega, rfl⟩) ?_); simp (maxSteps := 2000000) only [go_sem]
  repeat' (first | exact hb.elim | refine wS fun K hK => ?_ | refine wB ?_ | refine uR hΓ ?_ | refine uD hΓ fun B hB => ?_ | ((repeat ((fail_if_success (refine hK _ ?_)); clear hK K)); refine hK _ ?_; clear hK K) | refine u1 ?_ | refine uC (fun hb => ?_) fun hb => ?_ | refine u2 (fun hc => ?_) fun hc => ?_ | refine wI ?_ | refine ex_idx (by omega) ?_ | exact True.intro | fail)
  (first | refine wA rfl _ (⟨a, m, rfl, hw.1, by omega, hm, rfl⟩) ?_ | refine dA rfl _ (⟨a, m, rfl, hw.1, by omega, hm, rfl⟩) ?_); simp (maxSteps := 2000000) only [go_sem]
  repeat' (first | exact hb.elim | refine wS fun K hK => ?_ | refine wB ?_ | refine uR hΓ ?_ | refine uD hΓ fun B hB => ?_ | ((repeat ((fail_if_success (refine hK _ ?_)); clear hK K)); refine hK _ ?_; clear hK K) | refine u1 ?_ | refine uC (fun hb => ?_) fun hb => ?_ | refine u2 (fun hc => ?_) fun hc => ?_ | refine wI ?_ | refine ex_idx (by omega) ?_ | exact True.intro | fail)
  (first | refine wA rfl _ (⟨b, m, rfl, hw.2, by omega, hm, rfl⟩) ?_ | refine dA rfl _ (⟨b, m, rfl, hw.2, by omega, hm, rfl⟩) ?_); simp (maxSteps := 2000000) only [go_sem]
  rw [hA, hB0]
  repeat' (first | exact hb.elim | refine wS fun K hK => ?_ | refine wB ?_ | refine uR hΓ ?_ | refine uD hΓ fun B hB => ?_ | ((repeat ((fail_if_success (refine hK _ ?_)); clear hK K)); refine hK _ ?_; clear hK K) | refine u1 ?_ | refine uC (fun hb => ?_) fun hb => ?_ | refine u2 (fun hc => ?_) fun hc => ?_ | refine wI ?_ | refine ex_idx (by omega) ?_ | exact True.intro | fail)
  refine CW.loop (ι := Nat) (fun k => [(7, rows (addsL A (B0.take k))), (12, rows B0), (13, I (k : Int))]) (fun k => k ≤ B0.length) (fun k => B0.length - k) 0 ?_ ?_
  · exact ⟨by (simp only [xe, xj, Nat.reduceEqDiff]; (try simp [view, viewL_map]); (try omega)); simp [addsL_nil], by omega⟩
  rintro k hk
  simp only [envOf]
  have had := addsL_bd (l := A) (m := B0.take k) hba.1 (B := 676) (by simp; omega) hba.2 (take_bd hbb.2)
  repeat' (first | exact hb.elim | refine wS fun K hK => ?_ | refine wB ?_ | refine uR hΓ ?_ | refine uD hΓ fun B hB => ?_ | ((repeat ((fail_if_success (refine hK _ ?_)); clear hK K)); refine hK _ ?_; clear hK K) | refine u1 ?_ | refine uC (fun hb => ?_) fun hb => ?_ | refine u2 (fun hc => ?_) fun hc => ?_ | refine wI ?_ | refine ex_idx (by omega) ?_ | exact True.intro | fail)
  · have hkl : k < B0.length := by omega
    have hbk := hbb.2 _ (List.getElem_mem hkl)
    (first | refine wA rfl _ (⟨_, _, rfl, by omega, fun t ht => by have := had.2 t ht; omega, by omega, rfl⟩) ?_ | refine dA rfl _ (⟨_, _, rfl, by omega, fun t ht => by have := had.2 t ht; omega, by omega, rfl⟩) ?_); simp (maxSteps := 2000000) only [go_sem]
    repeat' (first | exact hb.elim | refine wS fun K hK => ?_ | refine wB ?_ | refine uR hΓ ?_ | refine uD hΓ fun B hB => ?_ | ((repeat ((fail_if_success (refine hK _ ?_)); clear hK K)); refine hK _ ?_; clear hK K) | refine u1 ?_ | refine uC (fun hb => ?_) fun hb => ?_ | refine u2 (fun hc => ?_) fun hc => ?_ | refine wI ?_ | refine ex_idx (by omega) ?_ | exact True.intro | fail)
    refine ⟨k + 1, ?_, by omega, by omega⟩
    rw [addsL_take _ _ hkl]
    (simp only [xe, xj, Nat.reduceEqDiff]; (try simp [view, viewL_map]); (try omega))
  · have hke : B0.take k = B0 := List.take_of_length_le (by omega)
    rw [hke]
    simp [Try.results15, RetOK, RetP, backA, upd_at, plainB, getP, isOwn, anyOwn, isP]

end Go.Proofs.Ytehdfifncbokeaa

namespace Go.Proofs.Ytehdfifncbokeaa
set_option linter.unusedSimpArgs false
set_option linter.unusedVariables false
set_option maxRecDepth 8000
set_option maxHeartbeats 2000000
open Go Go.RowKit AV

def l3ThnR (N : Nat) (args : List AV) (r : AV) : Prop := ∃ (a b : Ex) (m : Nat), args = [ints (Ex.thn a b).steps, I (m : Int)] ∧ (Ex.thn a b).wf ∧ (Ex.thn a b).steps.length ≤ N ∧ m ≤ 2 ∧ r = rows (listX (.thn a b) m)
theorem l3Thn_step (N : Nat) (hN : N ≤ 1048576) (ih : CtrOK Try.prog 15 (pureC (l3R (N - 1)))) : CtrOK Try.prog 15 (pureC (l3ThnR N)) := by
  have l3List_ctr := ih
  refine ctr_pure' Try.func15 rfl rfl Try.ntmps15 ?_
  rintro _ _ ⟨a, b, m, rfl, hw, hl, hm, rfl⟩
  refine ⟨by simp, fun κ hκ => ?_⟩
  have hbig := bigW_gt
  rw [argEnv_eq]
  simp only [envA]
  have hΓ := ctxOf_ok (P := Try.prog) (cx l2Halves_ctr <| cx l3List_ctr <| cx l3Fuse_ctr <| cx0)
  have hpos := (Ex.thn a b).steps_pos
  have e1 : (((Ex.thn a b).steps.length : Nat) : Int) - 1 = (((Ex.thn a b).steps.length - 1 : Nat) : Int) := by omega
  have hlast : (Ex.thn a b).steps[(Ex.thn a b).steps.length - 1]'(by omega) = 19 := steps_get (x := Ex.thn a b) (by omega)
  have hlen : (Ex.thn a b).steps.length = a.steps.length + b.steps.length + 1 := by simp only [Ex.steps, List.length_append, List.length_cons, List.length_nil]; omega
  have hpa := a.steps_pos
  have hpb := b.steps_pos
  have hba := listX_bd a hm
  have hbb := listX_bd b hm
  have hres := listX_thn (x := a) (y := b) hm
  obtain ⟨A, hA⟩ : ∃ A, listX a m = A := ⟨_, rfl⟩
  obtain ⟨B0, hB0⟩ : ∃ B, listX b m = B := ⟨_, rfl⟩
  rw [hA, hB0] at hres
  rw [hA] at hba
  rw [hB0] at hbb
  rw [← hres]
  repeat' (first | refine wS fun K hK => ?_ | refine wB ?_ | ((first | refine wR hΓ ?_ | refine wD hΓ fun B hB => ?_); simp (maxSteps := 2000000) only [go_sem, e1, hlast]) | ((repeat ((fail_if_success (refine hK _ ?_)); clear hK K)); refine hK _ ?_; clear hK K) | (refine w1 ?_; simp only [xs, xi, Nat.reduceEqDiff, reduceCtorEq]) | (refine wC (fun hb => ?_) fun hb => ?_ <;> (try simp only [xb, reduceCtorEq] at hb)) | (refine w2 (fun hc => ?_) (fun hc => ?_) <;> (try simp only [xc] at hc) <;> (try simp only [go_sem, hc, e1, hlast]) <;> (try simp only [xb] at hc)) | refine wI ?_ | refine ex_idx (by omega) ?_ | fail)
  all_goals try (exfalso; omega)
  (first | refine wA rfl _ (⟨a, b, 19, rfl, hw.1, hw.2, by show (Ex.thn a b).steps.length ≤ _; omega, rfl⟩) ?_ | refine dA rfl _ (⟨a, b, 19, rfl, hw.1, hw.2, by show (Ex.thn a b).steps.length ≤ _; omega, rfl⟩) ?_); simp (maxSteps := 2000000) only [go_sem]
  repeat' (first | exact hb.elim | refine wS fun K hK => ?_ | refine wB ?_ | refine uR hΓ ?_ | refine uD hΓ fun B hB => ?_ | ((repeat ((fail_if_success (refine hK _ ?_)); clear hK K)); refine hK _ ?_; clear hK K) | refine u1 ?_ | refine uC (fun hb => ?_) fun hb => ?_ | refine u2 (fun hc => ?_) fun hc => ?_ | refine wI ?_ | refine ex_idx (by omega) ?_ | exact True.intro | fail)
  (first | refine wA rfl _ (⟨a, m, rfl, hw.1, by omega, hm, rfl⟩) ?_ | refine dA rfl _ (⟨a, m, rfl, hw.1, by omega, hm, rfl⟩) ?_); simp (maxSteps := 2000000) only [go_sem]
  (first | refine wA rfl _ (⟨b, m, rfl, hw.2, by omega, hm, rfl⟩) ?_ | refine dA rfl _ (⟨b, m, rfl, hw.2, by omega, hm, rfl⟩) ?_); simp (maxSteps := 2000000) only [go_sem]
  rw [hA, hB0]
  (first | refine wA rfl _ (⟨A, B0, m, rfl, by omega, by omega, fun t ht => by have := hba.2 t ht; omega, fun t ht => by have := hbb.2 t ht; omega, hm, rfl⟩) ?_ | refine dA rfl _ (⟨A, B0, m, rfl, by omega, by omega, fun t ht => by have := hba.2 t ht; omega, fun t ht => by have := hbb.2 t ht; omega, hm, rfl⟩) ?_); simp (maxSteps := 2000000) only [go_sem]
  repeat' (first | exact hb.elim | refine wS fun K hK => ?_ | refine wB ?_ | refine uR hΓ ?_ | refine uD hΓ fun B hB => ?_ | ((repeat ((fail_if_success (refine hK _ ?_)); clear hK K)); refine hK _ ?_; clear hK K) | refine u1 ?_ | refine uC (fun hb => ?_) fun hb => ?_ | refine u2 (fun hc => ?_) fun hc => ?_ | refine wI ?_ | refine ex_idx (by omega) ?_ | exact True.intro | fail)
  simp [Try.results15, RetOK, RetP, backA, upd_at, plainB, getP, isOwn, anyOwn, isP]

end Go.Proofs.Ytehdfifncbokeaa

namespace Go.Proofs.Ytehdfifncbokeaa
set_option linter.unusedSimpArgs false
set_option linter.unusedVariables false
set_option maxRecDepth 8000
set_option maxHeartbeats 2000000
open Go Go.RowKit AV

def l3StrR (N : Nat) (args : List AV) (r : AV) : Prop := ∃ (a : Ex) (m : Nat), args = [ints (Ex.str a).steps, I (m : Int)] ∧ (Ex.str a).wf ∧ (Ex.str a).steps.length ≤ N ∧ m ≤ 2 ∧ r = rows (listX (.str a) m)
theorem l3Str_step (N : Nat) (hN : N ≤ 1048576) (ih : CtrOK Try.prog 15 (pureC (l3R (N - 1)))) : CtrOK Try.prog 15 (pureC (l3StrR N)) := by
  have l3List_ctr := ih
  refine ctr_pure' Try.func15 rfl rfl Try.ntmps15 ?_
  rintro _ _ ⟨a, m, rfl, hw, hl, hm, rfl⟩
  refine ⟨by simp, fun κ hκ => ?_⟩
  have hbig := bigW_gt
  rw [argEnv_eq]
  simp only [envA]
  have hΓ := ctxOf_ok (P := Try.prog) (cx l3List_ctr <| cx l3Add_ctr <| cx l3Fuse_ctr <| cx0)
  have hpos := (Ex.str a).steps_pos
  have e1 : (((Ex.str a).steps.length : Nat) : Int) - 1 = (((Ex.str a).steps.length - 1 : Nat) : Int) := by omega
  have hlast : (Ex.str a).steps[(Ex.str a).steps.length - 1]'(by omega) = 21 := steps_get (x := Ex.str a) (by omega)
  have hlen : (Ex.str a).steps.length = a.steps.length + 1 := by simp only [Ex.steps, List.length_append, List.length_cons, List.length_nil]
  have ht : (Ex.str a).steps.take ((Ex.str a).steps.length - 1) = a.steps := by rw [hlen]; simp [Ex.steps]
  have hpa := a.steps_pos
  have hba := listX_bd a hm
  have hnow := stNow_bd a hm
  have hout := stOut_bd a hm
  have hres := listX_str (x := a) hm
  obtain ⟨A, hA⟩ : ∃ A, listX a m = A := ⟨_, rfl⟩
  rw [hA] at hres hba
  simp only [hA] at hnow hout
  rw [← hres]
  repeat' (first | refine wS fun K hK => ?_ | refine wB ?_ | ((first | refine wR hΓ ?_ | refine wD hΓ fun B hB => ?_); simp (maxSteps := 2000000) only [go_sem, e1, hlast]) | ((repeat ((fail_if_success (refine hK _ ?_)); clear hK K)); refine hK _ ?_; clear hK K) | (refine w1 ?_; simp only [xs, xi, Nat.reduceEqDiff, reduceCtorEq]) | (refine wC (fun hb => ?_) fun hb => ?_ <;> (try simp only [xb, reduceCtorEq] at hb)) | (refine w2 (fun hc => ?_) (fun hc => ?_) <;> (try simp only [xc] at hc) <;> (try simp only [go_sem, hc, e1, hlast]) <;> (try simp only [xb] at hc)) | refine wI ?_ | refine ex_idx (by omega) ?_ | fail)
  all_goals try (exfalso; omega)
  simp only [← List.map_take, ht]
  (first | refine wA rfl _ (⟨a, m, rfl, hw, by omega, hm, rfl⟩) ?_ | refine dA rfl _ (⟨a, m, rfl, hw, by omega, hm, rfl⟩) ?_); simp (maxSteps := 2000000) only [go_sem]
  rw [hA]
  repeat' (first | exact hb.elim | refine wS fun K hK => ?_ | refine wB ?_ | refine uR hΓ ?_ | refine uD hΓ fun B hB => ?_ | ((repeat ((fail_if_success (refine hK _ ?_)); clear hK K)); refine hK _ ?_; clear hK K) | refine u1 ?_ | refine uC (fun hb => ?_) fun hb => ?_ | refine u2 (fun hc => ?_) fun hc => ?_ | refine wI ?_ | refine ex_idx (by omega) ?_ | exact True.intro | fail)
  refine CW.loop (ι := Nat) (fun k => [(1, I (m : Int)), (7, rows (stOut A m k)), (16, rows A), (17, rows (stNow A m k)), (18, I (k : Int))]) (fun k => k ≤ m + 1) (fun k => m + 1 - k) 0 ?_ ?_
  · exact ⟨by (simp only [xe, xj, Nat.reduceEqDiff]; (try simp [view, viewL_map]); (try omega)); simp [stOut, stNow, view, viewL], by omega⟩
  rintro k hk
  simp only [envOf]
  have hnk := hnow k
  have hok := hout k
  have hns : stNow A m (k + 1) = fuseL (stNow A m k) A m := rfl
  have hos : stOut A m (k + 1) = addsL (stOut A m k) (stNow A m k) := rfl
  by_cases hkm : k ≤ m
  rotate_left
  · obtain rfl : k = m + 1 := by omega
    repeat' (first | exact hb.elim | refine wS fun K hK => ?_ | refine wB ?_ | refine uR hΓ ?_ | refine uD hΓ fun B hB => ?_ | ((repeat ((fail_if_success (refine hK _ ?_)); clear hK K)); refine hK _ ?_; clear hK K) | refine u1 ?_ | refine uC (fun hb => ?_) fun hb => ?_ | refine u2 (fun hc => ?_) fun hc => ?_ | refine wI ?_ | refine ex_idx (by omega) ?_ | exact True.intro | fail)
    all_goals try (exfalso; omega)
    simp [Try.results15, RetOK, RetP, backA, upd_at, plainB, getP, isOwn, anyOwn, isP]
  obtain ⟨Nw, hNw⟩ : ∃ B, stNow A m k = B := ⟨_, rfl⟩
  obtain ⟨O, hO⟩ : ∃ B, stOut A m k = B := ⟨_, rfl⟩
  rw [hNw] at hnk hns hos ⊢
  rw [hO] at hok hos ⊢
  repeat' (first | exact hb.elim | refine wS fun K hK => ?_ | refine wB ?_ | refine uR hΓ ?_ | refine uD hΓ fun B hB => ?_ | ((repeat ((fail_if_success (refine hK _ ?_)); clear hK K)); refine hK _ ?_; clear hK K) | refine u1 ?_ | refine uC (fun hb => ?_) fun hb => ?_ | refine u2 (fun hc => ?_) fun hc => ?_ | refine wI ?_ | refine ex_idx (by omega) ?_ | exact True.intro | fail)
  all_goals try (exfalso; omega)
  refine CW.loop (ι := Nat) (fun j => [(1, I (m : Int)), (7, rows (addsL O (Nw.take j))), (16, rows A), (17, rows Nw), (18, I (k : Int)), (19, I (j : Int))]) (fun j => j ≤ Nw.length) (fun j => Nw.length - j) 0 ?_ ?_
  · exact ⟨by (simp only [xe, xj, Nat.reduceEqDiff]; (try simp [view, viewL_map]); (try omega)); simp [addsL_nil], by omega⟩
  rintro j hj
  simp only [envOf]
  have had := addsL_bd (l := O) (m := Nw.take j) (A := 676 * k) (by omega) (B := 676) (by simp; omega) hok.2 (take_bd hnk.2)
  by_cases hjl : j < Nw.length
  · have hbk := hnk.2 _ (List.getElem_mem hjl)
    repeat' (first | exact hb.elim | refine wS fun K hK => ?_ | refine wB ?_ | refine uR hΓ ?_ | refine uD hΓ fun B hB => ?_ | ((repeat ((fail_if_success (refine hK _ ?_)); clear hK K)); refine hK _ ?_; clear hK K) | refine u1 ?_ | refine uC (fun hb => ?_) fun hb => ?_ | refine u2 (fun hc => ?_) fun hc => ?_ | refine wI ?_ | refine ex_idx (by omega) ?_ | exact True.intro | fail)
    all_goals try (exfalso; omega)
    (first | refine wA rfl _ (⟨_, _, rfl, by omega, fun t ht => by have := had.2 t ht; omega, by omega, rfl⟩) ?_ | refine dA rfl _ (⟨_, _, rfl, by omega, fun t ht => by have := had.2 t ht; omega, by omega, rfl⟩) ?_); simp (maxSteps := 2000000) only [go_sem]
    repeat' (first | exact hb.elim | refine wS fun K hK => ?_ | refine wB ?_ | refine uR hΓ ?_ | refine uD hΓ fun B hB => ?_ | ((repeat ((fail_if_success (refine hK _ ?_)); clear hK K)); refine hK _ ?_; clear hK K) | refine u1 ?_ | refine uC (fun hb => ?_) fun hb => ?_ | refine u2 (fun hc => ?_) fun hc => ?_ | refine wI ?_ | refine ex_idx (by omega) ?_ | exact True.intro | fail)
    refine ⟨j + 1, ?_, by omega, by omega⟩
    rw [addsL_take _ _ hjl]
    (simp only [xe, xj, Nat.reduceEqDiff]; (try simp [view, viewL_map]); (try omega))
  · have hke : Nw.take j = Nw := List.take_of_length_le (by omega)
    rw [hke]
    repeat' (first | exact hb.elim | refine wS fun K hK => ?_ | refine wB ?_ | refine uR hΓ ?_ | refine uD hΓ fun B hB => ?_ | ((repeat ((fail_if_success (refine hK _ ?_)); clear hK K)); refine hK _ ?_; clear hK K) | refine u1 ?_ | refine uC (fun hb => ?_) fun hb => ?_ | refine u2 (fun hc => ?_) fun hc => ?_ | refine wI ?_ | refine ex_idx (by omega) ?_ | exact True.intro | fail)
    all_goals try (exfalso; omega)
    (first | refine wA rfl _ (⟨Nw, A, m, rfl, by omega, by omega, fun t ht => by have := hnk.2 t ht; omega, fun t ht => by have := hba.2 t ht; omega, hm, rfl⟩) ?_ | refine dA rfl _ (⟨Nw, A, m, rfl, by omega, by omega, fun t ht => by have := hnk.2 t ht; omega, fun t ht => by have := hba.2 t ht; omega, hm, rfl⟩) ?_); simp (maxSteps := 2000000) only [go_sem]
    repeat' (first | exact hb.elim | refine wS fun K hK => ?_ | refine wB ?_ | refine uR hΓ ?_ | refine uD hΓ fun B hB => ?_ | ((repeat ((fail_if_success (refine hK _ ?_)); clear hK K)); refine hK _ ?_; clear hK K) | refine u1 ?_ | refine uC (fun hb => ?_) fun hb => ?_ | refine u2 (fun hc => ?_) fun hc => ?_ | refine wI ?_ | refine ex_idx (by omega) ?_ | exact True.intro | fail)
    refine ⟨k + 1, ?_, by omega, by omega⟩
    rw [hns, hos]
    (simp only [xe, xj, Nat.reduceEqDiff]; (try simp [view, viewL_map]); (try omega))

end Go.Proofs.Ytehdfifncbokeaa
