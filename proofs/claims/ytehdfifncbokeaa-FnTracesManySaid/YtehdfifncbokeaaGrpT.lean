/- A row cloned, in the program: walked by the engine. -/
import Derived.Test.YtehdfifncbokeaaTy
import Derived.Test.YtehdfifncbokeaaEngMin
import Derived.Test.YtehdfifncbokeaaGrpK
import Derived.Test.YtehdfifncbokeaaGrpJ
namespace Go.Proofs.Ytehdfifncbokeaa
set_option linter.unusedSimpArgs false
set_option linter.unusedVariables false
set_option maxRecDepth 8000
set_option maxHeartbeats 2000000
open Go Go.RowKit AV

def cloneR (args : List AV) (r : AV) : Prop := ∃ l : List Int, args = [ints l] ∧ l ≠ [] ∧ l.length ≤ 274877906944 ∧ r = oints l
theorem clone_ctr : CtrOK Try.prog 47 (pureC cloneR) := by
  refine ctr_pure' Try.func47 rfl rfl Try.ntmps47 ?_
  rintro _ _ ⟨l, rfl, hn, hl, rfl⟩
  refine ⟨by simp, fun κ hκ => ?_⟩
  have hbig := bigW_gt
  rw [argEnv_eq]
  simp only [envA]
  have hΓ := noCtx_ok Try.prog
  have hne : (l.map I = []) = False := by simpa using hn
  repeat' (first | refine wS fun K hK => ?_ | refine wB ?_ | ((first | refine wR hΓ ?_ | refine wD hΓ fun B hB => ?_); simp (maxSteps := 2000000) only [go_sem, hne]) | ((repeat ((fail_if_success (refine hK _ ?_)); clear hK K)); refine hK _ ?_; clear hK K) | (refine w1 ?_; simp only [xs, xi, Nat.reduceEqDiff, reduceCtorEq]) | (refine wC (fun hb => ?_) fun hb => ?_ <;> (try simp only [xb, reduceCtorEq] at hb)) | (refine w2 (fun hc => ?_) (fun hc => ?_) <;> (try simp only [xc] at hc) <;> (try simp only [go_sem, hc, hne]) <;> (try simp only [xb] at hc)) | refine wI ?_ | refine ex_idx (by omega) ?_ | fail)
  simp [Try.results47, RetOK, RetP, backA, upd_at, plainB, getP, isOwn, anyOwn, isP]

end Go.Proofs.Ytehdfifncbokeaa

namespace Go.Proofs.Ytehdfifncbokeaa
set_option linter.unusedSimpArgs false
set_option linter.unusedVariables false
set_option maxRecDepth 8000
set_option maxHeartbeats 2000000
open Go Go.RowKit AV

end Go.Proofs.Ytehdfifncbokeaa

namespace Go.Proofs.Ytehdfifncbokeaa
set_option linter.unusedSimpArgs false
set_option linter.unusedVariables false
set_option maxRecDepth 8000
set_option maxHeartbeats 2000000
open Go Go.RowKit AV

end Go.Proofs.Ytehdfifncbokeaa

namespace Go.Proofs.Ytehdfifncbokeaa
set_option linter.unusedSimpArgs false
set_option linter.unusedVariables false
set_option maxRecDepth 8000
set_option maxHeartbeats 2000000
open Go Go.RowKit AV

def trFrom : Nat → List Int → List (List Int)
  | 0, t => [t]
  | m + 1, t => [t] ++ ((List.range 12).flatMap fun k => trFrom m (t ++ [16 + ((k / 4 : Nat) : Int), ((k % 4 : Nat) : Int)]))
theorem trFrom_len : ∀ (m : Nat) (t : List Int), (trFrom m t).length ≤ 13 ^ m
  | 0, t => by simp [trFrom]
  | m + 1, t => by
    have h : ((List.range 12).flatMap fun k => trFrom m (t ++ [16 + ((k / 4 : Nat) : Int), ((k % 4 : Nat) : Int)])).length ≤ (List.range 12).length * 13 ^ m := by
      rw [List.length_flatMap]
      generalize List.range 12 = l
      induction l with
      | nil => simp
      | cons a l ih =>
        have := trFrom_len m (t ++ [16 + ((a / 4 : Nat) : Int), ((a % 4 : Nat) : Int)])
        simp only [List.map_cons, List.sum_cons, List.length_cons, Nat.add_mul, Nat.one_mul]
        omega
    have h1 : 1 ≤ 13 ^ m := Nat.one_le_pow _ _ (by omega)
    simp only [trFrom, List.length_append, List.length_cons, List.length_nil]
    rw [Nat.pow_succ]
    simp only [List.length_range] at h
    omega

def trUp (m : Nat) (t : List Int) (k : Nat) : List (List Int) := [t] ++ ((List.range k).flatMap fun k => trFrom m (t ++ [16 + ((k / 4 : Nat) : Int), ((k % 4 : Nat) : Int)]))
theorem trUp_succ (m : Nat) (t : List Int) (k : Nat) : trUp m t (k + 1) = trUp m t k ++ trFrom m (t ++ [16 + ((k / 4 : Nat) : Int), ((k % 4 : Nat) : Int)]) := by
  simp [trUp, List.range_succ]
theorem trUp_len (m : Nat) (t : List Int) (k : Nat) : (trUp m t k).length ≤ 1 + k * 13 ^ m := by
  induction k with
  | zero => simp [trUp]
  | succ k ih =>
    have := trFrom_len m (t ++ [16 + ((k / 4 : Nat) : Int), ((k % 4 : Nat) : Int)])
    rw [trUp_succ, List.length_append, Nat.add_mul, Nat.one_mul]
    omega

def trFromR (N : Nat) (args : List AV) (r : AV) : Prop := ∃ (t : List Int) (m : Nat), args = [ints t, I (m : Int)] ∧ t ≠ [] ∧ t.length + 2 * m ≤ 1000 ∧ m ≤ N ∧ r = oorows (trFrom m t)
theorem trFrom_step (N : Nat) (hN : N ≤ 5) (ih : CtrOK Try.prog 40 (pureC (trFromR (N - 1)))) : CtrOK Try.prog 40 (pureC (trFromR N)) := by
  have trf_ctr := ih
  refine ctr_pure' Try.func40 rfl rfl Try.ntmps40 ?_
  rintro _ _ ⟨t, m, rfl, hne, hl, hm, rfl⟩
  refine ⟨by simp, fun κ hκ => ?_⟩
  have hbig := bigW_gt
  rw [argEnv_eq]
  simp only [envA]
  have hΓ := ctxOf_ok (P := Try.prog) (cx clone_ctr <| cx trf_ctr <| cx0)
  repeat' (first | exact hb.elim | refine wS fun K hK => ?_ | refine wB ?_ | refine uR hΓ ?_ | refine uD hΓ fun B hB => ?_ | ((repeat ((fail_if_success (refine hK _ ?_)); clear hK K)); refine hK _ ?_; clear hK K) | refine u1 ?_ | refine uC (fun hb => ?_) fun hb => ?_ | refine u2 (fun hc => ?_) fun hc => ?_ | refine wI ?_ | refine ex_idx (by omega) ?_ | exact True.intro | fail)
  (first | refine wA rfl _ (⟨t, rfl, hne, by omega, rfl⟩) ?_ | refine dA rfl _ (⟨t, rfl, hne, by omega, rfl⟩) ?_); simp (maxSteps := 2000000) only [go_sem]
  repeat' (first | exact hb.elim | refine wS fun K hK => ?_ | refine wB ?_ | refine uR hΓ ?_ | refine uD hΓ fun B hB => ?_ | ((repeat ((fail_if_success (refine hK _ ?_)); clear hK K)); refine hK _ ?_; clear hK K) | refine u1 ?_ | refine uC (fun hb => ?_) fun hb => ?_ | refine u2 (fun hc => ?_) fun hc => ?_ | refine wI ?_ | refine ex_idx (by omega) ?_ | exact True.intro | fail)
  · have h0 : m = 0 := by omega
    subst h0
    simp [Try.results40, RetOK, RetP, backA, upd_at, plainB, getP, isOwn, anyOwn, isP]
    exact .inl ⟨t, rfl, rfl⟩
  obtain ⟨d, rfl⟩ : ∃ d, m = d + 1 := ⟨m - 1, by omega⟩
  have ed : ((d + 1 : Nat) : Int) - 1 = (d : Int) := by omega
  have h13 : 13 ^ d ≤ 13 ^ 5 := Nat.pow_le_pow_right (by omega) (by omega)
  refine CW.loop (ι := Nat) (fun a => [(0, ints t), (1, I ((d + 1 : Nat) : Int)), (5, oorows (trUp d t (4 * a))), (6, I (16 + (a : Int)))]) (fun a => a ≤ 3) (fun a => 3 - a) 0 ?_ ?_
  · exact ⟨by (simp only [xe, xj, Nat.reduceEqDiff]; (try simp [view, viewL_map]); (try omega)); simp [trUp], by omega⟩
  rintro a ha
  simp only [envOf]
  repeat' (first | exact hb.elim | refine wS fun K hK => ?_ | refine wB ?_ | refine uR hΓ ?_ | refine uD hΓ fun B hB => ?_ | ((repeat ((fail_if_success (refine hK _ ?_)); clear hK K)); refine hK _ ?_; clear hK K) | refine u1 ?_ | refine uC (fun hb => ?_) fun hb => ?_ | refine u2 (fun hc => ?_) fun hc => ?_ | refine wI ?_ | refine ex_idx (by omega) ?_ | exact True.intro | fail)
  · refine CW.loop (ι := Nat) (fun b => [(0, ints t), (1, I ((d + 1 : Nat) : Int)), (5, oorows (trUp d t (4 * a + b))), (6, I (16 + (a : Int))), (18, I (b : Int))]) (fun b => b ≤ 4) (fun b => 4 - b) 0 ?_ ?_
    · exact ⟨by (simp only [xe, xj, Nat.reduceEqDiff]; (try simp [view, viewL_map]); (try omega)), by omega⟩
    rintro b hb4
    simp only [envOf]
    have e1 : (4 * a + b) / 4 = a ∨ b = 4 := by omega
    have e2 : (4 * a + b) % 4 = b ∨ b = 4 := by omega
    have htl := trUp_len d t (4 * a + b)
    have hmul : (4 * a + b) * 13 ^ d ≤ 16 * 13 ^ 5 := Nat.mul_le_mul (by omega) h13
    have hfl := trFrom_len d (t ++ [16 + (a : Int), (b : Int)])
    repeat' (first | exact hb.elim | refine wS fun K hK => ?_ | refine wB ?_ | refine uR hΓ ?_ | refine uD hΓ fun B hB => ?_ | ((repeat ((fail_if_success (refine hK _ ?_)); clear hK K)); refine hK _ ?_; clear hK K) | refine u1 ?_ | refine uC (fun hb => ?_) fun hb => ?_ | refine u2 (fun hc => ?_) fun hc => ?_ | refine wI ?_ | refine ex_idx (by omega) ?_ | exact True.intro | fail)
    · (first | refine wA rfl _ (⟨t, rfl, hne, by omega, rfl⟩) ?_ | refine dA rfl _ (⟨t, rfl, hne, by omega, rfl⟩) ?_); simp (maxSteps := 2000000) only [go_sem]
      repeat' (first | refine wS fun K hK => ?_ | refine wB ?_ | ((first | refine wR hΓ ?_ | refine wD hΓ fun B hB => ?_); simp (maxSteps := 2000000) only [go_sem, ed]) | ((repeat ((fail_if_success (refine hK _ ?_)); clear hK K)); refine hK _ ?_; clear hK K) | (refine w1 ?_; simp only [xs, xi, Nat.reduceEqDiff, reduceCtorEq]) | (refine wC (fun hb => ?_) fun hb => ?_ <;> (try simp only [xb, reduceCtorEq] at hb)) | (refine w2 (fun hc => ?_) (fun hc => ?_) <;> (try simp only [xc] at hc) <;> (try simp only [go_sem, hc, ed]) <;> (try simp only [xb] at hc)) | refine wI ?_ | refine ex_idx (by omega) ?_ | fail)
      (first | refine wA rfl _ (⟨t ++ [16 + (a : Int), (b : Int)], d, by simp [view_I, view], by simp, by simp; omega, by omega, rfl⟩) ?_ | refine dA rfl _ (⟨t ++ [16 + (a : Int), (b : Int)], d, by simp [view_I, view], by simp, by simp; omega, by omega, rfl⟩) ?_); simp (maxSteps := 2000000) only [go_sem]
      repeat' (first | exact hb.elim | refine wS fun K hK => ?_ | refine wB ?_ | refine uR hΓ ?_ | refine uD hΓ fun B hB => ?_ | ((repeat ((fail_if_success (refine hK _ ?_)); clear hK K)); refine hK _ ?_; clear hK K) | refine u1 ?_ | refine uC (fun hb => ?_) fun hb => ?_ | refine u2 (fun hc => ?_) fun hc => ?_ | refine wI ?_ | refine ex_idx (by omega) ?_ | exact True.intro | fail)
      have hk : trUp d t (4 * a + (b + 1)) = trUp d t (4 * a + b) ++ trFrom d (t ++ [16 + (a : Int), (b : Int)]) := by
        rw [show 4 * a + (b + 1) = (4 * a + b) + 1 by omega, trUp_succ, e1.resolve_right (by omega), e2.resolve_right (by omega)]
      refine ⟨b + 1, ?_, by omega, by omega⟩
      rw [hk]
      (simp only [xe, xj, Nat.reduceEqDiff]; (try simp [view, viewL_map]); (try omega))
    · have hb4' : b = 4 := by omega
      refine ⟨a + 1, ?_, by omega, by omega⟩
      rw [show 4 * (a + 1) = 4 * a + b by omega]
      (simp only [xe, xj, Nat.reduceEqDiff]; (try simp [view, viewL_map]); (try omega))
  · have ha3 : a = 3 := by omega
    subst ha3
    have hfin : trUp d t (4 * 3) = trFrom (d + 1) t := rfl
    rw [hfin]
    simp [Try.results40, RetOK, RetP, backA, upd_at, plainB, getP, isOwn, anyOwn, isP]

theorem trFrom_zero : CtrOK Try.prog 40 (pureC (trFromR 0)) := by
  refine ctr_pure' Try.func40 rfl rfl Try.ntmps40 ?_
  rintro _ _ ⟨t, m, rfl, hne, hl, hm, rfl⟩
  refine ⟨by simp, fun κ hκ => ?_⟩
  have hbig := bigW_gt
  rw [argEnv_eq]
  simp only [envA]
  have hΓ := ctxOf_ok (P := Try.prog) (cx clone_ctr <| cx0)
  have h0 : m = 0 := by omega
  subst h0
  repeat' (first | exact hb.elim | refine wS fun K hK => ?_ | refine wB ?_ | refine uR hΓ ?_ | refine uD hΓ fun B hB => ?_ | ((repeat ((fail_if_success (refine hK _ ?_)); clear hK K)); refine hK _ ?_; clear hK K) | refine u1 ?_ | refine uC (fun hb => ?_) fun hb => ?_ | refine u2 (fun hc => ?_) fun hc => ?_ | refine wI ?_ | refine ex_idx (by omega) ?_ | exact True.intro | fail)
  (first | refine wA rfl _ (⟨t, rfl, hne, by omega, rfl⟩) ?_ | refine dA rfl _ (⟨t, rfl, hne, by omega, rfl⟩) ?_); simp (maxSteps := 2000000) only [go_sem]
  repeat' (first | exact hb.elim | refine wS fun K hK => ?_ | refine wB ?_ | refine uR hΓ ?_ | refine uD hΓ fun B hB => ?_ | ((repeat ((fail_if_success (refine hK _ ?_)); clear hK K)); refine hK _ ?_; clear hK K) | refine u1 ?_ | refine uC (fun hb => ?_) fun hb => ?_ | refine u2 (fun hc => ?_) fun hc => ?_ | refine wI ?_ | refine ex_idx (by omega) ?_ | exact True.intro | fail)
  · simp [Try.results40, RetOK, RetP, backA, upd_at, plainB, getP, isOwn, anyOwn, isP]
    exact .inl ⟨t, rfl, rfl⟩
  all_goals exact absurd rfl ‹_›

theorem trFrom_all : ∀ N : Nat, N ≤ 5 → CtrOK Try.prog 40 (pureC (trFromR N))
  | 0, _ => trFrom_zero
  | N + 1, h => trFrom_step (N + 1) h (trFrom_all N (by omega))

end Go.Proofs.Ytehdfifncbokeaa

namespace Go.Proofs.Ytehdfifncbokeaa
set_option linter.unusedSimpArgs false
set_option linter.unusedVariables false
set_option maxRecDepth 8000
set_option maxHeartbeats 2000000
open Go Go.RowKit AV

def allTr (m k : Nat) : List (List Int) := (List.range k).flatMap fun a => trFrom m [((a : Nat) : Int)]
theorem allTr_succ (m k : Nat) : allTr m (k + 1) = allTr m k ++ trFrom m [((k : Nat) : Int)] := by simp [allTr, List.range_succ]
theorem allTr_len (m : Nat) : ∀ k, (allTr m k).length ≤ k * 13 ^ m
  | 0 => by simp [allTr]
  | k + 1 => by
    have h1 := allTr_len m k
    have h2 := trFrom_len m [((k : Nat) : Int)]
    rw [allTr_succ, List.length_append, Nat.add_mul, Nat.one_mul]
    omega

theorem trf_ctr : CtrOK Try.prog 40 (pureC (trFromR 5)) := trFrom_all 5 (by omega)
def allTrR (args : List AV) (r : AV) : Prop := ∃ m : Nat, args = [I (m : Int)] ∧ m ≤ 5 ∧ r = oorows (allTr m 4)
theorem allTr_ctr : CtrOK Try.prog 26 (pureC allTrR) := by
  refine ctr_pure' Try.func26 rfl rfl Try.ntmps26 ?_
  rintro _ _ ⟨m, rfl, hm, rfl⟩
  refine ⟨by simp, fun κ hκ => ?_⟩
  have hbig := bigW_gt
  rw [argEnv_eq]
  simp only [envA]
  have hΓ := ctxOf_ok (P := Try.prog) (cx trf_ctr <| cx0)
  have h13 : 13 ^ m ≤ 13 ^ 5 := Nat.pow_le_pow_right (by omega) (by omega)
  repeat' (first | exact hb.elim | refine wS fun K hK => ?_ | refine wB ?_ | refine uR hΓ ?_ | refine uD hΓ fun B hB => ?_ | ((repeat ((fail_if_success (refine hK _ ?_)); clear hK K)); refine hK _ ?_; clear hK K) | refine u1 ?_ | refine uC (fun hb => ?_) fun hb => ?_ | refine u2 (fun hc => ?_) fun hc => ?_ | refine wI ?_ | refine ex_idx (by omega) ?_ | exact True.intro | fail)
  refine CW.loop (ι := Nat) (fun k => [(0, I (m : Int)), (3, oorows (allTr m k)), (5, I (k : Int))]) (fun k => k ≤ 4) (fun k => 4 - k) 0 ?_ ?_
  · exact ⟨by (simp only [xe, xj, Nat.reduceEqDiff]; (try simp [view, viewL_map]); (try omega)); simp [allTr], by omega⟩
  rintro k hk
  simp only [envOf]
  have h1 := allTr_len m k
  have h2 := trFrom_len m [((k : Nat) : Int)]
  have h3 : k * 13 ^ m ≤ 4 * 13 ^ 5 := Nat.mul_le_mul hk h13
  repeat' (first | exact hb.elim | refine wS fun K hK => ?_ | refine wB ?_ | refine uR hΓ ?_ | refine uD hΓ fun B hB => ?_ | ((repeat ((fail_if_success (refine hK _ ?_)); clear hK K)); refine hK _ ?_; clear hK K) | refine u1 ?_ | refine uC (fun hb => ?_) fun hb => ?_ | refine u2 (fun hc => ?_) fun hc => ?_ | refine wI ?_ | refine ex_idx (by omega) ?_ | exact True.intro | fail)
  · (first | refine wA rfl _ (⟨[(k : Int)], m, rfl, by simp, by simp; omega, hm, rfl⟩) ?_ | refine dA rfl _ (⟨[(k : Int)], m, rfl, by simp, by simp; omega, hm, rfl⟩) ?_); simp (maxSteps := 2000000) only [go_sem]
    repeat' (first | exact hb.elim | refine wS fun K hK => ?_ | refine wB ?_ | refine uR hΓ ?_ | refine uD hΓ fun B hB => ?_ | ((repeat ((fail_if_success (refine hK _ ?_)); clear hK K)); refine hK _ ?_; clear hK K) | refine u1 ?_ | refine uC (fun hb => ?_) fun hb => ?_ | refine u2 (fun hc => ?_) fun hc => ?_ | refine wI ?_ | refine ex_idx (by omega) ?_ | exact True.intro | fail)
    refine ⟨k + 1, ?_, by omega, by omega⟩
    rw [allTr_succ]
    (simp only [xe, xj, Nat.reduceEqDiff]; (try simp [view, viewL_map]); (try omega))
  · have hk4 : k = 4 := by omega
    subst hk4
    simp [Try.results26, RetOK, RetP, backA, upd_at, plainB, getP, isOwn, anyOwn, isP]

end Go.Proofs.Ytehdfifncbokeaa

namespace Go.Proofs.Ytehdfifncbokeaa
set_option linter.unusedSimpArgs false
set_option linter.unusedVariables false
set_option maxRecDepth 8000
set_option maxHeartbeats 2000000
open Go Go.RowKit AV

end Go.Proofs.Ytehdfifncbokeaa
