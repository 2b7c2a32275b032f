/- The reference's draws: pick, odd, walked by the engine. -/
import Derived.Test.YtehdfifncbokeaaTy
import Derived.Test.YtehdfifncbokeaaGrpJ
import Derived.Test.YtehdfifncbokeaaGrpL
import Derived.Test.YtehdfifncbokeaaEngMin
namespace Go.Proofs.Ytehdfifncbokeaa
set_option linter.unusedSimpArgs false
set_option linter.unusedVariables false
set_option maxRecDepth 8000
set_option maxHeartbeats 2000000
open Go Go.RowKit AV

abbrev byts (bs : List Nat) : AV := .sh (bs.map fun b : Nat => AV.num .u8 (b : Int))
abbrev rdr (bs : List Nat) (p : Nat) : AV := .box [byts bs, I (p : Int)]

def pickR (args : List AV) (r : AV) (args' : List AV) : Prop := ∃ (bs : List Nat) (p n : Nat), args = [rdr bs p, I (n : Int)] ∧ CodeOK bs ∧ p < 1099511627776 ∧ n < 1099511627776 ∧ r = I (pickX bs p n : Int) ∧ args' = [rdr bs (p + 1)]
theorem pick_ctr : CtrOK Try.prog 23 (effC pickR) := by
  refine ctr_lend' Try.func23 rfl rfl Try.ntmps23 ?_
  rintro _ _ _ ⟨bs, p, n, rfl, hc, hp, hn, rfl, rfl⟩
  refine ⟨_, rfl, by simp, by simp, fun κ hκ => ?_⟩
  have hbig := bigW_gt
  rw [argEnv_eq]
  simp only [envA]
  have hΓ := noCtx_ok Try.prog
  obtain ⟨hl, hb256⟩ := hc
  have e7 : (p : Int) * 7 + 3 = ((p * 7 + 3 : Nat) : Int) := by omega
  repeat' (first | refine wS fun K hK => ?_ | refine wB ?_ | ((first | refine wR hΓ ?_ | refine wD hΓ fun B hB => ?_); simp (maxSteps := 2000000) only [go_sem, List.nil_prefix, Int.add_sub_cancel, e7]) | ((repeat ((fail_if_success (refine hK _ ?_)); clear hK K)); refine hK _ ?_; clear hK K) | (refine w1 ?_; simp only [xs, xi, Nat.reduceEqDiff, reduceCtorEq, retL_ret, retL_normal]) | (refine wC (fun hb => ?_) fun hb => ?_ <;> (try simp only [xb, reduceCtorEq] at hb)) | (refine w2 (fun hc => ?_) (fun hc => ?_) <;> (try simp only [xc] at hc) <;> (try simp only [go_sem, hc, List.nil_prefix, Int.add_sub_cancel, e7]) <;> (try simp only [xb] at hc)) | refine wI ?_ | refine ex_idx (by omega) ?_ | fail)
  · have hx : pickX bs p n = 0 := if_pos (.inr (by omega))
    rw [hx]
    simp [Try.results23, RetL, upd_at, plainB, isOwn, anyOwn]
  · have h1 : p < bs.length := by omega
    have h2 := hb256 _ (List.getElem_mem h1)
    refine ⟨⟨by kernel_rfl, by omega⟩, by omega, ?_⟩
    repeat' (first | exact hb.elim | refine wS fun K hK => ?_ | refine wB ?_ | refine uR hΓ ?_ | refine uD hΓ fun B hB => ?_ | ((repeat ((fail_if_success (refine hK _ ?_)); clear hK K)); refine hK _ ?_; clear hK K) | refine u1 ?_ | refine uC (fun hb => ?_) fun hb => ?_ | refine u2 (fun hc => ?_) fun hc => ?_ | refine wI ?_ | refine ex_idx (by omega) ?_ | exact True.intro | fail)
    have hx : pickX bs p n = bs[p] % n := by
      unfold pickX
      rw [if_neg (by omega), if_pos h1]
      simp [h1]
    rw [hx]
    simp [Try.results23, RetL, upd_at, plainB, isOwn, anyOwn]
  · have h0 : 0 < bs.length := by omega
    have h1 : p % bs.length < bs.length := Nat.mod_lt _ h0
    have h2 : (p * 7 + 3) % bs.length < bs.length := Nat.mod_lt _ h0
    have h3 := hb256 _ (List.getElem_mem h1)
    have h4 := hb256 _ (List.getElem_mem h2)
    have h5 : p / bs.length ≤ p := Nat.div_le_self _ _
    have h6 := List.getElem?_eq_getElem h1
    have h7 := List.getElem?_eq_getElem h2
    generalize bs[p % bs.length] = a at h3 h6
    generalize bs[(p * 7 + 3) % bs.length] = c at h4 h7
    have hx : pickX bs p n = ((a * 131 + c * 1117 + p * 29 + p / bs.length * 53) ^^^ (a * 131 + c * 1117 + p * 29 + p / bs.length * 53) / 64) % n := by
      unfold pickX
      rw [if_neg (by omega), if_neg (by omega)]
      simp only [List.getD, h6, h7, Option.getD_some]
    generalize p / bs.length = q at h5 hx ⊢
    obtain ⟨X, hX0⟩ : ∃ X : Nat, a * 131 + c * 1117 + p * 29 + q * 53 = X := ⟨_, rfl⟩
    rw [hX0] at hx
    have hX : (a : Int) * 131 + (c : Int) * 1117 + (p : Int) * 29 + (q : Int) * 53 = (X : Int) := by omega
    have e64 : (X : Int) / 64 = ((X / 64 : Nat) : Int) := by omega
    refine ⟨a, h6, ⟨by kernel_rfl, by omega⟩, by omega, by omega, by omega, by omega, c, h7, ⟨by kernel_rfl, by omega⟩, by omega, by omega, by omega, by omega, ⟨by omega, by omega⟩, by omega, by omega, ?_⟩
    rw [hX]
    repeat' (first | refine wS fun K hK => ?_ | refine wB ?_ | ((first | refine wR hΓ ?_ | refine wD hΓ fun B hB => ?_); simp (maxSteps := 2000000) only [go_sem, e64]) | ((repeat ((fail_if_success (refine hK _ ?_)); clear hK K)); refine hK _ ?_; clear hK K) | (refine w1 ?_; simp only [xs, xi, Nat.reduceEqDiff, reduceCtorEq, retL_ret, retL_normal]) | (refine wC (fun hb => ?_) fun hb => ?_ <;> (try simp only [xb, reduceCtorEq] at hb)) | (refine w2 (fun hc => ?_) (fun hc => ?_) <;> (try simp only [xc] at hc) <;> (try simp only [go_sem, hc, e64]) <;> (try simp only [xb] at hc)) | refine wI ?_ | refine ex_idx (by omega) ?_ | fail)
    rw [hx]
    simp [Try.results23, RetL, upd_at, plainB, isOwn, anyOwn]
  · have hx : pickX bs p n = 0 := if_pos (.inl (by omega))
    rw [hx]
    simp [Try.results23, RetL, upd_at, plainB, isOwn, anyOwn]

end Go.Proofs.Ytehdfifncbokeaa

namespace Go.Proofs.Ytehdfifncbokeaa
set_option linter.unusedSimpArgs false
set_option linter.unusedVariables false
set_option maxRecDepth 8000
set_option maxHeartbeats 2000000
open Go Go.RowKit AV

attribute [local go_sem] List.nil_prefix

def oddR (args : List AV) (r : AV) (args' : List AV) : Prop := ∃ (bs : List Nat) (p n : Nat), args = [rdr bs p, I (n : Int)] ∧ CodeOK bs ∧ p < 1099511627776 ∧ n < 1099511627776 ∧ r = .bool (oddX bs p n).1 ∧ args' = [rdr bs (oddX bs p n).2]
theorem odd_ctr : CtrOK Try.prog 38 (effC oddR) := by
  refine ctr_lend' Try.func38 rfl rfl Try.ntmps38 ?_
  rintro _ _ _ ⟨bs, p, n, rfl, hcd, hp, hn, rfl, rfl⟩
  refine ⟨_, rfl, by simp, by simp, fun κ hκ => ?_⟩
  have hbig := bigW_gt
  rw [argEnv_eq]
  simp only [envA]
  have hΓ := ctxOf_ok (P := Try.prog) (cx pick_ctr <| cx0)
  repeat' (first | exact hb.elim | refine wS fun K hK => ?_ | refine wB ?_ | refine uR hΓ ?_ | refine uD hΓ fun B hB => ?_ | ((repeat ((fail_if_success (refine hK _ ?_)); clear hK K)); refine hK _ ?_; clear hK K) | refine u1 ?_ | refine uC (fun hb => ?_) fun hb => ?_ | refine u2 (fun hc => ?_) fun hc => ?_ | refine wI ?_ | refine ex_idx (by omega) ?_ | exact True.intro | fail)
  · (first | refine W_askE rfl _ _ (⟨bs, p, n, rfl, hcd, hp, hn, rfl, rfl⟩) ?_ | refine D_askE rfl _ _ (⟨bs, p, n, rfl, hcd, hp, hn, rfl, rfl⟩) ?_); simp (maxSteps := 2000000) only [go_sem]
    repeat' (first | exact hb.elim | refine wS fun K hK => ?_ | refine wB ?_ | refine uR hΓ ?_ | refine uD hΓ fun B hB => ?_ | ((repeat ((fail_if_success (refine hK _ ?_)); clear hK K)); refine hK _ ?_; clear hK K) | refine u1 ?_ | refine uC (fun hb => ?_) fun hb => ?_ | refine u2 (fun hc => ?_) fun hc => ?_ | refine wI ?_ | refine ex_idx (by omega) ?_ | exact True.intro | fail)
    have h1 : oddX bs p n = (decide (pickX bs p n = n - 1), p + 1) := if_pos (by omega)
    have h2 : ((pickX bs p n : Int) = (n : Int) - 1) ↔ (pickX bs p n = n - 1) := by omega
    rw [h1]
    simp only [h2]
    simp [Try.results38, RetL, upd_at, plainB, isOwn, anyOwn]
  · have h1 : oddX bs p n = (false, p) := if_neg (by omega)
    rw [h1]
    simp [Try.results38, RetL, upd_at, plainB, isOwn, anyOwn]

def testR (args : List AV) (r : AV) (args' : List AV) : Prop := ∃ (bs : List Nat) (p n : Nat), args = [rdr bs p, I (n : Int)] ∧ CodeOK bs ∧ p < 1099511000000 ∧ n < 1099511627776 ∧ r = I (testX bs p n).1 ∧ args' = [rdr bs (testX bs p n).2]
theorem test_ctr : CtrOK Try.prog 46 (effC testR) := by
  refine ctr_lend' Try.func46 rfl rfl Try.ntmps46 ?_
  rintro _ _ _ ⟨bs, p, n, rfl, hcd, hp, hn, rfl, rfl⟩
  refine ⟨_, rfl, by simp, by simp, fun κ hκ => ?_⟩
  have hbig := bigW_gt
  rw [argEnv_eq]
  simp only [envA]
  have hΓ := ctxOf_ok (P := Try.prog) (cx pick_ctr <| cx odd_ctr <| cx0)
  have ho := oddX_p bs p n
  obtain ⟨⟨ob, p1⟩, ho0⟩ : ∃ o, oddX bs p n = o := ⟨_, rfl⟩
  rw [ho0] at ho
  dsimp only at ho
  have hT : testX bs p n = if ob then (if pickX bs p1 2 = 0 then -1 else 16, p1 + 1) else (([10, 12, 5, 3, (pickX bs p1 16 : Int), (pickX bs (p1 + 1) 16 : Int), 15, 0] : List Int).getD (pickX bs (p1 + 2) 8) 0, p1 + 3) := by
    unfold testX; rw [ho0]
  repeat' (first | exact hb.elim | refine wS fun K hK => ?_ | refine wB ?_ | refine uR hΓ ?_ | refine uD hΓ fun B hB => ?_ | ((repeat ((fail_if_success (refine hK _ ?_)); clear hK K)); refine hK _ ?_; clear hK K) | refine u1 ?_ | refine uC (fun hb => ?_) fun hb => ?_ | refine u2 (fun hc => ?_) fun hc => ?_ | refine wI ?_ | refine ex_idx (by omega) ?_ | exact True.intro | fail)
  (first | refine W_askE rfl _ _ (⟨bs, p, n, rfl, hcd, by omega, hn, rfl, rfl⟩) ?_ | refine D_askE rfl _ _ (⟨bs, p, n, rfl, hcd, by omega, hn, rfl, rfl⟩) ?_); simp (maxSteps := 2000000) only [go_sem]
  rw [ho0]
  dsimp only
  cases ob
  · rw [if_neg (by decide)] at hT
    repeat' (first | exact hb.elim | refine wS fun K hK => ?_ | refine wB ?_ | refine uR hΓ ?_ | refine uD hΓ fun B hB => ?_ | ((repeat ((fail_if_success (refine hK _ ?_)); clear hK K)); refine hK _ ?_; clear hK K) | refine u1 ?_ | refine uC (fun hb => ?_) fun hb => ?_ | refine u2 (fun hc => ?_) fun hc => ?_ | refine wI ?_ | refine ex_idx (by omega) ?_ | exact True.intro | fail)
    (first | refine W_askE rfl _ _ (⟨bs, p1, 16, rfl, hcd, by omega, by omega, rfl, rfl⟩) ?_ | refine D_askE rfl _ _ (⟨bs, p1, 16, rfl, hcd, by omega, by omega, rfl, rfl⟩) ?_); simp (maxSteps := 2000000) only [go_sem]
    repeat' (first | exact hb.elim | refine wS fun K hK => ?_ | refine wB ?_ | refine uR hΓ ?_ | refine uD hΓ fun B hB => ?_ | ((repeat ((fail_if_success (refine hK _ ?_)); clear hK K)); refine hK _ ?_; clear hK K) | refine u1 ?_ | refine uC (fun hb => ?_) fun hb => ?_ | refine u2 (fun hc => ?_) fun hc => ?_ | refine wI ?_ | refine ex_idx (by omega) ?_ | exact True.intro | fail)
    (first | refine W_askE rfl _ _ (⟨bs, p1 + 1, 16, rfl, hcd, by omega, by omega, rfl, rfl⟩) ?_ | refine D_askE rfl _ _ (⟨bs, p1 + 1, 16, rfl, hcd, by omega, by omega, rfl, rfl⟩) ?_); simp (maxSteps := 2000000) only [go_sem]
    repeat' (first | exact hb.elim | refine wS fun K hK => ?_ | refine wB ?_ | refine uR hΓ ?_ | refine uD hΓ fun B hB => ?_ | ((repeat ((fail_if_success (refine hK _ ?_)); clear hK K)); refine hK _ ?_; clear hK K) | refine u1 ?_ | refine uC (fun hb => ?_) fun hb => ?_ | refine u2 (fun hc => ?_) fun hc => ?_ | refine wI ?_ | refine ex_idx (by omega) ?_ | exact True.intro | fail)
    have hk := pickX_lt (bs := bs) (p := p1 + 2) (n := 8) (by decide)
    (first | refine W_askE rfl _ _ (⟨bs, p1 + 2, 8, rfl, hcd, by omega, by omega, rfl, rfl⟩) ?_ | refine D_askE rfl _ _ (⟨bs, p1 + 2, 8, rfl, hcd, by omega, by omega, rfl, rfl⟩) ?_); simp (maxSteps := 2000000) only [go_sem]
    obtain ⟨L, hL⟩ : ∃ L : List Int, ([10, 12, 5, 3, (pickX bs p1 16 : Int), (pickX bs (p1 + 1) 16 : Int), 15, 0] : List Int) = L := ⟨_, rfl⟩
    have hL8 : L.length = 8 := by rw [← hL]; rfl
    have hLm : [num .i64 10, num .i64 12, num .i64 5, num .i64 3, num .i64 (pickX bs p1 16 : Int), num .i64 (pickX bs (p1 + 1) 16 : Int), num .i64 15, num .i64 0] = L.map I := by rw [← hL]; rfl
    rw [hL] at hT
    rw [hLm]
    simp (maxSteps := 2000000) only [go_sem]
    repeat' (first | exact hb.elim | refine wS fun K hK => ?_ | refine wB ?_ | refine uR hΓ ?_ | refine uD hΓ fun B hB => ?_ | ((repeat ((fail_if_success (refine hK _ ?_)); clear hK K)); refine hK _ ?_; clear hK K) | refine u1 ?_ | refine uC (fun hb => ?_) fun hb => ?_ | refine u2 (fun hc => ?_) fun hc => ?_ | refine wI ?_ | refine ex_idx (by omega) ?_ | exact True.intro | fail)
    have h5 : L.getD (pickX bs (p1 + 2) 8) 0 = L[pickX bs (p1 + 2) 8]'(by omega) := by simp [List.getD, List.getElem?_eq_getElem (show pickX bs (p1 + 2) 8 < L.length by omega)]
    rw [hT, h5]
    simp [Try.results46, RetL, upd_at, plainB, isOwn, anyOwn]
    all_goals omega
  · rw [if_pos rfl] at hT
    repeat' (first | exact hb.elim | refine wS fun K hK => ?_ | refine wB ?_ | refine uR hΓ ?_ | refine uD hΓ fun B hB => ?_ | ((repeat ((fail_if_success (refine hK _ ?_)); clear hK K)); refine hK _ ?_; clear hK K) | refine u1 ?_ | refine uC (fun hb => ?_) fun hb => ?_ | refine u2 (fun hc => ?_) fun hc => ?_ | refine wI ?_ | refine ex_idx (by omega) ?_ | exact True.intro | fail)
    have hk := pickX_lt (bs := bs) (p := p1) (n := 2) (by decide)
    (first | refine W_askE rfl _ _ (⟨bs, p1, 2, rfl, hcd, by omega, by omega, rfl, rfl⟩) ?_ | refine D_askE rfl _ _ (⟨bs, p1, 2, rfl, hcd, by omega, by omega, rfl, rfl⟩) ?_); simp (maxSteps := 2000000) only [go_sem]
    obtain ⟨L, hL⟩ : ∃ L : List Int, ([-1, 16] : List Int) = L := ⟨_, rfl⟩
    have hL8 : L.length = 2 := by rw [← hL]; rfl
    have hLm : [num .i64 (-1), num .i64 16] = L.map I := by rw [← hL]; rfl
    rw [hLm]
    simp (maxSteps := 2000000) only [go_sem]
    repeat' (first | exact hb.elim | refine wS fun K hK => ?_ | refine wB ?_ | refine uR hΓ ?_ | refine uD hΓ fun B hB => ?_ | ((repeat ((fail_if_success (refine hK _ ?_)); clear hK K)); refine hK _ ?_; clear hK K) | refine u1 ?_ | refine uC (fun hb => ?_) fun hb => ?_ | refine u2 (fun hc => ?_) fun hc => ?_ | refine wI ?_ | refine ex_idx (by omega) ?_ | exact True.intro | fail)
    have h5 : ∀ k (h : k < L.length), L[k] = if k = 0 then -1 else 16 := by
      intro k h
      subst hL
      have : k = 0 ∨ k = 1 := by simp at h; omega
      rcases this with rfl | rfl <;> rfl
    rw [hT, h5]
    simp [Try.results46, RetL, upd_at, plainB, isOwn, anyOwn]

def leafR (args : List AV) (r : AV) (args' : List AV) : Prop := ∃ (bs : List Nat) (p : Nat), args = [rdr bs p] ∧ CodeOK bs ∧ p < 1099510900000 ∧ r = oints (leafX bs p).1 ∧ args' = [rdr bs (leafX bs p).2]
theorem leaf_ctr : CtrOK Try.prog 36 (effC leafR) := by
  refine ctr_lend' Try.func36 rfl rfl Try.ntmps36 ?_
  rintro _ _ _ ⟨bs, p, rfl, hcd, hp, rfl, rfl⟩
  refine ⟨_, rfl, by simp, by simp, fun κ hκ => ?_⟩
  have hbig := bigW_gt
  rw [argEnv_eq]
  simp only [envA]
  have hΓ := ctxOf_ok (P := Try.prog) (cx pick_ctr <| cx test_ctr <| cx0)
  repeat' (first | exact hb.elim | refine wS fun K hK => ?_ | refine wB ?_ | refine uR hΓ ?_ | refine uD hΓ fun B hB => ?_ | ((repeat ((fail_if_success (refine hK _ ?_)); clear hK K)); refine hK _ ?_; clear hK K) | refine u1 ?_ | refine uC (fun hb => ?_) fun hb => ?_ | refine u2 (fun hc => ?_) fun hc => ?_ | refine wI ?_ | refine ex_idx (by omega) ?_ | exact True.intro | fail)
  (first | refine W_askE rfl _ _ (⟨bs, p, 3, rfl, hcd, by omega, by omega, rfl, rfl⟩) ?_ | refine D_askE rfl _ _ (⟨bs, p, 3, rfl, hcd, by omega, by omega, rfl, rfl⟩) ?_); simp (maxSteps := 2000000) only [go_sem]
  repeat' (first | exact hb.elim | refine wS fun K hK => ?_ | refine wB ?_ | refine uR hΓ ?_ | refine uD hΓ fun B hB => ?_ | ((repeat ((fail_if_success (refine hK _ ?_)); clear hK K)); refine hK _ ?_; clear hK K) | refine u1 ?_ | refine uC (fun hb => ?_) fun hb => ?_ | refine u2 (fun hc => ?_) fun hc => ?_ | refine wI ?_ | refine ex_idx (by omega) ?_ | exact True.intro | fail)
  · (first | refine W_askE rfl _ _ (⟨bs, p + 1, 0, rfl, hcd, by omega, by omega, rfl, rfl⟩) ?_ | refine D_askE rfl _ _ (⟨bs, p + 1, 0, rfl, hcd, by omega, by omega, rfl, rfl⟩) ?_); simp (maxSteps := 2000000) only [go_sem]
    repeat' (first | exact hb.elim | refine wS fun K hK => ?_ | refine wB ?_ | refine uR hΓ ?_ | refine uD hΓ fun B hB => ?_ | ((repeat ((fail_if_success (refine hK _ ?_)); clear hK K)); refine hK _ ?_; clear hK K) | refine u1 ?_ | refine uC (fun hb => ?_) fun hb => ?_ | refine u2 (fun hc => ?_) fun hc => ?_ | refine wI ?_ | refine ex_idx (by omega) ?_ | exact True.intro | fail)
    have hx : leafX bs p = ([(testX bs (p + 1) 0).1], (testX bs (p + 1) 0).2) := if_pos (by omega)
    rw [hx]
    simp [Try.results36, RetL, upd_at, plainB, isOwn, anyOwn]
    all_goals omega
  · have hk := pickX_lt (bs := bs) (p := p + 1) (n := 3) (by decide)
    (first | refine W_askE rfl _ _ (⟨bs, p + 1, 3, rfl, hcd, by omega, by omega, rfl, rfl⟩) ?_ | refine D_askE rfl _ _ (⟨bs, p + 1, 3, rfl, hcd, by omega, by omega, rfl, rfl⟩) ?_); simp (maxSteps := 2000000) only [go_sem]
    repeat' (first | exact hb.elim | refine wS fun K hK => ?_ | refine wB ?_ | refine uR hΓ ?_ | refine uD hΓ fun B hB => ?_ | ((repeat ((fail_if_success (refine hK _ ?_)); clear hK K)); refine hK _ ?_; clear hK K) | refine u1 ?_ | refine uC (fun hb => ?_) fun hb => ?_ | refine u2 (fun hc => ?_) fun hc => ?_ | refine wI ?_ | refine ex_idx (by omega) ?_ | exact True.intro | fail)
    have hx : leafX bs p = ([16 + (pickX bs (p + 1) 3 : Int)], p + 2) := if_neg (by omega)
    rw [hx]
    simp [Try.results36, RetL, upd_at, plainB, isOwn, anyOwn]
    all_goals omega

end Go.Proofs.Ytehdfifncbokeaa

namespace Go.Proofs.Ytehdfifncbokeaa
set_option linter.unusedSimpArgs false
set_option linter.unusedVariables false
set_option maxRecDepth 8000
set_option maxHeartbeats 2000000
open Go Go.RowKit AV

def openR (args : List AV) (r : AV) : Prop := ∃ bs : List Nat, args = [byts bs] ∧ bs.length ≤ 1099511627776 ∧ r = rdr (bs.take 2000) 0
theorem open_ctr : CtrOK Try.prog 21 (pureC openR) := by
  refine ctr_pure' Try.func21 rfl rfl Try.ntmps21 ?_
  rintro _ _ ⟨bs, rfl, hl, rfl⟩
  refine ⟨by simp, fun κ hκ => ?_⟩
  have hbig := bigW_gt
  rw [argEnv_eq]
  simp only [envA]
  have hΓ := noCtx_ok Try.prog
  repeat' (first | refine wS fun K hK => ?_ | refine wB ?_ | ((first | refine wR hΓ ?_ | refine wD hΓ fun B hB => ?_); simp (maxSteps := 2000000) only [go_sem, List.nil_prefix]) | ((repeat ((fail_if_success (refine hK _ ?_)); clear hK K)); refine hK _ ?_; clear hK K) | (refine w1 ?_; simp only [xs, xi, Nat.reduceEqDiff, reduceCtorEq]) | (refine wC (fun hb => ?_) fun hb => ?_ <;> (try simp only [xb, reduceCtorEq] at hb)) | (refine w2 (fun hc => ?_) (fun hc => ?_) <;> (try simp only [xc] at hc) <;> (try simp only [go_sem, hc, List.nil_prefix]) <;> (try simp only [xb] at hc)) | refine wI ?_ | refine ex_idx (by omega) ?_ | fail)
  · have h1 : (List.map (fun b : Nat => num IntKind.u8 (b : Int)) bs).take 2000 = (bs.take 2000).map fun b : Nat => num IntKind.u8 (b : Int) := List.map_take.symm
    have h2 : Int.toNat 2000 = 2000 := rfl
    rw [h2, h1]
    simp [Try.results21, RetOK, RetP, backA, upd_at, plainB, getP, isOwn, anyOwn, isP]
  · have h1 : bs.take 2000 = bs := List.take_of_length_le (by omega)
    rw [h1]
    simp [Try.results21, RetOK, RetP, backA, upd_at, plainB, getP, isOwn, anyOwn, isP]

end Go.Proofs.Ytehdfifncbokeaa
