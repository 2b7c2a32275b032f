/- The reference's draw of an expression, walked by the engine. -/
import Derived.Test.YtehdfifncbokeaaGreatGrpS
import Derived.Test.YtehdfifncbokeaaGreatGrpE
import Derived.Test.YtehdfifncbokeaaGreatEngMin
import Derived.Test.YtehdfifncbokeaaGreatR4
import Derived.Test.YtehdfifncbokeaaGreatGrpK
import Derived.Test.YtehdfifncbokeaaGreatGrpD
import Derived.Test.YtehdfifncbokeaaGreatDrawP7
namespace Go.Proofs.YtehdfifncbokeaaGreat
set_option linter.unusedSimpArgs false
set_option linter.unusedVariables false
set_option maxRecDepth 8000
set_option maxHeartbeats 2000000
open Go Go.RowKit AV

attribute [local go_sem] List.nil_prefix

def katR (args : List AV) (r : AV) (args' : List AV) : Prop := ∃ (bs : List Nat) (p parts n : Nat), args = [rdr bs p, I (parts : Int), I (n : Int)] ∧ CodeOK bs ∧ p < 1099510000000 ∧ parts ≤ 1000 ∧ n < 1099511627776 ∧ r = oints (katX bs p parts n).1 ∧ args' = [rdr bs (katX bs p parts n).2]
theorem kat_ctr : CtrOK Tryz.prog 41 (effC katR) := by
  refine ctr_lend' Tryz.func41 rfl rfl Tryz.ntmps41 ?_
  rintro _ _ _ ⟨bs, p, parts, n, rfl, hcd, hp, hpa, hn, rfl, rfl⟩
  refine ⟨_, rfl, by simp, by simp, fun κ hκ => ?_⟩
  have hbig := bigW_gt
  rw [argEnv_eq]
  simp only [envA]
  have hΓ := ctxOf_ok (P := Tryz.prog) (cx pick_ctr <| cx odd_ctr <| cx leaf_ctr <| cx l2Join_ctr <| cx0)
  have l1 := leafX_p bs p
  have l2 := leafX_len bs p
  obtain ⟨⟨ob, p1⟩, ho0⟩ : ∃ o, leafX bs p = o := ⟨_, rfl⟩
  rw [ho0] at l1 l2
  dsimp only at l1 l2
  have hk := pickX_lt (bs := bs) (p := p1) (n := parts + 1) (by omega)
  obtain ⟨k0, hk0⟩ : ∃ k, pickX bs p1 (parts + 1) = k := ⟨_, rfl⟩
  rw [hk0] at hk
  have s1 := katLoop_p bs k0 ob (p1 + 1)
  have s2 := katLoop_len bs k0 ob (p1 + 1) (by omega)
  obtain ⟨⟨S, p2⟩, hs0⟩ : ∃ o, katLoop bs k0 ob (p1 + 1) = o := ⟨_, rfl⟩
  rw [hs0] at s1 s2
  dsimp only at s1 s2
  have o1 := oddX_p bs p2 n
  obtain ⟨⟨oo, p3⟩, hoo⟩ : ∃ o, oddX bs p2 n = o := ⟨_, rfl⟩
  rw [hoo] at o1
  dsimp only at o1
  have hK0 : katX bs p parts n = if oo then
      (if pickX bs p3 5 = 0 then ([], p3 + 1)
      else if pickX bs p3 5 = 1 then (S ++ [16], p3 + 1)
      else if pickX bs p3 5 = 2 then ([20] ++ S, p3 + 1)
      else if pickX bs p3 5 = 3 then (S ++ [if pickX bs (p3 + 1) 2 = 0 then -1 else 22], p3 + 2)
      else (S ++ List.replicate (41 - S.length) 21, p3 + 1)) else (S, p3) := by
    unfold katX; dsimp only; rw [ho0]; dsimp only; rw [hk0, hs0]; dsimp only; rw [hoo]
  repeat' (first | exact hb.elim | refine wS fun K hK => ?_ | refine wB ?_ | refine uR hΓ ?_ | refine uD hΓ fun B hB => ?_ | ((repeat ((fail_if_success (refine hK _ ?_)); clear hK K)); refine hK _ ?_; clear hK K) | refine u1 ?_ | refine uC (fun hb => ?_) fun hb => ?_ | refine u2 (fun hc => ?_) fun hc => ?_ | refine wI ?_ | refine ex_idx (by omega) ?_ | exact True.intro | fail)
  (first | refine W_askE rfl _ _ (⟨bs, p, rfl, hcd, by omega, rfl, rfl⟩) ?_ | refine D_askE rfl _ _ (⟨bs, p, rfl, hcd, by omega, rfl, rfl⟩) ?_); simp (maxSteps := 2000000) only [go_sem]
  rw [ho0]
  dsimp only
  repeat' (first | exact hb.elim | refine wS fun K hK => ?_ | refine wB ?_ | refine uR hΓ ?_ | refine uD hΓ fun B hB => ?_ | ((repeat ((fail_if_success (refine hK _ ?_)); clear hK K)); refine hK _ ?_; clear hK K) | refine u1 ?_ | refine uC (fun hb => ?_) fun hb => ?_ | refine u2 (fun hc => ?_) fun hc => ?_ | refine wI ?_ | refine ex_idx (by omega) ?_ | exact True.intro | fail)
  (first | refine W_askE rfl _ _ (⟨bs, p1, parts + 1, rfl, hcd, by omega, by omega, rfl, rfl⟩) ?_ | refine D_askE rfl _ _ (⟨bs, p1, parts + 1, rfl, hcd, by omega, by omega, rfl, rfl⟩) ?_); simp (maxSteps := 2000000) only [go_sem]
  rw [hk0]
  repeat' (first | exact hb.elim | refine wS fun K hK => ?_ | refine wB ?_ | refine uR hΓ ?_ | refine uD hΓ fun B hB => ?_ | ((repeat ((fail_if_success (refine hK _ ?_)); clear hK K)); refine hK _ ?_; clear hK K) | refine u1 ?_ | refine uC (fun hb => ?_) fun hb => ?_ | refine u2 (fun hc => ?_) fun hc => ?_ | refine wI ?_ | refine ex_idx (by omega) ?_ | exact True.intro | fail)
  refine CW.loop (ι := Nat × List Int × Nat) (fun x => [(0, rdr bs x.2.2), (1, I (parts : Int)), (2, I (n : Int)), (7, oints x.2.1), (8, I (x.1 : Int))]) (fun x => katLoop bs x.1 x.2.1 x.2.2 = (S, p2) ∧ x.2.1.length ≤ 39 ∧ x.2.2 + 6 * x.1 ≤ p1 + 1 + 6 * k0) (fun x => x.1) (k0, ob, p1 + 1) ?_ ?_
  · exact ⟨by (simp only [xe, xj, Nat.reduceEqDiff]; (try simp [view, viewL_map]); (try omega)), hs0, by dsimp only; omega, by dsimp only; omega⟩
  rintro ⟨k, out, q⟩ ⟨hkl, hlen, hq⟩
  dsimp only at hkl hlen hq
  simp only [envOf]
  repeat' (first | exact hb.elim | refine wS fun K hK => ?_ | refine wB ?_ | refine uR hΓ ?_ | refine uD hΓ fun B hB => ?_ | ((repeat ((fail_if_success (refine hK _ ?_)); clear hK K)); refine hK _ ?_; clear hK K) | refine u1 ?_ | refine uC (fun hb => ?_) fun hb => ?_ | refine u2 (fun hc => ?_) fun hc => ?_ | refine wI ?_ | refine ex_idx (by omega) ?_ | exact True.intro | fail)
  · have e1 : (k : Int) - 1 = ((k - 1 : Nat) : Int) := by omega
    have hst : katLoop bs (k - 1) (katStep bs out q).1 (katStep bs out q).2 = (S, p2) := by
      obtain ⟨k, rfl⟩ : ∃ k', k = k' + 1 := ⟨k - 1, by omega⟩
      rw [katLoop, if_pos (by omega)] at hkl
      exact hkl
    have t1 := katStep_p bs out q
    have t2 := katStep_len bs out q
    have lp := leafX_p bs (q + 1)
    have ll := leafX_len bs (q + 1)
    obtain ⟨⟨lf, q2⟩, hlf⟩ : ∃ o, leafX bs (q + 1) = o := ⟨_, rfl⟩
    have hS : katStep bs out q = if pickX bs q 6 = 0 then (out ++ [21], q + 1) else if pickX bs q 6 = 1 then (lf ++ out ++ [19], q2) else if pickX bs q 6 = 2 then (lf ++ out ++ [20], q2) else if pickX bs q 6 = 3 then (out ++ lf ++ [20], q2) else (out ++ lf ++ [19], q2) := by
      unfold katStep; rw [hlf]
    rw [hlf] at lp ll
    dsimp only at lp ll
    obtain ⟨c, hc6⟩ : ∃ c, pickX bs q 6 = c := ⟨_, rfl⟩
    rw [hc6] at hS
    (first | refine W_askE rfl _ _ (⟨bs, q, 6, rfl, hcd, by omega, by omega, rfl, rfl⟩) ?_ | refine D_askE rfl _ _ (⟨bs, q, 6, rfl, hcd, by omega, by omega, rfl, rfl⟩) ?_); simp (maxSteps := 2000000) only [go_sem]
    rw [hc6]
    repeat' (first | refine wS fun K hK => ?_ | refine wB ?_ | ((first | refine wR hΓ ?_ | refine wD hΓ fun B hB => ?_); simp (maxSteps := 2000000) only [go_sem, e1]) | ((repeat ((fail_if_success (refine hK _ ?_)); clear hK K)); refine hK _ ?_; clear hK K) | (refine w1 ?_; simp only [xs, xi, Nat.reduceEqDiff, reduceCtorEq, retL_ret, retL_normal]) | (refine wC (fun hb => ?_) fun hb => ?_ <;> (try simp only [xb, reduceCtorEq] at hb)) | (refine w2 (fun hc => ?_) (fun hc => ?_) <;> (try simp only [xc] at hc) <;> (try simp only [go_sem, hc, e1]) <;> (try simp only [xb] at hc)) | refine wI ?_ | refine ex_idx (by omega) ?_ | fail)
    · rw [if_pos (by omega)] at hS
      rw [hS] at hst t1 t2
      dsimp only at hst t1 t2
      exact ⟨(k - 1, out ++ [21], q + 1), by (simp only [xe, xj, Nat.reduceEqDiff]; (try simp [view, viewL_map]); (try omega)), ⟨hst, by dsimp only; omega, by dsimp only; omega⟩, by dsimp only; omega⟩
    · rw [if_neg (by omega), if_pos (by omega)] at hS
      rw [hS] at hst t1 t2
      dsimp only at hst t1 t2
      (first | refine W_askE rfl _ _ (⟨bs, q + 1, rfl, hcd, by omega, rfl, rfl⟩) ?_ | refine D_askE rfl _ _ (⟨bs, q + 1, rfl, hcd, by omega, rfl, rfl⟩) ?_); simp (maxSteps := 2000000) only [go_sem]
      rw [hlf]
      dsimp only
      repeat' (first | exact hb.elim | refine wS fun K hK => ?_ | refine wB ?_ | refine uR hΓ ?_ | refine uD hΓ fun B hB => ?_ | ((repeat ((fail_if_success (refine hK _ ?_)); clear hK K)); refine hK _ ?_; clear hK K) | refine u1 ?_ | refine uC (fun hb => ?_) fun hb => ?_ | refine u2 (fun hc => ?_) fun hc => ?_ | refine wI ?_ | refine ex_idx (by omega) ?_ | exact True.intro | fail)
      (first | refine wA rfl _ (⟨lf, out, 19, rfl, by omega, by omega, rfl⟩) ?_ | refine dA rfl _ (⟨lf, out, 19, rfl, by omega, by omega, rfl⟩) ?_); simp (maxSteps := 2000000) only [go_sem]
      repeat' (first | refine wS fun K hK => ?_ | refine wB ?_ | ((first | refine wR hΓ ?_ | refine wD hΓ fun B hB => ?_); simp (maxSteps := 2000000) only [go_sem, e1]) | ((repeat ((fail_if_success (refine hK _ ?_)); clear hK K)); refine hK _ ?_; clear hK K) | (refine w1 ?_; simp only [xs, xi, Nat.reduceEqDiff, reduceCtorEq, retL_ret, retL_normal]) | (refine wC (fun hb => ?_) fun hb => ?_ <;> (try simp only [xb, reduceCtorEq] at hb)) | (refine w2 (fun hc => ?_) (fun hc => ?_) <;> (try simp only [xc] at hc) <;> (try simp only [go_sem, hc, e1]) <;> (try simp only [xb] at hc)) | refine wI ?_ | refine ex_idx (by omega) ?_ | fail)
      exact ⟨(k - 1, lf ++ out ++ [19], q2), by (simp only [xe, xj, Nat.reduceEqDiff]; (try simp [view, viewL_map]); (try omega)), ⟨hst, by dsimp only; omega, by dsimp only; omega⟩, by dsimp only; omega⟩
    · rw [if_neg (by omega), if_neg (by omega), if_pos (by omega)] at hS
      rw [hS] at hst t1 t2
      dsimp only at hst t1 t2
      (first | refine W_askE rfl _ _ (⟨bs, q + 1, rfl, hcd, by omega, rfl, rfl⟩) ?_ | refine D_askE rfl _ _ (⟨bs, q + 1, rfl, hcd, by omega, rfl, rfl⟩) ?_); simp (maxSteps := 2000000) only [go_sem]
      rw [hlf]
      dsimp only
      repeat' (first | exact hb.elim | refine wS fun K hK => ?_ | refine wB ?_ | refine uR hΓ ?_ | refine uD hΓ fun B hB => ?_ | ((repeat ((fail_if_success (refine hK _ ?_)); clear hK K)); refine hK _ ?_; clear hK K) | refine u1 ?_ | refine uC (fun hb => ?_) fun hb => ?_ | refine u2 (fun hc => ?_) fun hc => ?_ | refine wI ?_ | refine ex_idx (by omega) ?_ | exact True.intro | fail)
      (first | refine wA rfl _ (⟨lf, out, 20, rfl, by omega, by omega, rfl⟩) ?_ | refine dA rfl _ (⟨lf, out, 20, rfl, by omega, by omega, rfl⟩) ?_); simp (maxSteps := 2000000) only [go_sem]
      repeat' (first | refine wS fun K hK => ?_ | refine wB ?_ | ((first | refine wR hΓ ?_ | refine wD hΓ fun B hB => ?_); simp (maxSteps := 2000000) only [go_sem, e1]) | ((repeat ((fail_if_success (refine hK _ ?_)); clear hK K)); refine hK _ ?_; clear hK K) | (refine w1 ?_; simp only [xs, xi, Nat.reduceEqDiff, reduceCtorEq, retL_ret, retL_normal]) | (refine wC (fun hb => ?_) fun hb => ?_ <;> (try simp only [xb, reduceCtorEq] at hb)) | (refine w2 (fun hc => ?_) (fun hc => ?_) <;> (try simp only [xc] at hc) <;> (try simp only [go_sem, hc, e1]) <;> (try simp only [xb] at hc)) | refine wI ?_ | refine ex_idx (by omega) ?_ | fail)
      exact ⟨(k - 1, lf ++ out ++ [20], q2), by (simp only [xe, xj, Nat.reduceEqDiff]; (try simp [view, viewL_map]); (try omega)), ⟨hst, by dsimp only; omega, by dsimp only; omega⟩, by dsimp only; omega⟩
    · rw [if_neg (by omega), if_neg (by omega), if_neg (by omega), if_pos (by omega)] at hS
      rw [hS] at hst t1 t2
      dsimp only at hst t1 t2
      (first | refine W_askE rfl _ _ (⟨bs, q + 1, rfl, hcd, by omega, rfl, rfl⟩) ?_ | refine D_askE rfl _ _ (⟨bs, q + 1, rfl, hcd, by omega, rfl, rfl⟩) ?_); simp (maxSteps := 2000000) only [go_sem]
      rw [hlf]
      dsimp only
      repeat' (first | exact hb.elim | refine wS fun K hK => ?_ | refine wB ?_ | refine uR hΓ ?_ | refine uD hΓ fun B hB => ?_ | ((repeat ((fail_if_success (refine hK _ ?_)); clear hK K)); refine hK _ ?_; clear hK K) | refine u1 ?_ | refine uC (fun hb => ?_) fun hb => ?_ | refine u2 (fun hc => ?_) fun hc => ?_ | refine wI ?_ | refine ex_idx (by omega) ?_ | exact True.intro | fail)
      (first | refine wA rfl _ (⟨out, lf, 20, rfl, by omega, by omega, rfl⟩) ?_ | refine dA rfl _ (⟨out, lf, 20, rfl, by omega, by omega, rfl⟩) ?_); simp (maxSteps := 2000000) only [go_sem]
      repeat' (first | refine wS fun K hK => ?_ | refine wB ?_ | ((first | refine wR hΓ ?_ | refine wD hΓ fun B hB => ?_); simp (maxSteps := 2000000) only [go_sem, e1]) | ((repeat ((fail_if_success (refine hK _ ?_)); clear hK K)); refine hK _ ?_; clear hK K) | (refine w1 ?_; simp only [xs, xi, Nat.reduceEqDiff, reduceCtorEq, retL_ret, retL_normal]) | (refine wC (fun hb => ?_) fun hb => ?_ <;> (try simp only [xb, reduceCtorEq] at hb)) | (refine w2 (fun hc => ?_) (fun hc => ?_) <;> (try simp only [xc] at hc) <;> (try simp only [go_sem, hc, e1]) <;> (try simp only [xb] at hc)) | refine wI ?_ | refine ex_idx (by omega) ?_ | fail)
      exact ⟨(k - 1, out ++ lf ++ [20], q2), by (simp only [xe, xj, Nat.reduceEqDiff]; (try simp [view, viewL_map]); (try omega)), ⟨hst, by dsimp only; omega, by dsimp only; omega⟩, by dsimp only; omega⟩
    · rw [if_neg (by omega), if_neg (by omega), if_neg (by omega), if_neg (by omega)] at hS
      rw [hS] at hst t1 t2
      dsimp only at hst t1 t2
      (first | refine W_askE rfl _ _ (⟨bs, q + 1, rfl, hcd, by omega, rfl, rfl⟩) ?_ | refine D_askE rfl _ _ (⟨bs, q + 1, rfl, hcd, by omega, rfl, rfl⟩) ?_); simp (maxSteps := 2000000) only [go_sem]
      rw [hlf]
      dsimp only
      repeat' (first | exact hb.elim | refine wS fun K hK => ?_ | refine wB ?_ | refine uR hΓ ?_ | refine uD hΓ fun B hB => ?_ | ((repeat ((fail_if_success (refine hK _ ?_)); clear hK K)); refine hK _ ?_; clear hK K) | refine u1 ?_ | refine uC (fun hb => ?_) fun hb => ?_ | refine u2 (fun hc => ?_) fun hc => ?_ | refine wI ?_ | refine ex_idx (by omega) ?_ | exact True.intro | fail)
      (first | refine wA rfl _ (⟨out, lf, 19, rfl, by omega, by omega, rfl⟩) ?_ | refine dA rfl _ (⟨out, lf, 19, rfl, by omega, by omega, rfl⟩) ?_); simp (maxSteps := 2000000) only [go_sem]
      repeat' (first | refine wS fun K hK => ?_ | refine wB ?_ | ((first | refine wR hΓ ?_ | refine wD hΓ fun B hB => ?_); simp (maxSteps := 2000000) only [go_sem, e1]) | ((repeat ((fail_if_success (refine hK _ ?_)); clear hK K)); refine hK _ ?_; clear hK K) | (refine w1 ?_; simp only [xs, xi, Nat.reduceEqDiff, reduceCtorEq, retL_ret, retL_normal]) | (refine wC (fun hb => ?_) fun hb => ?_ <;> (try simp only [xb, reduceCtorEq] at hb)) | (refine w2 (fun hc => ?_) (fun hc => ?_) <;> (try simp only [xc] at hc) <;> (try simp only [go_sem, hc, e1]) <;> (try simp only [xb] at hc)) | refine wI ?_ | refine ex_idx (by omega) ?_ | fail)
      exact ⟨(k - 1, out ++ lf ++ [19], q2), by (simp only [xe, xj, Nat.reduceEqDiff]; (try simp [view, viewL_map]); (try omega)), ⟨hst, by dsimp only; omega, by dsimp only; omega⟩, by dsimp only; omega⟩
  all_goals
    have hfin : out = S ∧ q = p2 := by
      cases k with
      | zero => simpa [katLoop] using hkl
      | succ k => first | (exfalso; omega) | (rw [katLoop, if_neg (by omega)] at hkl; simpa using hkl)
    obtain ⟨rfl, rfl⟩ := hfin
    (first | refine W_askE rfl _ _ (⟨bs, q, n, rfl, hcd, by omega, hn, rfl, rfl⟩) ?_ | refine D_askE rfl _ _ (⟨bs, q, n, rfl, hcd, by omega, hn, rfl, rfl⟩) ?_); simp (maxSteps := 2000000) only [go_sem]
    rw [hoo]
    dsimp only
    cases oo
    · repeat' (first | exact hb.elim | refine wS fun K hK => ?_ | refine wB ?_ | refine uR hΓ ?_ | refine uD hΓ fun B hB => ?_ | ((repeat ((fail_if_success (refine hK _ ?_)); clear hK K)); refine hK _ ?_; clear hK K) | refine u1 ?_ | refine uC (fun hb => ?_) fun hb => ?_ | refine u2 (fun hc => ?_) fun hc => ?_ | refine wI ?_ | refine ex_idx (by omega) ?_ | exact True.intro | fail)
      rw [if_neg (by decide)] at hK0
      rw [hK0]
      simp [Tryz.results41, RetL, upd_at, plainB, isOwn, anyOwn]
    · repeat' (first | exact hb.elim | refine wS fun K hK => ?_ | refine wB ?_ | refine uR hΓ ?_ | refine uD hΓ fun B hB => ?_ | ((repeat ((fail_if_success (refine hK _ ?_)); clear hK K)); refine hK _ ?_; clear hK K) | refine u1 ?_ | refine uC (fun hb => ?_) fun hb => ?_ | refine u2 (fun hc => ?_) fun hc => ?_ | refine wI ?_ | refine ex_idx (by omega) ?_ | exact True.intro | fail)
      rw [if_pos rfl] at hK0
      have hk5 := pickX_lt (bs := bs) (p := p3) (n := 5) (by decide)
      obtain ⟨c, hc5⟩ : ∃ c, pickX bs p3 5 = c := ⟨_, rfl⟩
      rw [hc5] at hK0 hk5
      (first | refine W_askE rfl _ _ (⟨bs, p3, 5, rfl, hcd, by omega, by omega, rfl, rfl⟩) ?_ | refine D_askE rfl _ _ (⟨bs, p3, 5, rfl, hcd, by omega, by omega, rfl, rfl⟩) ?_); simp (maxSteps := 2000000) only [go_sem]
      rw [hc5]
      repeat' (first | exact hb.elim | refine wS fun K hK => ?_ | refine wB ?_ | refine uR hΓ ?_ | refine uD hΓ fun B hB => ?_ | ((repeat ((fail_if_success (refine hK _ ?_)); clear hK K)); refine hK _ ?_; clear hK K) | refine u1 ?_ | refine uC (fun hb => ?_) fun hb => ?_ | refine u2 (fun hc => ?_) fun hc => ?_ | refine wI ?_ | refine ex_idx (by omega) ?_ | exact True.intro | fail)
      · rw [hK0, if_pos (by omega)]
        simp [Tryz.results41, RetL, upd_at, plainB, isOwn, anyOwn]
      · rw [hK0, if_neg (by omega), if_pos (by omega)]
        simp [Tryz.results41, RetL, upd_at, plainB, isOwn, anyOwn]
      · rw [hK0, if_neg (by omega), if_neg (by omega), if_pos (by omega)]
        simp [Tryz.results41, RetL, upd_at, plainB, isOwn, anyOwn]
      · rw [if_neg (by omega), if_neg (by omega), if_neg (by omega), if_pos (by omega)] at hK0
        have hk2 := pickX_lt (bs := bs) (p := p3 + 1) (n := 2) (by decide)
        (first | refine W_askE rfl _ _ (⟨bs, p3 + 1, 2, rfl, hcd, by omega, by omega, rfl, rfl⟩) ?_ | refine D_askE rfl _ _ (⟨bs, p3 + 1, 2, rfl, hcd, by omega, by omega, rfl, rfl⟩) ?_); simp (maxSteps := 2000000) only [go_sem]
        obtain ⟨L, hL⟩ : ∃ L : List Int, ([-1, 22] : List Int) = L := ⟨_, rfl⟩
        have hL8 : L.length = 2 := by rw [← hL]; rfl
        have hLm : [num .i64 (-1), num .i64 22] = L.map I := by rw [← hL]; rfl
        rw [hLm]
        simp (maxSteps := 2000000) only [go_sem]
        repeat' (first | exact hb.elim | refine wS fun K hK => ?_ | refine wB ?_ | refine uR hΓ ?_ | refine uD hΓ fun B hB => ?_ | ((repeat ((fail_if_success (refine hK _ ?_)); clear hK K)); refine hK _ ?_; clear hK K) | refine u1 ?_ | refine uC (fun hb => ?_) fun hb => ?_ | refine u2 (fun hc => ?_) fun hc => ?_ | refine wI ?_ | refine ex_idx (by omega) ?_ | exact True.intro | fail)
        have h5 : ∀ k (h : k < L.length), L[k] = if k = 0 then -1 else 22 := by
          intro k h
          subst hL
          have : k = 0 ∨ k = 1 := by simp at h; omega
          rcases this with rfl | rfl <;> rfl
        rw [h5, hK0]
        simp [Tryz.results41, RetL, upd_at, plainB, isOwn, anyOwn]
        all_goals omega
      · rw [if_neg (by omega), if_neg (by omega), if_neg (by omega), if_neg (by omega)] at hK0
        refine CW.loop (ι := List Int) (fun X => [(0, rdr bs (p3 + 1)), (7, oints X)]) (fun X => X = out ++ List.replicate (X.length - out.length) 21 ∧ out.length ≤ X.length ∧ X.length ≤ 41) (fun X => 41 - X.length) out ?_ ?_
        · exact ⟨by (simp only [xe, xj, Nat.reduceEqDiff]; (try simp [view, viewL_map]); (try omega)), by simp, Nat.le_refl _, by omega⟩
        rintro X ⟨hX, hX1, hX2⟩
        simp only [envOf]
        repeat' (first | exact hb.elim | refine wS fun K hK => ?_ | refine wB ?_ | refine uR hΓ ?_ | refine uD hΓ fun B hB => ?_ | ((repeat ((fail_if_success (refine hK _ ?_)); clear hK K)); refine hK _ ?_; clear hK K) | refine u1 ?_ | refine uC (fun hb => ?_) fun hb => ?_ | refine u2 (fun hc => ?_) fun hc => ?_ | refine wI ?_ | refine ex_idx (by omega) ?_ | exact True.intro | fail)
        · refine ⟨X ++ [21], by (simp only [xe, xj, Nat.reduceEqDiff]; (try simp [view, viewL_map]); (try omega)), ⟨?_, by simp; omega, by simp; omega⟩, by simp; omega⟩
          have h9 : (X ++ [21]).length - out.length = (X.length - out.length) + 1 := by simp; omega
          rw [h9, List.replicate_succ', ← List.append_assoc, ← hX]
        · have h9 : X = out ++ List.replicate (41 - out.length) 21 := by
            have : X.length = 41 := by omega
            rw [this] at hX; exact hX
          rw [hK0, ← h9]
          simp [Tryz.results41, RetL, upd_at, plainB, isOwn, anyOwn]
  

def whileXR (d B : Nat) (args : List AV) (r : AV) (args' : List AV) : Prop := ∃ (bs : List Nat) (p : Nat), args = [rdr bs p, I (d : Int)] ∧ CodeOK bs ∧ p < B ∧ r = oints (whileX bs d p).1 ∧ args' = [rdr bs (whileX bs d p).2]

theorem while0_ctr : CtrOK Tryz.prog 40 (effC (whileXR 0 1099509900000)) := by
  refine ctr_lend' Tryz.func40 rfl rfl Tryz.ntmps40 ?_
  rintro _ _ _ ⟨bs, p, rfl, hcd, hp, rfl, rfl⟩
  refine ⟨_, rfl, by simp, by simp, fun κ hκ => ?_⟩
  have hbig := bigW_gt
  rw [argEnv_eq]
  simp only [envA]
  have hΓ := ctxOf_ok (P := Tryz.prog) (cx pick_ctr <| cx specKatThen_ctr <| cx0)
  have hk := pickX_lt (bs := bs) (p := p + 1) (n := 2) (by decide)
  have hk3 := pickX_lt (bs := bs) (p := p) (n := 3) (by decide)
  obtain ⟨k0, hk0⟩ : ∃ k, pickX bs (p + 1) 2 = k := ⟨_, rfl⟩
  rw [hk0] at hk
  have hKO : KatOK [16 + (pickX bs p 3 : Int)] := KatOK.leaf (by omega)
  have hW : whileX bs 0 p = wloopX bs (fun q => ([], q)) false (1 + k0) [16 + (pickX bs p 3 : Int)] (p + 2) := by rw [whileX, hk0]
  obtain ⟨⟨S, p2⟩, hS⟩ : ∃ o, whileX bs 0 p = o := ⟨_, rfl⟩
  rw [hS] at hW
  rw [hS]
  dsimp only
  repeat' (first | exact hb.elim | refine wS fun K hK => ?_ | refine wB ?_ | refine uX hΓ ?_ | refine uV hΓ fun B hB => ?_ | ((repeat ((fail_if_success (refine hK _ ?_)); clear hK K)); refine hK _ ?_; clear hK K) | refine u1 ?_ | refine uC (fun hb => ?_) fun hb => ?_ | refine u2 (fun hc => ?_) fun hc => ?_ | refine wI ?_ | refine ex_idx (by omega) ?_ | exact True.intro | fail)
  (first | refine W_askE rfl _ _ (⟨bs, p, 3, rfl, hcd, by omega, by omega, rfl, rfl⟩) ?_ | refine D_askE rfl _ _ (⟨bs, p, 3, rfl, hcd, by omega, by omega, rfl, rfl⟩) ?_); simp (maxSteps := 2000000) only [go_sem]
  repeat' (first | exact hb.elim | refine wS fun K hK => ?_ | refine wB ?_ | refine uX hΓ ?_ | refine uV hΓ fun B hB => ?_ | ((repeat ((fail_if_success (refine hK _ ?_)); clear hK K)); refine hK _ ?_; clear hK K) | refine u1 ?_ | refine uC (fun hb => ?_) fun hb => ?_ | refine u2 (fun hc => ?_) fun hc => ?_ | refine wI ?_ | refine ex_idx (by omega) ?_ | exact True.intro | fail)
  (first | refine W_askE rfl _ _ (⟨bs, p + 1, 2, rfl, hcd, by omega, by omega, rfl, rfl⟩) ?_ | refine D_askE rfl _ _ (⟨bs, p + 1, 2, rfl, hcd, by omega, by omega, rfl, rfl⟩) ?_); simp (maxSteps := 2000000) only [go_sem]
  rw [hk0]
  repeat' (first | exact hb.elim | refine wS fun K hK => ?_ | refine wB ?_ | refine uX hΓ ?_ | refine uV hΓ fun B hB => ?_ | ((repeat ((fail_if_success (refine hK _ ?_)); clear hK K)); refine hK _ ?_; clear hK K) | refine u1 ?_ | refine uC (fun hb => ?_) fun hb => ?_ | refine u2 (fun hc => ?_) fun hc => ?_ | refine wI ?_ | refine ex_idx (by omega) ?_ | exact True.intro | fail)
  refine CW.loop (ι := Nat × List Int × Nat) (fun x => [(0, rdr bs x.2.2), (1, I 0), (5, oints x.2.1), (6, I (x.1 : Int))]) (fun x => wloopX bs (fun q => ([], q)) false x.1 x.2.1 x.2.2 = (S, p2) ∧ KatOK x.2.1 ∧ x.2.2 + 11 * x.1 ≤ p + 2 + 11 * (1 + k0)) (fun x => x.1) (1 + k0, [16 + (pickX bs p 3 : Int)], p + 2) ?_ ?_
  · exact ⟨by (simp only [xe, xj, Nat.reduceEqDiff]; (try simp [view, viewL_map]); (try omega)), hW.symm, hKO, by dsimp only; omega⟩
  rintro ⟨k, out, q⟩ ⟨hkl, hok, hq⟩
  dsimp only at hkl hok hq
  have hol := hok.1
  simp only [envOf]
  repeat' (first | exact hb.elim | refine wS fun K hK => ?_ | refine wB ?_ | refine uX hΓ ?_ | refine uV hΓ fun B hB => ?_ | ((repeat ((fail_if_success (refine hK _ ?_)); clear hK K)); refine hK _ ?_; clear hK K) | refine u1 ?_ | refine uC (fun hb => ?_) fun hb => ?_ | refine u2 (fun hc => ?_) fun hc => ?_ | refine wI ?_ | refine ex_idx (by omega) ?_ | exact True.intro | fail)
  rotate_left
  · have hk00 : k = 0 := by omega
    subst hk00
    simp only [wloopX, Prod.mk.injEq] at hkl
    obtain ⟨rfl, rfl⟩ := hkl
    simp [Tryz.results40, RetL, upd_at, plainB, isOwn, anyOwn]
  obtain ⟨j, rfl⟩ : ∃ j, k = j + 1 := ⟨k - 1, by omega⟩
  have e1 : ((j + 1 : Nat) : Int) - 1 = (j : Int) := by omega
  have hst : wloopX bs (fun q => ([], q)) false j (wstepX bs (fun q => ([], q)) false out q).1 (wstepX bs (fun q => ([], q)) false out q).2 = (S, p2) := hkl
  have hso := wstepX_ok (bs := bs) (rec := (fun q => ([], q))) (d := false) (p := q) hok
  have hsp : (wstepX bs (fun q => ([], q)) false out q).2 = (nextX bs (fun q => ([], q)) false q).2 + 1 := rfl
  have hnp := nextX_p (bs := bs) (rec := (fun q => ([], q))) (d := false) (p := q) (C := 0) (fun q => Nat.le_refl q)
  have hno : KatOK (nextX bs (fun q => ([], q)) false q).1 := nextX_ok
  have hq3 := pickX_lt (bs := bs) (p := q) (n := 3) (by decide)
  obtain ⟨c3, hc3⟩ : ∃ c, pickX bs q 3 = c := ⟨_, rfl⟩
  rw [hc3] at hq3
  (first | refine W_askE rfl _ _ (⟨bs, q, 3, rfl, hcd, by omega, by omega, rfl, rfl⟩) ?_ | refine D_askE rfl _ _ (⟨bs, q, 3, rfl, hcd, by omega, by omega, rfl, rfl⟩) ?_); simp (maxSteps := 2000000) only [go_sem]
  rw [hc3]
  repeat' (first | exact hb.elim | refine wS fun K hK => ?_ | refine wB ?_ | refine uX hΓ ?_ | refine uV hΓ fun B hB => ?_ | ((repeat ((fail_if_success (refine hK _ ?_)); clear hK K)); refine hK _ ?_; clear hK K) | refine u1 ?_ | refine uC (fun hb => ?_) fun hb => ?_ | refine u2 (fun hc => ?_) fun hc => ?_ | refine wI ?_ | refine ex_idx (by omega) ?_ | exact True.intro | fail)
  all_goals try (exfalso; omega)
  (first | refine W_askE rfl _ _ (⟨bs, q + 1, 4, rfl, hcd, by omega, by omega, rfl, rfl⟩) ?_ | refine D_askE rfl _ _ (⟨bs, q + 1, 4, rfl, hcd, by omega, by omega, rfl, rfl⟩) ?_); simp (maxSteps := 2000000) only [go_sem]
  repeat' (first | exact hb.elim | refine wS fun K hK => ?_ | refine wB ?_ | refine uX hΓ ?_ | refine uV hΓ fun B hB => ?_ | ((repeat ((fail_if_success (refine hK _ ?_)); clear hK K)); refine hK _ ?_; clear hK K) | refine u1 ?_ | refine uC (fun hb => ?_) fun hb => ?_ | refine u2 (fun hc => ?_) fun hc => ?_ | refine wI ?_ | refine ex_idx (by omega) ?_ | exact True.intro | fail)
  · have hP :  pickX bs (q + 1) 4 = 0 := by omega
    have hN : nextX bs (fun q => ([], q)) false q = ([15], q + 2) := by unfold nextX; simp only [Bool.false_eq_true, false_and, if_false, if_true, true_and, hc3]; rw [if_pos hP]
    rw [hN] at hnp hsp hno
    dsimp only at hnp hsp hno
    have hnl := hno.1
    obtain ⟨T, hT⟩ : ∃ T, thB out [15] = T := ⟨_, rfl⟩
    (first | refine wA rfl ?_ ?_ ?_ | refine dA rfl ?_ ?_ ?_); exact (.tup [oints (if T then out ++ ([15] ++ [19]) else []), .bool T]); exact (⟨out, [15], rfl, by omega, by omega, by rw [hT]⟩); simp (maxSteps := 2000000) only [go_sem]
    repeat' (first | exact hb.elim | refine wS fun K hK => ?_ | refine wB ?_ | refine uX hΓ ?_ | refine uV hΓ fun B hB => ?_ | ((repeat ((fail_if_success (refine hK _ ?_)); clear hK K)); refine hK _ ?_; clear hK K) | refine u1 ?_ | refine uC (fun hb => ?_) fun hb => ?_ | refine u2 (fun hc => ?_) fun hc => ?_ | refine wI ?_ | refine ex_idx (by omega) ?_ | exact True.intro | fail)
    have hS2 : wstepX bs (fun q => ([], q)) false out q = (if pickX bs (q + 2) 4 = 0 then [15] else if T then out ++ ([15] ++ [19]) else out, q + 2 + 1) := by unfold wstepX; rw [hN]; dsimp only; rw [hT]
    rw [hS2] at hst hso
    dsimp only at hst hso
    cases T
    · (first | refine W_askE rfl _ _ (⟨bs, q + 2, 4, rfl, hcd, by omega, by omega, rfl, rfl⟩) ?_ | refine D_askE rfl _ _ (⟨bs, q + 2, 4, rfl, hcd, by omega, by omega, rfl, rfl⟩) ?_); simp (maxSteps := 2000000) only [go_sem]
      repeat' (first | refine wS fun K hK => ?_ | refine wB ?_ | ((first | refine wX hΓ ?_ | refine wV hΓ fun B hB => ?_); simp (maxSteps := 2000000) only [go_sem, e1]) | ((repeat ((fail_if_success (refine hK _ ?_)); clear hK K)); refine hK _ ?_; clear hK K) | (refine w1 ?_; simp only [xs, xi, Nat.reduceEqDiff, reduceCtorEq, retL_ret, retL_normal]) | (refine wC (fun hb => ?_) fun hb => ?_ <;> (try simp only [xb, reduceCtorEq] at hb)) | (refine w2 (fun hc => ?_) (fun hc => ?_) <;> (try simp only [xc] at hc) <;> (try simp only [go_sem, hc, e1]) <;> (try simp only [xb] at hc)) | refine wI ?_ | refine ex_idx (by omega) ?_ | fail)
      · rw [if_pos (by omega)] at hst hso
        exact ⟨(j, [15], q + 2 + 1), by (simp only [xe, xj, Nat.reduceEqDiff]; (try simp [view, viewL_map]); (try omega)), ⟨hst, hso, by dsimp only; omega⟩, by dsimp only; omega⟩
      · rw [if_neg (by omega), if_neg (by decide)] at hst hso
        exact ⟨(j, out, q + 2 + 1), by (simp only [xe, xj, Nat.reduceEqDiff]; (try simp [view, viewL_map]); (try omega)), ⟨hst, hso, by dsimp only; omega⟩, by dsimp only; omega⟩
    · (first | refine W_askE rfl _ _ (⟨bs, q + 2, 4, rfl, hcd, by omega, by omega, rfl, rfl⟩) ?_ | refine D_askE rfl _ _ (⟨bs, q + 2, 4, rfl, hcd, by omega, by omega, rfl, rfl⟩) ?_); simp (maxSteps := 2000000) only [go_sem]
      repeat' (first | refine wS fun K hK => ?_ | refine wB ?_ | ((first | refine wX hΓ ?_ | refine wV hΓ fun B hB => ?_); simp (maxSteps := 2000000) only [go_sem, e1]) | ((repeat ((fail_if_success (refine hK _ ?_)); clear hK K)); refine hK _ ?_; clear hK K) | (refine w1 ?_; simp only [xs, xi, Nat.reduceEqDiff, reduceCtorEq, retL_ret, retL_normal]) | (refine wC (fun hb => ?_) fun hb => ?_ <;> (try simp only [xb, reduceCtorEq] at hb)) | (refine w2 (fun hc => ?_) (fun hc => ?_) <;> (try simp only [xc] at hc) <;> (try simp only [go_sem, hc, e1]) <;> (try simp only [xb] at hc)) | refine wI ?_ | refine ex_idx (by omega) ?_ | fail)
      · rw [if_pos (by omega)] at hst hso
        exact ⟨(j, [15], q + 2 + 1), by (simp only [xe, xj, Nat.reduceEqDiff]; (try simp [view, viewL_map]); (try omega)), ⟨hst, hso, by dsimp only; omega⟩, by dsimp only; omega⟩
      · rw [if_neg (by omega), if_pos rfl] at hst hso
        exact ⟨(j, out ++ ([15] ++ [19]), q + 2 + 1), by (simp only [xe, xj, Nat.reduceEqDiff]; (try simp [view, viewL_map]); (try omega)), ⟨hst, hso, by dsimp only; omega⟩, by dsimp only; omega⟩
  · have hP : ¬ pickX bs (q + 1) 4 = 0 := by omega
    have hN : nextX bs (fun q => ([], q)) false q = ([16 + (c3 : Int)], q + 2) := by unfold nextX; simp only [Bool.false_eq_true, false_and, if_false, if_true, true_and, hc3]; rw [if_neg hP]
    rw [hN] at hnp hsp hno
    dsimp only at hnp hsp hno
    have hnl := hno.1
    obtain ⟨T, hT⟩ : ∃ T, thB out [16 + (c3 : Int)] = T := ⟨_, rfl⟩
    (first | refine wA rfl ?_ ?_ ?_ | refine dA rfl ?_ ?_ ?_); exact (.tup [oints (if T then out ++ ([16 + (c3 : Int)] ++ [19]) else []), .bool T]); exact (⟨out, [16 + (c3 : Int)], rfl, by omega, by omega, by rw [hT]⟩); simp (maxSteps := 2000000) only [go_sem]
    repeat' (first | exact hb.elim | refine wS fun K hK => ?_ | refine wB ?_ | refine uX hΓ ?_ | refine uV hΓ fun B hB => ?_ | ((repeat ((fail_if_success (refine hK _ ?_)); clear hK K)); refine hK _ ?_; clear hK K) | refine u1 ?_ | refine uC (fun hb => ?_) fun hb => ?_ | refine u2 (fun hc => ?_) fun hc => ?_ | refine wI ?_ | refine ex_idx (by omega) ?_ | exact True.intro | fail)
    have hS2 : wstepX bs (fun q => ([], q)) false out q = (if pickX bs (q + 2) 4 = 0 then [16 + (c3 : Int)] else if T then out ++ ([16 + (c3 : Int)] ++ [19]) else out, q + 2 + 1) := by unfold wstepX; rw [hN]; dsimp only; rw [hT]
    rw [hS2] at hst hso
    dsimp only at hst hso
    cases T
    · (first | refine W_askE rfl _ _ (⟨bs, q + 2, 4, rfl, hcd, by omega, by omega, rfl, rfl⟩) ?_ | refine D_askE rfl _ _ (⟨bs, q + 2, 4, rfl, hcd, by omega, by omega, rfl, rfl⟩) ?_); simp (maxSteps := 2000000) only [go_sem]
      repeat' (first | refine wS fun K hK => ?_ | refine wB ?_ | ((first | refine wX hΓ ?_ | refine wV hΓ fun B hB => ?_); simp (maxSteps := 2000000) only [go_sem, e1]) | ((repeat ((fail_if_success (refine hK _ ?_)); clear hK K)); refine hK _ ?_; clear hK K) | (refine w1 ?_; simp only [xs, xi, Nat.reduceEqDiff, reduceCtorEq, retL_ret, retL_normal]) | (refine wC (fun hb => ?_) fun hb => ?_ <;> (try simp only [xb, reduceCtorEq] at hb)) | (refine w2 (fun hc => ?_) (fun hc => ?_) <;> (try simp only [xc] at hc) <;> (try simp only [go_sem, hc, e1]) <;> (try simp only [xb] at hc)) | refine wI ?_ | refine ex_idx (by omega) ?_ | fail)
      · rw [if_pos (by omega)] at hst hso
        exact ⟨(j, [16 + (c3 : Int)], q + 2 + 1), by (simp only [xe, xj, Nat.reduceEqDiff]; (try simp [view, viewL_map]); (try omega)), ⟨hst, hso, by dsimp only; omega⟩, by dsimp only; omega⟩
      · rw [if_neg (by omega), if_neg (by decide)] at hst hso
        exact ⟨(j, out, q + 2 + 1), by (simp only [xe, xj, Nat.reduceEqDiff]; (try simp [view, viewL_map]); (try omega)), ⟨hst, hso, by dsimp only; omega⟩, by dsimp only; omega⟩
    · (first | refine W_askE rfl _ _ (⟨bs, q + 2, 4, rfl, hcd, by omega, by omega, rfl, rfl⟩) ?_ | refine D_askE rfl _ _ (⟨bs, q + 2, 4, rfl, hcd, by omega, by omega, rfl, rfl⟩) ?_); simp (maxSteps := 2000000) only [go_sem]
      repeat' (first | refine wS fun K hK => ?_ | refine wB ?_ | ((first | refine wX hΓ ?_ | refine wV hΓ fun B hB => ?_); simp (maxSteps := 2000000) only [go_sem, e1]) | ((repeat ((fail_if_success (refine hK _ ?_)); clear hK K)); refine hK _ ?_; clear hK K) | (refine w1 ?_; simp only [xs, xi, Nat.reduceEqDiff, reduceCtorEq, retL_ret, retL_normal]) | (refine wC (fun hb => ?_) fun hb => ?_ <;> (try simp only [xb, reduceCtorEq] at hb)) | (refine w2 (fun hc => ?_) (fun hc => ?_) <;> (try simp only [xc] at hc) <;> (try simp only [go_sem, hc, e1]) <;> (try simp only [xb] at hc)) | refine wI ?_ | refine ex_idx (by omega) ?_ | fail)
      · rw [if_pos (by omega)] at hst hso
        exact ⟨(j, [16 + (c3 : Int)], q + 2 + 1), by (simp only [xe, xj, Nat.reduceEqDiff]; (try simp [view, viewL_map]); (try omega)), ⟨hst, hso, by dsimp only; omega⟩, by dsimp only; omega⟩
      · rw [if_neg (by omega), if_pos rfl] at hst hso
        exact ⟨(j, out ++ ([16 + (c3 : Int)] ++ [19]), q + 2 + 1), by (simp only [xe, xj, Nat.reduceEqDiff]; (try simp [view, viewL_map]); (try omega)), ⟨hst, hso, by dsimp only; omega⟩, by dsimp only; omega⟩

theorem while1_ctr : CtrOK Tryz.prog 40 (effC (whileXR 1 1099509000000)) := by
  refine ctr_lend' Tryz.func40 rfl rfl Tryz.ntmps40 ?_
  rintro _ _ _ ⟨bs, p, rfl, hcd, hp, rfl, rfl⟩
  refine ⟨_, rfl, by simp, by simp, fun κ hκ => ?_⟩
  have hbig := bigW_gt
  rw [argEnv_eq]
  simp only [envA]
  have hΓ := ctxOf_ok (P := Tryz.prog) (cx pick_ctr <| cx test_ctr <| cx specKatThen_ctr <| cx specKatIf_ctr <| cx specKatWhile_ctr <| cx while0_ctr <| cx0)
  have hk := pickX_lt (bs := bs) (p := p + 1) (n := 2) (by decide)
  have hk3 := pickX_lt (bs := bs) (p := p) (n := 3) (by decide)
  obtain ⟨k0, hk0⟩ : ∃ k, pickX bs (p + 1) 2 = k := ⟨_, rfl⟩
  rw [hk0] at hk
  have hKO : KatOK [16 + (pickX bs p 3 : Int)] := KatOK.leaf (by omega)
  have hW : whileX bs 1 p = wloopX bs (whileX bs 0) true (1 + k0) [16 + (pickX bs p 3 : Int)] (p + 2) := by rw [whileX, hk0]
  obtain ⟨⟨S, p2⟩, hS⟩ : ∃ o, whileX bs 1 p = o := ⟨_, rfl⟩
  rw [hS] at hW
  rw [hS]
  dsimp only
  repeat' (first | exact hb.elim | refine wS fun K hK => ?_ | refine wB ?_ | refine uX hΓ ?_ | refine uV hΓ fun B hB => ?_ | ((repeat ((fail_if_success (refine hK _ ?_)); clear hK K)); refine hK _ ?_; clear hK K) | refine u1 ?_ | refine uC (fun hb => ?_) fun hb => ?_ | refine u2 (fun hc => ?_) fun hc => ?_ | refine wI ?_ | refine ex_idx (by omega) ?_ | exact True.intro | fail)
  (first | refine W_askE rfl _ _ (⟨bs, p, 3, rfl, hcd, by omega, by omega, rfl, rfl⟩) ?_ | refine D_askE rfl _ _ (⟨bs, p, 3, rfl, hcd, by omega, by omega, rfl, rfl⟩) ?_); simp (maxSteps := 2000000) only [go_sem]
  repeat' (first | exact hb.elim | refine wS fun K hK => ?_ | refine wB ?_ | refine uX hΓ ?_ | refine uV hΓ fun B hB => ?_ | ((repeat ((fail_if_success (refine hK _ ?_)); clear hK K)); refine hK _ ?_; clear hK K) | refine u1 ?_ | refine uC (fun hb => ?_) fun hb => ?_ | refine u2 (fun hc => ?_) fun hc => ?_ | refine wI ?_ | refine ex_idx (by omega) ?_ | exact True.intro | fail)
  (first | refine W_askE rfl _ _ (⟨bs, p + 1, 2, rfl, hcd, by omega, by omega, rfl, rfl⟩) ?_ | refine D_askE rfl _ _ (⟨bs, p + 1, 2, rfl, hcd, by omega, by omega, rfl, rfl⟩) ?_); simp (maxSteps := 2000000) only [go_sem]
  rw [hk0]
  repeat' (first | exact hb.elim | refine wS fun K hK => ?_ | refine wB ?_ | refine uX hΓ ?_ | refine uV hΓ fun B hB => ?_ | ((repeat ((fail_if_success (refine hK _ ?_)); clear hK K)); refine hK _ ?_; clear hK K) | refine u1 ?_ | refine uC (fun hb => ?_) fun hb => ?_ | refine u2 (fun hc => ?_) fun hc => ?_ | refine wI ?_ | refine ex_idx (by omega) ?_ | exact True.intro | fail)
  refine CW.loop (ι := Nat × List Int × Nat) (fun x => [(0, rdr bs x.2.2), (1, I 1), (5, oints x.2.1), (6, I (x.1 : Int))]) (fun x => wloopX bs (whileX bs 0) true x.1 x.2.1 x.2.2 = (S, p2) ∧ KatOK x.2.1 ∧ x.2.2 + 59 * x.1 ≤ p + 2 + 59 * (1 + k0)) (fun x => x.1) (1 + k0, [16 + (pickX bs p 3 : Int)], p + 2) ?_ ?_
  · exact ⟨by (simp only [xe, xj, Nat.reduceEqDiff]; (try simp [view, viewL_map]); (try omega)), hW.symm, hKO, by dsimp only; omega⟩
  rintro ⟨k, out, q⟩ ⟨hkl, hok, hq⟩
  dsimp only at hkl hok hq
  have hol := hok.1
  simp only [envOf]
  repeat' (first | exact hb.elim | refine wS fun K hK => ?_ | refine wB ?_ | refine uX hΓ ?_ | refine uV hΓ fun B hB => ?_ | ((repeat ((fail_if_success (refine hK _ ?_)); clear hK K)); refine hK _ ?_; clear hK K) | refine u1 ?_ | refine uC (fun hb => ?_) fun hb => ?_ | refine u2 (fun hc => ?_) fun hc => ?_ | refine wI ?_ | refine ex_idx (by omega) ?_ | exact True.intro | fail)
  rotate_left
  · have hk00 : k = 0 := by omega
    subst hk00
    simp only [wloopX, Prod.mk.injEq] at hkl
    obtain ⟨rfl, rfl⟩ := hkl
    simp [Tryz.results40, RetL, upd_at, plainB, isOwn, anyOwn]
  obtain ⟨j, rfl⟩ : ∃ j, k = j + 1 := ⟨k - 1, by omega⟩
  have e1 : ((j + 1 : Nat) : Int) - 1 = (j : Int) := by omega
  have hst : wloopX bs (whileX bs 0) true j (wstepX bs (whileX bs 0) true out q).1 (wstepX bs (whileX bs 0) true out q).2 = (S, p2) := hkl
  have hso := wstepX_ok (bs := bs) (rec := (whileX bs 0)) (d := true) (p := q) hok
  have hsp : (wstepX bs (whileX bs 0) true out q).2 = (nextX bs (whileX bs 0) true q).2 + 1 := rfl
  have hnp := nextX_p (bs := bs) (rec := (whileX bs 0)) (d := true) (p := q) (C := 24) (whileX_p0 bs)
  have hno : KatOK (nextX bs (whileX bs 0) true q).1 := nextX_ok
  have hq3 := pickX_lt (bs := bs) (p := q) (n := 3) (by decide)
  obtain ⟨c3, hc3⟩ : ∃ c, pickX bs q 3 = c := ⟨_, rfl⟩
  rw [hc3] at hq3
  (first | refine W_askE rfl _ _ (⟨bs, q, 3, rfl, hcd, by omega, by omega, rfl, rfl⟩) ?_ | refine D_askE rfl _ _ (⟨bs, q, 3, rfl, hcd, by omega, by omega, rfl, rfl⟩) ?_); simp (maxSteps := 2000000) only [go_sem]
  rw [hc3]
  repeat' (first | exact hb.elim | refine wS fun K hK => ?_ | refine wB ?_ | refine uX hΓ ?_ | refine uV hΓ fun B hB => ?_ | ((repeat ((fail_if_success (refine hK _ ?_)); clear hK K)); refine hK _ ?_; clear hK K) | refine u1 ?_ | refine uC (fun hb => ?_) fun hb => ?_ | refine u2 (fun hc => ?_) fun hc => ?_ | refine wI ?_ | refine ex_idx (by omega) ?_ | exact True.intro | fail)
  all_goals try (exfalso; omega)
  (first | refine W_askE rfl _ _ (⟨bs, q + 1, 3, rfl, hcd, by omega, by omega, rfl, rfl⟩) ?_ | refine D_askE rfl _ _ (⟨bs, q + 1, 3, rfl, hcd, by omega, by omega, rfl, rfl⟩) ?_); simp (maxSteps := 2000000) only [go_sem]
  repeat' (first | exact hb.elim | refine wS fun K hK => ?_ | refine wB ?_ | refine uX hΓ ?_ | refine uV hΓ fun B hB => ?_ | ((repeat ((fail_if_success (refine hK _ ?_)); clear hK K)); refine hK _ ?_; clear hK K) | refine u1 ?_ | refine uC (fun hb => ?_) fun hb => ?_ | refine u2 (fun hc => ?_) fun hc => ?_ | refine wI ?_ | refine ex_idx (by omega) ?_ | exact True.intro | fail)
  all_goals try (exfalso; omega)
  · have hP : pickX bs (q + 1) 3 = 0 := by omega
    have t1 := testX_p bs (q + 2) 0
    obtain ⟨⟨tt, p3⟩, ht⟩ : ∃ o, testX bs (q + 2) 0 = o := ⟨_, rfl⟩
    rw [ht] at t1
    dsimp only at t1
    (first | refine W_askE rfl _ _ (⟨bs, q + 2, 0, rfl, hcd, by omega, by omega, rfl, rfl⟩) ?_ | refine D_askE rfl _ _ (⟨bs, q + 2, 0, rfl, hcd, by omega, by omega, rfl, rfl⟩) ?_); simp (maxSteps := 2000000) only [go_sem]
    rw [ht]
    dsimp only
    repeat' (first | exact hb.elim | refine wS fun K hK => ?_ | refine wB ?_ | refine uX hΓ ?_ | refine uV hΓ fun B hB => ?_ | ((repeat ((fail_if_success (refine hK _ ?_)); clear hK K)); refine hK _ ?_; clear hK K) | refine u1 ?_ | refine uC (fun hb => ?_) fun hb => ?_ | refine u2 (fun hc => ?_) fun hc => ?_ | refine wI ?_ | refine ex_idx (by omega) ?_ | exact True.intro | fail)
    have a1 := whileX_p0 bs p3
    have a2 := (whileX_ok bs 0 p3).1
    obtain ⟨⟨A, p4⟩, hA⟩ : ∃ o, whileX bs 0 p3 = o := ⟨_, rfl⟩
    rw [hA] at a1 a2
    dsimp only at a1 a2
    (first | refine W_askE rfl _ _ (⟨bs, p3, rfl, hcd, by omega, rfl, rfl⟩) ?_ | refine D_askE rfl _ _ (⟨bs, p3, rfl, hcd, by omega, rfl, rfl⟩) ?_); simp (maxSteps := 2000000) only [go_sem]
    rw [hA]
    dsimp only
    repeat' (first | exact hb.elim | refine wS fun K hK => ?_ | refine wB ?_ | refine uX hΓ ?_ | refine uV hΓ fun B hB => ?_ | ((repeat ((fail_if_success (refine hK _ ?_)); clear hK K)); refine hK _ ?_; clear hK K) | refine u1 ?_ | refine uC (fun hb => ?_) fun hb => ?_ | refine u2 (fun hc => ?_) fun hc => ?_ | refine wI ?_ | refine ex_idx (by omega) ?_ | exact True.intro | fail)
    have b1 := whileX_p0 bs p4
    have b2 := (whileX_ok bs 0 p4).1
    obtain ⟨⟨B2, p5⟩, hB2⟩ : ∃ o, whileX bs 0 p4 = o := ⟨_, rfl⟩
    rw [hB2] at b1 b2
    dsimp only at b1 b2
    (first | refine W_askE rfl _ _ (⟨bs, p4, rfl, hcd, by omega, rfl, rfl⟩) ?_ | refine D_askE rfl _ _ (⟨bs, p4, rfl, hcd, by omega, rfl, rfl⟩) ?_); simp (maxSteps := 2000000) only [go_sem]
    rw [hB2]
    dsimp only
    repeat' (first | exact hb.elim | refine wS fun K hK => ?_ | refine wB ?_ | refine uX hΓ ?_ | refine uV hΓ fun B hB => ?_ | ((repeat ((fail_if_success (refine hK _ ?_)); clear hK K)); refine hK _ ?_; clear hK K) | refine u1 ?_ | refine uC (fun hb => ?_) fun hb => ?_ | refine u2 (fun hc => ?_) fun hc => ?_ | refine wI ?_ | refine ex_idx (by omega) ?_ | exact True.intro | fail)
    obtain ⟨Y, hY⟩ : ∃ Y, ifL tt A B2 = Y := ⟨_, rfl⟩
    obtain ⟨U, hU⟩ : ∃ U, ifB tt A B2 = U := ⟨_, rfl⟩
    (first | refine wA rfl ?_ ?_ ?_ | refine dA rfl ?_ ?_ ?_); exact (.tup [oints (if U then Y else []), .bool U]); exact (⟨tt, A, B2, rfl, by omega, by omega, by rw [hU, hY]⟩); simp (maxSteps := 2000000) only [go_sem]
    cases U
    · repeat' (first | exact hb.elim | refine wS fun K hK => ?_ | refine wB ?_ | refine uX hΓ ?_ | refine uV hΓ fun B hB => ?_ | ((repeat ((fail_if_success (refine hK _ ?_)); clear hK K)); refine hK _ ?_; clear hK K) | refine u1 ?_ | refine uC (fun hb => ?_) fun hb => ?_ | refine u2 (fun hc => ?_) fun hc => ?_ | refine wI ?_ | refine ex_idx (by omega) ?_ | exact True.intro | fail)
      have hN : nextX bs (whileX bs 0) true q = ([16 + (c3 : Int)], p5) := by unfold nextX; simp only [Bool.false_eq_true, false_and, if_false, if_true, true_and, eq_self, hc3, hP, ht, hA, hB2, hU, hY]
      rw [hN] at hnp hsp hno
      dsimp only at hnp hsp hno
      have hnl := hno.1
      obtain ⟨T, hT⟩ : ∃ T, thB out [16 + (c3 : Int)] = T := ⟨_, rfl⟩
      (first | refine wA rfl ?_ ?_ ?_ | refine dA rfl ?_ ?_ ?_); exact (.tup [oints (if T then out ++ ([16 + (c3 : Int)] ++ [19]) else []), .bool T]); exact (⟨out, [16 + (c3 : Int)], rfl, by omega, by omega, by rw [hT]⟩); simp (maxSteps := 2000000) only [go_sem]
      repeat' (first | exact hb.elim | refine wS fun K hK => ?_ | refine wB ?_ | refine uX hΓ ?_ | refine uV hΓ fun B hB => ?_ | ((repeat ((fail_if_success (refine hK _ ?_)); clear hK K)); refine hK _ ?_; clear hK K) | refine u1 ?_ | refine uC (fun hb => ?_) fun hb => ?_ | refine u2 (fun hc => ?_) fun hc => ?_ | refine wI ?_ | refine ex_idx (by omega) ?_ | exact True.intro | fail)
      have hS2 : wstepX bs (whileX bs 0) true out q = (if pickX bs (p5) 4 = 0 then [16 + (c3 : Int)] else if T then out ++ ([16 + (c3 : Int)] ++ [19]) else out, p5 + 1) := by unfold wstepX; rw [hN]; dsimp only; rw [hT]
      rw [hS2] at hst hso
      dsimp only at hst hso
      cases T
      · (first | refine W_askE rfl _ _ (⟨bs, p5, 4, rfl, hcd, by omega, by omega, rfl, rfl⟩) ?_ | refine D_askE rfl _ _ (⟨bs, p5, 4, rfl, hcd, by omega, by omega, rfl, rfl⟩) ?_); simp (maxSteps := 2000000) only [go_sem]
        repeat' (first | refine wS fun K hK => ?_ | refine wB ?_ | ((first | refine wX hΓ ?_ | refine wV hΓ fun B hB => ?_); simp (maxSteps := 2000000) only [go_sem, e1]) | ((repeat ((fail_if_success (refine hK _ ?_)); clear hK K)); refine hK _ ?_; clear hK K) | (refine w1 ?_; simp only [xs, xi, Nat.reduceEqDiff, reduceCtorEq, retL_ret, retL_normal]) | (refine wC (fun hb => ?_) fun hb => ?_ <;> (try simp only [xb, reduceCtorEq] at hb)) | (refine w2 (fun hc => ?_) (fun hc => ?_) <;> (try simp only [xc] at hc) <;> (try simp only [go_sem, hc, e1]) <;> (try simp only [xb] at hc)) | refine wI ?_ | refine ex_idx (by omega) ?_ | fail)
        · rw [if_pos (by omega)] at hst hso
          exact ⟨(j, [16 + (c3 : Int)], p5 + 1), by (simp only [xe, xj, Nat.reduceEqDiff]; (try simp [view, viewL_map]); (try omega)), ⟨hst, hso, by dsimp only; omega⟩, by dsimp only; omega⟩
        · rw [if_neg (by omega), if_neg (by decide)] at hst hso
          exact ⟨(j, out, p5 + 1), by (simp only [xe, xj, Nat.reduceEqDiff]; (try simp [view, viewL_map]); (try omega)), ⟨hst, hso, by dsimp only; omega⟩, by dsimp only; omega⟩
      · (first | refine W_askE rfl _ _ (⟨bs, p5, 4, rfl, hcd, by omega, by omega, rfl, rfl⟩) ?_ | refine D_askE rfl _ _ (⟨bs, p5, 4, rfl, hcd, by omega, by omega, rfl, rfl⟩) ?_); simp (maxSteps := 2000000) only [go_sem]
        repeat' (first | refine wS fun K hK => ?_ | refine wB ?_ | ((first | refine wX hΓ ?_ | refine wV hΓ fun B hB => ?_); simp (maxSteps := 2000000) only [go_sem, e1]) | ((repeat ((fail_if_success (refine hK _ ?_)); clear hK K)); refine hK _ ?_; clear hK K) | (refine w1 ?_; simp only [xs, xi, Nat.reduceEqDiff, reduceCtorEq, retL_ret, retL_normal]) | (refine wC (fun hb => ?_) fun hb => ?_ <;> (try simp only [xb, reduceCtorEq] at hb)) | (refine w2 (fun hc => ?_) (fun hc => ?_) <;> (try simp only [xc] at hc) <;> (try simp only [go_sem, hc, e1]) <;> (try simp only [xb] at hc)) | refine wI ?_ | refine ex_idx (by omega) ?_ | fail)
        · rw [if_pos (by omega)] at hst hso
          exact ⟨(j, [16 + (c3 : Int)], p5 + 1), by (simp only [xe, xj, Nat.reduceEqDiff]; (try simp [view, viewL_map]); (try omega)), ⟨hst, hso, by dsimp only; omega⟩, by dsimp only; omega⟩
        · rw [if_neg (by omega), if_pos rfl] at hst hso
          exact ⟨(j, out ++ ([16 + (c3 : Int)] ++ [19]), p5 + 1), by (simp only [xe, xj, Nat.reduceEqDiff]; (try simp [view, viewL_map]); (try omega)), ⟨hst, hso, by dsimp only; omega⟩, by dsimp only; omega⟩
    · repeat' (first | exact hb.elim | refine wS fun K hK => ?_ | refine wB ?_ | refine uX hΓ ?_ | refine uV hΓ fun B hB => ?_ | ((repeat ((fail_if_success (refine hK _ ?_)); clear hK K)); refine hK _ ?_; clear hK K) | refine u1 ?_ | refine uC (fun hb => ?_) fun hb => ?_ | refine u2 (fun hc => ?_) fun hc => ?_ | refine wI ?_ | refine ex_idx (by omega) ?_ | exact True.intro | fail)
      have hN : nextX bs (whileX bs 0) true q = (Y, p5) := by unfold nextX; simp only [Bool.false_eq_true, false_and, if_false, if_true, true_and, eq_self, hc3, hP, ht, hA, hB2, hU, hY]
      rw [hN] at hnp hsp hno
      dsimp only at hnp hsp hno
      have hnl := hno.1
      obtain ⟨T, hT⟩ : ∃ T, thB out Y = T := ⟨_, rfl⟩
      (first | refine wA rfl ?_ ?_ ?_ | refine dA rfl ?_ ?_ ?_); exact (.tup [oints (if T then out ++ (Y ++ [19]) else []), .bool T]); exact (⟨out, Y, rfl, by omega, by omega, by rw [hT]⟩); simp (maxSteps := 2000000) only [go_sem]
      repeat' (first | exact hb.elim | refine wS fun K hK => ?_ | refine wB ?_ | refine uX hΓ ?_ | refine uV hΓ fun B hB => ?_ | ((repeat ((fail_if_success (refine hK _ ?_)); clear hK K)); refine hK _ ?_; clear hK K) | refine u1 ?_ | refine uC (fun hb => ?_) fun hb => ?_ | refine u2 (fun hc => ?_) fun hc => ?_ | refine wI ?_ | refine ex_idx (by omega) ?_ | exact True.intro | fail)
      have hS2 : wstepX bs (whileX bs 0) true out q = (if pickX bs (p5) 4 = 0 then Y else if T then out ++ (Y ++ [19]) else out, p5 + 1) := by unfold wstepX; rw [hN]; dsimp only; rw [hT]
      rw [hS2] at hst hso
      dsimp only at hst hso
      cases T
      · (first | refine W_askE rfl _ _ (⟨bs, p5, 4, rfl, hcd, by omega, by omega, rfl, rfl⟩) ?_ | refine D_askE rfl _ _ (⟨bs, p5, 4, rfl, hcd, by omega, by omega, rfl, rfl⟩) ?_); simp (maxSteps := 2000000) only [go_sem]
        repeat' (first | refine wS fun K hK => ?_ | refine wB ?_ | ((first | refine wX hΓ ?_ | refine wV hΓ fun B hB => ?_); simp (maxSteps := 2000000) only [go_sem, e1]) | ((repeat ((fail_if_success (refine hK _ ?_)); clear hK K)); refine hK _ ?_; clear hK K) | (refine w1 ?_; simp only [xs, xi, Nat.reduceEqDiff, reduceCtorEq, retL_ret, retL_normal]) | (refine wC (fun hb => ?_) fun hb => ?_ <;> (try simp only [xb, reduceCtorEq] at hb)) | (refine w2 (fun hc => ?_) (fun hc => ?_) <;> (try simp only [xc] at hc) <;> (try simp only [go_sem, hc, e1]) <;> (try simp only [xb] at hc)) | refine wI ?_ | refine ex_idx (by omega) ?_ | fail)
        · rw [if_pos (by omega)] at hst hso
          exact ⟨(j, Y, p5 + 1), by (simp only [xe, xj, Nat.reduceEqDiff]; (try simp [view, viewL_map]); (try omega)), ⟨hst, hso, by dsimp only; omega⟩, by dsimp only; omega⟩
        · rw [if_neg (by omega), if_neg (by decide)] at hst hso
          exact ⟨(j, out, p5 + 1), by (simp only [xe, xj, Nat.reduceEqDiff]; (try simp [view, viewL_map]); (try omega)), ⟨hst, hso, by dsimp only; omega⟩, by dsimp only; omega⟩
      · (first | refine W_askE rfl _ _ (⟨bs, p5, 4, rfl, hcd, by omega, by omega, rfl, rfl⟩) ?_ | refine D_askE rfl _ _ (⟨bs, p5, 4, rfl, hcd, by omega, by omega, rfl, rfl⟩) ?_); simp (maxSteps := 2000000) only [go_sem]
        repeat' (first | refine wS fun K hK => ?_ | refine wB ?_ | ((first | refine wX hΓ ?_ | refine wV hΓ fun B hB => ?_); simp (maxSteps := 2000000) only [go_sem, e1]) | ((repeat ((fail_if_success (refine hK _ ?_)); clear hK K)); refine hK _ ?_; clear hK K) | (refine w1 ?_; simp only [xs, xi, Nat.reduceEqDiff, reduceCtorEq, retL_ret, retL_normal]) | (refine wC (fun hb => ?_) fun hb => ?_ <;> (try simp only [xb, reduceCtorEq] at hb)) | (refine w2 (fun hc => ?_) (fun hc => ?_) <;> (try simp only [xc] at hc) <;> (try simp only [go_sem, hc, e1]) <;> (try simp only [xb] at hc)) | refine wI ?_ | refine ex_idx (by omega) ?_ | fail)
        · rw [if_pos (by omega)] at hst hso
          exact ⟨(j, Y, p5 + 1), by (simp only [xe, xj, Nat.reduceEqDiff]; (try simp [view, viewL_map]); (try omega)), ⟨hst, hso, by dsimp only; omega⟩, by dsimp only; omega⟩
        · rw [if_neg (by omega), if_pos rfl] at hst hso
          exact ⟨(j, out ++ (Y ++ [19]), p5 + 1), by (simp only [xe, xj, Nat.reduceEqDiff]; (try simp [view, viewL_map]); (try omega)), ⟨hst, hso, by dsimp only; omega⟩, by dsimp only; omega⟩
  · have hP : ¬ pickX bs (q + 1) 3 = 0 := by omega
    (first | refine W_askE rfl _ _ (⟨bs, q + 2, 2, rfl, hcd, by omega, by omega, rfl, rfl⟩) ?_ | refine D_askE rfl _ _ (⟨bs, q + 2, 2, rfl, hcd, by omega, by omega, rfl, rfl⟩) ?_); simp (maxSteps := 2000000) only [go_sem]
    repeat' (first | exact hb.elim | refine wS fun K hK => ?_ | refine wB ?_ | refine uX hΓ ?_ | refine uV hΓ fun B hB => ?_ | ((repeat ((fail_if_success (refine hK _ ?_)); clear hK K)); refine hK _ ?_; clear hK K) | refine u1 ?_ | refine uC (fun hb => ?_) fun hb => ?_ | refine u2 (fun hc => ?_) fun hc => ?_ | refine wI ?_ | refine ex_idx (by omega) ?_ | exact True.intro | fail)
    · have hP2 : pickX bs (q + 2) 2 = 0 := by omega
      have t1 := testX_p bs (q + 3) 0
      obtain ⟨⟨tt, p3⟩, ht⟩ : ∃ o, testX bs (q + 3) 0 = o := ⟨_, rfl⟩
      rw [ht] at t1
      dsimp only at t1
      (first | refine W_askE rfl _ _ (⟨bs, q + 3, 0, rfl, hcd, by omega, by omega, rfl, rfl⟩) ?_ | refine D_askE rfl _ _ (⟨bs, q + 3, 0, rfl, hcd, by omega, by omega, rfl, rfl⟩) ?_); simp (maxSteps := 2000000) only [go_sem]
      rw [ht]
      dsimp only
      repeat' (first | exact hb.elim | refine wS fun K hK => ?_ | refine wB ?_ | refine uX hΓ ?_ | refine uV hΓ fun B hB => ?_ | ((repeat ((fail_if_success (refine hK _ ?_)); clear hK K)); refine hK _ ?_; clear hK K) | refine u1 ?_ | refine uC (fun hb => ?_) fun hb => ?_ | refine u2 (fun hc => ?_) fun hc => ?_ | refine wI ?_ | refine ex_idx (by omega) ?_ | exact True.intro | fail)
      have a1 := whileX_p0 bs p3
      have a2 := (whileX_ok bs 0 p3).1
      obtain ⟨⟨A, p4⟩, hA⟩ : ∃ o, whileX bs 0 p3 = o := ⟨_, rfl⟩
      rw [hA] at a1 a2
      dsimp only at a1 a2
      (first | refine W_askE rfl _ _ (⟨bs, p3, rfl, hcd, by omega, rfl, rfl⟩) ?_ | refine D_askE rfl _ _ (⟨bs, p3, rfl, hcd, by omega, rfl, rfl⟩) ?_); simp (maxSteps := 2000000) only [go_sem]
      rw [hA]
      dsimp only
      repeat' (first | exact hb.elim | refine wS fun K hK => ?_ | refine wB ?_ | refine uX hΓ ?_ | refine uV hΓ fun B hB => ?_ | ((repeat ((fail_if_success (refine hK _ ?_)); clear hK K)); refine hK _ ?_; clear hK K) | refine u1 ?_ | refine uC (fun hb => ?_) fun hb => ?_ | refine u2 (fun hc => ?_) fun hc => ?_ | refine wI ?_ | refine ex_idx (by omega) ?_ | exact True.intro | fail)
      obtain ⟨Y, hY⟩ : ∃ Y, whL tt A = Y := ⟨_, rfl⟩
      obtain ⟨U, hU⟩ : ∃ U, whB tt A = U := ⟨_, rfl⟩
      (first | refine wA rfl ?_ ?_ ?_ | refine dA rfl ?_ ?_ ?_); exact (.tup [oints (if U then Y else []), .bool U]); exact (⟨tt, A, rfl, by omega, by rw [hU, hY]⟩); simp (maxSteps := 2000000) only [go_sem]
      cases U
      · repeat' (first | exact hb.elim | refine wS fun K hK => ?_ | refine wB ?_ | refine uX hΓ ?_ | refine uV hΓ fun B hB => ?_ | ((repeat ((fail_if_success (refine hK _ ?_)); clear hK K)); refine hK _ ?_; clear hK K) | refine u1 ?_ | refine uC (fun hb => ?_) fun hb => ?_ | refine u2 (fun hc => ?_) fun hc => ?_ | refine wI ?_ | refine ex_idx (by omega) ?_ | exact True.intro | fail)
        have hN : nextX bs (whileX bs 0) true q = ([16 + (c3 : Int)], p4) := by unfold nextX; simp only [Bool.false_eq_true, false_and, if_false, if_true, true_and, eq_self, hc3, hP, hP2, ht, hA, hU, hY]
        rw [hN] at hnp hsp hno
        dsimp only at hnp hsp hno
        have hnl := hno.1
        obtain ⟨T, hT⟩ : ∃ T, thB out [16 + (c3 : Int)] = T := ⟨_, rfl⟩
        (first | refine wA rfl ?_ ?_ ?_ | refine dA rfl ?_ ?_ ?_); exact (.tup [oints (if T then out ++ ([16 + (c3 : Int)] ++ [19]) else []), .bool T]); exact (⟨out, [16 + (c3 : Int)], rfl, by omega, by omega, by rw [hT]⟩); simp (maxSteps := 2000000) only [go_sem]
        repeat' (first | exact hb.elim | refine wS fun K hK => ?_ | refine wB ?_ | refine uX hΓ ?_ | refine uV hΓ fun B hB => ?_ | ((repeat ((fail_if_success (refine hK _ ?_)); clear hK K)); refine hK _ ?_; clear hK K) | refine u1 ?_ | refine uC (fun hb => ?_) fun hb => ?_ | refine u2 (fun hc => ?_) fun hc => ?_ | refine wI ?_ | refine ex_idx (by omega) ?_ | exact True.intro | fail)
        have hS2 : wstepX bs (whileX bs 0) true out q = (if pickX bs (p4) 4 = 0 then [16 + (c3 : Int)] else if T then out ++ ([16 + (c3 : Int)] ++ [19]) else out, p4 + 1) := by unfold wstepX; rw [hN]; dsimp only; rw [hT]
        rw [hS2] at hst hso
        dsimp only at hst hso
        cases T
        · (first | refine W_askE rfl _ _ (⟨bs, p4, 4, rfl, hcd, by omega, by omega, rfl, rfl⟩) ?_ | refine D_askE rfl _ _ (⟨bs, p4, 4, rfl, hcd, by omega, by omega, rfl, rfl⟩) ?_); simp (maxSteps := 2000000) only [go_sem]
          repeat' (first | refine wS fun K hK => ?_ | refine wB ?_ | ((first | refine wX hΓ ?_ | refine wV hΓ fun B hB => ?_); simp (maxSteps := 2000000) only [go_sem, e1]) | ((repeat ((fail_if_success (refine hK _ ?_)); clear hK K)); refine hK _ ?_; clear hK K) | (refine w1 ?_; simp only [xs, xi, Nat.reduceEqDiff, reduceCtorEq, retL_ret, retL_normal]) | (refine wC (fun hb => ?_) fun hb => ?_ <;> (try simp only [xb, reduceCtorEq] at hb)) | (refine w2 (fun hc => ?_) (fun hc => ?_) <;> (try simp only [xc] at hc) <;> (try simp only [go_sem, hc, e1]) <;> (try simp only [xb] at hc)) | refine wI ?_ | refine ex_idx (by omega) ?_ | fail)
          · rw [if_pos (by omega)] at hst hso
            exact ⟨(j, [16 + (c3 : Int)], p4 + 1), by (simp only [xe, xj, Nat.reduceEqDiff]; (try simp [view, viewL_map]); (try omega)), ⟨hst, hso, by dsimp only; omega⟩, by dsimp only; omega⟩
          · rw [if_neg (by omega), if_neg (by decide)] at hst hso
            exact ⟨(j, out, p4 + 1), by (simp only [xe, xj, Nat.reduceEqDiff]; (try simp [view, viewL_map]); (try omega)), ⟨hst, hso, by dsimp only; omega⟩, by dsimp only; omega⟩
        · (first | refine W_askE rfl _ _ (⟨bs, p4, 4, rfl, hcd, by omega, by omega, rfl, rfl⟩) ?_ | refine D_askE rfl _ _ (⟨bs, p4, 4, rfl, hcd, by omega, by omega, rfl, rfl⟩) ?_); simp (maxSteps := 2000000) only [go_sem]
          repeat' (first | refine wS fun K hK => ?_ | refine wB ?_ | ((first | refine wX hΓ ?_ | refine wV hΓ fun B hB => ?_); simp (maxSteps := 2000000) only [go_sem, e1]) | ((repeat ((fail_if_success (refine hK _ ?_)); clear hK K)); refine hK _ ?_; clear hK K) | (refine w1 ?_; simp only [xs, xi, Nat.reduceEqDiff, reduceCtorEq, retL_ret, retL_normal]) | (refine wC (fun hb => ?_) fun hb => ?_ <;> (try simp only [xb, reduceCtorEq] at hb)) | (refine w2 (fun hc => ?_) (fun hc => ?_) <;> (try simp only [xc] at hc) <;> (try simp only [go_sem, hc, e1]) <;> (try simp only [xb] at hc)) | refine wI ?_ | refine ex_idx (by omega) ?_ | fail)
          · rw [if_pos (by omega)] at hst hso
            exact ⟨(j, [16 + (c3 : Int)], p4 + 1), by (simp only [xe, xj, Nat.reduceEqDiff]; (try simp [view, viewL_map]); (try omega)), ⟨hst, hso, by dsimp only; omega⟩, by dsimp only; omega⟩
          · rw [if_neg (by omega), if_pos rfl] at hst hso
            exact ⟨(j, out ++ ([16 + (c3 : Int)] ++ [19]), p4 + 1), by (simp only [xe, xj, Nat.reduceEqDiff]; (try simp [view, viewL_map]); (try omega)), ⟨hst, hso, by dsimp only; omega⟩, by dsimp only; omega⟩
      · repeat' (first | exact hb.elim | refine wS fun K hK => ?_ | refine wB ?_ | refine uX hΓ ?_ | refine uV hΓ fun B hB => ?_ | ((repeat ((fail_if_success (refine hK _ ?_)); clear hK K)); refine hK _ ?_; clear hK K) | refine u1 ?_ | refine uC (fun hb => ?_) fun hb => ?_ | refine u2 (fun hc => ?_) fun hc => ?_ | refine wI ?_ | refine ex_idx (by omega) ?_ | exact True.intro | fail)
        have hN : nextX bs (whileX bs 0) true q = (Y, p4) := by unfold nextX; simp only [Bool.false_eq_true, false_and, if_false, if_true, true_and, eq_self, hc3, hP, hP2, ht, hA, hU, hY]
        rw [hN] at hnp hsp hno
        dsimp only at hnp hsp hno
        have hnl := hno.1
        obtain ⟨T, hT⟩ : ∃ T, thB out Y = T := ⟨_, rfl⟩
        (first | refine wA rfl ?_ ?_ ?_ | refine dA rfl ?_ ?_ ?_); exact (.tup [oints (if T then out ++ (Y ++ [19]) else []), .bool T]); exact (⟨out, Y, rfl, by omega, by omega, by rw [hT]⟩); simp (maxSteps := 2000000) only [go_sem]
        repeat' (first | exact hb.elim | refine wS fun K hK => ?_ | refine wB ?_ | refine uX hΓ ?_ | refine uV hΓ fun B hB => ?_ | ((repeat ((fail_if_success (refine hK _ ?_)); clear hK K)); refine hK _ ?_; clear hK K) | refine u1 ?_ | refine uC (fun hb => ?_) fun hb => ?_ | refine u2 (fun hc => ?_) fun hc => ?_ | refine wI ?_ | refine ex_idx (by omega) ?_ | exact True.intro | fail)
        have hS2 : wstepX bs (whileX bs 0) true out q = (if pickX bs (p4) 4 = 0 then Y else if T then out ++ (Y ++ [19]) else out, p4 + 1) := by unfold wstepX; rw [hN]; dsimp only; rw [hT]
        rw [hS2] at hst hso
        dsimp only at hst hso
        cases T
        · (first | refine W_askE rfl _ _ (⟨bs, p4, 4, rfl, hcd, by omega, by omega, rfl, rfl⟩) ?_ | refine D_askE rfl _ _ (⟨bs, p4, 4, rfl, hcd, by omega, by omega, rfl, rfl⟩) ?_); simp (maxSteps := 2000000) only [go_sem]
          repeat' (first | refine wS fun K hK => ?_ | refine wB ?_ | ((first | refine wX hΓ ?_ | refine wV hΓ fun B hB => ?_); simp (maxSteps := 2000000) only [go_sem, e1]) | ((repeat ((fail_if_success (refine hK _ ?_)); clear hK K)); refine hK _ ?_; clear hK K) | (refine w1 ?_; simp only [xs, xi, Nat.reduceEqDiff, reduceCtorEq, retL_ret, retL_normal]) | (refine wC (fun hb => ?_) fun hb => ?_ <;> (try simp only [xb, reduceCtorEq] at hb)) | (refine w2 (fun hc => ?_) (fun hc => ?_) <;> (try simp only [xc] at hc) <;> (try simp only [go_sem, hc, e1]) <;> (try simp only [xb] at hc)) | refine wI ?_ | refine ex_idx (by omega) ?_ | fail)
          · rw [if_pos (by omega)] at hst hso
            exact ⟨(j, Y, p4 + 1), by (simp only [xe, xj, Nat.reduceEqDiff]; (try simp [view, viewL_map]); (try omega)), ⟨hst, hso, by dsimp only; omega⟩, by dsimp only; omega⟩
          · rw [if_neg (by omega), if_neg (by decide)] at hst hso
            exact ⟨(j, out, p4 + 1), by (simp only [xe, xj, Nat.reduceEqDiff]; (try simp [view, viewL_map]); (try omega)), ⟨hst, hso, by dsimp only; omega⟩, by dsimp only; omega⟩
        · (first | refine W_askE rfl _ _ (⟨bs, p4, 4, rfl, hcd, by omega, by omega, rfl, rfl⟩) ?_ | refine D_askE rfl _ _ (⟨bs, p4, 4, rfl, hcd, by omega, by omega, rfl, rfl⟩) ?_); simp (maxSteps := 2000000) only [go_sem]
          repeat' (first | refine wS fun K hK => ?_ | refine wB ?_ | ((first | refine wX hΓ ?_ | refine wV hΓ fun B hB => ?_); simp (maxSteps := 2000000) only [go_sem, e1]) | ((repeat ((fail_if_success (refine hK _ ?_)); clear hK K)); refine hK _ ?_; clear hK K) | (refine w1 ?_; simp only [xs, xi, Nat.reduceEqDiff, reduceCtorEq, retL_ret, retL_normal]) | (refine wC (fun hb => ?_) fun hb => ?_ <;> (try simp only [xb, reduceCtorEq] at hb)) | (refine w2 (fun hc => ?_) (fun hc => ?_) <;> (try simp only [xc] at hc) <;> (try simp only [go_sem, hc, e1]) <;> (try simp only [xb] at hc)) | refine wI ?_ | refine ex_idx (by omega) ?_ | fail)
          · rw [if_pos (by omega)] at hst hso
            exact ⟨(j, Y, p4 + 1), by (simp only [xe, xj, Nat.reduceEqDiff]; (try simp [view, viewL_map]); (try omega)), ⟨hst, hso, by dsimp only; omega⟩, by dsimp only; omega⟩
          · rw [if_neg (by omega), if_pos rfl] at hst hso
            exact ⟨(j, out ++ (Y ++ [19]), p4 + 1), by (simp only [xe, xj, Nat.reduceEqDiff]; (try simp [view, viewL_map]); (try omega)), ⟨hst, hso, by dsimp only; omega⟩, by dsimp only; omega⟩
    · have hP2 : ¬ pickX bs (q + 2) 2 = 0 := by omega
      (first | refine W_askE rfl _ _ (⟨bs, q + 3, 4, rfl, hcd, by omega, by omega, rfl, rfl⟩) ?_ | refine D_askE rfl _ _ (⟨bs, q + 3, 4, rfl, hcd, by omega, by omega, rfl, rfl⟩) ?_); simp (maxSteps := 2000000) only [go_sem]
      repeat' (first | exact hb.elim | refine wS fun K hK => ?_ | refine wB ?_ | refine uX hΓ ?_ | refine uV hΓ fun B hB => ?_ | ((repeat ((fail_if_success (refine hK _ ?_)); clear hK K)); refine hK _ ?_; clear hK K) | refine u1 ?_ | refine uC (fun hb => ?_) fun hb => ?_ | refine u2 (fun hc => ?_) fun hc => ?_ | refine wI ?_ | refine ex_idx (by omega) ?_ | exact True.intro | fail)
      · have hP3 :  pickX bs (q + 3) 4 = 0 := by omega
        have hN : nextX bs (whileX bs 0) true q = ([15], q + 4) := by unfold nextX; simp only [Bool.false_eq_true, false_and, if_false, if_true, true_and, eq_self, hc3, hP, hP2, hP3]
        rw [hN] at hnp hsp hno
        dsimp only at hnp hsp hno
        have hnl := hno.1
        obtain ⟨T, hT⟩ : ∃ T, thB out [15] = T := ⟨_, rfl⟩
        (first | refine wA rfl ?_ ?_ ?_ | refine dA rfl ?_ ?_ ?_); exact (.tup [oints (if T then out ++ ([15] ++ [19]) else []), .bool T]); exact (⟨out, [15], rfl, by omega, by omega, by rw [hT]⟩); simp (maxSteps := 2000000) only [go_sem]
        repeat' (first | exact hb.elim | refine wS fun K hK => ?_ | refine wB ?_ | refine uX hΓ ?_ | refine uV hΓ fun B hB => ?_ | ((repeat ((fail_if_success (refine hK _ ?_)); clear hK K)); refine hK _ ?_; clear hK K) | refine u1 ?_ | refine uC (fun hb => ?_) fun hb => ?_ | refine u2 (fun hc => ?_) fun hc => ?_ | refine wI ?_ | refine ex_idx (by omega) ?_ | exact True.intro | fail)
        have hS2 : wstepX bs (whileX bs 0) true out q = (if pickX bs (q + 4) 4 = 0 then [15] else if T then out ++ ([15] ++ [19]) else out, q + 4 + 1) := by unfold wstepX; rw [hN]; dsimp only; rw [hT]
        rw [hS2] at hst hso
        dsimp only at hst hso
        cases T
        · (first | refine W_askE rfl _ _ (⟨bs, q + 4, 4, rfl, hcd, by omega, by omega, rfl, rfl⟩) ?_ | refine D_askE rfl _ _ (⟨bs, q + 4, 4, rfl, hcd, by omega, by omega, rfl, rfl⟩) ?_); simp (maxSteps := 2000000) only [go_sem]
          repeat' (first | refine wS fun K hK => ?_ | refine wB ?_ | ((first | refine wX hΓ ?_ | refine wV hΓ fun B hB => ?_); simp (maxSteps := 2000000) only [go_sem, e1]) | ((repeat ((fail_if_success (refine hK _ ?_)); clear hK K)); refine hK _ ?_; clear hK K) | (refine w1 ?_; simp only [xs, xi, Nat.reduceEqDiff, reduceCtorEq, retL_ret, retL_normal]) | (refine wC (fun hb => ?_) fun hb => ?_ <;> (try simp only [xb, reduceCtorEq] at hb)) | (refine w2 (fun hc => ?_) (fun hc => ?_) <;> (try simp only [xc] at hc) <;> (try simp only [go_sem, hc, e1]) <;> (try simp only [xb] at hc)) | refine wI ?_ | refine ex_idx (by omega) ?_ | fail)
          · rw [if_pos (by omega)] at hst hso
            exact ⟨(j, [15], q + 4 + 1), by (simp only [xe, xj, Nat.reduceEqDiff]; (try simp [view, viewL_map]); (try omega)), ⟨hst, hso, by dsimp only; omega⟩, by dsimp only; omega⟩
          · rw [if_neg (by omega), if_neg (by decide)] at hst hso
            exact ⟨(j, out, q + 4 + 1), by (simp only [xe, xj, Nat.reduceEqDiff]; (try simp [view, viewL_map]); (try omega)), ⟨hst, hso, by dsimp only; omega⟩, by dsimp only; omega⟩
        · (first | refine W_askE rfl _ _ (⟨bs, q + 4, 4, rfl, hcd, by omega, by omega, rfl, rfl⟩) ?_ | refine D_askE rfl _ _ (⟨bs, q + 4, 4, rfl, hcd, by omega, by omega, rfl, rfl⟩) ?_); simp (maxSteps := 2000000) only [go_sem]
          repeat' (first | refine wS fun K hK => ?_ | refine wB ?_ | ((first | refine wX hΓ ?_ | refine wV hΓ fun B hB => ?_); simp (maxSteps := 2000000) only [go_sem, e1]) | ((repeat ((fail_if_success (refine hK _ ?_)); clear hK K)); refine hK _ ?_; clear hK K) | (refine w1 ?_; simp only [xs, xi, Nat.reduceEqDiff, reduceCtorEq, retL_ret, retL_normal]) | (refine wC (fun hb => ?_) fun hb => ?_ <;> (try simp only [xb, reduceCtorEq] at hb)) | (refine w2 (fun hc => ?_) (fun hc => ?_) <;> (try simp only [xc] at hc) <;> (try simp only [go_sem, hc, e1]) <;> (try simp only [xb] at hc)) | refine wI ?_ | refine ex_idx (by omega) ?_ | fail)
          · rw [if_pos (by omega)] at hst hso
            exact ⟨(j, [15], q + 4 + 1), by (simp only [xe, xj, Nat.reduceEqDiff]; (try simp [view, viewL_map]); (try omega)), ⟨hst, hso, by dsimp only; omega⟩, by dsimp only; omega⟩
          · rw [if_neg (by omega), if_pos rfl] at hst hso
            exact ⟨(j, out ++ ([15] ++ [19]), q + 4 + 1), by (simp only [xe, xj, Nat.reduceEqDiff]; (try simp [view, viewL_map]); (try omega)), ⟨hst, hso, by dsimp only; omega⟩, by dsimp only; omega⟩
      · have hP3 : ¬ pickX bs (q + 3) 4 = 0 := by omega
        have hN : nextX bs (whileX bs 0) true q = ([16 + (c3 : Int)], q + 4) := by unfold nextX; simp only [Bool.false_eq_true, false_and, if_false, if_true, true_and, eq_self, hc3, hP, hP2, hP3]
        rw [hN] at hnp hsp hno
        dsimp only at hnp hsp hno
        have hnl := hno.1
        obtain ⟨T, hT⟩ : ∃ T, thB out [16 + (c3 : Int)] = T := ⟨_, rfl⟩
        (first | refine wA rfl ?_ ?_ ?_ | refine dA rfl ?_ ?_ ?_); exact (.tup [oints (if T then out ++ ([16 + (c3 : Int)] ++ [19]) else []), .bool T]); exact (⟨out, [16 + (c3 : Int)], rfl, by omega, by omega, by rw [hT]⟩); simp (maxSteps := 2000000) only [go_sem]
        repeat' (first | exact hb.elim | refine wS fun K hK => ?_ | refine wB ?_ | refine uX hΓ ?_ | refine uV hΓ fun B hB => ?_ | ((repeat ((fail_if_success (refine hK _ ?_)); clear hK K)); refine hK _ ?_; clear hK K) | refine u1 ?_ | refine uC (fun hb => ?_) fun hb => ?_ | refine u2 (fun hc => ?_) fun hc => ?_ | refine wI ?_ | refine ex_idx (by omega) ?_ | exact True.intro | fail)
        have hS2 : wstepX bs (whileX bs 0) true out q = (if pickX bs (q + 4) 4 = 0 then [16 + (c3 : Int)] else if T then out ++ ([16 + (c3 : Int)] ++ [19]) else out, q + 4 + 1) := by unfold wstepX; rw [hN]; dsimp only; rw [hT]
        rw [hS2] at hst hso
        dsimp only at hst hso
        cases T
        · (first | refine W_askE rfl _ _ (⟨bs, q + 4, 4, rfl, hcd, by omega, by omega, rfl, rfl⟩) ?_ | refine D_askE rfl _ _ (⟨bs, q + 4, 4, rfl, hcd, by omega, by omega, rfl, rfl⟩) ?_); simp (maxSteps := 2000000) only [go_sem]
          repeat' (first | refine wS fun K hK => ?_ | refine wB ?_ | ((first | refine wX hΓ ?_ | refine wV hΓ fun B hB => ?_); simp (maxSteps := 2000000) only [go_sem, e1]) | ((repeat ((fail_if_success (refine hK _ ?_)); clear hK K)); refine hK _ ?_; clear hK K) | (refine w1 ?_; simp only [xs, xi, Nat.reduceEqDiff, reduceCtorEq, retL_ret, retL_normal]) | (refine wC (fun hb => ?_) fun hb => ?_ <;> (try simp only [xb, reduceCtorEq] at hb)) | (refine w2 (fun hc => ?_) (fun hc => ?_) <;> (try simp only [xc] at hc) <;> (try simp only [go_sem, hc, e1]) <;> (try simp only [xb] at hc)) | refine wI ?_ | refine ex_idx (by omega) ?_ | fail)
          · rw [if_pos (by omega)] at hst hso
            exact ⟨(j, [16 + (c3 : Int)], q + 4 + 1), by (simp only [xe, xj, Nat.reduceEqDiff]; (try simp [view, viewL_map]); (try omega)), ⟨hst, hso, by dsimp only; omega⟩, by dsimp only; omega⟩
          · rw [if_neg (by omega), if_neg (by decide)] at hst hso
            exact ⟨(j, out, q + 4 + 1), by (simp only [xe, xj, Nat.reduceEqDiff]; (try simp [view, viewL_map]); (try omega)), ⟨hst, hso, by dsimp only; omega⟩, by dsimp only; omega⟩
        · (first | refine W_askE rfl _ _ (⟨bs, q + 4, 4, rfl, hcd, by omega, by omega, rfl, rfl⟩) ?_ | refine D_askE rfl _ _ (⟨bs, q + 4, 4, rfl, hcd, by omega, by omega, rfl, rfl⟩) ?_); simp (maxSteps := 2000000) only [go_sem]
          repeat' (first | refine wS fun K hK => ?_ | refine wB ?_ | ((first | refine wX hΓ ?_ | refine wV hΓ fun B hB => ?_); simp (maxSteps := 2000000) only [go_sem, e1]) | ((repeat ((fail_if_success (refine hK _ ?_)); clear hK K)); refine hK _ ?_; clear hK K) | (refine w1 ?_; simp only [xs, xi, Nat.reduceEqDiff, reduceCtorEq, retL_ret, retL_normal]) | (refine wC (fun hb => ?_) fun hb => ?_ <;> (try simp only [xb, reduceCtorEq] at hb)) | (refine w2 (fun hc => ?_) (fun hc => ?_) <;> (try simp only [xc] at hc) <;> (try simp only [go_sem, hc, e1]) <;> (try simp only [xb] at hc)) | refine wI ?_ | refine ex_idx (by omega) ?_ | fail)
          · rw [if_pos (by omega)] at hst hso
            exact ⟨(j, [16 + (c3 : Int)], q + 4 + 1), by (simp only [xe, xj, Nat.reduceEqDiff]; (try simp [view, viewL_map]); (try omega)), ⟨hst, hso, by dsimp only; omega⟩, by dsimp only; omega⟩
          · rw [if_neg (by omega), if_pos rfl] at hst hso
            exact ⟨(j, out ++ ([16 + (c3 : Int)] ++ [19]), q + 4 + 1), by (simp only [xe, xj, Nat.reduceEqDiff]; (try simp [view, viewL_map]); (try omega)), ⟨hst, hso, by dsimp only; omega⟩, by dsimp only; omega⟩

def progR (args : List AV) (r : AV) (args' : List AV) : Prop := ∃ (bs : List Nat) (p parts n : Nat), args = [rdr bs p, I (parts : Int), I (n : Int)] ∧ CodeOK bs ∧ p < 1099508000000 ∧ parts ≤ 1000 ∧ n < 1099511627776 ∧ r = oints (progX bs p parts n).1 ∧ args' = [rdr bs (progX bs p parts n).2]
theorem prog_ctr : CtrOK Tryz.prog 15 (effC progR) := by
  refine ctr_lend' Tryz.func15 rfl rfl Tryz.ntmps15 ?_
  rintro _ _ _ ⟨bs, p, parts, n, rfl, hcd, hp, hpa, hn, rfl, rfl⟩
  refine ⟨_, rfl, by simp, by simp, fun κ hκ => ?_⟩
  have hbig := bigW_gt
  rw [argEnv_eq]
  simp only [envA]
  have hΓ := ctxOf_ok (P := Tryz.prog) (cx pick_ctr <| cx while1_ctr <| cx kat_ctr <| cx0)
  have hX : progX bs p parts n = if pickX bs p 2 = 0 then whileX bs 1 (p + 1) else katX bs (p + 1) parts n := rfl
  repeat' (first | exact hb.elim | refine wS fun K hK => ?_ | refine wB ?_ | refine uR hΓ ?_ | refine uD hΓ fun B hB => ?_ | ((repeat ((fail_if_success (refine hK _ ?_)); clear hK K)); refine hK _ ?_; clear hK K) | refine u1 ?_ | refine uC (fun hb => ?_) fun hb => ?_ | refine u2 (fun hc => ?_) fun hc => ?_ | refine wI ?_ | refine ex_idx (by omega) ?_ | exact True.intro | fail)
  (first | refine W_askE rfl _ _ (⟨bs, p, 2, rfl, hcd, by omega, by omega, rfl, rfl⟩) ?_ | refine D_askE rfl _ _ (⟨bs, p, 2, rfl, hcd, by omega, by omega, rfl, rfl⟩) ?_); simp (maxSteps := 2000000) only [go_sem]
  repeat' (first | exact hb.elim | refine wS fun K hK => ?_ | refine wB ?_ | refine uR hΓ ?_ | refine uD hΓ fun B hB => ?_ | ((repeat ((fail_if_success (refine hK _ ?_)); clear hK K)); refine hK _ ?_; clear hK K) | refine u1 ?_ | refine uC (fun hb => ?_) fun hb => ?_ | refine u2 (fun hc => ?_) fun hc => ?_ | refine wI ?_ | refine ex_idx (by omega) ?_ | exact True.intro | fail)
  · rw [if_pos (by omega)] at hX
    (first | refine W_askE rfl _ _ (⟨bs, p + 1, rfl, hcd, by omega, rfl, rfl⟩) ?_ | refine D_askE rfl _ _ (⟨bs, p + 1, rfl, hcd, by omega, rfl, rfl⟩) ?_); simp (maxSteps := 2000000) only [go_sem]
    repeat' (first | exact hb.elim | refine wS fun K hK => ?_ | refine wB ?_ | refine uR hΓ ?_ | refine uD hΓ fun B hB => ?_ | ((repeat ((fail_if_success (refine hK _ ?_)); clear hK K)); refine hK _ ?_; clear hK K) | refine u1 ?_ | refine uC (fun hb => ?_) fun hb => ?_ | refine u2 (fun hc => ?_) fun hc => ?_ | refine wI ?_ | refine ex_idx (by omega) ?_ | exact True.intro | fail)
    rw [hX]
    simp [Tryz.results15, RetL, upd_at, plainB, isOwn, anyOwn]
  · rw [if_neg (by omega)] at hX
    (first | refine W_askE rfl _ _ (⟨bs, p + 1, parts, n, rfl, hcd, by omega, hpa, hn, rfl, rfl⟩) ?_ | refine D_askE rfl _ _ (⟨bs, p + 1, parts, n, rfl, hcd, by omega, hpa, hn, rfl, rfl⟩) ?_); simp (maxSteps := 2000000) only [go_sem]
    repeat' (first | exact hb.elim | refine wS fun K hK => ?_ | refine wB ?_ | refine uR hΓ ?_ | refine uD hΓ fun B hB => ?_ | ((repeat ((fail_if_success (refine hK _ ?_)); clear hK K)); refine hK _ ?_; clear hK K) | refine u1 ?_ | refine uC (fun hb => ?_) fun hb => ?_ | refine u2 (fun hc => ?_) fun hc => ?_ | refine wI ?_ | refine ex_idx (by omega) ?_ | exact True.intro | fail)
    rw [hX]
    simp [Tryz.results15, RetL, upd_at, plainB, isOwn, anyOwn]

end Go.Proofs.YtehdfifncbokeaaGreat
