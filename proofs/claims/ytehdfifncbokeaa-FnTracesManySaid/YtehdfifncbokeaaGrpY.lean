/- The reference's draw of an expression, walked by the engine. -/
import Derived.Test.YtehdfifncbokeaaGrpS
import Derived.Test.YtehdfifncbokeaaGrpE
import Derived.Test.YtehdfifncbokeaaEngMin
import Derived.Test.YtehdfifncbokeaaR4
import Derived.Test.YtehdfifncbokeaaGrpK
import Derived.Test.YtehdfifncbokeaaGrpD
import Derived.Test.YtehdfifncbokeaaDrawP7
namespace Go.Proofs.Ytehdfifncbokeaa
set_option linter.unusedSimpArgs false
set_option linter.unusedVariables false
set_option maxRecDepth 8000
set_option maxHeartbeats 2000000
open Go Go.RowKit AV

attribute [local go_sem] List.nil_prefix

def katR (args : List AV) (r : AV) (args' : List AV) : Prop := ∃ (bs : List Nat) (p parts n : Nat), args = [rdr bs p, I (parts : Int), I (n : Int)] ∧ CodeOK bs ∧ p < 1099510000000 ∧ parts ≤ 1000 ∧ n < 1099511627776 ∧ r = oints (katX bs p parts n).1 ∧ args' = [rdr bs (katX bs p parts n).2]
theorem kat_ctr : CtrOK Try.prog 22 (effC katR) := by
  refine ctr_lend' Try.func22 rfl rfl Try.ntmps22 ?_
  rintro _ _ _ ⟨bs, p, parts, n, rfl, hcd, hp, hpa, hn, rfl, rfl⟩
  refine ⟨_, rfl, by simp, by simp, fun κ hκ => ?_⟩
  have hbig := bigW_gt
  rw [argEnv_eq]
  simp only [envA]
  have hΓ := ctxOf_ok (P := Try.prog) (cx pick_ctr <| cx odd_ctr <| cx leaf_ctr <| cx l2Join_ctr <| cx0)
  have l1 := leafX_p bs p
  have l2 := leafX_len bs p
  obtain ⟨⟨ob, p1⟩, ho0⟩ : ∃ o, leafX bs p = o := ⟨_, rfl⟩
  rw [ho0] at l1 l2
  dsimp only at l1 l2
  have hk := pickX_lt (bs := bs) (p := p1) (n := parts + 1) (by omega)
  obtain ⟨k0, hk0⟩ : ∃ k, pickX bs p1 (parts + 1) = k := ⟨_, rfl⟩
  rw [hk0] at hk
  have s1 := katLoop_p bs k0 ob (p1 + 1)
  have s2 := katLoop_len bs k0 ob (p1 + 1) (by omega)
  obtain ⟨⟨S, p2⟩, hs0⟩ : ∃ o, katLoop bs k0 ob (p1 + 1) = o := ⟨_, rfl⟩
  rw [hs0] at s1 s2
  dsimp only at s1 s2
  have o1 := oddX_p bs p2 n
  obtain ⟨⟨oo, p3⟩, hoo⟩ : ∃ o, oddX bs p2 n = o := ⟨_, rfl⟩
  rw [hoo] at o1
  dsimp only at o1
  have hK0 : katX bs p parts n = if oo then
      (if pickX bs p3 5 = 0 then ([], p3 + 1)
      else if pickX bs p3 5 = 1 then (S ++ [16], p3 + 1)
      else if pickX bs p3 5 = 2 then ([20] ++ S, p3 + 1)
      else if pickX bs p3 5 = 3 then (S ++ [if pickX bs (p3 + 1) 2 = 0 then -1 else 22], p3 + 2)
      else (S ++ List.replicate (41 - S.length) 21, p3 + 1)) else (S, p3) := by
    unfold katX; dsimp only; rw [ho0]; dsimp only; rw [hk0, hs0]; dsimp only; rw [hoo]
  repeat' (first | exact hb.elim | refine wS fun K hK => ?_ | refine wB ?_ | refine uR hΓ ?_ | refine uD hΓ fun B hB => ?_ | ((repeat ((fail_if_success (refine hK _ ?_)); clear hK K)); refine hK _ ?_; clear hK K) | refine u1 ?_ | refine uC (fun hb => ?_) fun hb => ?_ | refine u2 (fun hc => ?_) fun hc => ?_ | refine wI ?_ | refine ex_idx (by omega) ?_ | exact True.intro | fail)
  (first | refine W_askE rfl _ _ (⟨bs, p, rfl, hcd, by omega, rfl, rfl⟩) ?_ | refine D_askE rfl _ _ (⟨bs, p, rfl, hcd, by omega, rfl, rfl⟩) ?_); simp (maxSteps := 2000000) only [go_sem]
  rw [ho0]
  dsimp only
  repeat' (first | exact hb.elim | refine wS fun K hK => ?_ | refine wB ?_ | refine uR hΓ ?_ | refine uD hΓ fun B hB => ?_ | ((repeat ((fail_if_success (refine hK _ ?_)); clear hK K)); refine hK _ ?_; clear hK K) | refine u1 ?_ | refine uC (fun hb => ?_) fun hb => ?_ | refine u2 (fun hc => ?_) fun hc => ?_ | refine wI ?_ | refine ex_idx (by omega) ?_ | exact True.intro | fail)
  (first | refine W_askE rfl _ _ (⟨bs, p1, parts + 1, rfl, hcd, by omega, by omega, rfl, rfl⟩) ?_ | refine D_askE rfl _ _ (⟨bs, p1, parts + 1, rfl, hcd, by omega, by omega, rfl, rfl⟩) ?_); simp (maxSteps := 2000000) only [go_sem]
  rw [hk0]
  repeat' (first | exact hb.elim | refine wS fun K hK => ?_ | refine wB ?_ | refine uR hΓ ?_ | refine uD hΓ fun B hB => ?_ | ((repeat ((fail_if_success (refine hK _ ?_)); clear hK K)); refine hK _ ?_; clear hK K) | refine u1 ?_ | refine uC (fun hb => ?_) fun hb => ?_ | refine u2 (fun hc => ?_) fun hc => ?_ | refine wI ?_ | refine ex_idx (by omega) ?_ | exact True.intro | fail)
  refine CW.loop (ι := Nat × List Int × Nat) (fun x => [(0, rdr bs x.2.2), (1, I (parts : Int)), (2, I (n : Int)), (7, oints x.2.1), (8, I (x.1 : Int))]) (fun x => katLoop bs x.1 x.2.1 x.2.2 = (S, p2) ∧ x.2.1.length ≤ 39 ∧ x.2.2 + 6 * x.1 ≤ p1 + 1 + 6 * k0) (fun x => x.1) (k0, ob, p1 + 1) ?_ ?_
  · exact ⟨by (simp only [xe, xj, Nat.reduceEqDiff]; (try simp [view, viewL_map]); (try omega)), hs0, by dsimp only; omega, by dsimp only; omega⟩
  rintro ⟨k, out, q⟩ ⟨hkl, hlen, hq⟩
  dsimp only at hkl hlen hq
  simp only [envOf]
  repeat' (first | exact hb.elim | refine wS fun K hK => ?_ | refine wB ?_ | refine uR hΓ ?_ | refine uD hΓ fun B hB => ?_ | ((repeat ((fail_if_success (refine hK _ ?_)); clear hK K)); refine hK _ ?_; clear hK K) | refine u1 ?_ | refine uC (fun hb => ?_) fun hb => ?_ | refine u2 (fun hc => ?_) fun hc => ?_ | refine wI ?_ | refine ex_idx (by omega) ?_ | exact True.intro | fail)
  · have e1 : (k : Int) - 1 = ((k - 1 : Nat) : Int) := by omega
    have hst : katLoop bs (k - 1) (katStep bs out q).1 (katStep bs out q).2 = (S, p2) := by
      obtain ⟨k, rfl⟩ : ∃ k', k = k' + 1 := ⟨k - 1, by omega⟩
      rw [katLoop, if_pos (by omega)] at hkl
      exact hkl
    have t1 := katStep_p bs out q
    have t2 := katStep_len bs out q
    have lp := leafX_p bs (q + 1)
    have ll := leafX_len bs (q + 1)
    obtain ⟨⟨lf, q2⟩, hlf⟩ : ∃ o, leafX bs (q + 1) = o := ⟨_, rfl⟩
    have hS : katStep bs out q = if pickX bs q 6 = 0 then (out ++ [21], q + 1) else if pickX bs q 6 = 1 then (lf ++ out ++ [19], q2) else if pickX bs q 6 = 2 then (lf ++ out ++ [20], q2) else if pickX bs q 6 = 3 then (out ++ lf ++ [20], q2) else (out ++ lf ++ [19], q2) := by
      unfold katStep; rw [hlf]
    rw [hlf] at lp ll
    dsimp only at lp ll
    obtain ⟨c, hc6⟩ : ∃ c, pickX bs q 6 = c := ⟨_, rfl⟩
    rw [hc6] at hS
    (first | refine W_askE rfl _ _ (⟨bs, q, 6, rfl, hcd, by omega, by omega, rfl, rfl⟩) ?_ | refine D_askE rfl _ _ (⟨bs, q, 6, rfl, hcd, by omega, by omega, rfl, rfl⟩) ?_); simp (maxSteps := 2000000) only [go_sem]
    rw [hc6]
    repeat' (first | refine wS fun K hK => ?_ | refine wB ?_ | ((first | refine wR hΓ ?_ | refine wD hΓ fun B hB => ?_); simp (maxSteps := 2000000) only [go_sem, e1]) | ((repeat ((fail_if_success (refine hK _ ?_)); clear hK K)); refine hK _ ?_; clear hK K) | (refine w1 ?_; simp only [xs, xi, Nat.reduceEqDiff, reduceCtorEq, retL_ret, retL_normal]) | (refine wC (fun hb => ?_) fun hb => ?_ <;> (try simp only [xb, reduceCtorEq] at hb)) | (refine w2 (fun hc => ?_) (fun hc => ?_) <;> (try simp only [xc] at hc) <;> (try simp only [go_sem, hc, e1]) <;> (try simp only [xb] at hc)) | refine wI ?_ | refine ex_idx (by omega) ?_ | fail)
    · rw [if_pos (by omega)] at hS
      rw [hS] at hst t1 t2
      dsimp only at hst t1 t2
      exact ⟨(k - 1, out ++ [21], q + 1), by (simp only [xe, xj, Nat.reduceEqDiff]; (try simp [view, viewL_map]); (try omega)), ⟨hst, by dsimp only; omega, by dsimp only; omega⟩, by dsimp only; omega⟩
    · rw [if_neg (by omega), if_pos (by omega)] at hS
      rw [hS] at hst t1 t2
      dsimp only at hst t1 t2
      (first | refine W_askE rfl _ _ (⟨bs, q + 1, rfl, hcd, by omega, rfl, rfl⟩) ?_ | refine D_askE rfl _ _ (⟨bs, q + 1, rfl, hcd, by omega, rfl, rfl⟩) ?_); simp (maxSteps := 2000000) only [go_sem]
      rw [hlf]
      dsimp only
      repeat' (first | exact hb.elim | refine wS fun K hK => ?_ | refine wB ?_ | refine uR hΓ ?_ | refine uD hΓ fun B hB => ?_ | ((repeat ((fail_if_success (refine hK _ ?_)); clear hK K)); refine hK _ ?_; clear hK K) | refine u1 ?_ | refine uC (fun hb => ?_) fun hb => ?_ | refine u2 (fun hc => ?_) fun hc => ?_ | refine wI ?_ | refine ex_idx (by omega) ?_ | exact True.intro | fail)
      (first | refine wA rfl _ (⟨lf, out, 19, rfl, by omega, by omega, rfl⟩) ?_ | refine dA rfl _ (⟨lf, out, 19, rfl, by omega, by omega, rfl⟩) ?_); simp (maxSteps := 2000000) only [go_sem]
      repeat' (first | refine wS fun K hK => ?_ | refine wB ?_ | ((first | refine wR hΓ ?_ | refine wD hΓ fun B hB => ?_); simp (maxSteps := 2000000) only [go_sem, e1]) | ((repeat ((fail_if_success (refine hK _ ?_)); clear hK K)); refine hK _ ?_; clear hK K) | (refine w1 ?_; simp only [xs, xi, Nat.reduceEqDiff, reduceCtorEq, retL_ret, retL_normal]) | (refine wC (fun hb => ?_) fun hb => ?_ <;> (try simp only [xb, reduceCtorEq] at hb)) | (refine w2 (fun hc => ?_) (fun hc => ?_) <;> (try simp only [xc] at hc) <;> (try simp only [go_sem, hc, e1]) <;> (try simp only [xb] at hc)) | refine wI ?_ | refine ex_idx (by omega) ?_ | fail)
      exact ⟨(k - 1, lf ++ out ++ [19], q2), by (simp only [xe, xj, Nat.reduceEqDiff]; (try simp [view, viewL_map]); (try omega)), ⟨hst, by dsimp only; omega, by dsimp only; omega⟩, by dsimp only; omega⟩
    · rw [if_neg (by omega), if_neg (by omega), if_pos (by omega)] at hS
      rw [hS] at hst t1 t2
      dsimp only at hst t1 t2
      (first | refine W_askE rfl _ _ (⟨bs, q + 1, rfl, hcd, by omega, rfl, rfl⟩) ?_ | refine D_askE rfl _ _ (⟨bs, q + 1, rfl, hcd, by omega, rfl, rfl⟩) ?_); simp (maxSteps := 2000000) only [go_sem]
      rw [hlf]
      dsimp only
      repeat' (first | exact hb.elim | refine wS fun K hK => ?_ | refine wB ?_ | refine uR hΓ ?_ | refine uD hΓ fun B hB => ?_ | ((repeat ((fail_if_success (refine hK _ ?_)); clear hK K)); refine hK _ ?_; clear hK K) | refine u1 ?_ | refine uC (fun hb => ?_) fun hb => ?_ | refine u2 (fun hc => ?_) fun hc => ?_ | refine wI ?_ | refine ex_idx (by omega) ?_ | exact True.intro | fail)
      (first | refine wA rfl _ (⟨lf, out, 20, rfl, by omega, by omega, rfl⟩) ?_ | refine dA rfl _ (⟨lf, out, 20, rfl, by omega, by omega, rfl⟩) ?_); simp (maxSteps := 2000000) only [go_sem]
      repeat' (first | refine wS fun K hK => ?_ | refine wB ?_ | ((first | refine wR hΓ ?_ | refine wD hΓ fun B hB => ?_); simp (maxSteps := 2000000) only [go_sem, e1]) | ((repeat ((fail_if_success (refine hK _ ?_)); clear hK K)); refine hK _ ?_; clear hK K) | (refine w1 ?_; simp only [xs, xi, Nat.reduceEqDiff, reduceCtorEq, retL_ret, retL_normal]) | (refine wC (fun hb => ?_) fun hb => ?_ <;> (try simp only [xb, reduceCtorEq] at hb)) | (refine w2 (fun hc => ?_) (fun hc => ?_) <;> (try simp only [xc] at hc) <;> (try simp only [go_sem, hc, e1]) <;> (try simp only [xb] at hc)) | refine wI ?_ | refine ex_idx (by omega) ?_ | fail)
      exact ⟨(k - 1, lf ++ out ++ [20], q2), by (simp only [xe, xj, Nat.reduceEqDiff]; (try simp [view, viewL_map]); (try omega)), ⟨hst, by dsimp only; omega, by dsimp only; omega⟩, by dsimp only; omega⟩
    · rw [if_neg (by omega), if_neg (by omega), if_neg (by omega), if_pos (by omega)] at hS
      rw [hS] at hst t1 t2
      dsimp only at hst t1 t2
      (first | refine W_askE rfl _ _ (⟨bs, q + 1, rfl, hcd, by omega, rfl, rfl⟩) ?_ | refine D_askE rfl _ _ (⟨bs, q + 1, rfl, hcd, by omega, rfl, rfl⟩) ?_); simp (maxSteps := 2000000) only [go_sem]
      rw [hlf]
      dsimp only
      repeat' (first | exact hb.elim | refine wS fun K hK => ?_ | refine wB ?_ | refine uR hΓ ?_ | refine uD hΓ fun B hB => ?_ | ((repeat ((fail_if_success (refine hK _ ?_)); clear hK K)); refine hK _ ?_; clear hK K) | refine u1 ?_ | refine uC (fun hb => ?_) fun hb => ?_ | refine u2 (fun hc => ?_) fun hc => ?_ | refine wI ?_ | refine ex_idx (by omega) ?_ | exact True.intro | fail)
      (first | refine wA rfl _ (⟨out, lf, 20, rfl, by omega, by omega, rfl⟩) ?_ | refine dA rfl _ (⟨out, lf, 20, rfl, by omega, by omega, rfl⟩) ?_); simp (maxSteps := 2000000) only [go_sem]
      repeat' (first | refine wS fun K hK => ?_ | refine wB ?_ | ((first | refine wR hΓ ?_ | refine wD hΓ fun B hB => ?_); simp (maxSteps := 2000000) only [go_sem, e1]) | ((repeat ((fail_if_success (refine hK _ ?_)); clear hK K)); refine hK _ ?_; clear hK K) | (refine w1 ?_; simp only [xs, xi, Nat.reduceEqDiff, reduceCtorEq, retL_ret, retL_normal]) | (refine wC (fun hb => ?_) fun hb => ?_ <;> (try simp only [xb, reduceCtorEq] at hb)) | (refine w2 (fun hc => ?_) (fun hc => ?_) <;> (try simp only [xc] at hc) <;> (try simp only [go_sem, hc, e1]) <;> (try simp only [xb] at hc)) | refine wI ?_ | refine ex_idx (by omega) ?_ | fail)
      exact ⟨(k - 1, out ++ lf ++ [20], q2), by (simp only [xe, xj, Nat.reduceEqDiff]; (try simp [view, viewL_map]); (try omega)), ⟨hst, by dsimp only; omega, by dsimp only; omega⟩, by dsimp only; omega⟩
    · rw [if_neg (by omega), if_neg (by omega), if_neg (by omega), if_neg (by omega)] at hS
      rw [hS] at hst t1 t2
      dsimp only at hst t1 t2
      (first | refine W_askE rfl _ _ (⟨bs, q + 1, rfl, hcd, by omega, rfl, rfl⟩) ?_ | refine D_askE rfl _ _ (⟨bs, q + 1, rfl, hcd, by omega, rfl, rfl⟩) ?_); simp (maxSteps := 2000000) only [go_sem]
      rw [hlf]
      dsimp only
      repeat' (first | exact hb.elim | refine wS fun K hK => ?_ | refine wB ?_ | refine uR hΓ ?_ | refine uD hΓ fun B hB => ?_ | ((repeat ((fail_if_success (refine hK _ ?_)); clear hK K)); refine hK _ ?_; clear hK K) | refine u1 ?_ | refine uC (fun hb => ?_) fun hb => ?_ | refine u2 (fun hc => ?_) fun hc => ?_ | refine wI ?_ | refine ex_idx (by omega) ?_ | exact True.intro | fail)
      (first | refine wA rfl _ (⟨out, lf, 19, rfl, by omega, by omega, rfl⟩) ?_ | refine dA rfl _ (⟨out, lf, 19, rfl, by omega, by omega, rfl⟩) ?_); simp (maxSteps := 2000000) only [go_sem]
      repeat' (first | refine wS fun K hK => ?_ | refine wB ?_ | ((first | refine wR hΓ ?_ | refine wD hΓ fun B hB => ?_); simp (maxSteps := 2000000) only [go_sem, e1]) | ((repeat ((fail_if_success (refine hK _ ?_)); clear hK K)); refine hK _ ?_; clear hK K) | (refine w1 ?_; simp only [xs, xi, Nat.reduceEqDiff, reduceCtorEq, retL_ret, retL_normal]) | (refine wC (fun hb => ?_) fun hb => ?_ <;> (try simp only [xb, reduceCtorEq] at hb)) | (refine w2 (fun hc => ?_) (fun hc => ?_) <;> (try simp only [xc] at hc) <;> (try simp only [go_sem, hc, e1]) <;> (try simp only [xb] at hc)) | refine wI ?_ | refine ex_idx (by omega) ?_ | fail)
      exact ⟨(k - 1, out ++ lf ++ [19], q2), by (simp only [xe, xj, Nat.reduceEqDiff]; (try simp [view, viewL_map]); (try omega)), ⟨hst, by dsimp only; omega, by dsimp only; omega⟩, by dsimp only; omega⟩
  all_goals
    have hfin : out = S ∧ q = p2 := by
      cases k with
      | zero => simpa [katLoop] using hkl
      | succ k => first | (exfalso; omega) | (rw [katLoop, if_neg (by omega)] at hkl; simpa using hkl)
    obtain ⟨rfl, rfl⟩ := hfin
    (first | refine W_askE rfl _ _ (⟨bs, q, n, rfl, hcd, by omega, hn, rfl, rfl⟩) ?_ | refine D_askE rfl _ _ (⟨bs, q, n, rfl, hcd, by omega, hn, rfl, rfl⟩) ?_); simp (maxSteps := 2000000) only [go_sem]
    rw [hoo]
    dsimp only
    cases oo
    · repeat' (first | exact hb.elim | refine wS fun K hK => ?_ | refine wB ?_ | refine uR hΓ ?_ | refine uD hΓ fun B hB => ?_ | ((repeat ((fail_if_success (refine hK _ ?_)); clear hK K)); refine hK _ ?_; clear hK K) | refine u1 ?_ | refine uC (fun hb => ?_) fun hb => ?_ | refine u2 (fun hc => ?_) fun hc => ?_ | refine wI ?_ | refine ex_idx (by omega) ?_ | exact True.intro | fail)
      rw [if_neg (by decide)] at hK0
      rw [hK0]
      simp [Try.results22, RetL, upd_at, plainB, isOwn, anyOwn]
    · repeat' (first | exact hb.elim | refine wS fun K hK => ?_ | refine wB ?_ | refine uR hΓ ?_ | refine uD hΓ fun B hB => ?_ | ((repeat ((fail_if_success (refine hK _ ?_)); clear hK K)); refine hK _ ?_; clear hK K) | refine u1 ?_ | refine uC (fun hb => ?_) fun hb => ?_ | refine u2 (fun hc => ?_) fun hc => ?_ | refine wI ?_ | refine ex_idx (by omega) ?_ | exact True.intro | fail)
      rw [if_pos rfl] at hK0
      have hk5 := pickX_lt (bs := bs) (p := p3) (n := 5) (by decide)
      obtain ⟨c, hc5⟩ : ∃ c, pickX bs p3 5 = c := ⟨_, rfl⟩
      rw [hc5] at hK0 hk5
      (first | refine W_askE rfl _ _ (⟨bs, p3, 5, rfl, hcd, by omega, by omega, rfl, rfl⟩) ?_ | refine D_askE rfl _ _ (⟨bs, p3, 5, rfl, hcd, by omega, by omega, rfl, rfl⟩) ?_); simp (maxSteps := 2000000) only [go_sem]
      rw [hc5]
      repeat' (first | exact hb.elim | refine wS fun K hK => ?_ | refine wB ?_ | refine uR hΓ ?_ | refine uD hΓ fun B hB => ?_ | ((repeat ((fail_if_success (refine hK _ ?_)); clear hK K)); refine hK _ ?_; clear hK K) | refine u1 ?_ | refine uC (fun hb => ?_) fun hb => ?_ | refine u2 (fun hc => ?_) fun hc => ?_ | refine wI ?_ | refine ex_idx (by omega) ?_ | exact True.intro | fail)
      · rw [hK0, if_pos (by omega)]
        simp [Try.results22, RetL, upd_at, plainB, isOwn, anyOwn]
      · rw [hK0, if_neg (by omega), if_pos (by omega)]
        simp [Try.results22, RetL, upd_at, plainB, isOwn, anyOwn]
      · rw [hK0, if_neg (by omega), if_neg (by omega), if_pos (by omega)]
        simp [Try.results22, RetL, upd_at, plainB, isOwn, anyOwn]
      · rw [if_neg (by omega), if_neg (by omega), if_neg (by omega), if_pos (by omega)] at hK0
        have hk2 := pickX_lt (bs := bs) (p := p3 + 1) (n := 2) (by decide)
        (first | refine W_askE rfl _ _ (⟨bs, p3 + 1, 2, rfl, hcd, by omega, by omega, rfl, rfl⟩) ?_ | refine D_askE rfl _ _ (⟨bs, p3 + 1, 2, rfl, hcd, by omega, by omega, rfl, rfl⟩) ?_); simp (maxSteps := 2000000) only [go_sem]
        obtain ⟨L, hL⟩ : ∃ L : List Int, ([-1, 22] : List Int) = L := ⟨_, rfl⟩
        have hL8 : L.length = 2 := by rw [← hL]; rfl
        have hLm : [num .i64 (-1), num .i64 22] = L.map I := by rw [← hL]; rfl
        rw [hLm]
        simp (maxSteps := 2000000) only [go_sem]
        repeat' (first | exact hb.elim | refine wS fun K hK => ?_ | refine wB ?_ | refine uR hΓ ?_ | refine uD hΓ fun B hB => ?_ | ((repeat ((fail_if_success (refine hK _ ?_)); clear hK K)); refine hK _ ?_; clear hK K) | refine u1 ?_ | refine uC (fun hb => ?_) fun hb => ?_ | refine u2 (fun hc => ?_) fun hc => ?_ | refine wI ?_ | refine ex_idx (by omega) ?_ | exact True.intro | fail)
        have h5 : ∀ k (h : k < L.length), L[k] = if k = 0 then -1 else 22 := by
          intro k h
          subst hL
          have : k = 0 ∨ k = 1 := by simp at h; omega
          rcases this with rfl | rfl <;> rfl
        rw [h5, hK0]
        simp [Try.results22, RetL, upd_at, plainB, isOwn, anyOwn]
        all_goals omega
      · rw [if_neg (by omega), if_neg (by omega), if_neg (by omega), if_neg (by omega)] at hK0
        refine CW.loop (ι := List Int) (fun X => [(0, rdr bs (p3 + 1)), (7, oints X)]) (fun X => X = out ++ List.replicate (X.length - out.length) 21 ∧ out.length ≤ X.length ∧ X.length ≤ 41) (fun X => 41 - X.length) out ?_ ?_
        · exact ⟨by (simp only [xe, xj, Nat.reduceEqDiff]; (try simp [view, viewL_map]); (try omega)), by simp, Nat.le_refl _, by omega⟩
        rintro X ⟨hX, hX1, hX2⟩
        simp only [envOf]
        repeat' (first | exact hb.elim | refine wS fun K hK => ?_ | refine wB ?_ | refine uR hΓ ?_ | refine uD hΓ fun B hB => ?_ | ((repeat ((fail_if_success (refine hK _ ?_)); clear hK K)); refine hK _ ?_; clear hK K) | refine u1 ?_ | refine uC (fun hb => ?_) fun hb => ?_ | refine u2 (fun hc => ?_) fun hc => ?_ | refine wI ?_ | refine ex_idx (by omega) ?_ | exact True.intro | fail)
        · refine ⟨X ++ [21], by (simp only [xe, xj, Nat.reduceEqDiff]; (try simp [view, viewL_map]); (try omega)), ⟨?_, by simp; omega, by simp; omega⟩, by simp; omega⟩
          have h9 : (X ++ [21]).length - out.length = (X.length - out.length) + 1 := by simp; omega
          rw [h9, List.replicate_succ', ← List.append_assoc, ← hX]
        · have h9 : X = out ++ List.replicate (41 - out.length) 21 := by
            have : X.length = 41 := by omega
            rw [this] at hX; exact hX
          rw [hK0, ← h9]
          simp [Try.results22, RetL, upd_at, plainB, isOwn, anyOwn]
  

end Go.Proofs.Ytehdfifncbokeaa
