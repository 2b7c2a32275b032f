/- The law FnAutoOf, walked by the engine. -/
import Derived.Test.YtehdfifncbokeaaGreatCU3
import Derived.Test.YtehdfifncbokeaaGreatAoP
import Derived.Test.YtehdfifncbokeaaGreatDrawPt
import Derived.Test.YtehdfifncbokeaaGreatR17
import Derived.Test.YtehdfifncbokeaaGreatGrpT
import Derived.Test.YtehdfifncbokeaaGreatGrpY
import Derived.Test.YtehdfifncbokeaaGreatGrpS
import Derived.Test.YtehdfifncbokeaaGreatR7a
import Derived.Test.YtehdfifncbokeaaGreatS2
import Derived.Test.YtehdfifncbokeaaGreatGrpV
import Derived.Test.YtehdfifncbokeaaGreatGrpU
import Derived.Test.YtehdfifncbokeaaGreatGrpD
import Derived.Test.YtehdfifncbokeaaGreatGrpM
import Derived.Test.YtehdfifncbokeaaGreatG4
import Derived.Test.YtehdfifncbokeaaGreatD9E
import Derived.Test.YtehdfifncbokeaaGreatEngMin
namespace Go.Proofs.YtehdfifncbokeaaGreat
set_option linter.unusedSimpArgs false
set_option linter.unusedVariables false
set_option maxRecDepth 8000
set_option maxHeartbeats 2000000
open Go Go.RowKit AV

attribute [local go_sem] List.nil_prefix List.drop_zero List.drop_succ_cons List.take_zero List.take_succ_cons List.take_nil

def drawAOR (args : List AV) (r : AV) : Prop := ∃ bs : List Nat, args = [byts bs] ∧ bs.length ≤ 1099511627776 ∧ (∀ b ∈ bs, b < 256) ∧ r = ints (progX (bs.take 2000) 0 6 9).1
theorem drawAutoOf_ctr : CtrOK Tryz.prog 4 (pureC drawAOR) := by
  refine ctr_pure' Tryz.func4 rfl rfl Tryz.ntmps4 ?_
  rintro _ _ ⟨bs, rfl, hl, hb256, rfl⟩
  refine ⟨by simp, fun κ hκ => ?_⟩
  have hbig := bigW_gt
  rw [argEnv_eq]
  simp only [envA]
  have hΓ := ctxOf_ok (P := Tryz.prog) (cx open_ctr <| cx prog_ctr <| cx0)
  have hcd : CodeOK (bs.take 2000) := ⟨by simp; omega, fun b hb => hb256 b (List.mem_of_mem_take hb)⟩
  obtain ⟨⟨e, p1⟩, hD⟩ : ∃ o, progX (bs.take 2000) 0 6 9 = o := ⟨_, rfl⟩
  simp only [hD]
  repeat' (first | exact hb.elim | refine wS fun K hK => ?_ | refine wB ?_ | refine uX hΓ ?_ | refine uV hΓ fun B hB => ?_ | ((repeat ((fail_if_success (refine hK _ ?_)); clear hK K)); refine hK _ ?_; clear hK K) | refine u1 ?_ | refine uC (fun hb => ?_) fun hb => ?_ | refine u2 (fun hc => ?_) fun hc => ?_ | refine wI ?_ | refine ex_idx (by omega) ?_ | exact True.intro | fail)
  (first | refine wA rfl _ (⟨bs, rfl, hl, rfl⟩) ?_ | refine dA rfl _ (⟨bs, rfl, hl, rfl⟩) ?_); simp (maxSteps := 2000000) only [go_sem]
  repeat' (first | exact hb.elim | refine wS fun K hK => ?_ | refine wB ?_ | refine uX hΓ ?_ | refine uV hΓ fun B hB => ?_ | ((repeat ((fail_if_success (refine hK _ ?_)); clear hK K)); refine hK _ ?_; clear hK K) | refine u1 ?_ | refine uC (fun hb => ?_) fun hb => ?_ | refine u2 (fun hc => ?_) fun hc => ?_ | refine wI ?_ | refine ex_idx (by omega) ?_ | exact True.intro | fail)
  (first | refine W_askE rfl _ _ (⟨bs.take 2000, 0, 6, 9, rfl, hcd, by omega, by omega, by omega, rfl, rfl⟩) ?_ | refine D_askE rfl _ _ (⟨bs.take 2000, 0, 6, 9, rfl, hcd, by omega, by omega, by omega, rfl, rfl⟩) ?_); simp (maxSteps := 2000000) only [go_sem]
  rw [hD]
  dsimp only
  repeat' (first | exact hb.elim | refine wS fun K hK => ?_ | refine wB ?_ | refine uX hΓ ?_ | refine uV hΓ fun B hB => ?_ | ((repeat ((fail_if_success (refine hK _ ?_)); clear hK K)); refine hK _ ?_; clear hK K) | refine u1 ?_ | refine uC (fun hb => ?_) fun hb => ?_ | refine u2 (fun hc => ?_) fun hc => ?_ | refine wI ?_ | refine ex_idx (by omega) ?_ | exact True.intro | fail)
  simp [Tryz.results4, RetOK, RetP, backA, upd_at, plainB, getP, isOwn, anyOwn, isP]
  simp [view, viewL_map, view_I]

theorem autoL_next2 (l : LL) : (autoL l).next.length = l.length ∧ ∀ x ∈ (autoL l).next, x.length = 12 := by
  have hn : (autoL l).next = l.map fun t => rowM l t 12 := rfl
  rw [hn]
  refine ⟨by simp, fun x hx => ?_⟩
  obtain ⟨t, _, rfl⟩ := List.mem_map.1 hx
  exact rowM_len _ _ _
theorem autD_parts2 (e : List Int) : (autD e).ends.length ≤ 10 ∧ (autD e).next.length ≤ 10 ∧ (∀ x ∈ (autD e).next, x.length = 12) ∧ ((autD e).ends.length = 0 → (allD e).length = 0 ∨ 10 < (allD e).length) ∧ ((autD e).ends.length ≠ 0 → AutoOK (autD e) ∧ katB e = true ∧ (autD e).ends.length = (allD e).length) := by
  by_cases hc : katB e = true ∧ (allL e).length ≤ 10
  · have hD : allD e = allL e := if_pos hc.1
    have hy := autD_yes hc.1 hc.2
    have hok := fun h => autD_ok (katB_true.1 hc.1) h
    have hc1 := hc.1
    have hc2 := hc.2
    rw [hD]
    rw [hy] at hok ⊢
    generalize allL e = A at *
    obtain ⟨h1, h2⟩ := autoL_next2 A
    have h3 : (autoL A).ends.length = A.length := autoL_len
    exact ⟨by omega, by omega, h2, fun h => .inl (by omega), fun h => ⟨hok h, hc1, h3⟩⟩
  · rw [autD_no hc]
    refine ⟨by simp, by simp, by simp, fun _ => ?_, fun h => absurd rfl h⟩
    unfold allD
    split
    · rename_i hk
      right
      exact Nat.lt_of_not_le fun h => hc ⟨hk, h⟩
    · left; rfl

theorem trFrom_lenX : ∀ (m : Nat) (t : List Int), ∀ u ∈ trFrom m t, u.length ≤ t.length + 2 * m
  | 0, t, u, h => by
    simp only [trFrom, List.mem_singleton] at h
    subst h; omega
  | m + 1, t, u, h => by
    simp only [trFrom, List.mem_append, List.mem_singleton, List.mem_flatMap] at h
    rcases h with rfl | ⟨k, _, h⟩
    · omega
    · have := trFrom_lenX m _ u h
      simp at this
      omega
theorem allTr_short {u : List Int} (h : u ∈ allTr 1 4) : u.length ≤ 1000 := by
  obtain ⟨k, _, h⟩ := List.mem_flatMap.1 h
  have := trFrom_lenX 1 _ u h
  simp at this
  omega

theorem fnAutoOf_ctr : CtrOK Tryz.prog 3 (pureC codeR2) := by
  refine ctr_pure' Tryz.func3 rfl rfl Tryz.ntmps3 ?_
  rintro _ _ ⟨bs, cs, rfl, ⟨hl, hb256⟩, ⟨hlc, hc256⟩, rfl⟩
  refine ⟨by simp, fun κ hκ => ?_⟩
  have hbig := bigW_gt
  rw [argEnv_eq]
  simp only [envA]
  have hΓ := ctxOf_ok (P := Tryz.prog) (cx drawAutoOf_ctr <| cx implAutoOf_ctr <| cx sameAuto_ctr <| cx specAutoOf_ctr <| cx implAllParts_ctr <| cx aliveL_ctr <| cx drawTraceBy_ctr <| cx implAutoRun_ctr <| cx implTraceIn_ctr <| cx allTraces_ctr <| cx implAutoValid_ctr <| cx0)
  have hel := progX_len (bs.take 2000) 0 6 9
  obtain ⟨e, he⟩ : ∃ e, (progX (bs.take 2000) 0 6 9).1 = e := ⟨_, rfl⟩
  rw [he] at hel
  have hrt := fun h t => run_trc (e := e) h t
  obtain ⟨hX1, hX2, hX3, hX4, hX5⟩ := autD_parts2 e
  obtain ⟨P, hP⟩ : ∃ P, allD e = P := ⟨_, rfl⟩
  have hPl : P.length ≤ 41 := by
    rw [← hP]
    unfold allD
    split
    · rename_i hk
      obtain ⟨x, hw, rfl, h40⟩ := katB_tree hk
      exact (allL_full hw h40)
    · simp
  obtain ⟨X, hX⟩ : ∃ X, autD e = X := ⟨_, rfl⟩
  rw [hX] at hrt hX1 hX2 hX3 hX4 hX5
  rw [hP] at hX4 hX5
  have hXE : smallE X.ends X.next := ⟨by omega, by omega, fun x hx => by have := hX3 x hx; omega⟩
  have htl := toldX_len (cs.take 2000) 0 5
  obtain ⟨e2, he2⟩ : ∃ e, (toldX (cs.take 2000) 0 5).1 = e := ⟨_, rfl⟩
  obtain ⟨t, ht⟩ : ∃ t, (toldX (cs.take 2000) 0 5).2.1 = t := ⟨_, rfl⟩
  rw [ht] at htl
  repeat' (first | exact hb.elim | refine wS fun K hK => ?_ | refine wB ?_ | refine uX hΓ ?_ | refine uV hΓ fun B hB => ?_ | ((repeat ((fail_if_success (refine hK _ ?_)); clear hK K)); refine hK _ ?_; clear hK K) | refine u1 ?_ | refine uC (fun hb => ?_) fun hb => ?_ | refine u2 (fun hc => ?_) fun hc => ?_ | refine wI ?_ | refine ex_idx (by omega) ?_ | exact True.intro | fail)
  · simp [Tryz.results3, RetOK, RetP, backA, upd_at, plainB, getP, isOwn, anyOwn, isP]
  rotate_left
  · simp [Tryz.results3, RetOK, RetP, backA, upd_at, plainB, getP, isOwn, anyOwn, isP]
  (first | refine wA rfl ?_ ?_ ?_ | refine dA rfl ?_ ?_ ?_); exact (ints e); exact (⟨bs, rfl, by omega, hb256, by rw [he]⟩); simp (maxSteps := 2000000) only [go_sem]
  repeat' (first | exact hb.elim | refine wS fun K hK => ?_ | refine wB ?_ | refine uX hΓ ?_ | refine uV hΓ fun B hB => ?_ | ((repeat ((fail_if_success (refine hK _ ?_)); clear hK K)); refine hK _ ?_; clear hK K) | refine u1 ?_ | refine uC (fun hb => ?_) fun hb => ?_ | refine u2 (fun hc => ?_) fun hc => ?_ | refine wI ?_ | refine ex_idx (by omega) ?_ | exact True.intro | fail)
  (first | refine wA rfl ?_ ?_ ?_ | refine dA rfl ?_ ?_ ?_); exact (agg [oints X.ends, oorows X.next]); exact (⟨e, rfl, by omega, by rw [hX]⟩); simp (maxSteps := 2000000) only [go_sem]
  repeat' (first | exact hb.elim | refine wS fun K hK => ?_ | refine wB ?_ | refine uX hΓ ?_ | refine uV hΓ fun B hB => ?_ | ((repeat ((fail_if_success (refine hK _ ?_)); clear hK K)); refine hK _ ?_; clear hK K) | refine u1 ?_ | refine uC (fun hb => ?_) fun hb => ?_ | refine u2 (fun hc => ?_) fun hc => ?_ | refine wI ?_ | refine ex_idx (by omega) ?_ | exact True.intro | fail)
  (first | refine wA rfl ?_ ?_ ?_ | refine dA rfl ?_ ?_ ?_); exact (agg [oints X.ends, oorows X.next]); exact (⟨e, rfl, by omega, by rw [hX]⟩); simp (maxSteps := 2000000) only [go_sem]
  repeat' (first | exact hb.elim | refine wS fun K hK => ?_ | refine wB ?_ | refine uX hΓ ?_ | refine uV hΓ fun B hB => ?_ | ((repeat ((fail_if_success (refine hK _ ?_)); clear hK K)); refine hK _ ?_; clear hK K) | refine u1 ?_ | refine uC (fun hb => ?_) fun hb => ?_ | refine u2 (fun hc => ?_) fun hc => ?_ | refine wI ?_ | refine ex_idx (by omega) ?_ | exact True.intro | fail)
  (first | refine wA rfl ?_ ?_ ?_ | refine dA rfl ?_ ?_ ?_); exact (.bool true); exact (⟨X, X, by simp [view], hXE, hXE, by simp⟩); simp (maxSteps := 2000000) only [go_sem]
  repeat' (first | exact hb.elim | refine wS fun K hK => ?_ | refine wB ?_ | refine uX hΓ ?_ | refine uV hΓ fun B hB => ?_ | ((repeat ((fail_if_success (refine hK _ ?_)); clear hK K)); refine hK _ ?_; clear hK K) | refine u1 ?_ | refine uC (fun hb => ?_) fun hb => ?_ | refine u2 (fun hc => ?_) fun hc => ?_ | refine wI ?_ | refine ex_idx (by omega) ?_ | exact True.intro | fail)
  (first | refine wA rfl ?_ ?_ ?_ | refine dA rfl ?_ ?_ ?_); exact (oorows P); exact (⟨e, rfl, by omega, by rw [hP]⟩); simp (maxSteps := 2000000) only [go_sem]
  by_cases hX0 : X.ends.length = 0
  · have hP0 := hX4 hX0
    repeat' (first | exact hb.elim | refine wS fun K hK => ?_ | refine wB ?_ | refine uX hΓ ?_ | refine uV hΓ fun B hB => ?_ | ((repeat ((fail_if_success (refine hK _ ?_)); clear hK K)); refine hK _ ?_; clear hK K) | refine u1 ?_ | refine uC (fun hb => ?_) fun hb => ?_ | refine u2 (fun hc => ?_) fun hc => ?_ | refine wI ?_ | refine ex_idx (by omega) ?_ | exact True.intro | fail)
    all_goals try (exfalso; first | exact absurd ‹true = false› (by decide) | exact absurd ‹false = true› (by decide) | exact absurd rfl ‹¬ true = true› | exact absurd trivial ‹¬ True› | omega)
    all_goals ((first | refine wA rfl _ (⟨rfl, rfl⟩) ?_ | refine dA rfl _ (⟨rfl, rfl⟩) ?_); simp (maxSteps := 2000000) only [go_sem])
    all_goals (repeat' (first | exact hb.elim | refine wS fun K hK => ?_ | refine wB ?_ | refine uX hΓ ?_ | refine uV hΓ fun B hB => ?_ | ((repeat ((fail_if_success (refine hK _ ?_)); clear hK K)); refine hK _ ?_; clear hK K) | refine u1 ?_ | refine uC (fun hb => ?_) fun hb => ?_ | refine u2 (fun hc => ?_) fun hc => ?_ | refine wI ?_ | refine ex_idx (by omega) ?_ | exact True.intro | fail))
    all_goals (simp [Tryz.results3, RetOK, RetP, backA, upd_at, plainB, getP, isOwn, anyOwn, isP])
  obtain ⟨hok, hk, hXP⟩ := hX5 hX0
  have hokB := autoOKB_true.2 hok
  have hrt := hrt hX0
  have hLl := allTr_len 1 4
  obtain ⟨L, hL⟩ : ∃ L, allTr 1 4 = L := ⟨_, rfl⟩
  have hLx : ∀ u ∈ L, u.length ≤ 1000 := fun u hu => by
    rw [← hL] at hu
    exact allTr_short hu
  rw [hL] at hLl
  simp only [Nat.pow_one, Nat.reduceMul] at hLl
  obtain ⟨R, hR⟩ : ∃ R, trcB e t = R := ⟨_, rfl⟩
  have hR2 := hrt t
  rw [hR] at hR2
  repeat' (first | exact hb.elim | refine wS fun K hK => ?_ | refine wB ?_ | refine uX hΓ ?_ | refine uV hΓ fun B hB => ?_ | ((repeat ((fail_if_success (refine hK _ ?_)); clear hK K)); refine hK _ ?_; clear hK K) | refine u1 ?_ | refine uC (fun hb => ?_) fun hb => ?_ | refine u2 (fun hc => ?_) fun hc => ?_ | refine wI ?_ | refine ex_idx (by omega) ?_ | exact True.intro | fail)
  all_goals try (exfalso; first | exact absurd ‹true = false› (by decide) | exact absurd ‹false = true› (by decide) | exact absurd rfl ‹¬ true = true› | exact absurd trivial ‹¬ True› | omega)
  (first | refine wA rfl ?_ ?_ ?_ | refine dA rfl ?_ ?_ ?_); exact (.tup [ints e2, ints t]); exact (⟨cs, rfl, by omega, hc256, by rw [he2, ht]⟩); simp (maxSteps := 2000000) only [go_sem]
  repeat' (first | exact hb.elim | refine wS fun K hK => ?_ | refine wB ?_ | refine uX hΓ ?_ | refine uV hΓ fun B hB => ?_ | ((repeat ((fail_if_success (refine hK _ ?_)); clear hK K)); refine hK _ ?_; clear hK K) | refine u1 ?_ | refine uC (fun hb => ?_) fun hb => ?_ | refine u2 (fun hc => ?_) fun hc => ?_ | refine wI ?_ | refine ex_idx (by omega) ?_ | exact True.intro | fail)
  (first | refine wA rfl ?_ ?_ ?_ | refine dA rfl ?_ ?_ ?_); exact (.bool R); exact (⟨X, t, by simp [autA, view, viewL_map, view_I, Function.comp_def], by rw [hR2]⟩); simp (maxSteps := 2000000) only [go_sem]
  repeat' (first | exact hb.elim | refine wS fun K hK => ?_ | refine wB ?_ | refine uX hΓ ?_ | refine uV hΓ fun B hB => ?_ | ((repeat ((fail_if_success (refine hK _ ?_)); clear hK K)); refine hK _ ?_; clear hK K) | refine u1 ?_ | refine uC (fun hb => ?_) fun hb => ?_ | refine u2 (fun hc => ?_) fun hc => ?_ | refine wI ?_ | refine ex_idx (by omega) ?_ | exact True.intro | fail)
  (first | refine wA rfl ?_ ?_ ?_ | refine dA rfl ?_ ?_ ?_); exact (.bool R); exact (⟨e, t, rfl, by omega, by omega, by rw [hR]⟩); simp (maxSteps := 2000000) only [go_sem]
  simp (maxSteps := 2000000) only [go_sem, bne_self_eq_false, beq_self_eq_true]
  repeat' (first | refine wS fun K hK => ?_ | refine wB ?_ | ((first | refine wX hΓ ?_ | refine wV hΓ fun B hB => ?_); simp (maxSteps := 2000000) only [go_sem, bne_self_eq_false, beq_self_eq_true]) | ((repeat ((fail_if_success (refine hK _ ?_)); clear hK K)); refine hK _ ?_; clear hK K) | (refine w1 ?_; simp only [xs, xi, Nat.reduceEqDiff, reduceCtorEq]) | (refine wC (fun hb => ?_) fun hb => ?_ <;> (try simp only [xb, reduceCtorEq] at hb)) | (refine w2 (fun hc => ?_) (fun hc => ?_) <;> (try simp only [xc] at hc) <;> (try simp only [go_sem, hc, bne_self_eq_false, beq_self_eq_true]) <;> (try simp only [xb] at hc)) | refine wI ?_ | refine ex_idx (by omega) ?_ | fail)
  all_goals try (exfalso; first | exact absurd ‹true = false› (by decide) | exact absurd ‹false = true› (by decide) | exact absurd rfl ‹¬ true = true› | exact absurd trivial ‹¬ True› | omega)
  (first | refine wA rfl ?_ ?_ ?_ | refine dA rfl ?_ ?_ ?_); exact (oorows L); exact (⟨1, rfl, by omega, by rw [hL]⟩); simp (maxSteps := 2000000) only [go_sem]
  repeat' (first | exact hb.elim | refine wS fun K hK => ?_ | refine wB ?_ | refine uX hΓ ?_ | refine uV hΓ fun B hB => ?_ | ((repeat ((fail_if_success (refine hK _ ?_)); clear hK K)); refine hK _ ?_; clear hK K) | refine u1 ?_ | refine uC (fun hb => ?_) fun hb => ?_ | refine u2 (fun hc => ?_) fun hc => ?_ | refine wI ?_ | refine ex_idx (by omega) ?_ | exact True.intro | fail)
  refine CW.loop (ι := Nat) (fun k => [(5, ints e), (6, box [oints X.ends, oorows X.next]), (7, oorows P), (10, rows L), (11, I (k : Nat))]) (fun k => k ≤ L.length) (fun k => L.length - k) 0 ?_ ?_
  · exact ⟨by (simp only [xe, xj, Nat.reduceEqDiff]; (try simp [view, viewL_map]); (try omega)), by omega⟩
  rintro k hkL
  simp only [envOf]
  by_cases hk2 : k < L.length
  · have hxk := hLx _ (List.getElem_mem hk2)
    obtain ⟨R2, hR2⟩ : ∃ R, trcB e L[k] = R := ⟨_, rfl⟩
    have hR3 := hrt L[k]
    rw [hR2] at hR3
    repeat' (first | exact hb.elim | refine wS fun K hK => ?_ | refine wB ?_ | refine uX hΓ ?_ | refine uV hΓ fun B hB => ?_ | ((repeat ((fail_if_success (refine hK _ ?_)); clear hK K)); refine hK _ ?_; clear hK K) | refine u1 ?_ | refine uC (fun hb => ?_) fun hb => ?_ | refine u2 (fun hc => ?_) fun hc => ?_ | refine wI ?_ | refine ex_idx (by omega) ?_ | exact True.intro | fail)
    all_goals try (exfalso; first | exact absurd ‹true = false› (by decide) | exact absurd ‹false = true› (by decide) | exact absurd rfl ‹¬ true = true› | exact absurd trivial ‹¬ True› | omega)
    (first | refine wA rfl ?_ ?_ ?_ | refine dA rfl ?_ ?_ ?_); exact (.bool R2); exact (⟨X, L[k], by simp [autA, view, viewL_map, view_I, Function.comp_def], by rw [hR3]⟩); simp (maxSteps := 2000000) only [go_sem]
    repeat' (first | exact hb.elim | refine wS fun K hK => ?_ | refine wB ?_ | refine uX hΓ ?_ | refine uV hΓ fun B hB => ?_ | ((repeat ((fail_if_success (refine hK _ ?_)); clear hK K)); refine hK _ ?_; clear hK K) | refine u1 ?_ | refine uC (fun hb => ?_) fun hb => ?_ | refine u2 (fun hc => ?_) fun hc => ?_ | refine wI ?_ | refine ex_idx (by omega) ?_ | exact True.intro | fail)
    (first | refine wA rfl ?_ ?_ ?_ | refine dA rfl ?_ ?_ ?_); exact (.bool R2); exact (⟨e, L[k], rfl, by omega, by omega, by rw [hR2]⟩); simp (maxSteps := 2000000) only [go_sem]
    simp (maxSteps := 2000000) only [go_sem, bne_self_eq_false, beq_self_eq_true]
    repeat' (first | refine wS fun K hK => ?_ | refine wB ?_ | ((first | refine wX hΓ ?_ | refine wV hΓ fun B hB => ?_); simp (maxSteps := 2000000) only [go_sem, bne_self_eq_false, beq_self_eq_true]) | ((repeat ((fail_if_success (refine hK _ ?_)); clear hK K)); refine hK _ ?_; clear hK K) | (refine w1 ?_; simp only [xs, xi, Nat.reduceEqDiff, reduceCtorEq]) | (refine wC (fun hb => ?_) fun hb => ?_ <;> (try simp only [xb, reduceCtorEq] at hb)) | (refine w2 (fun hc => ?_) (fun hc => ?_) <;> (try simp only [xc] at hc) <;> (try simp only [go_sem, hc, bne_self_eq_false, beq_self_eq_true]) <;> (try simp only [xb] at hc)) | refine wI ?_ | refine ex_idx (by omega) ?_ | fail)
    all_goals try (exfalso; first | exact absurd ‹true = false› (by decide) | exact absurd ‹false = true› (by decide) | exact absurd rfl ‹¬ true = true› | exact absurd trivial ‹¬ True› | omega)
    exact ⟨k + 1, by (simp only [xe, xj, Nat.reduceEqDiff]; (try simp [view, viewL_map]); (try omega)), by omega, by omega⟩
  · repeat' (first | exact hb.elim | refine wS fun K hK => ?_ | refine wB ?_ | refine uX hΓ ?_ | refine uV hΓ fun B hB => ?_ | ((repeat ((fail_if_success (refine hK _ ?_)); clear hK K)); refine hK _ ?_; clear hK K) | refine u1 ?_ | refine uC (fun hb => ?_) fun hb => ?_ | refine u2 (fun hc => ?_) fun hc => ?_ | refine wI ?_ | refine ex_idx (by omega) ?_ | exact True.intro | fail)
    all_goals try (exfalso; first | exact absurd ‹true = false› (by decide) | exact absurd ‹false = true› (by decide) | exact absurd rfl ‹¬ true = true› | exact absurd trivial ‹¬ True› | omega)
    (first | refine wA rfl ?_ ?_ ?_ | refine dA rfl ?_ ?_ ?_); exact (.bool true); exact (⟨X.ends, X.next, rfl, by omega, by omega, fun x hx => by have := hX3 x hx; omega, by rw [← hokB]⟩); simp (maxSteps := 2000000) only [go_sem]
    repeat' (first | exact hb.elim | refine wS fun K hK => ?_ | refine wB ?_ | refine uX hΓ ?_ | refine uV hΓ fun B hB => ?_ | ((repeat ((fail_if_success (refine hK _ ?_)); clear hK K)); refine hK _ ?_; clear hK K) | refine u1 ?_ | refine uC (fun hb => ?_) fun hb => ?_ | refine u2 (fun hc => ?_) fun hc => ?_ | refine wI ?_ | refine ex_idx (by omega) ?_ | exact True.intro | fail)
    all_goals try (exfalso; first | exact absurd ‹true = false› (by decide) | exact absurd ‹false = true› (by decide) | exact absurd rfl ‹¬ true = true› | exact absurd trivial ‹¬ True› | omega)
    rw [decide_eq_true (show (X.ends.length : Int) = (P.length : Int) by omega)]
    simp [Tryz.results3, RetOK, RetP, backA, upd_at, plainB, getP, isOwn, anyOwn, isP]

end Go.Proofs.YtehdfifncbokeaaGreat
