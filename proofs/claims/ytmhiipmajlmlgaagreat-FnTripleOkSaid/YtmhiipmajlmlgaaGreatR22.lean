/- Two tests and an expression, drawn. Walked by the engine. -/
import Derived.Test.YtmhiipmajlmlgaaGreatGrpY
import Derived.Test.YtmhiipmajlmlgaaGreatLV14
import Derived.Test.YtmhiipmajlmlgaaGreatEngMin
namespace Go.Proofs.YtmhiipmajlmlgaaGreat
set_option linter.unusedSimpArgs false
set_option linter.unusedVariables false
set_option maxRecDepth 8000
set_option maxHeartbeats 2000000
open Go Go.RowKit AV

attribute [local go_sem] List.nil_prefix

noncomputable def wkI (e : List Int) (q : Int) : Int := weakI (autD e) q
theorem tripX_len (wk : List Int → Int → Int) (bs : List Nat) (p : Nat) : (tripX wk bs p).2.1.length ≤ 41 := by
  have := smallX_len bs p 12
  unfold tripX
  dsimp only
  split <;> exact this

def drawTOR (args : List AV) (r : AV) : Prop := ∃ bs : List Nat, args = [byts bs] ∧ bs.length ≤ 1099511627776 ∧ (∀ b ∈ bs, b < 256) ∧ r = .tup [I (tripX wkI (bs.take 2000) 0).1, ints (tripX wkI (bs.take 2000) 0).2.1, I (tripX wkI (bs.take 2000) 0).2.2]
theorem drawTripleOk_ctr : CtrOK Tryz.prog 16 (pureC drawTOR) := by
  refine ctr_many Tryz.func16 rfl rfl Tryz.ntmps16 ?_
  rintro _ _ ⟨bs, rfl, hl, hb256, rfl⟩
  refine ⟨by simp, fun κ hκ => ?_⟩
  have hbig := bigW_gt
  rw [argEnv_eq]
  simp only [envA]
  have hΓ := ctxOf_ok (P := Tryz.prog) (cx open_ctr <| cx small_ctr <| cx test_ctr <| cx specWeakTest_ctr <| cx pick_ctr <| cx l1Both_ctr <| cx0)
  have hcd : CodeOK (bs.take 2000) := ⟨by simp; omega, fun b hb => hb256 b (List.mem_of_mem_take hb)⟩
  have hp1 := smallX_p (bs.take 2000) 0 12
  have hel := smallX_len (bs.take 2000) 0 12
  have hTr : tripX wkI (bs.take 2000) 0 = (if 0 ≤ wkI (smallX (bs.take 2000) 0 12).1 (testX (bs.take 2000) (smallX (bs.take 2000) 0 12).2 12).1 ∧ pickX (bs.take 2000) (testX (bs.take 2000) (smallX (bs.take 2000) 0 12).2 12).2 2 = 0 then ((((wkI (smallX (bs.take 2000) 0 12).1 (testX (bs.take 2000) (smallX (bs.take 2000) 0 12).2 12).1).toNat &&& pickX (bs.take 2000) ((testX (bs.take 2000) (smallX (bs.take 2000) 0 12).2 12).2 + 1) 16 : Nat) : Int), (smallX (bs.take 2000) 0 12).1, (testX (bs.take 2000) (smallX (bs.take 2000) 0 12).2 12).1)
    else ((testX (bs.take 2000) (if 0 ≤ wkI (smallX (bs.take 2000) 0 12).1 (testX (bs.take 2000) (smallX (bs.take 2000) 0 12).2 12).1 then (testX (bs.take 2000) (smallX (bs.take 2000) 0 12).2 12).2 + 1 else (testX (bs.take 2000) (smallX (bs.take 2000) 0 12).2 12).2) 12).1, (smallX (bs.take 2000) 0 12).1, (testX (bs.take 2000) (smallX (bs.take 2000) 0 12).2 12).1)) := rfl
  have hp2 := testX_p (bs.take 2000) (smallX (bs.take 2000) 0 12).2 12
  generalize tripX wkI (bs.take 2000) 0 = O at hTr ⊢
  obtain ⟨⟨e, p1⟩, hD⟩ : ∃ o, smallX (bs.take 2000) 0 12 = o := ⟨_, rfl⟩
  rw [hD] at hp1 hel hTr hp2
  dsimp only at hp1 hel hTr hp2
  obtain ⟨⟨t, p2⟩, hT⟩ : ∃ o, testX (bs.take 2000) p1 12 = o := ⟨_, rfl⟩
  rw [hT] at hTr hp2
  dsimp only at hTr hp2
  obtain ⟨W, hW⟩ : ∃ W, weakI (autD e) t = W := ⟨_, rfl⟩
  have hWl := weakI_lt (autD e) t
  rw [hW] at hWl
  rw [show wkI e t = W from hW] at hTr
  have hk := pickX_lt (bs := bs.take 2000) (p := p2) (n := 2) (by omega)
  have hk2 := pickX_lt (bs := bs.take 2000) (p := p2 + 1) (n := 16) (by omega)
  obtain ⟨c, hc0⟩ : ∃ c, pickX (bs.take 2000) p2 2 = c := ⟨_, rfl⟩
  obtain ⟨d, hd0⟩ : ∃ c, pickX (bs.take 2000) (p2 + 1) 16 = c := ⟨_, rfl⟩
  rw [hc0, hd0] at hTr
  rw [hc0] at hk
  rw [hd0] at hk2
  repeat' (first | exact hb.elim | refine wS fun K hK => ?_ | refine wB ?_ | refine uR hΓ ?_ | refine uD hΓ fun B hB => ?_ | ((repeat ((fail_if_success (refine hK _ ?_)); clear hK K)); refine hK _ ?_; clear hK K) | refine u1 ?_ | refine uC (fun hb => ?_) fun hb => ?_ | refine u2 (fun hc => ?_) fun hc => ?_ | refine wI ?_ | refine ex_idx (by omega) ?_ | exact True.intro | fail)
  (first | refine wA rfl _ (⟨bs, rfl, hl, rfl⟩) ?_ | refine dA rfl _ (⟨bs, rfl, hl, rfl⟩) ?_); simp (maxSteps := 2000000) only [go_sem]
  repeat' (first | exact hb.elim | refine wS fun K hK => ?_ | refine wB ?_ | refine uR hΓ ?_ | refine uD hΓ fun B hB => ?_ | ((repeat ((fail_if_success (refine hK _ ?_)); clear hK K)); refine hK _ ?_; clear hK K) | refine u1 ?_ | refine uC (fun hb => ?_) fun hb => ?_ | refine u2 (fun hc => ?_) fun hc => ?_ | refine wI ?_ | refine ex_idx (by omega) ?_ | exact True.intro | fail)
  (first | refine W_askE rfl _ _ (⟨bs.take 2000, 0, 12, rfl, hcd, by omega, by omega, rfl, rfl⟩) ?_ | refine D_askE rfl _ _ (⟨bs.take 2000, 0, 12, rfl, hcd, by omega, by omega, rfl, rfl⟩) ?_); simp (maxSteps := 2000000) only [go_sem]
  rw [hD]
  dsimp only
  repeat' (first | exact hb.elim | refine wS fun K hK => ?_ | refine wB ?_ | refine uR hΓ ?_ | refine uD hΓ fun B hB => ?_ | ((repeat ((fail_if_success (refine hK _ ?_)); clear hK K)); refine hK _ ?_; clear hK K) | refine u1 ?_ | refine uC (fun hb => ?_) fun hb => ?_ | refine u2 (fun hc => ?_) fun hc => ?_ | refine wI ?_ | refine ex_idx (by omega) ?_ | exact True.intro | fail)
  (first | refine W_askE rfl _ _ (⟨bs.take 2000, p1, 12, rfl, hcd, by omega, by omega, rfl, rfl⟩) ?_ | refine D_askE rfl _ _ (⟨bs.take 2000, p1, 12, rfl, hcd, by omega, by omega, rfl, rfl⟩) ?_); simp (maxSteps := 2000000) only [go_sem]
  rw [hT]
  dsimp only
  repeat' (first | exact hb.elim | refine wS fun K hK => ?_ | refine wB ?_ | refine uR hΓ ?_ | refine uD hΓ fun B hB => ?_ | ((repeat ((fail_if_success (refine hK _ ?_)); clear hK K)); refine hK _ ?_; clear hK K) | refine u1 ?_ | refine uC (fun hb => ?_) fun hb => ?_ | refine u2 (fun hc => ?_) fun hc => ?_ | refine wI ?_ | refine ex_idx (by omega) ?_ | exact True.intro | fail)
  (first | refine wA rfl ?_ ?_ ?_ | refine dA rfl ?_ ?_ ?_); exact (I W); exact (⟨e, t, by simp [view, viewL_map, view_I], by omega, by rw [hW]⟩); simp (maxSteps := 2000000) only [go_sem]
  by_cases hW0 : 0 ≤ W
  rotate_left
  · rw [if_neg (fun h => hW0 h.1), if_neg hW0] at hTr
    obtain ⟨⟨u, p3⟩, hU⟩ : ∃ o, testX (bs.take 2000) p2 12 = o := ⟨_, rfl⟩
    rw [hU] at hTr
    repeat' (first | exact hb.elim | refine wS fun K hK => ?_ | refine wB ?_ | refine uR hΓ ?_ | refine uD hΓ fun B hB => ?_ | ((repeat ((fail_if_success (refine hK _ ?_)); clear hK K)); refine hK _ ?_; clear hK K) | refine u1 ?_ | refine uC (fun hb => ?_) fun hb => ?_ | refine u2 (fun hc => ?_) fun hc => ?_ | refine wI ?_ | refine ex_idx (by omega) ?_ | exact True.intro | fail)
    all_goals try (exfalso; omega)
    (first | refine W_askE rfl _ _ (⟨bs.take 2000, p2, 12, rfl, hcd, by omega, by omega, rfl, rfl⟩) ?_ | refine D_askE rfl _ _ (⟨bs.take 2000, p2, 12, rfl, hcd, by omega, by omega, rfl, rfl⟩) ?_); simp (maxSteps := 2000000) only [go_sem]
    rw [hU]
    dsimp only
    repeat' (first | exact hb.elim | refine wS fun K hK => ?_ | refine wB ?_ | refine uR hΓ ?_ | refine uD hΓ fun B hB => ?_ | ((repeat ((fail_if_success (refine hK _ ?_)); clear hK K)); refine hK _ ?_; clear hK K) | refine u1 ?_ | refine uC (fun hb => ?_) fun hb => ?_ | refine u2 (fun hc => ?_) fun hc => ?_ | refine wI ?_ | refine ex_idx (by omega) ?_ | exact True.intro | fail)
    rw [hTr]
    (rw [Tryz.results16]; refine ⟨_, rfl, by decide, by decide, by decide, ?_⟩; simp [ResL, ResI, upd_at, plainB, view, viewL_map, view_I])
  obtain ⟨w, rfl⟩ : ∃ w : Nat, W = (w : Int) := ⟨W.toNat, by omega⟩
  rw [Int.toNat_natCast] at hTr
  repeat' (first | exact hb.elim | refine wS fun K hK => ?_ | refine wB ?_ | refine uR hΓ ?_ | refine uD hΓ fun B hB => ?_ | ((repeat ((fail_if_success (refine hK _ ?_)); clear hK K)); refine hK _ ?_; clear hK K) | refine u1 ?_ | refine uC (fun hb => ?_) fun hb => ?_ | refine u2 (fun hc => ?_) fun hc => ?_ | refine wI ?_ | refine ex_idx (by omega) ?_ | exact True.intro | fail)
  all_goals try (exfalso; omega)
  (first | refine W_askE rfl _ _ (⟨bs.take 2000, p2, 2, rfl, hcd, by omega, by omega, rfl, rfl⟩) ?_ | refine D_askE rfl _ _ (⟨bs.take 2000, p2, 2, rfl, hcd, by omega, by omega, rfl, rfl⟩) ?_); simp (maxSteps := 2000000) only [go_sem]
  rw [hc0]
  by_cases hc : c = 0
  · subst hc
    rw [if_pos ⟨hW0, rfl⟩] at hTr
    repeat' (first | exact hb.elim | refine wS fun K hK => ?_ | refine wB ?_ | refine uR hΓ ?_ | refine uD hΓ fun B hB => ?_ | ((repeat ((fail_if_success (refine hK _ ?_)); clear hK K)); refine hK _ ?_; clear hK K) | refine u1 ?_ | refine uC (fun hb => ?_) fun hb => ?_ | refine u2 (fun hc => ?_) fun hc => ?_ | refine wI ?_ | refine ex_idx (by omega) ?_ | exact True.intro | fail)
    all_goals try (exfalso; omega)
    (first | refine W_askE rfl _ _ (⟨bs.take 2000, p2 + 1, 16, rfl, hcd, by omega, by omega, rfl, rfl⟩) ?_ | refine D_askE rfl _ _ (⟨bs.take 2000, p2 + 1, 16, rfl, hcd, by omega, by omega, rfl, rfl⟩) ?_); simp (maxSteps := 2000000) only [go_sem]
    rw [hd0]
    repeat' (first | exact hb.elim | refine wS fun K hK => ?_ | refine wB ?_ | refine uR hΓ ?_ | refine uD hΓ fun B hB => ?_ | ((repeat ((fail_if_success (refine hK _ ?_)); clear hK K)); refine hK _ ?_; clear hK K) | refine u1 ?_ | refine uC (fun hb => ?_) fun hb => ?_ | refine u2 (fun hc => ?_) fun hc => ?_ | refine wI ?_ | refine ex_idx (by omega) ?_ | exact True.intro | fail)
    (first | refine wA rfl ?_ ?_ ?_ | refine dA rfl ?_ ?_ ?_); exact (I ((w &&& d : Nat) : Int)); exact (⟨w, d, rfl, by omega, by omega, rfl⟩); simp (maxSteps := 2000000) only [go_sem]
    repeat' (first | exact hb.elim | refine wS fun K hK => ?_ | refine wB ?_ | refine uR hΓ ?_ | refine uD hΓ fun B hB => ?_ | ((repeat ((fail_if_success (refine hK _ ?_)); clear hK K)); refine hK _ ?_; clear hK K) | refine u1 ?_ | refine uC (fun hb => ?_) fun hb => ?_ | refine u2 (fun hc => ?_) fun hc => ?_ | refine wI ?_ | refine ex_idx (by omega) ?_ | exact True.intro | fail)
    rw [hTr]
    (rw [Tryz.results16]; refine ⟨_, rfl, by decide, by decide, by decide, ?_⟩; simp [ResL, ResI, upd_at, plainB, view, viewL_map, view_I])
  · rw [if_neg (fun h => hc h.2), if_pos hW0] at hTr
    obtain ⟨⟨u, p3⟩, hU⟩ : ∃ o, testX (bs.take 2000) (p2 + 1) 12 = o := ⟨_, rfl⟩
    rw [hU] at hTr
    repeat' (first | exact hb.elim | refine wS fun K hK => ?_ | refine wB ?_ | refine uR hΓ ?_ | refine uD hΓ fun B hB => ?_ | ((repeat ((fail_if_success (refine hK _ ?_)); clear hK K)); refine hK _ ?_; clear hK K) | refine u1 ?_ | refine uC (fun hb => ?_) fun hb => ?_ | refine u2 (fun hc => ?_) fun hc => ?_ | refine wI ?_ | refine ex_idx (by omega) ?_ | exact True.intro | fail)
    all_goals try (exfalso; omega)
    (first | refine W_askE rfl _ _ (⟨bs.take 2000, p2 + 1, 12, rfl, hcd, by omega, by omega, rfl, rfl⟩) ?_ | refine D_askE rfl _ _ (⟨bs.take 2000, p2 + 1, 12, rfl, hcd, by omega, by omega, rfl, rfl⟩) ?_); simp (maxSteps := 2000000) only [go_sem]
    rw [hU]
    dsimp only
    repeat' (first | exact hb.elim | refine wS fun K hK => ?_ | refine wB ?_ | refine uR hΓ ?_ | refine uD hΓ fun B hB => ?_ | ((repeat ((fail_if_success (refine hK _ ?_)); clear hK K)); refine hK _ ?_; clear hK K) | refine u1 ?_ | refine uC (fun hb => ?_) fun hb => ?_ | refine u2 (fun hc => ?_) fun hc => ?_ | refine wI ?_ | refine ex_idx (by omega) ?_ | exact True.intro | fail)
    rw [hTr]
    (rw [Tryz.results16]; refine ⟨_, rfl, by decide, by decide, by decide, ?_⟩; simp [ResL, ResI, upd_at, plainB, view, viewL_map, view_I])

end Go.Proofs.YtmhiipmajlmlgaaGreat
