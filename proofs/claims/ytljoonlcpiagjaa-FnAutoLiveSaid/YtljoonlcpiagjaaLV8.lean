/- The law FnAutoLive, walked by the engine. -/
import Derived.Test.YtljoonlcpiagjaaR10
import Derived.Test.YtljoonlcpiagjaaR7a
import Derived.Test.YtljoonlcpiagjaaS2
import Derived.Test.YtljoonlcpiagjaaGrpV
import Derived.Test.YtljoonlcpiagjaaGrpU
import Derived.Test.YtljoonlcpiagjaaX2
import Derived.Test.YtljoonlcpiagjaaLawsW
import Derived.Test.YtljoonlcpiagjaaEngMin
namespace Go.Proofs.Ytljoonlcpiagjaa
set_option linter.unusedSimpArgs false
set_option linter.unusedVariables false
set_option maxRecDepth 8000
set_option maxHeartbeats 2000000
open Go Go.RowKit AV

theorem shBD_live {D : AutoD} (h : shBD D = true) : (liveF D).testBit 0 = true := by
  unfold shBD at h
  rw [Bool.and_eq_true] at h
  have hs := sh_spec (behF D) 1 (endF D)
  rw [h.2] at hs
  exact sh_live hs

theorem fnAutoLive_ctr : CtrOK Try.prog 6 (pureC codeR1) := by
  refine ctr_pure' Try.func6 rfl rfl Try.ntmps6 ?_
  rintro _ _ ⟨bs, rfl, hl, hb256, rfl⟩
  refine ⟨by simp, fun κ hκ => ?_⟩
  have hbig := bigW_gt
  rw [argEnv_eq]
  simp only [envA]
  have hΓ := ctxOf_ok (P := Try.prog) (cx drawAutoLive_ctr <| cx implAutoLive_ctr <| cx specAutoLive_ctr <| cx implShortTrace_ctr <| cx aliveL_ctr <| cx0)
  have hsm := autoX_small (bs.take 2000) 0 8 9 (by omega)
  obtain ⟨D, hD⟩ : ∃ D, drwA bs 8 9 = D := ⟨_, rfl⟩
  rw [show (autoX (bs.take 2000) 0 8 9).1 = D from hD] at hsm
  obtain ⟨h1, h2, h3⟩ := hsm.e6
  repeat' (first | refine wS fun K hK => ?_ | refine wB ?_ | ((first | refine wX hΓ ?_ | refine wV hΓ fun B hB => ?_); simp (config := { maxSteps := 2000000 }) only [go_sem]) | ((repeat ((fail_if_success (refine hK _ ?_)); clear hK K)); refine hK _ ?_; clear hK K) | (refine w1 ?_; simp only [xs, xi, Nat.reduceEqDiff, reduceCtorEq]) | (refine wC (fun hb => ?_) fun hb => ?_ <;> (try simp only [xb, reduceCtorEq] at hb)) | (refine w2 (fun hc => ?_) (fun hc => ?_) <;> (try simp only [xc] at hc) <;> (try simp only [go_sem, hc]) <;> (try simp only [xb] at hc)) | refine wI ?_ | refine ex_idx (by omega) ?_ | fail)
  · simp [Try.results6, RetOK, RetP, backA, upd_at, plainB, getP, isOwn, anyOwn, isP]
  (first | refine wA rfl ?_ ?_ ?_ | refine dA rfl ?_ ?_ ?_); exact (agg [ints D.ends, rows D.next]); exact (⟨bs, rfl, by omega, hb256, by rw [hD]⟩); simp (config := { maxSteps := 2000000 }) only [go_sem]
  repeat' (first | refine wS fun K hK => ?_ | refine wB ?_ | ((first | refine wX hΓ ?_ | refine wV hΓ fun B hB => ?_); simp (config := { maxSteps := 2000000 }) only [go_sem]) | ((repeat ((fail_if_success (refine hK _ ?_)); clear hK K)); refine hK _ ?_; clear hK K) | (refine w1 ?_; simp only [xs, xi, Nat.reduceEqDiff, reduceCtorEq]) | (refine wC (fun hb => ?_) fun hb => ?_ <;> (try simp only [xb, reduceCtorEq] at hb)) | (refine w2 (fun hc => ?_) (fun hc => ?_) <;> (try simp only [xc] at hc) <;> (try simp only [go_sem, hc]) <;> (try simp only [xb] at hc)) | refine wI ?_ | refine ex_idx (by omega) ?_ | fail)
  obtain ⟨L, hL⟩ : ∃ L, liveI D = L := ⟨_, rfl⟩
  (first | refine wA rfl ?_ ?_ ?_ | refine dA rfl ?_ ?_ ?_); exact (I L); exact (⟨D, rfl, by rw [hL]⟩); simp (config := { maxSteps := 2000000 }) only [go_sem]
  repeat' (first | refine wS fun K hK => ?_ | refine wB ?_ | ((first | refine wX hΓ ?_ | refine wV hΓ fun B hB => ?_); simp (config := { maxSteps := 2000000 }) only [go_sem]) | ((repeat ((fail_if_success (refine hK _ ?_)); clear hK K)); refine hK _ ?_; clear hK K) | (refine w1 ?_; simp only [xs, xi, Nat.reduceEqDiff, reduceCtorEq]) | (refine wC (fun hb => ?_) fun hb => ?_ <;> (try simp only [xb, reduceCtorEq] at hb)) | (refine w2 (fun hc => ?_) (fun hc => ?_) <;> (try simp only [xc] at hc) <;> (try simp only [go_sem, hc]) <;> (try simp only [xb] at hc)) | refine wI ?_ | refine ex_idx (by omega) ?_ | fail)
  (first | refine wA rfl ?_ ?_ ?_ | refine dA rfl ?_ ?_ ?_); exact (I L); exact (⟨D, rfl, by rw [hL]⟩); simp (config := { maxSteps := 2000000 }) only [go_sem]
  have hlv : L = -1 ∨ (AutoOK D ∧ L = (liveF D : Int)) := by
    by_cases hk : AutoOK D
    · exact .inr ⟨hk, by rw [← hL, liveI_yes hk]⟩
    · exact .inl (by rw [← hL, liveI_no hk])
  repeat' (first | refine wS fun K hK => ?_ | refine wB ?_ | ((first | refine wX hΓ ?_ | refine wV hΓ fun B hB => ?_); simp (config := { maxSteps := 2000000 }) only [go_sem, bne_self_eq_false, beq_self_eq_true]) | ((repeat ((fail_if_success (refine hK _ ?_)); clear hK K)); refine hK _ ?_; clear hK K) | (refine w1 ?_; simp only [xs, xi, Nat.reduceEqDiff, reduceCtorEq]) | (refine wC (fun hb => ?_) fun hb => ?_ <;> (try simp only [xb, reduceCtorEq] at hb)) | (refine w2 (fun hc => ?_) (fun hc => ?_) <;> (try simp only [xc] at hc) <;> (try simp only [go_sem, hc, bne_self_eq_false, beq_self_eq_true]) <;> (try simp only [xb] at hc)) | refine wI ?_ | refine ex_idx (by omega) ?_ | fail)
  · (first | refine wA rfl _ (⟨rfl, rfl⟩) ?_ | refine dA rfl _ (⟨rfl, rfl⟩) ?_); simp (config := { maxSteps := 2000000 }) only [go_sem]
    repeat' (first | refine wS fun K hK => ?_ | refine wB ?_ | ((first | refine wX hΓ ?_ | refine wV hΓ fun B hB => ?_); simp (config := { maxSteps := 2000000 }) only [go_sem]) | ((repeat ((fail_if_success (refine hK _ ?_)); clear hK K)); refine hK _ ?_; clear hK K) | (refine w1 ?_; simp only [xs, xi, Nat.reduceEqDiff, reduceCtorEq]) | (refine wC (fun hb => ?_) fun hb => ?_ <;> (try simp only [xb, reduceCtorEq] at hb)) | (refine w2 (fun hc => ?_) (fun hc => ?_) <;> (try simp only [xc] at hc) <;> (try simp only [go_sem, hc]) <;> (try simp only [xb] at hc)) | refine wI ?_ | refine ex_idx (by omega) ?_ | fail)
    simp [Try.results6, RetOK, RetP, backA, upd_at, plainB, getP, isOwn, anyOwn, isP]
  · exfalso; rcases hlv with h | ⟨_, h⟩ <;> omega
  obtain ⟨hok, hLe⟩ := hlv.resolve_left (fun h => by omega)
  have hl10 := hok.hi
  have hlt := liveF_lt D
  have hp := hok.pow_le
  have hend := fun k hk he => live_end (D := D) (k := k) hk he
  have hshl := shBD_live (D := D)
  obtain ⟨F, hF⟩ : ∃ F, liveF D = F := ⟨_, rfl⟩
  rw [hF] at hLe hlt hend hshl
  subst hLe
  refine CW.loop (ι := Nat) (fun k => [(3, box [ints D.ends, rows D.next]), (4, I (F : Int)), (5, I (k : Int))]) (fun k => k ≤ D.ends.length) (fun k => D.ends.length - k) 0 ?_ ?_
  · exact ⟨by (simp only [xe, xj, Nat.reduceEqDiff]; (try simp [view, viewL_map]); (try omega)), by omega⟩
  rintro k hk
  simp only [envOf]
  have h0s : (0 : Int) ≤ (F : Int) / 2 ^ k := by rw [shr_nat]; exact Int.natCast_nonneg _
  have h1s : (F : Int) / 2 ^ k % 2 = (bitN F k : Int) := by rw [← bitN_eq, shr_nat]; rfl
  repeat' (first | refine wS fun K hK => ?_ | refine wB ?_ | ((first | refine wX hΓ ?_ | refine wV hΓ fun B hB => ?_); simp (config := { maxSteps := 2000000 }) only [go_sem, h1s]) | ((repeat ((fail_if_success (refine hK _ ?_)); clear hK K)); refine hK _ ?_; clear hK K) | (refine w1 ?_; simp only [xs, xi, Nat.reduceEqDiff, reduceCtorEq]) | (refine wC (fun hb => ?_) fun hb => ?_ <;> (try simp only [xb, reduceCtorEq] at hb)) | (refine w2 (fun hc => ?_) (fun hc => ?_) <;> (try simp only [xc] at hc) <;> (try simp only [go_sem, hc, h1s]) <;> (try simp only [xb] at hc)) | refine wI ?_ | refine ex_idx (by omega) ?_ | fail)
  · exfalso
    have hkD : k < D.ends.length := by omega
    have he : D.ends[k] = (endsN D k : Int) := by rw [← hok.endsN_eq hkD, nth_getElem hkD]
    have hb1 := bitN_t (hend k hkD (by omega))
    omega
  · exact ⟨k + 1, by (simp only [xe, xj, Nat.reduceEqDiff]; (try simp [view, viewL_map]); (try omega)), by omega, by omega⟩
  · exact ⟨k + 1, by (simp only [xe, xj, Nat.reduceEqDiff]; (try simp [view, viewL_map]); (try omega)), by omega, by omega⟩
  · obtain ⟨T, hT⟩ : ∃ T, shTD D = T := ⟨_, rfl⟩
    obtain ⟨B, hBe⟩ : ∃ B, shBD D = B := ⟨_, rfl⟩
    rw [hBe] at hshl
    (first | refine wA rfl ?_ ?_ ?_ | refine dA rfl ?_ ?_ ?_); exact (.tup [oints T, .bool B]); exact (⟨D, rfl, h1, h2, h3, by rw [hT, hBe]⟩); simp (config := { maxSteps := 2000000 }) only [go_sem]
    have hb9 : B = true → F % 2 = 1 := fun h => by
      have := bitN_t (hshl h)
      unfold bitN at this
      simpa using this
    cases B with
    | false =>
      repeat' (first | refine wS fun K hK => ?_ | refine wB ?_ | ((first | refine wX hΓ ?_ | refine wV hΓ fun B hB => ?_); simp (config := { maxSteps := 2000000 }) only [go_sem]) | ((repeat ((fail_if_success (refine hK _ ?_)); clear hK K)); refine hK _ ?_; clear hK K) | (refine w1 ?_; simp only [xs, xi, Nat.reduceEqDiff, reduceCtorEq]) | (refine wC (fun hb => ?_) fun hb => ?_ <;> (try simp only [xb, reduceCtorEq] at hb)) | (refine w2 (fun hc => ?_) (fun hc => ?_) <;> (try simp only [xc] at hc) <;> (try simp only [go_sem, hc]) <;> (try simp only [xb] at hc)) | refine wI ?_ | refine ex_idx (by omega) ?_ | fail)
      simp [Try.results6, RetOK, RetP, backA, upd_at, plainB, getP, isOwn, anyOwn, isP]
    | true =>
      have h9 := hb9 rfl
      have h8 : ((F : Int) % 2 = 1) = True := eq_true (by omega)
      repeat' (first | refine wS fun K hK => ?_ | refine wB ?_ | ((first | refine wX hΓ ?_ | refine wV hΓ fun B hB => ?_); simp (config := { maxSteps := 2000000 }) only [go_sem]) | ((repeat ((fail_if_success (refine hK _ ?_)); clear hK K)); refine hK _ ?_; clear hK K) | (refine w1 ?_; simp only [xs, xi, Nat.reduceEqDiff, reduceCtorEq]) | (refine wC (fun hb => ?_) fun hb => ?_ <;> (try simp only [xb, reduceCtorEq] at hb)) | (refine w2 (fun hc => ?_) (fun hc => ?_) <;> (try simp only [xc] at hc) <;> (try simp only [go_sem, hc]) <;> (try simp only [xb] at hc)) | refine wI ?_ | refine ex_idx (by omega) ?_ | fail)
      simp only [h8]
      simp [Try.results6, RetOK, RetP, backA, upd_at, plainB, getP, isOwn, anyOwn, isP]

end Go.Proofs.Ytljoonlcpiagjaa
