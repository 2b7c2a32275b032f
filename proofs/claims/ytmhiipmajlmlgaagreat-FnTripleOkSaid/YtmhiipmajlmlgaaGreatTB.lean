/- Tests below tests, in the reference and in the program; triples and the test that holds behind. Walked by the engine. -/
import Derived.Test.YtmhiipmajlmlgaaGreatW2
import Derived.Test.YtmhiipmajlmlgaaGreatR7a
import Derived.Test.YtmhiipmajlmlgaaGreatEngMin
namespace Go.Proofs.YtmhiipmajlmlgaaGreat
set_option linter.unusedSimpArgs false
set_option linter.unusedVariables false
set_option maxRecDepth 8000
set_option maxHeartbeats 2000000
open Go Go.RowKit AV

def belowB (a b : Int) : Bool := decide (0 ≤ a ∧ a ≤ 15) && (decide (0 ≤ b ∧ b ≤ 15) && decide (a.toNat &&& b.toNat = a.toNat))
def belowR (args : List AV) (r : AV) : Prop := ∃ a b : Int, args = [I a, I b] ∧ r = .bool (belowB a b)
theorem andNot_zero {a b : Int} (ha : 0 ≤ a ∧ a ≤ 15) (hb : 0 ≤ b ∧ b ≤ 15) : decide (bits BinOp.andNot IntKind.i64 a b = 0) = decide (a.toNat &&& b.toNat = a.toNat) := by
  have hd : ∀ x y : Fin 16, decide (bits BinOp.andNot IntKind.i64 (x.val : Int) (y.val : Int) = 0) = decide (x.val &&& y.val = x.val) := by decide
  have := hd ⟨a.toNat, by omega⟩ ⟨b.toNat, by omega⟩
  have h1 : ((a.toNat : Nat) : Int) = a := by omega
  have h2 : ((b.toNat : Nat) : Int) = b := by omega
  simpa only [h1, h2] using this

theorem specTestBelow_ctr : CtrOK Tryz.prog 53 (pureC belowR) := by
  refine ctr_pure' Tryz.func53 rfl rfl Tryz.ntmps53 ?_
  rintro _ _ ⟨a, b, rfl, rfl⟩
  refine ⟨by simp, fun κ hκ => ?_⟩
  have hbig := bigW_gt
  rw [argEnv_eq]
  simp only [envA]
  have hΓ := ctxOf_ok (P := Tryz.prog) (cx specTestValid_ctr <| cx l1Both_ctr <| cx0)
  have hB : belowB a b = (decide (0 ≤ a ∧ a ≤ 15) && (decide (0 ≤ b ∧ b ≤ 15) && decide (a.toNat &&& b.toNat = a.toNat))) := rfl
  repeat' (first | exact hb.elim | refine wS fun K hK => ?_ | refine wB ?_ | refine uR hΓ ?_ | refine uD hΓ fun B hB => ?_ | ((repeat ((fail_if_success (refine hK _ ?_)); clear hK K)); refine hK _ ?_; clear hK K) | refine u1 ?_ | refine uC (fun hb => ?_) fun hb => ?_ | refine u2 (fun hc => ?_) fun hc => ?_ | refine wI ?_ | refine ex_idx (by omega) ?_ | exact True.intro | fail)
  obtain ⟨T, hT⟩ : ∃ T, decide (0 ≤ a ∧ a ≤ 15) = T := ⟨_, rfl⟩
  rw [hT] at hB
  (first | refine wA rfl ?_ ?_ ?_ | refine dA rfl ?_ ?_ ?_); exact (.bool T); exact (⟨a, rfl, by rw [hT]⟩); simp (maxSteps := 2000000) only [go_sem]
  cases T with
  | false =>
    simp (maxSteps := 2000000) only [go_sem]
    repeat' (first | exact hb.elim | refine wS fun K hK => ?_ | refine wB ?_ | refine uR hΓ ?_ | refine uD hΓ fun B hB => ?_ | ((repeat ((fail_if_success (refine hK _ ?_)); clear hK K)); refine hK _ ?_; clear hK K) | refine u1 ?_ | refine uC (fun hb => ?_) fun hb => ?_ | refine u2 (fun hc => ?_) fun hc => ?_ | refine wI ?_ | refine ex_idx (by omega) ?_ | exact True.intro | fail)
    rw [hB]
    simp [Tryz.results53, RetOK, RetP, backA, upd_at, plainB, getP, isOwn, anyOwn, isP]
  | true =>
    simp (maxSteps := 2000000) only [go_sem]
    repeat' (first | exact hb.elim | refine wS fun K hK => ?_ | refine wB ?_ | refine uR hΓ ?_ | refine uD hΓ fun B hB => ?_ | ((repeat ((fail_if_success (refine hK _ ?_)); clear hK K)); refine hK _ ?_; clear hK K) | refine u1 ?_ | refine uC (fun hb => ?_) fun hb => ?_ | refine u2 (fun hc => ?_) fun hc => ?_ | refine wI ?_ | refine ex_idx (by omega) ?_ | exact True.intro | fail)
    obtain ⟨S, hS⟩ : ∃ T, decide (0 ≤ b ∧ b ≤ 15) = T := ⟨_, rfl⟩
    rw [hS] at hB
    (first | refine wA rfl ?_ ?_ ?_ | refine dA rfl ?_ ?_ ?_); exact (.bool S); exact (⟨b, rfl, by rw [hS]⟩); simp (maxSteps := 2000000) only [go_sem]
    cases S with
    | false =>
      simp (maxSteps := 2000000) only [go_sem]
      repeat' (first | exact hb.elim | refine wS fun K hK => ?_ | refine wB ?_ | refine uR hΓ ?_ | refine uD hΓ fun B hB => ?_ | ((repeat ((fail_if_success (refine hK _ ?_)); clear hK K)); refine hK _ ?_; clear hK K) | refine u1 ?_ | refine uC (fun hb => ?_) fun hb => ?_ | refine u2 (fun hc => ?_) fun hc => ?_ | refine wI ?_ | refine ex_idx (by omega) ?_ | exact True.intro | fail)
      rw [hB]
      simp [Tryz.results53, RetOK, RetP, backA, upd_at, plainB, getP, isOwn, anyOwn, isP]
    | true =>
      have h1 := of_decide_eq_true hT
      have h2 := of_decide_eq_true hS
      obtain ⟨m, rfl⟩ : ∃ m : Nat, a = (m : Int) := ⟨a.toNat, by omega⟩
      obtain ⟨n, rfl⟩ : ∃ m : Nat, b = (m : Int) := ⟨b.toNat, by omega⟩
      simp only [Int.toNat_natCast] at hB
      simp (maxSteps := 2000000) only [go_sem]
      repeat' (first | exact hb.elim | refine wS fun K hK => ?_ | refine wB ?_ | refine uR hΓ ?_ | refine uD hΓ fun B hB => ?_ | ((repeat ((fail_if_success (refine hK _ ?_)); clear hK K)); refine hK _ ?_; clear hK K) | refine u1 ?_ | refine uC (fun hb => ?_) fun hb => ?_ | refine u2 (fun hc => ?_) fun hc => ?_ | refine wI ?_ | refine ex_idx (by omega) ?_ | exact True.intro | fail)
      (first | refine wA rfl ?_ ?_ ?_ | refine dA rfl ?_ ?_ ?_); exact (I ((m &&& n : Nat) : Int)); exact (⟨m, n, rfl, by omega, by omega, rfl⟩); simp (maxSteps := 2000000) only [go_sem]
      repeat' (first | exact hb.elim | refine wS fun K hK => ?_ | refine wB ?_ | refine uR hΓ ?_ | refine uD hΓ fun B hB => ?_ | ((repeat ((fail_if_success (refine hK _ ?_)); clear hK K)); refine hK _ ?_; clear hK K) | refine u1 ?_ | refine uC (fun hb => ?_) fun hb => ?_ | refine u2 (fun hc => ?_) fun hc => ?_ | refine wI ?_ | refine ex_idx (by omega) ?_ | exact True.intro | fail)
      have h3 : decide (((m &&& n : Nat) : Int) = (m : Int)) = decide (m &&& n = m) := by rw [Bool.eq_iff_iff, decide_eq_true_eq, decide_eq_true_eq]; omega
      rw [hB]
      simp only [h3, Bool.true_and]
      simp [Tryz.results53, RetOK, RetP, backA, upd_at, plainB, getP, isOwn, anyOwn, isP]

theorem implTestBelow_ctr : CtrOK Tryz.prog 52 (pureC belowR) := by
  refine ctr_pure' Tryz.func52 rfl rfl Tryz.ntmps52 ?_
  rintro _ _ ⟨a, b, rfl, rfl⟩
  refine ⟨by simp, fun κ hκ => ?_⟩
  have hbig := bigW_gt
  rw [argEnv_eq]
  simp only [envA]
  have hΓ := ctxOf_ok (P := Tryz.prog) (cx implTestValid_ctr <| cx0)
  have hB : belowB a b = (decide (0 ≤ a ∧ a ≤ 15) && (decide (0 ≤ b ∧ b ≤ 15) && decide (a.toNat &&& b.toNat = a.toNat))) := rfl
  repeat' (first | exact hb.elim | refine wS fun K hK => ?_ | refine wB ?_ | refine uR hΓ ?_ | refine uD hΓ fun B hB => ?_ | ((repeat ((fail_if_success (refine hK _ ?_)); clear hK K)); refine hK _ ?_; clear hK K) | refine u1 ?_ | refine uC (fun hb => ?_) fun hb => ?_ | refine u2 (fun hc => ?_) fun hc => ?_ | refine wI ?_ | refine ex_idx (by omega) ?_ | exact True.intro | fail)
  obtain ⟨T, hT⟩ : ∃ T, decide (0 ≤ a ∧ a ≤ 15) = T := ⟨_, rfl⟩
  rw [hT] at hB
  (first | refine wA rfl ?_ ?_ ?_ | refine dA rfl ?_ ?_ ?_); exact (.bool T); exact (⟨a, rfl, by rw [hT]⟩); simp (maxSteps := 2000000) only [go_sem]
  cases T with
  | false =>
    simp (maxSteps := 2000000) only [go_sem]
    repeat' (first | exact hb.elim | refine wS fun K hK => ?_ | refine wB ?_ | refine uR hΓ ?_ | refine uD hΓ fun B hB => ?_ | ((repeat ((fail_if_success (refine hK _ ?_)); clear hK K)); refine hK _ ?_; clear hK K) | refine u1 ?_ | refine uC (fun hb => ?_) fun hb => ?_ | refine u2 (fun hc => ?_) fun hc => ?_ | refine wI ?_ | refine ex_idx (by omega) ?_ | exact True.intro | fail)
    rw [hB]
    simp [Tryz.results52, RetOK, RetP, backA, upd_at, plainB, getP, isOwn, anyOwn, isP]
  | true =>
    simp (maxSteps := 2000000) only [go_sem]
    repeat' (first | exact hb.elim | refine wS fun K hK => ?_ | refine wB ?_ | refine uR hΓ ?_ | refine uD hΓ fun B hB => ?_ | ((repeat ((fail_if_success (refine hK _ ?_)); clear hK K)); refine hK _ ?_; clear hK K) | refine u1 ?_ | refine uC (fun hb => ?_) fun hb => ?_ | refine u2 (fun hc => ?_) fun hc => ?_ | refine wI ?_ | refine ex_idx (by omega) ?_ | exact True.intro | fail)
    obtain ⟨S, hS⟩ : ∃ T, decide (0 ≤ b ∧ b ≤ 15) = T := ⟨_, rfl⟩
    rw [hS] at hB
    (first | refine wA rfl ?_ ?_ ?_ | refine dA rfl ?_ ?_ ?_); exact (.bool S); exact (⟨b, rfl, by rw [hS]⟩); simp (maxSteps := 2000000) only [go_sem]
    cases S with
    | false =>
      simp (maxSteps := 2000000) only [go_sem]
      repeat' (first | exact hb.elim | refine wS fun K hK => ?_ | refine wB ?_ | refine uR hΓ ?_ | refine uD hΓ fun B hB => ?_ | ((repeat ((fail_if_success (refine hK _ ?_)); clear hK K)); refine hK _ ?_; clear hK K) | refine u1 ?_ | refine uC (fun hb => ?_) fun hb => ?_ | refine u2 (fun hc => ?_) fun hc => ?_ | refine wI ?_ | refine ex_idx (by omega) ?_ | exact True.intro | fail)
      rw [hB]
      simp [Tryz.results52, RetOK, RetP, backA, upd_at, plainB, getP, isOwn, anyOwn, isP]
    | true =>
      have h1 := of_decide_eq_true hT
      have h2 := of_decide_eq_true hS
      rw [← andNot_zero h1 h2] at hB
      simp (maxSteps := 2000000) only [go_sem]
      repeat' (first | exact hb.elim | refine wS fun K hK => ?_ | refine wB ?_ | refine uR hΓ ?_ | refine uD hΓ fun B hB => ?_ | ((repeat ((fail_if_success (refine hK _ ?_)); clear hK K)); refine hK _ ?_; clear hK K) | refine u1 ?_ | refine uC (fun hb => ?_) fun hb => ?_ | refine u2 (fun hc => ?_) fun hc => ?_ | refine wI ?_ | refine ex_idx (by omega) ?_ | exact True.intro | fail)
      rw [hB]
      simp only [Bool.true_and]
      simp [Tryz.results52, RetOK, RetP, backA, upd_at, plainB, getP, isOwn, anyOwn, isP]

noncomputable def tripB (p : Int) (e : List Int) (q : Int) : Bool := decide (0 ≤ weakI (autD e) q) && belowB p (weakI (autD e) q)
def tripR (args : List AV) (r : AV) : Prop := ∃ (p : Int) (e : List Int) (q : Int), args = [I p, ints e, I q] ∧ e.length ≤ 1048576 ∧ r = .bool (tripB p e q)
theorem specTripleOk_ctr : CtrOK Tryz.prog 18 (pureC tripR) := by
  refine ctr_pure' Tryz.func18 rfl rfl Tryz.ntmps18 ?_
  rintro _ _ ⟨p, e, q, rfl, hl, rfl⟩
  refine ⟨by simp, fun κ hκ => ?_⟩
  have hbig := bigW_gt
  rw [argEnv_eq]
  simp only [envA]
  have hΓ := ctxOf_ok (P := Tryz.prog) (cx specWeakTest_ctr <| cx specTestBelow_ctr <| cx0)
  have hT : tripB p e q = (decide (0 ≤ weakI (autD e) q) && belowB p (weakI (autD e) q)) := rfl
  repeat' (first | exact hb.elim | refine wS fun K hK => ?_ | refine wB ?_ | refine uR hΓ ?_ | refine uD hΓ fun B hB => ?_ | ((repeat ((fail_if_success (refine hK _ ?_)); clear hK K)); refine hK _ ?_; clear hK K) | refine u1 ?_ | refine uC (fun hb => ?_) fun hb => ?_ | refine u2 (fun hc => ?_) fun hc => ?_ | refine wI ?_ | refine ex_idx (by omega) ?_ | exact True.intro | fail)
  obtain ⟨W, hW⟩ : ∃ W, weakI (autD e) q = W := ⟨_, rfl⟩
  rw [hW] at hT
  (first | refine wA rfl ?_ ?_ ?_ | refine dA rfl ?_ ?_ ?_); exact (I W); exact (⟨e, q, rfl, hl, by rw [hW]⟩); simp (maxSteps := 2000000) only [go_sem]
  repeat' (first | exact hb.elim | refine wS fun K hK => ?_ | refine wB ?_ | refine uR hΓ ?_ | refine uD hΓ fun B hB => ?_ | ((repeat ((fail_if_success (refine hK _ ?_)); clear hK K)); refine hK _ ?_; clear hK K) | refine u1 ?_ | refine uC (fun hb => ?_) fun hb => ?_ | refine u2 (fun hc => ?_) fun hc => ?_ | refine wI ?_ | refine ex_idx (by omega) ?_ | exact True.intro | fail)
  · (first | refine wA rfl ?_ ?_ ?_ | refine dA rfl ?_ ?_ ?_); exact (.bool (belowB p W)); exact (⟨p, W, rfl, rfl⟩); simp (maxSteps := 2000000) only [go_sem]
    repeat' (first | exact hb.elim | refine wS fun K hK => ?_ | refine wB ?_ | refine uR hΓ ?_ | refine uD hΓ fun B hB => ?_ | ((repeat ((fail_if_success (refine hK _ ?_)); clear hK K)); refine hK _ ?_; clear hK K) | refine u1 ?_ | refine uC (fun hb => ?_) fun hb => ?_ | refine u2 (fun hc => ?_) fun hc => ?_ | refine wI ?_ | refine ex_idx (by omega) ?_ | exact True.intro | fail)
    have h0 : decide (0 ≤ W) = true := decide_eq_true (by omega)
    rw [hT, h0, Bool.true_and]
    simp [Tryz.results18, RetOK, RetP, backA, upd_at, plainB, getP, isOwn, anyOwn, isP]
  · have h0 : decide (0 ≤ W) = false := decide_eq_false (by omega)
    rw [hT, h0, Bool.false_and]
    simp [Tryz.results18, RetOK, RetP, backA, upd_at, plainB, getP, isOwn, anyOwn, isP]
theorem implTripleOk_ctr : CtrOK Tryz.prog 17 (pureC tripR) := by
  refine ctr_pure' Tryz.func17 rfl rfl Tryz.ntmps17 ?_
  rintro _ _ ⟨p, e, q, rfl, hl, rfl⟩
  refine ⟨by simp, fun κ hκ => ?_⟩
  have hbig := bigW_gt
  rw [argEnv_eq]
  simp only [envA]
  have hΓ := ctxOf_ok (P := Tryz.prog) (cx implWeakTest_ctr <| cx implTestBelow_ctr <| cx0)
  have hT : tripB p e q = (decide (0 ≤ weakI (autD e) q) && belowB p (weakI (autD e) q)) := rfl
  repeat' (first | exact hb.elim | refine wS fun K hK => ?_ | refine wB ?_ | refine uR hΓ ?_ | refine uD hΓ fun B hB => ?_ | ((repeat ((fail_if_success (refine hK _ ?_)); clear hK K)); refine hK _ ?_; clear hK K) | refine u1 ?_ | refine uC (fun hb => ?_) fun hb => ?_ | refine u2 (fun hc => ?_) fun hc => ?_ | refine wI ?_ | refine ex_idx (by omega) ?_ | exact True.intro | fail)
  obtain ⟨W, hW⟩ : ∃ W, weakI (autD e) q = W := ⟨_, rfl⟩
  rw [hW] at hT
  (first | refine wA rfl ?_ ?_ ?_ | refine dA rfl ?_ ?_ ?_); exact (I W); exact (⟨e, q, rfl, hl, by rw [hW]⟩); simp (maxSteps := 2000000) only [go_sem]
  repeat' (first | exact hb.elim | refine wS fun K hK => ?_ | refine wB ?_ | refine uR hΓ ?_ | refine uD hΓ fun B hB => ?_ | ((repeat ((fail_if_success (refine hK _ ?_)); clear hK K)); refine hK _ ?_; clear hK K) | refine u1 ?_ | refine uC (fun hb => ?_) fun hb => ?_ | refine u2 (fun hc => ?_) fun hc => ?_ | refine wI ?_ | refine ex_idx (by omega) ?_ | exact True.intro | fail)
  · (first | refine wA rfl ?_ ?_ ?_ | refine dA rfl ?_ ?_ ?_); exact (.bool (belowB p W)); exact (⟨p, W, rfl, rfl⟩); simp (maxSteps := 2000000) only [go_sem]
    repeat' (first | exact hb.elim | refine wS fun K hK => ?_ | refine wB ?_ | refine uR hΓ ?_ | refine uD hΓ fun B hB => ?_ | ((repeat ((fail_if_success (refine hK _ ?_)); clear hK K)); refine hK _ ?_; clear hK K) | refine u1 ?_ | refine uC (fun hb => ?_) fun hb => ?_ | refine u2 (fun hc => ?_) fun hc => ?_ | refine wI ?_ | refine ex_idx (by omega) ?_ | exact True.intro | fail)
    have h0 : decide (0 ≤ W) = true := decide_eq_true (by omega)
    rw [hT, h0, Bool.true_and]
    simp [Tryz.results17, RetOK, RetP, backA, upd_at, plainB, getP, isOwn, anyOwn, isP]
  · have h0 : decide (0 ≤ W) = false := decide_eq_false (by omega)
    rw [hT, h0, Bool.false_and]
    simp [Tryz.results17, RetOK, RetP, backA, upd_at, plainB, getP, isOwn, anyOwn, isP]

end Go.Proofs.YtmhiipmajlmlgaaGreat
