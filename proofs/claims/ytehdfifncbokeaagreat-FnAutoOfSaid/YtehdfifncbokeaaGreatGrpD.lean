/- Tests and sets: small functions, walked by the engine. -/
import Derived.Test.YtehdfifncbokeaaGreatTy
import Derived.Test.YtehdfifncbokeaaGreatGrpC
import Derived.Test.YtehdfifncbokeaaGreatEngMin
namespace Go.Proofs.YtehdfifncbokeaaGreat
set_option linter.unusedSimpArgs false
set_option linter.unusedVariables false
set_option maxRecDepth 8000
set_option maxHeartbeats 2000000
open Go Go.RowKit AV

def l1InR (args : List AV) (r : AV) : Prop := ∃ n lo hi : Int, args = [I n, I lo, I hi] ∧ r = .bool (decide (lo ≤ n ∧ n ≤ hi))

theorem l1In_ctr : CtrOK Tryz.prog 75 (pureC l1InR) := by
  refine ctr_pure' Tryz.func75 rfl rfl Tryz.ntmps75 ?_
  rintro _ _ ⟨n, lo, hi, rfl, rfl⟩
  refine ⟨by simp, fun κ hκ => ?_⟩
  have hbig := bigW_gt
  rw [argEnv_eq]
  simp only [envA]
  have hΓ := noCtx_ok Tryz.prog
  repeat' (first | exact hb.elim | refine wS fun K hK => ?_ | refine wB ?_ | refine uR hΓ ?_ | refine uD hΓ fun B hB => ?_ | ((repeat ((fail_if_success (refine hK _ ?_)); clear hK K)); refine hK _ ?_; clear hK K) | refine u1 ?_ | refine uC (fun hb => ?_) fun hb => ?_ | refine u2 (fun hc => ?_) fun hc => ?_ | refine wI ?_ | refine ex_idx (by omega) ?_ | exact True.intro | fail)
  · simp [Tryz.results75, RetOK, upd_at, plainB, hc]
  · simp [Tryz.results75, RetOK, upd_at, plainB, hc]

def testValidR (args : List AV) (r : AV) : Prop := ∃ n : Int, args = [I n] ∧ r = .bool (decide (0 ≤ n ∧ n ≤ 15))

theorem specTestValid_ctr : CtrOK Tryz.prog 81 (pureC testValidR) := by
  refine ctr_pure' Tryz.func81 rfl rfl Tryz.ntmps81 ?_
  rintro _ _ ⟨n, rfl, rfl⟩
  refine ⟨by simp, fun κ hκ => ?_⟩
  have hbig := bigW_gt
  rw [argEnv_eq]
  simp only [envA]
  have hΓ := ctxOf_ok (P := Tryz.prog) (cx l1In_ctr <| cx0)
  repeat' (first | exact hb.elim | refine wS fun K hK => ?_ | refine wB ?_ | refine uR hΓ ?_ | refine uD hΓ fun B hB => ?_ | ((repeat ((fail_if_success (refine hK _ ?_)); clear hK K)); refine hK _ ?_; clear hK K) | refine u1 ?_ | refine uC (fun hb => ?_) fun hb => ?_ | refine u2 (fun hc => ?_) fun hc => ?_ | refine wI ?_ | refine ex_idx (by omega) ?_ | exact True.intro | fail)
  (first | refine wA rfl _ (⟨_, _, _, rfl, rfl⟩) ?_ | refine dA rfl _ (⟨_, _, _, rfl, rfl⟩) ?_); simp (maxSteps := 2000000) only [go_sem]
  repeat' (first | exact hb.elim | refine wS fun K hK => ?_ | refine wB ?_ | refine uR hΓ ?_ | refine uD hΓ fun B hB => ?_ | ((repeat ((fail_if_success (refine hK _ ?_)); clear hK K)); refine hK _ ?_; clear hK K) | refine u1 ?_ | refine uC (fun hb => ?_) fun hb => ?_ | refine u2 (fun hc => ?_) fun hc => ?_ | refine wI ?_ | refine ex_idx (by omega) ?_ | exact True.intro | fail)
  simp [Tryz.results81, RetOK, RetP, backA, upd_at, plainB, getP, isOwn, anyOwn, isP]

theorem implTestValid_ctr : CtrOK Tryz.prog 38 (pureC testValidR) := by
  refine ctr_pure' Tryz.func38 rfl rfl Tryz.ntmps38 ?_
  rintro _ _ ⟨n, rfl, rfl⟩
  refine ⟨by simp, fun κ hκ => ?_⟩
  have hbig := bigW_gt
  rw [argEnv_eq]
  simp only [envA]
  have hΓ := noCtx_ok Tryz.prog
  repeat' (first | exact hb.elim | refine wS fun K hK => ?_ | refine wB ?_ | refine uR hΓ ?_ | refine uD hΓ fun B hB => ?_ | ((repeat ((fail_if_success (refine hK _ ?_)); clear hK K)); refine hK _ ?_; clear hK K) | refine u1 ?_ | refine uC (fun hb => ?_) fun hb => ?_ | refine u2 (fun hc => ?_) fun hc => ?_ | refine wI ?_ | refine ex_idx (by omega) ?_ | exact True.intro | fail)
  · simp [Tryz.results38, RetOK, upd_at, plainB, hc]
  · simp [Tryz.results38, RetOK, upd_at, plainB, hc]

def l1BitR (args : List AV) (r : AV) : Prop := ∃ s k : Nat, args = [I s, I k] ∧ k < 64 ∧ r = I (bitN s k)

theorem l1Bit_ctr : CtrOK Tryz.prog 58 (pureC l1BitR) := by
  refine ctr_pure' Tryz.func58 rfl rfl Tryz.ntmps58 ?_
  rintro _ _ ⟨s, k, rfl, hk, rfl⟩
  refine ⟨by simp, fun κ hκ => ?_⟩
  have hbig := bigW_gt
  rw [argEnv_eq]
  simp only [envA]
  have hΓ := noCtx_ok Tryz.prog
  have h0 : (0 : Int) ≤ (s : Int) / 2 ^ k := by rw [shr_nat]; exact Int.natCast_nonneg _
  have h1 : (s : Int) / 2 ^ k % 2 = (bitN s k : Int) := by rw [← bitN_eq, shr_nat]; rfl
  repeat' (first | exact hb.elim | refine wS fun K hK => ?_ | refine wB ?_ | refine uR hΓ ?_ | refine uD hΓ fun B hB => ?_ | ((repeat ((fail_if_success (refine hK _ ?_)); clear hK K)); refine hK _ ?_; clear hK K) | refine u1 ?_ | refine uC (fun hb => ?_) fun hb => ?_ | refine u2 (fun hc => ?_) fun hc => ?_ | refine wI ?_ | refine ex_idx (by omega) ?_ | exact True.intro | fail)
  rw [h1]
  simp [Tryz.results58, RetOK, RetP, backA, upd_at, plainB, getP, isOwn, anyOwn, isP]

def l1BothR (args : List AV) (r : AV) : Prop := ∃ a b : Nat, args = [I a, I b] ∧ a < 1099511627776 ∧ b < 1099511627776 ∧ r = I ((a &&& b : Nat) : Int)

theorem l1Both_ctr : CtrOK Tryz.prog 55 (pureC l1BothR) := by
  refine ctr_pure' Tryz.func55 rfl rfl Tryz.ntmps55 ?_
  rintro _ _ ⟨a, b, rfl, ha, hb0, rfl⟩
  refine ⟨by simp, fun κ hκ => ?_⟩
  have hbig := bigW_gt
  rw [argEnv_eq]
  simp only [envA]
  have hΓ := ctxOf_ok (P := Tryz.prog) (cx l1Bit_ctr <| cx0)
  repeat' (first | exact hb.elim | refine wS fun K hK => ?_ | refine wB ?_ | refine uR hΓ ?_ | refine uD hΓ fun B hB => ?_ | ((repeat ((fail_if_success (refine hK _ ?_)); clear hK K)); refine hK _ ?_; clear hK K) | refine u1 ?_ | refine uC (fun hb => ?_) fun hb => ?_ | refine u2 (fun hc => ?_) fun hc => ?_ | refine wI ?_ | refine ex_idx (by omega) ?_ | exact True.intro | fail)
  refine CW.loop (ι := Nat) (fun k => [(0, I a), (1, I b), (5, I ((lowN (a &&& b) k : Nat) : Int)), (6, I k)]) (fun k => k ≤ 40) (fun k => 41 - k) 0 ?_ ?_
  · refine ⟨by (simp only [xe, xj, Nat.reduceEqDiff]; (try simp [view, viewL_map]); (try omega)); simp [lowN_zero], by omega⟩
  rintro k hk
  simp only [envOf]
  have hp : (1 : Int) ≤ 2 ^ k ∧ (2 : Int) ^ k ≤ 1099511627776 := pow_bd hk
  repeat' (first | exact hb.elim | refine wS fun K hK => ?_ | refine wB ?_ | refine uR hΓ ?_ | refine uD hΓ fun B hB => ?_ | ((repeat ((fail_if_success (refine hK _ ?_)); clear hK K)); refine hK _ ?_; clear hK K) | refine u1 ?_ | refine uC (fun hb => ?_) fun hb => ?_ | refine u2 (fun hc => ?_) fun hc => ?_ | refine wI ?_ | refine ex_idx (by omega) ?_ | exact True.intro | fail)
  · (first | refine wA rfl _ (⟨_, _, rfl, by omega, rfl⟩) ?_ | refine dA rfl _ (⟨_, _, rfl, by omega, rfl⟩) ?_); simp (maxSteps := 2000000) only [go_sem]
    (first | refine wA rfl _ (⟨_, _, rfl, by omega, rfl⟩) ?_ | refine dA rfl _ (⟨_, _, rfl, by omega, rfl⟩) ?_); simp (maxSteps := 2000000) only [go_sem]
    have hm : (bitN a k : Int) * (bitN b k : Int) = ((bitN (a &&& b) k : Nat) : Int) := by rw [← bitN_and]; simp
    have hs := lowN_succ (a &&& b) k
    have hl := lowN_le (a &&& b) (k + 1)
    have hab : a &&& b ≤ a := Nat.and_le_left
    have hbt := bitN_le (a &&& b) k
    have hk1 : k + 1 ≤ 40 := by
      have h4 : (2 : Int) ^ k ≤ a := by omega
      have h5 := le_pow h4
      have h6 : 2 ^ k < 2 ^ 40 := by omega
      have := (Nat.pow_lt_pow_iff_right (by omega : 1 < 2)).1 h6
      omega
    rw [hm]
    have e : ((bitN (a &&& b) k : Nat) : Int) * 2 ^ k = ((bitN (a &&& b) k * 2 ^ k : Nat) : Int) := by simp
    rw [e]
    generalize bitN (a &&& b) k * 2 ^ k = B at hs
    repeat' (first | exact hb.elim | refine wS fun K hK => ?_ | refine wB ?_ | refine uR hΓ ?_ | refine uD hΓ fun B hB => ?_ | ((repeat ((fail_if_success (refine hK _ ?_)); clear hK K)); refine hK _ ?_; clear hK K) | refine u1 ?_ | refine uC (fun hb => ?_) fun hb => ?_ | refine u2 (fun hc => ?_) fun hc => ?_ | refine wI ?_ | refine ex_idx (by omega) ?_ | exact True.intro | fail)
    exact ⟨k + 1, by (simp only [xe, xj, Nat.reduceEqDiff]; (try simp [view, viewL_map]); (try omega)), by omega, by omega⟩
  · have : lowN (a &&& b) k = a &&& b := lowN_lt (Nat.lt_of_le_of_lt Nat.and_le_right (lt_pow (by omega)))
    rw [this]
    simp [Tryz.results55, RetOK, RetP, backA, upd_at, plainB, getP, isOwn, anyOwn, isP]
  · have : lowN (a &&& b) k = a &&& b := lowN_lt (Nat.lt_of_le_of_lt Nat.and_le_left (lt_pow (by omega)))
    rw [this]
    simp [Tryz.results55, RetOK, RetP, backA, upd_at, plainB, getP, isOwn, anyOwn, isP]

end Go.Proofs.YtehdfifncbokeaaGreat

namespace Go.Proofs.YtehdfifncbokeaaGreat
set_option linter.unusedSimpArgs false
set_option linter.unusedVariables false
set_option maxRecDepth 8000
set_option maxHeartbeats 2000000
open Go Go.RowKit AV

def autoValidR (args : List AV) (r : AV) : Prop := ∃ (E : List Int) (N : List (List Int)), args = [agg [ints E, rows N]] ∧ E.length ≤ 4611686018427387904 ∧ N.length ≤ 4611686018427387904 ∧ (∀ x ∈ N, x.length ≤ 4611686018427387904) ∧ r = .bool (autoOKB ⟨E, N⟩)

theorem nth_getElem {l : List Int} {k : Nat} (h : k < l.length) : nth l k = l[k] := by simp [nth, List.getD, h]
theorem nthL_getElem {l : List (List Int)} {k : Nat} (h : k < l.length) : nthL l k = l[k] := by simp [nthL, List.getD, h]

def okRow (D : AutoD) (i : Nat) : Prop := (0 ≤ nth D.ends i ∧ nth D.ends i ≤ 15) ∧ (nthL D.next i).length = 12 ∧ ∀ j, j < 12 → 0 ≤ nth (nthL D.next i) j ∧ nth (nthL D.next i) j ≤ 2 ^ D.ends.length - 1
theorem okRow_all {D : AutoD} (h1 : 1 ≤ D.ends.length) (h2 : D.ends.length ≤ 10) (h3 : D.next.length = D.ends.length) (h : ∀ i, i < D.ends.length → okRow D i) : AutoOK D := ⟨h1, h2, h3, fun k hk => (h k hk).1, fun k hk => (h k hk).2.1, fun k hk => (h k hk).2.2⟩

theorem notOK {D : AutoD} (h : ¬ AutoOK D) : autoOKB D = false := autoOKB_false.2 h

theorem implAutoValid_ctr : CtrOK Tryz.prog 14 (pureC autoValidR) := by
  refine ctr_pure' Tryz.func14 rfl rfl Tryz.ntmps14 ?_
  rintro _ _ ⟨E, N, rfl, hE, hN, hr, rfl⟩
  refine ⟨by simp, fun κ hκ => ?_⟩
  have hbig := bigW_gt
  rw [argEnv_eq]
  simp only [envA]
  have hΓ := ctxOf_ok (P := Tryz.prog) (cx implTestValid_ctr <| cx0)
  repeat' (first | exact hb.elim | refine wS fun K hK => ?_ | refine wB ?_ | refine uR hΓ ?_ | refine uD hΓ fun B hB => ?_ | ((repeat ((fail_if_success (refine hK _ ?_)); clear hK K)); refine hK _ ?_; clear hK K) | refine u1 ?_ | refine uC (fun hb => ?_) fun hb => ?_ | refine u2 (fun hc => ?_) fun hc => ?_ | refine wI ?_ | refine ex_idx (by omega) ?_ | exact True.intro | fail)
  · have : autoOKB ⟨E, N⟩ = false := notOK fun h => by have := h.len; dsimp only at this; omega
    simp [Tryz.results14, RetOK, upd_at, plainB, this]
  rotate_left
  · have : autoOKB ⟨E, N⟩ = false := notOK fun h => by have h1 := h.lo; have h2 := h.hi; dsimp only at h1 h2; omega
    simp [Tryz.results14, RetOK, upd_at, plainB, this]
  · have : autoOKB ⟨E, N⟩ = false := notOK fun h => by have h1 := h.lo; have h2 := h.hi; dsimp only at h1 h2; omega
    simp [Tryz.results14, RetOK, upd_at, plainB, this]
  have hn0 : N.length = E.length := by omega
  refine CW.loop (ι := Nat) (fun k => [(1, box [ints E, rows N]), (3, I E.length), (23, I E.length), (24, I k)]) (fun k => k ≤ E.length ∧ ∀ i, i < k → okRow ⟨E, N⟩ i) (fun k => E.length - k) 0 ?_ ?_
  · refine ⟨by (simp only [xe, xj, Nat.reduceEqDiff]; (try simp [view, viewL_map]); (try omega)), by omega, fun i hi => by omega⟩
  rintro k ⟨hk, hok⟩
  simp only [envOf]
  repeat' (first | exact hb.elim | refine wS fun K hK => ?_ | refine wB ?_ | refine uR hΓ ?_ | refine uD hΓ fun B hB => ?_ | ((repeat ((fail_if_success (refine hK _ ?_)); clear hK K)); refine hK _ ?_; clear hK K) | refine u1 ?_ | refine uC (fun hb => ?_) fun hb => ?_ | refine u2 (fun hc => ?_) fun hc => ?_ | refine wI ?_ | refine ex_idx (by omega) ?_ | exact True.intro | fail)
  (first | refine wA rfl _ (⟨_, rfl, rfl⟩) ?_ | refine dA rfl _ (⟨_, rfl, rfl⟩) ?_); simp (maxSteps := 2000000) only [go_sem]
  repeat' (first | exact hb.elim | refine wS fun K hK => ?_ | refine wB ?_ | refine uR hΓ ?_ | refine uD hΓ fun B hB => ?_ | ((repeat ((fail_if_success (refine hK _ ?_)); clear hK K)); refine hK _ ?_; clear hK K) | refine u1 ?_ | refine uC (fun hb => ?_) fun hb => ?_ | refine u2 (fun hc => ?_) fun hc => ?_ | refine wI ?_ | refine ex_idx (by omega) ?_ | exact True.intro | fail)
  · have : autoOKB ⟨E, N⟩ = false := notOK fun h => by
      have := h.rows k (by dsimp only; omega)
      rw [nthL_getElem (by dsimp only; omega)] at this
      dsimp only at this
      omega
    simp [Tryz.results14, RetOK, upd_at, plainB, this]
  rotate_left
  · have : autoOKB ⟨E, N⟩ = false := notOK fun h => by
      have := h.ends k (by dsimp only; omega)
      rw [nth_getElem (by dsimp only; omega)] at this
      exact hc this
    simp [Tryz.results14, RetOK, upd_at, plainB, this]
  · have : autoOKB ⟨E, N⟩ = true := autoOKB_true.2 (okRow_all (by dsimp only; omega) (by dsimp only; omega) hn0 fun i hi => hok i (by dsimp only at hi; omega))
    simp [Tryz.results14, RetOK, upd_at, plainB, this]
  have hkl : k < E.length := by omega
  have hrow : N[k].length = 12 := by omega
  have hp : (1 : Int) ≤ 2 ^ E.length ∧ (2 : Int) ^ E.length ≤ 1024 := pow_bd10 (by omega)
  refine CW.loop (ι := Nat) (fun j => [(1, box [ints E, rows N]), (3, I E.length), (23, I E.length), (24, I k), (47, ints N[k]), (48, I N[k].length), (49, I j)]) (fun j => j ≤ 12 ∧ ∀ i, i < j → 0 ≤ nth (nthL N k) i ∧ nth (nthL N k) i ≤ 2 ^ E.length - 1) (fun j => 12 - j) 0 ?_ ?_
  · refine ⟨by (simp only [xe, xj, Nat.reduceEqDiff]; (try simp [view, viewL_map]); (try omega)), by omega, fun i hi => by omega⟩
  rintro j ⟨hj, hset⟩
  simp only [envOf]
  repeat' (first | exact hb.elim | refine wS fun K hK => ?_ | refine wB ?_ | refine uR hΓ ?_ | refine uD hΓ fun B hB => ?_ | ((repeat ((fail_if_success (refine hK _ ?_)); clear hK K)); refine hK _ ?_; clear hK K) | refine u1 ?_ | refine uC (fun hb => ?_) fun hb => ?_ | refine u2 (fun hc => ?_) fun hc => ?_ | refine wI ?_ | refine ex_idx (by omega) ?_ | exact True.intro | fail)
  · have : autoOKB ⟨E, N⟩ = false := notOK fun h => by
      have := h.sets k (by dsimp only; omega) j (by omega)
      rw [nthL_getElem (by dsimp only; omega), nth_getElem (by dsimp only; omega)] at this
      dsimp only at this
      omega
    simp [Tryz.results14, RetOK, upd_at, plainB, this]
  · refine ⟨j + 1, by (simp only [xe, xj, Nat.reduceEqDiff]; (try simp [view, viewL_map]); (try omega)), ⟨by omega, fun i hi => ?_⟩, by omega⟩
    by_cases hij : i < j
    · exact hset i hij
    · have : i = j := by omega
      subst this
      rw [nthL_getElem (by omega), nth_getElem (by omega)]
      omega
  · have : autoOKB ⟨E, N⟩ = false := notOK fun h => by
      have := h.sets k (by dsimp only; omega) j (by omega)
      rw [nthL_getElem (by dsimp only; omega), nth_getElem (by dsimp only; omega)] at this
      dsimp only at this
      omega
    simp [Tryz.results14, RetOK, upd_at, plainB, this]
  · refine ⟨k + 1, by (simp only [xe, xj, Nat.reduceEqDiff]; (try simp [view, viewL_map]); (try omega)), ⟨by omega, fun i hi => ?_⟩, by omega⟩
    by_cases hik : i < k
    · exact hok i hik
    · have : i = k := by omega
      subst this
      refine ⟨?_, ?_, fun j' hj' => hset j' (by omega)⟩
      · rw [nth_getElem (by dsimp only; omega)]; assumption
      · rw [nthL_getElem (by dsimp only; omega)]; exact hrow

end Go.Proofs.YtehdfifncbokeaaGreat

namespace Go.Proofs.YtehdfifncbokeaaGreat
set_option linter.unusedSimpArgs false
set_option linter.unusedVariables false
set_option maxRecDepth 8000
set_option maxHeartbeats 2000000
open Go Go.RowKit AV

end Go.Proofs.YtehdfifncbokeaaGreat

namespace Go.Proofs.YtehdfifncbokeaaGreat
set_option linter.unusedSimpArgs false
set_option linter.unusedVariables false
set_option maxRecDepth 8000
set_option maxHeartbeats 2000000
open Go Go.RowKit AV

def takesR (args : List AV) (r : AV) : Prop := ∃ n : Int, args = [I n] ∧ r = I ((takesN n : Nat) : Int)

theorem l2Takes_ctr : CtrOK Tryz.prog 76 (pureC takesR) := by
  refine ctr_pure' Tryz.func76 rfl rfl Tryz.ntmps76 ?_
  rintro _ _ ⟨n, rfl, rfl⟩
  refine ⟨by simp, fun κ hκ => ?_⟩
  have hbig := bigW_gt
  rw [argEnv_eq]
  simp only [envA]
  have hΓ := noCtx_ok Tryz.prog
  repeat' (first | exact hb.elim | refine wS fun K hK => ?_ | refine wB ?_ | refine uR hΓ ?_ | refine uD hΓ fun B hB => ?_ | ((repeat ((fail_if_success (refine hK _ ?_)); clear hK K)); refine hK _ ?_; clear hK K) | refine u1 ?_ | refine uC (fun hb => ?_) fun hb => ?_ | refine u2 (fun hc => ?_) fun hc => ?_ | refine wI ?_ | refine ex_idx (by omega) ?_ | exact True.intro | fail)
  all_goals (first | omega | (simp [Tryz.results76, RetOK, upd_at, plainB, takesN, *]; done) | (simp [upd_at, takesN, *]; done))

theorem takes_ctr : CtrOK Tryz.prog 42 (pureC takesR) := by
  refine ctr_pure' Tryz.func42 rfl rfl Tryz.ntmps42 ?_
  rintro _ _ ⟨n, rfl, rfl⟩
  refine ⟨by simp, fun κ hκ => ?_⟩
  have hbig := bigW_gt
  rw [argEnv_eq]
  simp only [envA]
  have hΓ := noCtx_ok Tryz.prog
  repeat' (first | exact hb.elim | refine wS fun K hK => ?_ | refine wB ?_ | refine uR hΓ ?_ | refine uD hΓ fun B hB => ?_ | ((repeat ((fail_if_success (refine hK _ ?_)); clear hK K)); refine hK _ ?_; clear hK K) | refine u1 ?_ | refine uC (fun hb => ?_) fun hb => ?_ | refine u2 (fun hc => ?_) fun hc => ?_ | refine wI ?_ | refine ex_idx (by omega) ?_ | exact True.intro | fail)
  all_goals (first | omega | (simp [Tryz.results42, RetOK, upd_at, plainB, takesN, *]; done) | (simp [upd_at, takesN, *]; done))

theorem katB_bad {e : List Int} (h : ¬ (1 ≤ e.length ∧ e.length ≤ 40)) : katB e = false := katB_false.2 fun hk => by
  obtain ⟨x, _, rfl, h40⟩ := hk.ex
  have := x.steps_pos
  omega

def katValidR (args : List AV) (r : AV) : Prop := ∃ e : List Int, args = [ints e] ∧ e.length ≤ 1099511627776 ∧ r = .bool (katB e)

theorem specKatValid_ctr : CtrOK Tryz.prog 51 (pureC katValidR) := by
  refine ctr_pure' Tryz.func51 rfl rfl Tryz.ntmps51 ?_
  rintro _ _ ⟨e, rfl, hl, rfl⟩
  refine ⟨by simp, fun κ hκ => ?_⟩
  have hbig := bigW_gt
  rw [argEnv_eq]
  simp only [envA]
  have hΓ := ctxOf_ok (P := Tryz.prog) (cx l1In_ctr <| cx l2Takes_ctr <| cx0)
  repeat' (first | exact hb.elim | refine wS fun K hK => ?_ | refine wB ?_ | refine uR hΓ ?_ | refine uD hΓ fun B hB => ?_ | ((repeat ((fail_if_success (refine hK _ ?_)); clear hK K)); refine hK _ ?_; clear hK K) | refine u1 ?_ | refine uC (fun hb => ?_) fun hb => ?_ | refine u2 (fun hc => ?_) fun hc => ?_ | refine wI ?_ | refine ex_idx (by omega) ?_ | exact True.intro | fail)
  refine CW.loop (ι := Nat × Nat) (fun x => [(0, ints e), (3, I x.2), (4, I x.1)]) (fun x => x.1 ≤ e.length ∧ depthAt e x.1 x.2) (fun x => e.length - x.1) (0, 0) ?_ ?_
  · exact ⟨by (simp only [xe, xj, Nat.reduceEqDiff]; (try simp [view, viewL_map]); (try omega)), by simp, depthAt_zero e⟩
  rintro ⟨k, d⟩ ⟨hk, hd⟩
  have hdk := depthAt_le hd hk
  dsimp only at hk hd hdk ⊢
  simp only [envOf]
  repeat' (first | exact hb.elim | refine wS fun K hK => ?_ | refine wB ?_ | refine uR hΓ ?_ | refine uD hΓ fun B hB => ?_ | ((repeat ((fail_if_success (refine hK _ ?_)); clear hK K)); refine hK _ ?_; clear hK K) | refine u1 ?_ | refine uC (fun hb => ?_) fun hb => ?_ | refine u2 (fun hc => ?_) fun hc => ?_ | refine wI ?_ | refine ex_idx (by omega) ?_ | exact True.intro | fail)
  · have hkl : k < e.length := by omega
    have hnth : nth e k = e[k] := nth_getElem hkl
    have htk := takesN_le e[k]
    (first | refine wA rfl _ (⟨_, _, _, rfl, rfl⟩) ?_ | refine dA rfl _ (⟨_, _, _, rfl, rfl⟩) ?_); simp (maxSteps := 2000000) only [go_sem]
    repeat' (first | exact hb.elim | refine wS fun K hK => ?_ | refine wB ?_ | refine uR hΓ ?_ | refine uD hΓ fun B hB => ?_ | ((repeat ((fail_if_success (refine hK _ ?_)); clear hK K)); refine hK _ ?_; clear hK K) | refine u1 ?_ | refine uC (fun hb => ?_) fun hb => ?_ | refine u2 (fun hc => ?_) fun hc => ?_ | refine wI ?_ | refine ex_idx (by omega) ?_ | exact True.intro | fail)
    · (first | refine wA rfl _ (⟨_, rfl, rfl⟩) ?_ | refine dA rfl _ (⟨_, rfl, rfl⟩) ?_); simp (maxSteps := 2000000) only [go_sem]
      repeat' (first | exact hb.elim | refine wS fun K hK => ?_ | refine wB ?_ | refine uR hΓ ?_ | refine uD hΓ fun B hB => ?_ | ((repeat ((fail_if_success (refine hK _ ?_)); clear hK K)); refine hK _ ?_; clear hK K) | refine u1 ?_ | refine uC (fun hb => ?_) fun hb => ?_ | refine u2 (fun hc => ?_) fun hc => ?_ | refine wI ?_ | refine ex_idx (by omega) ?_ | exact True.intro | fail)
      · have hkb : katB e = false := katB_false.2 (depthAt_fail hd hkl (.inr (by rw [hnth]; omega)))
        simp [Tryz.results51, RetOK, RetP, backA, upd_at, plainB, getP, isOwn, anyOwn, isP, *]
      · (first | refine wA rfl _ (⟨_, rfl, rfl⟩) ?_ | refine dA rfl _ (⟨_, rfl, rfl⟩) ?_); simp (maxSteps := 2000000) only [go_sem]
        repeat' (first | exact hb.elim | refine wS fun K hK => ?_ | refine wB ?_ | refine uR hΓ ?_ | refine uD hΓ fun B hB => ?_ | ((repeat ((fail_if_success (refine hK _ ?_)); clear hK K)); refine hK _ ?_; clear hK K) | refine u1 ?_ | refine uC (fun hb => ?_) fun hb => ?_ | refine u2 (fun hc => ?_) fun hc => ?_ | refine wI ?_ | refine ex_idx (by omega) ?_ | exact True.intro | fail)
        have hst := depthAt_step hd hkl (by rw [hnth]; omega) (by rw [hnth]; omega) (by rw [hnth]; omega)
        rw [hnth] at hst
        refine ⟨(k + 1, d + 1 - takesN e[k]), ?_, ⟨by dsimp only; omega, hst⟩, by dsimp only; omega⟩
        (simp only [xe, xj, Nat.reduceEqDiff]; (try simp [view, viewL_map]); (try omega))
    · have hkb : katB e = false := katB_false.2 (depthAt_fail hd hkl (.inl (by rw [hnth]; exact hc)))
      simp [Tryz.results51, RetOK, RetP, backA, upd_at, plainB, getP, isOwn, anyOwn, isP, *]
  · have hke : k = e.length := by omega
    subst hke
    (first | refine wA rfl _ (⟨_, _, _, rfl, rfl⟩) ?_ | refine dA rfl _ (⟨_, _, _, rfl, rfl⟩) ?_); simp (maxSteps := 2000000) only [go_sem]
    repeat' (first | exact hb.elim | refine wS fun K hK => ?_ | refine wB ?_ | refine uR hΓ ?_ | refine uD hΓ fun B hB => ?_ | ((repeat ((fail_if_success (refine hK _ ?_)); clear hK K)); refine hK _ ?_; clear hK K) | refine u1 ?_ | refine uC (fun hb => ?_) fun hb => ?_ | refine u2 (fun hc => ?_) fun hc => ?_ | refine wI ?_ | refine ex_idx (by omega) ?_ | exact True.intro | fail)
    · have hkb := depthAt_end hd (by omega)
      have hd1 : decide (d = 1) = decide ((d : Int) = 1) := by rw [Bool.eq_iff_iff, decide_eq_true_eq, decide_eq_true_eq]; omega
      rw [hkb, hd1]
      simp [Tryz.results51, RetOK, RetP, backA, upd_at, plainB, getP, isOwn, anyOwn, isP]
    · have hkb := katB_bad (e := e) (by omega)
      simp [Tryz.results51, RetOK, RetP, backA, upd_at, plainB, getP, isOwn, anyOwn, isP, *]

theorem implKatValid_ctr : CtrOK Tryz.prog 17 (pureC katValidR) := by
  refine ctr_pure' Tryz.func17 rfl rfl Tryz.ntmps17 ?_
  rintro _ _ ⟨e, rfl, hl, rfl⟩
  refine ⟨by simp, fun κ hκ => ?_⟩
  have hbig := bigW_gt
  rw [argEnv_eq]
  simp only [envA]
  have hΓ := ctxOf_ok (P := Tryz.prog) (cx takes_ctr <| cx0)
  repeat' (first | exact hb.elim | refine wS fun K hK => ?_ | refine wB ?_ | refine uR hΓ ?_ | refine uD hΓ fun B hB => ?_ | ((repeat ((fail_if_success (refine hK _ ?_)); clear hK K)); refine hK _ ?_; clear hK K) | refine u1 ?_ | refine uC (fun hb => ?_) fun hb => ?_ | refine u2 (fun hc => ?_) fun hc => ?_ | refine wI ?_ | refine ex_idx (by omega) ?_ | exact True.intro | fail)
  · have hkb := katB_bad (e := e) (by omega)
    simp [Tryz.results17, RetOK, RetP, backA, upd_at, plainB, getP, isOwn, anyOwn, isP, *]
  · refine CW.loop (ι := Nat × Nat) (fun x => [(0, ints e), (3, I x.2), (14, ints e), (15, I e.length), (16, I x.1)]) (fun x => x.1 ≤ e.length ∧ depthAt e x.1 x.2) (fun x => e.length - x.1) (0, 0) ?_ ?_
    · exact ⟨by (simp only [xe, xj, Nat.reduceEqDiff]; (try simp [view, viewL_map]); (try omega)), by simp, depthAt_zero e⟩
    rintro ⟨k, d⟩ ⟨hk, hd⟩
    have hdk := depthAt_le hd hk
    dsimp only at hk hd hdk ⊢
    simp only [envOf]
    repeat' (first | exact hb.elim | refine wS fun K hK => ?_ | refine wB ?_ | refine uR hΓ ?_ | refine uD hΓ fun B hB => ?_ | ((repeat ((fail_if_success (refine hK _ ?_)); clear hK K)); refine hK _ ?_; clear hK K) | refine u1 ?_ | refine uC (fun hb => ?_) fun hb => ?_ | refine u2 (fun hc => ?_) fun hc => ?_ | refine wI ?_ | refine ex_idx (by omega) ?_ | exact True.intro | fail)
    · have hkl : k < e.length := by omega
      have hnth : nth e k = e[k] := nth_getElem hkl
      have htk := takesN_le e[k]
      (first | refine wA rfl _ (⟨_, rfl, rfl⟩) ?_ | refine dA rfl _ (⟨_, rfl, rfl⟩) ?_); simp (maxSteps := 2000000) only [go_sem]
      repeat' (first | exact hb.elim | refine wS fun K hK => ?_ | refine wB ?_ | refine uR hΓ ?_ | refine uD hΓ fun B hB => ?_ | ((repeat ((fail_if_success (refine hK _ ?_)); clear hK K)); refine hK _ ?_; clear hK K) | refine u1 ?_ | refine uC (fun hb => ?_) fun hb => ?_ | refine u2 (fun hc => ?_) fun hc => ?_ | refine wI ?_ | refine ex_idx (by omega) ?_ | exact True.intro | fail)
      · have hkb : katB e = false := katB_false.2 (depthAt_fail hd hkl (.inr (by rw [hnth]; omega)))
        simp [Tryz.results17, RetOK, RetP, backA, upd_at, plainB, getP, isOwn, anyOwn, isP, *]
      · (first | refine wA rfl _ (⟨_, rfl, rfl⟩) ?_ | refine dA rfl _ (⟨_, rfl, rfl⟩) ?_); simp (maxSteps := 2000000) only [go_sem]
        repeat' (first | exact hb.elim | refine wS fun K hK => ?_ | refine wB ?_ | refine uR hΓ ?_ | refine uD hΓ fun B hB => ?_ | ((repeat ((fail_if_success (refine hK _ ?_)); clear hK K)); refine hK _ ?_; clear hK K) | refine u1 ?_ | refine uC (fun hb => ?_) fun hb => ?_ | refine u2 (fun hc => ?_) fun hc => ?_ | refine wI ?_ | refine ex_idx (by omega) ?_ | exact True.intro | fail)
        have hst := depthAt_step hd hkl (by rw [hnth]; omega) (by rw [hnth]; omega) (by rw [hnth]; omega)
        rw [hnth] at hst
        refine ⟨(k + 1, d + 1 - takesN e[k]), ?_, ⟨by dsimp only; omega, hst⟩, by dsimp only; omega⟩
        (simp only [xe, xj, Nat.reduceEqDiff]; (try simp [view, viewL_map]); (try omega))
    · have hkb : katB e = false := katB_false.2 (depthAt_fail hd (by omega) (.inl (by rw [nth_getElem (by omega)]; omega)))
      simp [Tryz.results17, RetOK, RetP, backA, upd_at, plainB, getP, isOwn, anyOwn, isP, *]
    · have hkb : katB e = false := katB_false.2 (depthAt_fail hd (by omega) (.inl (by rw [nth_getElem (by omega)]; omega)))
      simp [Tryz.results17, RetOK, RetP, backA, upd_at, plainB, getP, isOwn, anyOwn, isP, *]
    · have hke : k = e.length := by omega
      subst hke
      have hkb := depthAt_end hd (by omega)
      have hd1 : decide (d = 1) = decide ((d : Int) = 1) := by rw [Bool.eq_iff_iff, decide_eq_true_eq, decide_eq_true_eq]; omega
      rw [hkb, hd1]
      simp [Tryz.results17, RetOK, RetP, backA, upd_at, plainB, getP, isOwn, anyOwn, isP]
  · have hkb := katB_bad (e := e) (by omega)
    simp [Tryz.results17, RetOK, RetP, backA, upd_at, plainB, getP, isOwn, anyOwn, isP, *]

end Go.Proofs.YtehdfifncbokeaaGreat

namespace Go.Proofs.YtehdfifncbokeaaGreat
set_option linter.unusedSimpArgs false
set_option linter.unusedVariables false
set_option maxRecDepth 8000
set_option maxHeartbeats 2000000
open Go Go.RowKit AV

def isActR (args : List AV) (r : AV) : Prop := ∃ n : Int, args = [I n] ∧ r = .bool (decide (16 ≤ n ∧ n ≤ 18))
theorem isAct_ctr : CtrOK Tryz.prog 44 (pureC isActR) := by
  refine ctr_pure' Tryz.func44 rfl rfl Tryz.ntmps44 ?_
  rintro _ _ ⟨n, rfl, rfl⟩
  refine ⟨by simp, fun κ hκ => ?_⟩
  have hbig := bigW_gt
  rw [argEnv_eq]
  simp only [envA]
  have hΓ := noCtx_ok Tryz.prog
  repeat' (first | exact hb.elim | refine wS fun K hK => ?_ | refine wB ?_ | refine uR hΓ ?_ | refine uD hΓ fun B hB => ?_ | ((repeat ((fail_if_success (refine hK _ ?_)); clear hK K)); refine hK _ ?_; clear hK K) | refine u1 ?_ | refine uC (fun hb => ?_) fun hb => ?_ | refine u2 (fun hc => ?_) fun hc => ?_ | refine wI ?_ | refine ex_idx (by omega) ?_ | exact True.intro | fail)
  · have : decide (16 ≤ n ∧ n ≤ 18) = decide (n ≤ 18) := by rw [Bool.eq_iff_iff, decide_eq_true_eq, decide_eq_true_eq]; omega
    rw [this]
    simp [Tryz.results44, RetOK, RetP, backA, upd_at, plainB, getP, isOwn, anyOwn, isP]
  · have : decide (16 ≤ n ∧ n ≤ 18) = false := by rw [decide_eq_false_iff_not]; omega
    rw [this]
    simp [Tryz.results44, RetOK, RetP, backA, upd_at, plainB, getP, isOwn, anyOwn, isP]
def isAtomR (args : List AV) (r : AV) : Prop := ∃ n : Int, args = [I n] ∧ r = .bool (decide (0 ≤ n ∧ n ≤ 3))
theorem isAtom_ctr : CtrOK Tryz.prog 62 (pureC isAtomR) := by
  refine ctr_pure' Tryz.func62 rfl rfl Tryz.ntmps62 ?_
  rintro _ _ ⟨n, rfl, rfl⟩
  refine ⟨by simp, fun κ hκ => ?_⟩
  have hbig := bigW_gt
  rw [argEnv_eq]
  simp only [envA]
  have hΓ := noCtx_ok Tryz.prog
  repeat' (first | exact hb.elim | refine wS fun K hK => ?_ | refine wB ?_ | refine uR hΓ ?_ | refine uD hΓ fun B hB => ?_ | ((repeat ((fail_if_success (refine hK _ ?_)); clear hK K)); refine hK _ ?_; clear hK K) | refine u1 ?_ | refine uC (fun hb => ?_) fun hb => ?_ | refine u2 (fun hc => ?_) fun hc => ?_ | refine wI ?_ | refine ex_idx (by omega) ?_ | exact True.intro | fail)
  · have : decide (0 ≤ n ∧ n ≤ 3) = decide (n ≤ 3) := by rw [Bool.eq_iff_iff, decide_eq_true_eq, decide_eq_true_eq]; omega
    rw [this]
    simp [Tryz.results62, RetOK, RetP, backA, upd_at, plainB, getP, isOwn, anyOwn, isP]
  · have : decide (0 ≤ n ∧ n ≤ 3) = false := by rw [decide_eq_false_iff_not]; omega
    rw [this]
    simp [Tryz.results62, RetOK, RetP, backA, upd_at, plainB, getP, isOwn, anyOwn, isP]

def holdsR (args : List AV) (r : AV) : Prop := ∃ s k : Nat, args = [I s, I k] ∧ s < 1099511627776 ∧ k < 64 ∧ r = .bool (s.testBit k)
theorem holds_ctr : CtrOK Tryz.prog 34 (pureC holdsR) := by
  refine ctr_pure' Tryz.func34 rfl rfl Tryz.ntmps34 ?_
  rintro _ _ ⟨s, k, rfl, hs, hk, rfl⟩
  refine ⟨by simp, fun κ hκ => ?_⟩
  have hbig := bigW_gt
  rw [argEnv_eq]
  simp only [envA]
  have hΓ := noCtx_ok Tryz.prog
  have h0 := Nat.div_le_self s (2 ^ k)
  repeat' (first | refine wS fun K hK => ?_ | refine wB ?_ | ((first | refine wR hΓ ?_ | refine wD hΓ fun B hB => ?_); simp (maxSteps := 2000000) only [go_sem, shr_nat]) | ((repeat ((fail_if_success (refine hK _ ?_)); clear hK K)); refine hK _ ?_; clear hK K) | (refine w1 ?_; simp only [xs, xi, Nat.reduceEqDiff, reduceCtorEq]) | (refine wC (fun hb => ?_) fun hb => ?_ <;> (try simp only [xb, reduceCtorEq] at hb)) | (refine w2 (fun hc => ?_) (fun hc => ?_) <;> (try simp only [xc] at hc) <;> (try simp only [go_sem, hc, shr_nat]) <;> (try simp only [xb] at hc)) | refine wI ?_ | refine ex_idx (by omega) ?_ | fail)
  have : s.testBit k = decide ((bitN s k : Int) = 1) := by
    unfold bitN
    cases s.testBit k <;> rfl
  rw [this]
  simp [Tryz.results34, RetOK, upd_at, plainB, Nat.and_one_is_mod, bitN_eq]

def l1EitherR (args : List AV) (r : AV) : Prop := ∃ a b : Nat, args = [I a, I b] ∧ a < 1099511627776 ∧ b < 1099511627776 ∧ r = I ((a ||| b : Nat) : Int)
theorem l1Either_ctr : CtrOK Tryz.prog 54 (pureC l1EitherR) := by
  refine ctr_pure' Tryz.func54 rfl rfl Tryz.ntmps54 ?_
  rintro _ _ ⟨a, b, rfl, ha, hb0, rfl⟩
  refine ⟨by simp, fun κ hκ => ?_⟩
  have hbig := bigW_gt
  rw [argEnv_eq]
  simp only [envA]
  have hΓ := ctxOf_ok (P := Tryz.prog) (cx l1Both_ctr <| cx0)
  repeat' (first | exact hb.elim | refine wS fun K hK => ?_ | refine wB ?_ | refine uR hΓ ?_ | refine uD hΓ fun B hB => ?_ | ((repeat ((fail_if_success (refine hK _ ?_)); clear hK K)); refine hK _ ?_; clear hK K) | refine u1 ?_ | refine uC (fun hb => ?_) fun hb => ?_ | refine u2 (fun hc => ?_) fun hc => ?_ | refine wI ?_ | refine ex_idx (by omega) ?_ | exact True.intro | fail)
  (first | refine wA rfl _ (⟨_, _, rfl, ha, hb0, rfl⟩) ?_ | refine dA rfl _ (⟨_, _, rfl, ha, hb0, rfl⟩) ?_); simp (maxSteps := 2000000) only [go_sem]
  have h1 := or_add_and a b
  have h2 : a &&& b ≤ a := Nat.and_le_left
  repeat' (first | exact hb.elim | refine wS fun K hK => ?_ | refine wB ?_ | refine uR hΓ ?_ | refine uD hΓ fun B hB => ?_ | ((repeat ((fail_if_success (refine hK _ ?_)); clear hK K)); refine hK _ ?_; clear hK K) | refine u1 ?_ | refine uC (fun hb => ?_) fun hb => ?_ | refine u2 (fun hc => ?_) fun hc => ?_ | refine wI ?_ | refine ex_idx (by omega) ?_ | exact True.intro | fail)
  have : (a : Int) + b - ((a &&& b : Nat) : Int) = ((a ||| b : Nat) : Int) := by omega
  rw [this]
  simp [Tryz.results54, RetOK, RetP, backA, upd_at, plainB, getP, isOwn, anyOwn, isP]

theorem lexLt_append : ∀ (p a b : List Int), lexLt (p ++ a) (p ++ b) = lexLt a b
  | [], _, _ => rfl
  | x :: p, a, b => by rw [List.cons_append, List.cons_append, lexLt_cons, if_pos rfl]; exact lexLt_append p a b
theorem lex_ne {a b : List Int} {k : Nat} (ha : k < a.length) (hb : k < b.length) (h : a.take k = b.take k) (hne : ¬ a[k] = b[k]) : lexLt a b = decide (a[k] < b[k]) ∧ a ≠ b := by
  refine ⟨?_, fun e => hne (by subst e; rfl)⟩
  have e1 := List.take_append_drop k a
  have e2 := List.take_append_drop k b
  rw [List.drop_eq_getElem_cons ha] at e1
  rw [List.drop_eq_getElem_cons hb] at e2
  have e3 : lexLt a b = lexLt (a.take k ++ a[k] :: a.drop (k + 1)) (a.take k ++ b[k] :: b.drop (k + 1)) := by rw [e1, h, e2]
  rw [e3, lexLt_append, lexLt_cons, if_neg hne]
theorem lex_end {a b : List Int} {k : Nat} (ha : k ≤ a.length) (hb : k ≤ b.length) (h : a.take k = b.take k) (he : k = a.length ∨ k = b.length) : lexLt a b = decide (a.length < b.length) ∧ (a = b ↔ a.length = b.length) := by
  have e1 := List.take_append_drop k a
  have e2 := List.take_append_drop k b
  have e3 : lexLt a b = lexLt (a.take k ++ a.drop k) (a.take k ++ b.drop k) := by rw [e1, h, e2]
  rw [lexLt_append] at e3
  have l1 : (a.drop k).length = a.length - k := List.length_drop
  have l2 : (b.drop k).length = b.length - k := List.length_drop
  refine ⟨?_, fun e => by rw [e], fun e => ?_⟩
  · rw [e3]
    cases hx : a.drop k with
    | nil =>
      rw [hx] at l1
      cases hy : b.drop k with
      | nil =>
        rw [hy] at l2
        simp only [List.length_nil] at l1 l2
        rw [lexLt_nil]; exact (decide_eq_false (by omega)).symm
      | cons y ys =>
        rw [hy] at l2
        simp only [List.length_nil, List.length_cons] at l1 l2
        exact (decide_eq_true (by omega)).symm
    | cons x xs =>
      rw [hx] at l1
      cases hy : b.drop k with
      | nil =>
        rw [hy] at l2
        simp only [List.length_nil, List.length_cons] at l1 l2
        rw [lexLt_nil]; exact (decide_eq_false (by omega)).symm
      | cons y ys =>
        rw [hy] at l2
        simp only [List.length_cons] at l1 l2
        omega
  · have h1 : a.take k = a := List.take_of_length_le (by omega)
    have h2 : b.take k = b := List.take_of_length_le (by omega)
    rw [h1, h2] at h; exact h
theorem lex_next {a b : List Int} {k : Nat} (ha : k < a.length) (hb : k < b.length) (h : a.take k = b.take k) (he : a[k] = b[k]) : a.take (k + 1) = b.take (k + 1) := take_succ_eq ha hb h he
theorem decide_cast {a b : Nat} : decide (a < b) = decide ((a : Int) < (b : Int)) := by rw [Bool.eq_iff_iff, decide_eq_true_eq, decide_eq_true_eq]; omega
theorem decide_castE {a b : Nat} : decide (a = b) = decide ((a : Int) = (b : Int)) := by rw [Bool.eq_iff_iff, decide_eq_true_eq, decide_eq_true_eq]; omega

def sameR (args : List AV) (r : AV) : Prop := ∃ a b : List Int, args = [ints a, ints b] ∧ a.length ≤ 1099511627776 ∧ b.length ≤ 1099511627776 ∧ r = .bool (decide (a = b))
theorem l1Same_ctr : CtrOK Tryz.prog 59 (pureC sameR) := by
  refine ctr_pure' Tryz.func59 rfl rfl Tryz.ntmps59 ?_
  rintro _ _ ⟨a, b, rfl, ha, hb0, rfl⟩
  refine ⟨by simp, fun κ hκ => ?_⟩
  have hbig := bigW_gt
  rw [argEnv_eq]
  simp only [envA]
  have hΓ := noCtx_ok Tryz.prog
  repeat' (first | exact hb.elim | refine wS fun K hK => ?_ | refine wB ?_ | refine uR hΓ ?_ | refine uD hΓ fun B hB => ?_ | ((repeat ((fail_if_success (refine hK _ ?_)); clear hK K)); refine hK _ ?_; clear hK K) | refine u1 ?_ | refine uC (fun hb => ?_) fun hb => ?_ | refine u2 (fun hc => ?_) fun hc => ?_ | refine wI ?_ | refine ex_idx (by omega) ?_ | exact True.intro | fail)
  refine CW.loop (ι := Nat) (fun k => [(0, ints a), (1, ints b), (5, I k)]) (fun k => k ≤ a.length ∧ k ≤ b.length ∧ a.take k = b.take k) (fun k => a.length - k) 0 ?_ ?_
  · exact ⟨by (simp only [xe, xj, Nat.reduceEqDiff]; (try simp [view, viewL_map]); (try omega)), by omega, by omega, by simp⟩
  rintro k ⟨hka, hkb, hab⟩
  simp only [envOf]
  repeat' (first | exact hb.elim | refine wS fun K hK => ?_ | refine wB ?_ | refine uR hΓ ?_ | refine uD hΓ fun B hB => ?_ | ((repeat ((fail_if_success (refine hK _ ?_)); clear hK K)); refine hK _ ?_; clear hK K) | refine u1 ?_ | refine uC (fun hb => ?_) fun hb => ?_ | refine u2 (fun hc => ?_) fun hc => ?_ | refine wI ?_ | refine ex_idx (by omega) ?_ | exact True.intro | fail)
  · have hx := (lex_ne (by omega) (by omega) hab hb).2
    have h2 : decide (a = b) = false := decide_eq_false hx
    rw [h2]
    simp [Tryz.results59, RetOK, RetP, backA, upd_at, plainB, getP, isOwn, anyOwn, isP]
  · exact ⟨k + 1, by (simp only [xe, xj, Nat.reduceEqDiff]; (try simp [view, viewL_map]); (try omega)), ⟨by omega, by omega, lex_next (by omega) (by omega) hab hb⟩, by omega⟩
  all_goals (
    have h2 : decide (a = b) = decide (a.length = b.length) := by rw [Bool.eq_iff_iff, decide_eq_true_eq, decide_eq_true_eq]; exact (lex_end hka hkb hab (by omega)).2
    rw [h2, decide_castE]
    simp [Tryz.results59, RetOK, RetP, backA, upd_at, plainB, getP, isOwn, anyOwn, isP])

def lessR (args : List AV) (r : AV) : Prop := ∃ a b : List Int, args = [ints a, ints b] ∧ a.length ≤ 1099511627776 ∧ b.length ≤ 1099511627776 ∧ r = .bool (lexLt a b)
theorem l1Less_ctr : CtrOK Tryz.prog 78 (pureC lessR) := by
  refine ctr_pure' Tryz.func78 rfl rfl Tryz.ntmps78 ?_
  rintro _ _ ⟨a, b, rfl, ha, hb0, rfl⟩
  refine ⟨by simp, fun κ hκ => ?_⟩
  have hbig := bigW_gt
  rw [argEnv_eq]
  simp only [envA]
  have hΓ := noCtx_ok Tryz.prog
  repeat' (first | exact hb.elim | refine wS fun K hK => ?_ | refine wB ?_ | refine uR hΓ ?_ | refine uD hΓ fun B hB => ?_ | ((repeat ((fail_if_success (refine hK _ ?_)); clear hK K)); refine hK _ ?_; clear hK K) | refine u1 ?_ | refine uC (fun hb => ?_) fun hb => ?_ | refine u2 (fun hc => ?_) fun hc => ?_ | refine wI ?_ | refine ex_idx (by omega) ?_ | exact True.intro | fail)
  refine CW.loop (ι := Nat) (fun k => [(0, ints a), (1, ints b), (5, I k)]) (fun k => k ≤ a.length ∧ k ≤ b.length ∧ a.take k = b.take k) (fun k => a.length - k) 0 ?_ ?_
  · exact ⟨by (simp only [xe, xj, Nat.reduceEqDiff]; (try simp [view, viewL_map]); (try omega)), by omega, by omega, by simp⟩
  rintro k ⟨hka, hkb, hab⟩
  simp only [envOf]
  repeat' (first | exact hb.elim | refine wS fun K hK => ?_ | refine wB ?_ | refine uR hΓ ?_ | refine uD hΓ fun B hB => ?_ | ((repeat ((fail_if_success (refine hK _ ?_)); clear hK K)); refine hK _ ?_; clear hK K) | refine u1 ?_ | refine uC (fun hb => ?_) fun hb => ?_ | refine u2 (fun hc => ?_) fun hc => ?_ | refine wI ?_ | refine ex_idx (by omega) ?_ | exact True.intro | fail)
  · rw [(lex_ne (by omega) (by omega) hab hb).1]
    simp [Tryz.results78, RetOK, RetP, backA, upd_at, plainB, getP, isOwn, anyOwn, isP]
  · exact ⟨k + 1, by (simp only [xe, xj, Nat.reduceEqDiff]; (try simp [view, viewL_map]); (try omega)), ⟨by omega, by omega, lex_next (by omega) (by omega) hab hb⟩, by omega⟩
  all_goals (
    rw [(lex_end hka hkb hab (by omega)).1, decide_cast]
    simp [Tryz.results78, RetOK, RetP, backA, upd_at, plainB, getP, isOwn, anyOwn, isP])

theorem equal_ctr : CtrOK Tryz.prog 50 (pureC sameR) := by
  refine ctr_pure' Tryz.func50 rfl rfl Tryz.ntmps50 ?_
  rintro _ _ ⟨a, b, rfl, ha, hb0, rfl⟩
  refine ⟨by simp, fun κ hκ => ?_⟩
  have hbig := bigW_gt
  rw [argEnv_eq]
  simp only [envA]
  have hΓ := noCtx_ok Tryz.prog
  repeat' (first | exact hb.elim | refine wS fun K hK => ?_ | refine wB ?_ | refine uR hΓ ?_ | refine uD hΓ fun B hB => ?_ | ((repeat ((fail_if_success (refine hK _ ?_)); clear hK K)); refine hK _ ?_; clear hK K) | refine u1 ?_ | refine uC (fun hb => ?_) fun hb => ?_ | refine u2 (fun hc => ?_) fun hc => ?_ | refine wI ?_ | refine ex_idx (by omega) ?_ | exact True.intro | fail)
  · have h2 : decide (a = b) = false := decide_eq_false fun e => by subst e; omega
    rw [h2]
    simp [Tryz.results50, RetOK, RetP, backA, upd_at, plainB, getP, isOwn, anyOwn, isP]
  refine CW.loop (ι := Nat) (fun k => [(0, ints a), (1, ints b), (12, I a.length), (13, I k)]) (fun k => k ≤ a.length ∧ a.take k = b.take k) (fun k => a.length - k) 0 ?_ ?_
  · exact ⟨by (simp only [xe, xj, Nat.reduceEqDiff]; (try simp [view, viewL_map]); (try omega)), by omega, by simp⟩
  rintro k ⟨hka, hab⟩
  simp only [envOf]
  repeat' (first | exact hb.elim | refine wS fun K hK => ?_ | refine wB ?_ | refine uR hΓ ?_ | refine uD hΓ fun B hB => ?_ | ((repeat ((fail_if_success (refine hK _ ?_)); clear hK K)); refine hK _ ?_; clear hK K) | refine u1 ?_ | refine uC (fun hb => ?_) fun hb => ?_ | refine u2 (fun hc => ?_) fun hc => ?_ | refine wI ?_ | refine ex_idx (by omega) ?_ | exact True.intro | fail)
  · have hx := (lex_ne (by omega) (by omega) hab (by assumption)).2
    have h2 : decide (a = b) = false := decide_eq_false hx
    rw [h2]
    simp [Tryz.results50, RetOK, RetP, backA, upd_at, plainB, getP, isOwn, anyOwn, isP]
  · exact ⟨k + 1, by (simp only [xe, xj, Nat.reduceEqDiff]; (try simp [view, viewL_map]); (try omega)), ⟨by omega, lex_next (by omega) (by omega) hab (by assumption)⟩, by omega⟩
  · have h2 : decide (a = b) = true := decide_eq_true ((lex_end (k := k) hka (by omega) hab (by omega)).2.2 (by omega))
    rw [h2]
    simp [Tryz.results50, RetOK, RetP, backA, upd_at, plainB, getP, isOwn, anyOwn, isP]

def cmpI (a b : Int) : Int := if a < b then -1 else if a = b then 0 else 1
def cmpL (a b : List Int) : Int := if lexLt a b then -1 else if a = b then 0 else 1
end Go.Proofs.YtehdfifncbokeaaGreat

namespace Go.Proofs.YtehdfifncbokeaaGreat
set_option linter.unusedSimpArgs false
set_option linter.unusedVariables false
set_option maxRecDepth 8000
set_option maxHeartbeats 2000000
open Go Go.RowKit AV

end Go.Proofs.YtehdfifncbokeaaGreat
