/- Traces joined, in the reference; all joined traces of two lists. Walked by the engine. -/
import Derived.Test.YtehdfifncbokeaaManyQ
import Derived.Test.YtehdfifncbokeaaF1
import Derived.Test.YtehdfifncbokeaaGrpE
import Derived.Test.YtehdfifncbokeaaGrpK
import Derived.Test.YtehdfifncbokeaaEngVw
import Derived.Test.YtehdfifncbokeaaEngMin
namespace Go.Proofs.Ytehdfifncbokeaa
set_option linter.unusedSimpArgs false
set_option linter.unusedVariables false
set_option maxRecDepth 8000
set_option maxHeartbeats 2000000
open Go Go.RowKit AV

attribute [local go_sem] List.nil_prefix List.drop_zero List.drop_succ_cons List.take_zero List.take_succ_cons List.take_nil

open Classical in
noncomputable def jnB (u v : List Int) : Bool := decide (JnOK u v)
theorem jnB_true {u v : List Int} : jnB u v = true ↔ JnOK u v := by simp [jnB]
theorem jnB_false {u v : List Int} : jnB u v = false ↔ ¬ JnOK u v := by simp [jnB]
noncomputable def jnR (u v : List Int) : List Int := if jnB u v = true then jnL u v else []
def jnXR (args : List AV) (r : AV) : Prop := ∃ u v : List Int, args = [ints u, ints v] ∧ u.length ≤ 1048576 ∧ v.length ≤ 1048576 ∧ r = .tup [oints (jnR u v), .bool (jnB u v)]
theorem traceJoin_ctr : CtrOK Try.prog 45 (pureC jnXR) := by
  refine ctr_many Try.func45 rfl rfl Try.ntmps45 ?_
  rintro _ _ ⟨u, v, rfl, hu, hv, rfl⟩
  refine ⟨by simp, fun κ hκ => ?_⟩
  have hbig := bigW_gt
  rw [argEnv_eq]
  simp only [envA]
  have hΓ := ctxOf_ok (P := Try.prog) (cx specTraceValid_ctr <| cx0)
  obtain ⟨U, hU⟩ : ∃ U, traceOKB u = U := ⟨_, rfl⟩
  obtain ⟨V, hV⟩ : ∃ V, traceOKB v = V := ⟨_, rfl⟩
  obtain ⟨B0, hB0⟩ : ∃ B, jnB u v = B := ⟨_, rfl⟩
  have hno : ¬ JnOK u v → B0 = false := fun h => by rw [← hB0]; exact jnB_false.2 h
  have hR : jnR u v = if B0 = true then jnL u v else [] := by unfold jnR; rw [hB0]
  rw [hR, hB0]
  cases U with
  | false =>
    have hb0 := hno fun h => by have := traceOKB_true.2 h.1; rw [hU] at this; cases this
    subst hb0
    repeat' (first | exact hb.elim | refine wS fun K hK => ?_ | refine wB ?_ | refine uX hΓ ?_ | refine uV hΓ fun B hB => ?_ | ((repeat ((fail_if_success (refine hK _ ?_)); clear hK K)); refine hK _ ?_; clear hK K) | refine u1 ?_ | refine uC (fun hb => ?_) fun hb => ?_ | refine u2 (fun hc => ?_) fun hc => ?_ | refine wI ?_ | refine ex_idx (by omega) ?_ | exact True.intro | fail)
    (first | refine wA rfl ?_ ?_ ?_ | refine dA rfl ?_ ?_ ?_); exact (.bool false); exact (⟨u, rfl, by omega, by rw [hU]⟩); simp (maxSteps := 2000000) only [go_sem]
    repeat' (first | exact hb.elim | refine wS fun K hK => ?_ | refine wB ?_ | refine uX hΓ ?_ | refine uV hΓ fun B hB => ?_ | ((repeat ((fail_if_success (refine hK _ ?_)); clear hK K)); refine hK _ ?_; clear hK K) | refine u1 ?_ | refine uC (fun hb => ?_) fun hb => ?_ | refine u2 (fun hc => ?_) fun hc => ?_ | refine wI ?_ | refine ex_idx (by omega) ?_ | exact True.intro | fail)
    all_goals try (exfalso; first | exact absurd ‹true = false› (by decide) | exact absurd ‹false = true› (by decide) | exact absurd rfl ‹¬ true = true› | exact absurd trivial ‹¬ True› | omega)
    (rw [Try.results45]; refine ⟨_, rfl, by decide, by decide, by decide, ?_⟩; simp [ResL, ResI, upd_at, plainB])
  | true =>
    have hTu := traceOKB_true.1 hU
    have hou := hTu.odd
    cases V with
    | false =>
      have hb0 := hno fun h => by have := traceOKB_true.2 h.2.1; rw [hV] at this; cases this
      subst hb0
      repeat' (first | exact hb.elim | refine wS fun K hK => ?_ | refine wB ?_ | refine uX hΓ ?_ | refine uV hΓ fun B hB => ?_ | ((repeat ((fail_if_success (refine hK _ ?_)); clear hK K)); refine hK _ ?_; clear hK K) | refine u1 ?_ | refine uC (fun hb => ?_) fun hb => ?_ | refine u2 (fun hc => ?_) fun hc => ?_ | refine wI ?_ | refine ex_idx (by omega) ?_ | exact True.intro | fail)
      (first | refine wA rfl ?_ ?_ ?_ | refine dA rfl ?_ ?_ ?_); exact (.bool true); exact (⟨u, rfl, by omega, by rw [hU]⟩); simp (maxSteps := 2000000) only [go_sem]
      repeat' (first | exact hb.elim | refine wS fun K hK => ?_ | refine wB ?_ | refine uX hΓ ?_ | refine uV hΓ fun B hB => ?_ | ((repeat ((fail_if_success (refine hK _ ?_)); clear hK K)); refine hK _ ?_; clear hK K) | refine u1 ?_ | refine uC (fun hb => ?_) fun hb => ?_ | refine u2 (fun hc => ?_) fun hc => ?_ | refine wI ?_ | refine ex_idx (by omega) ?_ | exact True.intro | fail)
      all_goals try (exfalso; first | exact absurd ‹true = false› (by decide) | exact absurd ‹false = true› (by decide) | exact absurd rfl ‹¬ true = true› | exact absurd trivial ‹¬ True› | omega)
      (first | refine wA rfl ?_ ?_ ?_ | refine dA rfl ?_ ?_ ?_); exact (.bool false); exact (⟨v, rfl, by omega, by rw [hV]⟩); simp (maxSteps := 2000000) only [go_sem]
      repeat' (first | exact hb.elim | refine wS fun K hK => ?_ | refine wB ?_ | refine uX hΓ ?_ | refine uV hΓ fun B hB => ?_ | ((repeat ((fail_if_success (refine hK _ ?_)); clear hK K)); refine hK _ ?_; clear hK K) | refine u1 ?_ | refine uC (fun hb => ?_) fun hb => ?_ | refine u2 (fun hc => ?_) fun hc => ?_ | refine wI ?_ | refine ex_idx (by omega) ?_ | exact True.intro | fail)
      all_goals try (exfalso; first | exact absurd ‹true = false› (by decide) | exact absurd ‹false = true› (by decide) | exact absurd rfl ‹¬ true = true› | exact absurd trivial ‹¬ True› | omega)
      (rw [Try.results45]; refine ⟨_, rfl, by decide, by decide, by decide, ?_⟩; simp [ResL, ResI, upd_at, plainB])
    | true =>
      have hTv := traceOKB_true.1 hV
      have hov := hTv.odd
      have h1 : nth u (u.length - 1) = u[((u.length : Int) - 1).toNat]'(by omega) := by
        rw [nth_getElem (by omega)]
        congr 1
        omega
      have h2 : nth v 0 = v[0]'(by omega) := nth_getElem (by omega)
      repeat' (first | exact hb.elim | refine wS fun K hK => ?_ | refine wB ?_ | refine uX hΓ ?_ | refine uV hΓ fun B hB => ?_ | ((repeat ((fail_if_success (refine hK _ ?_)); clear hK K)); refine hK _ ?_; clear hK K) | refine u1 ?_ | refine uC (fun hb => ?_) fun hb => ?_ | refine u2 (fun hc => ?_) fun hc => ?_ | refine wI ?_ | refine ex_idx (by omega) ?_ | exact True.intro | fail)
      (first | refine wA rfl ?_ ?_ ?_ | refine dA rfl ?_ ?_ ?_); exact (.bool true); exact (⟨u, rfl, by omega, by rw [hU]⟩); simp (maxSteps := 2000000) only [go_sem]
      repeat' (first | exact hb.elim | refine wS fun K hK => ?_ | refine wB ?_ | refine uX hΓ ?_ | refine uV hΓ fun B hB => ?_ | ((repeat ((fail_if_success (refine hK _ ?_)); clear hK K)); refine hK _ ?_; clear hK K) | refine u1 ?_ | refine uC (fun hb => ?_) fun hb => ?_ | refine u2 (fun hc => ?_) fun hc => ?_ | refine wI ?_ | refine ex_idx (by omega) ?_ | exact True.intro | fail)
      all_goals try (exfalso; first | exact absurd ‹true = false› (by decide) | exact absurd ‹false = true› (by decide) | exact absurd rfl ‹¬ true = true› | exact absurd trivial ‹¬ True› | omega)
      (first | refine wA rfl ?_ ?_ ?_ | refine dA rfl ?_ ?_ ?_); exact (.bool true); exact (⟨v, rfl, by omega, by rw [hV]⟩); simp (maxSteps := 2000000) only [go_sem]
      repeat' (first | exact hb.elim | refine wS fun K hK => ?_ | refine wB ?_ | refine uX hΓ ?_ | refine uV hΓ fun B hB => ?_ | ((repeat ((fail_if_success (refine hK _ ?_)); clear hK K)); refine hK _ ?_; clear hK K) | refine u1 ?_ | refine uC (fun hb => ?_) fun hb => ?_ | refine u2 (fun hc => ?_) fun hc => ?_ | refine wI ?_ | refine ex_idx (by omega) ?_ | exact True.intro | fail)
      all_goals try (exfalso; first | exact absurd ‹true = false› (by decide) | exact absurd ‹false = true› (by decide) | exact absurd rfl ‹¬ true = true› | exact absurd trivial ‹¬ True› | omega)
      · have hb0 := hno fun h => by
          have e := h.2.2.1
          rw [h1, h2] at e
          exact ‹¬ u[((u.length : Int) - 1).toNat]'_ = v[0]'_› e
        subst hb0
        (rw [Try.results45]; refine ⟨_, rfl, by decide, by decide, by decide, ?_⟩; simp [ResL, ResI, upd_at, plainB])
      have hj : List.map I u ++ List.drop 1 (List.take v.length (List.map I v)) = List.map I (jnL u v) := by
        unfold jnL
        rw [List.take_of_length_le (by simp), List.map_append, List.map_drop]
      have hJl : (jnL u v).length ≤ 100 := by
        have e1 := hTu.len
        have e2 := hTv.len
        unfold jnL
        simp
        omega
      obtain ⟨W, hW⟩ : ∃ W, traceOKB (jnL u v) = W := ⟨_, rfl⟩
      have hB1 : B0 = W := by
        rw [← hB0, ← hW, Bool.eq_iff_iff, jnB_true, traceOKB_true]
        exact ⟨fun h => h.2.2.2, fun h => ⟨hTu, hTv, by rw [h1, h2]; assumption, h⟩⟩
      subst hB1
      obtain ⟨J, hJ⟩ : ∃ J, jnL u v = J := ⟨_, rfl⟩
      rw [hJ] at hj hJl hW
      simp only [hj, hJ]
      (first | refine wA rfl ?_ ?_ ?_ | refine dA rfl ?_ ?_ ?_); exact (.bool B0); exact (⟨J, by simp [view, viewL_map, view_I], by omega, by rw [hW]⟩); simp (maxSteps := 2000000) only [go_sem]
      cases B0 with
      | false =>
        repeat' (first | exact hb.elim | refine wS fun K hK => ?_ | refine wB ?_ | refine uX hΓ ?_ | refine uV hΓ fun B hB => ?_ | ((repeat ((fail_if_success (refine hK _ ?_)); clear hK K)); refine hK _ ?_; clear hK K) | refine u1 ?_ | refine uC (fun hb => ?_) fun hb => ?_ | refine u2 (fun hc => ?_) fun hc => ?_ | refine wI ?_ | refine ex_idx (by omega) ?_ | exact True.intro | fail)
        all_goals try (exfalso; first | exact absurd ‹true = false› (by decide) | exact absurd ‹false = true› (by decide) | exact absurd rfl ‹¬ true = true› | exact absurd trivial ‹¬ True› | omega)
        (rw [Try.results45]; refine ⟨_, rfl, by decide, by decide, by decide, ?_⟩; simp [ResL, ResI, upd_at, plainB])
      | true =>
        repeat' (first | exact hb.elim | refine wS fun K hK => ?_ | refine wB ?_ | refine uX hΓ ?_ | refine uV hΓ fun B hB => ?_ | ((repeat ((fail_if_success (refine hK _ ?_)); clear hK K)); refine hK _ ?_; clear hK K) | refine u1 ?_ | refine uC (fun hb => ?_) fun hb => ?_ | refine u2 (fun hc => ?_) fun hc => ?_ | refine wI ?_ | refine ex_idx (by omega) ?_ | exact True.intro | fail)
        all_goals try (exfalso; first | exact absurd ‹true = false› (by decide) | exact absurd ‹false = true› (by decide) | exact absurd rfl ‹¬ true = true› | exact absurd trivial ‹¬ True› | omega)
        rw [hJ]
        (rw [Try.results45]; refine ⟨_, rfl, by decide, by decide, by decide, ?_⟩; simp [ResL, ResI, upd_at, plainB])

def jnVR (args : List AV) (r : AV) : Prop := ∃ u v : List Int, args = [ints u, ints v] ∧ u.length ≤ 1048576 ∧ v.length ≤ 1048576 ∧ r = .tup [ints (jnR u v), .bool (jnB u v)]
theorem traceJoinV_ctr : CtrOK Try.prog 45 (pureC jnVR) := ctr_view traceJoin_ctr fun args x ⟨u, v, h1, h2, h3, h4⟩ =>
  ⟨_, ⟨u, v, h1, h2, h3, rfl⟩, by simp [isOwn, anyOwn], by rw [h4]; simp [view, viewL, viewL_map, view_I]⟩

theorem jn1_len (m : Nat) (u v : List Int) : (jn1 m u v).length ≤ 1 := by
  unfold jn1
  split <;> simp
theorem jns_len (m : Nat) (u : List Int) (B : LL) (j : Nat) : ((B.take j).flatMap fun v => jn1 m u v).length ≤ j := by
  have := flatMap_len (s := B.take j) (f := fun v => jn1 m u v) (C := 1) fun t _ => jn1_len m u t
  simp at this ⊢
  omega
theorem fuse_len (m : Nat) (A B : LL) (k : Nat) : ((A.take k).flatMap fun u => B.flatMap fun v => jn1 m u v).length ≤ k * B.length := by
  have := flatMap_len (s := A.take k) (f := fun u => B.flatMap fun v => jn1 m u v) (C := B.length) fun t _ => by
    have := flatMap_len (s := B) (f := fun v => jn1 m t v) (C := 1) fun t' _ => jn1_len m t t'
    omega
  refine Nat.le_trans this (Nat.mul_le_mul_right _ ?_)
  simp
  omega
theorem jns_short {m : Nat} (hm : m ≤ 2) {u : List Int} {B : LL} {t : List Int} (h : t ∈ B.flatMap fun v => jn1 m u v) : t.length ≤ 5 := by
  obtain ⟨v, _, h⟩ := List.mem_flatMap.1 h
  obtain ⟨_, h2, rfl⟩ := mem_jn1.1 h
  omega

def fuseXR (args : List AV) (r : AV) : Prop := ∃ (A B : LL) (m : Nat), args = [rows A, rows B, I (m : Int)] ∧ A.length ≤ 1000 ∧ B.length ≤ 1000 ∧ (∀ t ∈ A, t.length ≤ 100) ∧ (∀ t ∈ B, t.length ≤ 100) ∧ m ≤ 2 ∧ r = rows (fuseL A B m)
theorem l3Fuse_ctr : CtrOK Try.prog 33 (pureC fuseXR) := by
  refine ctr_pure' Try.func33 rfl rfl Try.ntmps33 ?_
  rintro _ _ ⟨A, B0, m, rfl, hA, hB0, hAx, hBx, hm, rfl⟩
  refine ⟨by simp, fun κ hκ => ?_⟩
  have hbig := bigW_gt
  rw [argEnv_eq]
  simp only [envA]
  have hΓ := ctxOf_ok (P := Try.prog) (cx traceJoinV_ctr <| cx l3Add_ctr <| cx0)
  repeat' (first | exact hb.elim | refine wS fun K hK => ?_ | refine wB ?_ | refine uX hΓ ?_ | refine uV hΓ fun B hB => ?_ | ((repeat ((fail_if_success (refine hK _ ?_)); clear hK K)); refine hK _ ?_; clear hK K) | refine u1 ?_ | refine uC (fun hb => ?_) fun hb => ?_ | refine u2 (fun hc => ?_) fun hc => ?_ | refine wI ?_ | refine ex_idx (by omega) ?_ | exact True.intro | fail)
  refine CW.loop (ι := Nat) (fun k => [(0, rows A), (1, rows B0), (2, I (m : Int)), (7, rows (addsL [] ((A.take k).flatMap fun u => B0.flatMap fun v => jn1 m u v))), (8, I (k : Nat))]) (fun k => k ≤ A.length) (fun k => A.length - k) 0 ?_ ?_
  · exact ⟨by ((simp only [xe, xj, Nat.reduceEqDiff]; (try simp [view, viewL_map]); (try omega)); try simp [addsL]), by omega⟩
  rintro k hk
  simp only [envOf]
  by_cases hkA : k < A.length
  rotate_left
  · obtain rfl : k = A.length := by omega
    rw [List.take_length]
    have hf : fuseL A B0 m = addsL [] (A.flatMap fun u => B0.flatMap fun v => jn1 m u v) := rfl
    repeat' (first | exact hb.elim | refine wS fun K hK => ?_ | refine wB ?_ | refine uX hΓ ?_ | refine uV hΓ fun B hB => ?_ | ((repeat ((fail_if_success (refine hK _ ?_)); clear hK K)); refine hK _ ?_; clear hK K) | refine u1 ?_ | refine uC (fun hb => ?_) fun hb => ?_ | refine u2 (fun hc => ?_) fun hc => ?_ | refine wI ?_ | refine ex_idx (by omega) ?_ | exact True.intro | fail)
    all_goals try (exfalso; first | exact absurd ‹true = false› (by decide) | exact absurd ‹false = true› (by decide) | exact absurd rfl ‹¬ true = true› | exact absurd trivial ‹¬ True› | omega)
    simp [Try.results33, RetOK, RetP, backA, upd_at, plainB, getP, isOwn, anyOwn, isP]
    exact .inl (by rw [hf])
  have hux := hAx _ (List.getElem_mem hkA)
  have hpk : ((A.take k).flatMap fun u => B0.flatMap fun v => jn1 m u v).length ≤ k * B0.length := fuse_len m A B0 k
  have hps : ∀ t ∈ (A.take k).flatMap fun u => B0.flatMap fun v => jn1 m u v, t.length ≤ 5 := fun t ht => by
    obtain ⟨u, _, ht⟩ := List.mem_flatMap.1 ht
    exact jns_short hm ht
  have hnx : ((A.take (k + 1)).flatMap fun u => B0.flatMap fun v => jn1 m u v) = ((A.take k).flatMap fun u => B0.flatMap fun v => jn1 m u v) ++ B0.flatMap fun v => jn1 m A[k] v := flatMap_take (f := fun u => B0.flatMap fun v => jn1 m u v) hkA
  obtain ⟨Pk, hPk⟩ : ∃ Pk, ((A.take k).flatMap fun u => B0.flatMap fun v => jn1 m u v) = Pk := ⟨_, rfl⟩
  obtain ⟨u, hu⟩ : ∃ u, A[k] = u := ⟨_, rfl⟩
  rw [hPk] at hpk hps hnx ⊢
  rw [hu] at hux hnx
  repeat' (first | exact hb.elim | refine wS fun K hK => ?_ | refine wB ?_ | refine uX hΓ ?_ | refine uV hΓ fun B hB => ?_ | ((repeat ((fail_if_success (refine hK _ ?_)); clear hK K)); refine hK _ ?_; clear hK K) | refine u1 ?_ | refine uC (fun hb => ?_) fun hb => ?_ | refine u2 (fun hc => ?_) fun hc => ?_ | refine wI ?_ | refine ex_idx (by omega) ?_ | exact True.intro | fail)
  all_goals try (exfalso; first | exact absurd ‹true = false› (by decide) | exact absurd ‹false = true› (by decide) | exact absurd rfl ‹¬ true = true› | exact absurd trivial ‹¬ True› | omega)
  refine CW.loop (ι := Nat) (fun j => [(0, rows A), (1, rows B0), (2, I (m : Int)), (7, rows (addsL [] (Pk ++ (B0.take j).flatMap fun v => jn1 m u v))), (8, I (k : Nat)), (9, I (j : Nat))]) (fun j => j ≤ B0.length) (fun j => B0.length - j) 0 ?_ ?_
  · exact ⟨by ((simp only [xe, xj, Nat.reduceEqDiff]; (try simp [view, viewL_map]); (try omega)); try simp), by omega⟩
  rintro j hj
  simp only [envOf]
  by_cases hjB : j < B0.length
  rotate_left
  · obtain rfl : j = B0.length := by omega
    rw [List.take_length, ← hnx]
    repeat' (first | exact hb.elim | refine wS fun K hK => ?_ | refine wB ?_ | refine uX hΓ ?_ | refine uV hΓ fun B hB => ?_ | ((repeat ((fail_if_success (refine hK _ ?_)); clear hK K)); refine hK _ ?_; clear hK K) | refine u1 ?_ | refine uC (fun hb => ?_) fun hb => ?_ | refine u2 (fun hc => ?_) fun hc => ?_ | refine wI ?_ | refine ex_idx (by omega) ?_ | exact True.intro | fail)
    all_goals try (exfalso; first | exact absurd ‹true = false› (by decide) | exact absurd ‹false = true› (by decide) | exact absurd rfl ‹¬ true = true› | exact absurd trivial ‹¬ True› | omega)
    exact ⟨k + 1, by (simp only [xe, xj, Nat.reduceEqDiff]; (try simp [view, viewL_map]); (try omega)), by omega, by omega⟩
  have hvx := hBx _ (List.getElem_mem hjB)
  have hq1 := jns_len m u B0 j
  have hq2 : ∀ t ∈ (B0.take j).flatMap fun v => jn1 m u v, t.length ≤ 5 := fun t ht => jns_short hm ht
  have hnj : ((B0.take (j + 1)).flatMap fun v => jn1 m u v) = ((B0.take j).flatMap fun v => jn1 m u v) ++ jn1 m u B0[j] := flatMap_take (f := fun v => jn1 m u v) hjB
  obtain ⟨Qj, hQj⟩ : ∃ Q, ((B0.take j).flatMap fun v => jn1 m u v) = Q := ⟨_, rfl⟩
  obtain ⟨v, hv⟩ : ∃ v, B0[j] = v := ⟨_, rfl⟩
  rw [hQj] at hq1 hq2 hnj ⊢
  rw [hv] at hvx hnj
  have hL1 : (addsL [] (Pk ++ Qj)).length ≤ k * B0.length + j := by
    have := ordL_length (Pk ++ Qj)
    unfold ordL at this
    rw [List.length_append] at this
    omega
  have hL2 : k * B0.length ≤ 1000 * 1000 := Nat.mul_le_mul (by omega) hB0
  have hS : ∀ t ∈ addsL [] (Pk ++ Qj), t.length ≤ 1099511627776 := fun t ht => by
    rw [mem_addsL] at ht
    rcases ht with ht | ht
    · cases ht
    · rcases List.mem_append.1 ht with ht | ht
      · have := hps t ht; omega
      · have := hq2 t ht; omega
  obtain ⟨O, hO⟩ : ∃ O, addsL [] (Pk ++ Qj) = O := ⟨_, rfl⟩
  have hsnoc := fun t : List Int => addsL_snoc [] t (Pk ++ Qj)
  rw [hO] at hL1 hS ⊢
  simp only [hO] at hsnoc
  rcases (Classical.em (JnOK u v)) with hjo | hjo
  rotate_left
  · have h1 : jn1 m u v = [] := by
      unfold jn1
      exact if_neg fun h => hjo h.1
    have hjr : jnR u v = [] := by unfold jnR; rw [jnB_false.2 hjo]; rfl
    rw [h1, List.append_nil] at hnj
    repeat' (first | exact hb.elim | refine wS fun K hK => ?_ | refine wB ?_ | refine uX hΓ ?_ | refine uV hΓ fun B hB => ?_ | ((repeat ((fail_if_success (refine hK _ ?_)); clear hK K)); refine hK _ ?_; clear hK K) | refine u1 ?_ | refine uC (fun hb => ?_) fun hb => ?_ | refine u2 (fun hc => ?_) fun hc => ?_ | refine wI ?_ | refine ex_idx (by omega) ?_ | exact True.intro | fail)
    all_goals try (exfalso; first | exact absurd ‹true = false› (by decide) | exact absurd ‹false = true› (by decide) | exact absurd rfl ‹¬ true = true› | exact absurd trivial ‹¬ True› | omega)
    simp only [hu, hv]
    (first | refine wA rfl ?_ ?_ ?_ | refine dA rfl ?_ ?_ ?_); exact (.tup [ints [], .bool false]); exact (⟨u, v, rfl, by omega, by omega, by rw [hjr, jnB_false.2 hjo]⟩); simp (maxSteps := 2000000) only [go_sem]
    repeat' (first | exact hb.elim | refine wS fun K hK => ?_ | refine wB ?_ | refine uX hΓ ?_ | refine uV hΓ fun B hB => ?_ | ((repeat ((fail_if_success (refine hK _ ?_)); clear hK K)); refine hK _ ?_; clear hK K) | refine u1 ?_ | refine uC (fun hb => ?_) fun hb => ?_ | refine u2 (fun hc => ?_) fun hc => ?_ | refine wI ?_ | refine ex_idx (by omega) ?_ | exact True.intro | fail)
    all_goals try (exfalso; first | exact absurd ‹true = false› (by decide) | exact absurd ‹false = true› (by decide) | exact absurd rfl ‹¬ true = true› | exact absurd trivial ‹¬ True› | omega)
    refine ⟨j + 1, ?_, by omega, by omega⟩
    rw [hnj, hO]
    (simp only [xe, xj, Nat.reduceEqDiff]; (try simp [view, viewL_map]); (try omega))
  · obtain ⟨J, hJ⟩ : ∃ J, jnL u v = J := ⟨_, rfl⟩
    have hjr : jnR u v = J := by unfold jnR; rw [jnB_true.2 hjo, if_pos rfl, hJ]
    have hJl : J.length ≤ 300 := by
      rw [← hJ]; unfold jnL; simp; omega
    repeat' (first | exact hb.elim | refine wS fun K hK => ?_ | refine wB ?_ | refine uX hΓ ?_ | refine uV hΓ fun B hB => ?_ | ((repeat ((fail_if_success (refine hK _ ?_)); clear hK K)); refine hK _ ?_; clear hK K) | refine u1 ?_ | refine uC (fun hb => ?_) fun hb => ?_ | refine u2 (fun hc => ?_) fun hc => ?_ | refine wI ?_ | refine ex_idx (by omega) ?_ | exact True.intro | fail)
    all_goals try (exfalso; first | exact absurd ‹true = false› (by decide) | exact absurd ‹false = true› (by decide) | exact absurd rfl ‹¬ true = true› | exact absurd trivial ‹¬ True› | omega)
    simp only [hu, hv]
    (first | refine wA rfl ?_ ?_ ?_ | refine dA rfl ?_ ?_ ?_); exact (.tup [ints J, .bool true]); exact (⟨u, v, rfl, by omega, by omega, by rw [hjr, jnB_true.2 hjo]⟩); simp (maxSteps := 2000000) only [go_sem]
    by_cases hJm : J.length ≤ 2 * m + 1
    · have h1 : jn1 m u v = [J] := by
        unfold jn1
        rw [if_pos ⟨hjo, by rw [hJ]; exact hJm⟩, hJ]
      rw [h1] at hnj
      repeat' (first | exact hb.elim | refine wS fun K hK => ?_ | refine wB ?_ | refine uX hΓ ?_ | refine uV hΓ fun B hB => ?_ | ((repeat ((fail_if_success (refine hK _ ?_)); clear hK K)); refine hK _ ?_; clear hK K) | refine u1 ?_ | refine uC (fun hb => ?_) fun hb => ?_ | refine u2 (fun hc => ?_) fun hc => ?_ | refine wI ?_ | refine ex_idx (by omega) ?_ | exact True.intro | fail)
      all_goals try (exfalso; first | exact absurd ‹true = false› (by decide) | exact absurd ‹false = true› (by decide) | exact absurd rfl ‹¬ true = true› | exact absurd trivial ‹¬ True› | omega)
      · (first | refine wA rfl _ (⟨O, J, rfl, by omega, hS, by omega, rfl⟩) ?_ | refine dA rfl _ (⟨O, J, rfl, by omega, hS, by omega, rfl⟩) ?_); simp (maxSteps := 2000000) only [go_sem]
        repeat' (first | exact hb.elim | refine wS fun K hK => ?_ | refine wB ?_ | refine uX hΓ ?_ | refine uV hΓ fun B hB => ?_ | ((repeat ((fail_if_success (refine hK _ ?_)); clear hK K)); refine hK _ ?_; clear hK K) | refine u1 ?_ | refine uC (fun hb => ?_) fun hb => ?_ | refine u2 (fun hc => ?_) fun hc => ?_ | refine wI ?_ | refine ex_idx (by omega) ?_ | exact True.intro | fail)
        all_goals try (exfalso; first | exact absurd ‹true = false› (by decide) | exact absurd ‹false = true› (by decide) | exact absurd rfl ‹¬ true = true› | exact absurd trivial ‹¬ True› | omega)
        refine ⟨j + 1, ?_, by omega, by omega⟩
        rw [hnj, ← List.append_assoc, hsnoc]
        (simp only [xe, xj, Nat.reduceEqDiff]; (try simp [view, viewL_map]); (try omega))
    · have h1 : jn1 m u v = [] := by
        unfold jn1
        exact if_neg fun h => hJm (by rw [← hJ]; exact h.2)
      rw [h1, List.append_nil] at hnj
      repeat' (first | exact hb.elim | refine wS fun K hK => ?_ | refine wB ?_ | refine uX hΓ ?_ | refine uV hΓ fun B hB => ?_ | ((repeat ((fail_if_success (refine hK _ ?_)); clear hK K)); refine hK _ ?_; clear hK K) | refine u1 ?_ | refine uC (fun hb => ?_) fun hb => ?_ | refine u2 (fun hc => ?_) fun hc => ?_ | refine wI ?_ | refine ex_idx (by omega) ?_ | exact True.intro | fail)
      all_goals try (exfalso; first | exact absurd ‹true = false› (by decide) | exact absurd ‹false = true› (by decide) | exact absurd rfl ‹¬ true = true› | exact absurd trivial ‹¬ True› | omega)
      refine ⟨j + 1, ?_, by omega, by omega⟩
      rw [hnj, hO]
      (simp only [xe, xj, Nat.reduceEqDiff]; (try simp [view, viewL_map]); (try omega))

end Go.Proofs.Ytehdfifncbokeaa
