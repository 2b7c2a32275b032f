/- The law FnPartsOf, walked by the engine. -/
import Derived.Test.YtaniaocanekajaaR20
import Derived.Test.YtaniaocanekajaaR17
import Derived.Test.YtaniaocanekajaaG1
import Derived.Test.YtaniaocanekajaaG2
import Derived.Test.YtaniaocanekajaaF1
import Derived.Test.YtaniaocanekajaaS2
import Derived.Test.YtaniaocanekajaaR7a
import Derived.Test.YtaniaocanekajaaLV11
import Derived.Test.YtaniaocanekajaaEngMin
namespace Go.Proofs.Ytaniaocanekajaa
set_option linter.unusedSimpArgs false
set_option linter.unusedVariables false
set_option maxRecDepth 8000
set_option maxHeartbeats 2000000
open Go Go.RowKit AV

attribute [local go_sem] List.nil_prefix

theorem traceX_len (bs : List Nat) (p n : Nat) : (traceX bs p 3 n).1.length ≤ 1000 := by
  have h1 := pickX_lt (bs := bs) (p := p + 1) (n := 3 + 1) (by omega)
  have h2 := trkX_len bs (p + 2) (pickX bs (p + 1) 4)
  have e4 : 3 + 1 = 4 := rfl
  rw [e4] at h1
  unfold traceX
  dsimp only
  rw [e4]
  repeat' split
  all_goals simp [fillX_len, h2]
  all_goals omega

noncomputable def someT (P : LL) (u : List Int) (k : Nat) : Bool := decide (∃ p ∈ P.take k, trbB p u = true)
theorem someT_zero (P : LL) (u : List Int) : someT P u 0 = false := by simp [someT]
theorem someT_succ {P : LL} {u : List Int} {k : Nat} (hk : k < P.length) : someT P u (k + 1) = (someT P u k || trbB P[k] u) := by
  rw [Bool.eq_iff_iff, Bool.or_eq_true]
  simp only [someT, decide_eq_true_eq, List.take_succ_eq_append_getElem hk, List.mem_append, List.mem_singleton]
  constructor
  · rintro ⟨p, h | rfl, hp⟩
    · exact .inl ⟨p, h, hp⟩
    · exact .inr hp
  · rintro (⟨p, h, hp⟩ | hp)
    · exact ⟨p, .inl h, hp⟩
    · exact ⟨_, .inr rfl, hp⟩
theorem someT_all (P : LL) (u : List Int) : someT P u P.length = decide (∃ p ∈ P, trbB p u = true) := by simp [someT]
theorem traceOK_one {a : Int} (h : 0 ≤ a ∧ a ≤ 3) : TraceOK [a] := by
  refine ⟨rfl, by simp, fun k hk => ?_, fun k hk => ?_⟩
  · simp only [List.length_cons, List.length_nil] at hk
    obtain rfl : k = 0 := by omega
    exact h
  · simp only [List.length_cons, List.length_nil] at hk
    omega

theorem toldX_len (bs : List Nat) (p parts : Nat) : (toldX bs p parts).2.1.length ≤ 1000 := by
  unfold toldX
  dsimp only
  split
  · exact traceX_len ..
  split
  · exact traceX_len ..
  split
  · dsimp only
    rw [List.length_set]
    split <;> (try rw [List.length_take]) <;> omega
  · dsimp only
    split <;> (try rw [List.length_take]) <;> omega

theorem fnPartsOf_ctr : CtrOK Try.prog 5 (pureC codeR2) := by
  refine ctr_pure' Try.func5 rfl rfl Try.ntmps5 ?_
  rintro _ _ ⟨bs, cs, rfl, ⟨hl, hb256⟩, ⟨hlc, hc256⟩, rfl⟩
  refine ⟨by simp, fun κ hκ => ?_⟩
  have hbig := bigW_gt
  rw [argEnv_eq]
  simp only [envA]
  have hΓ := ctxOf_ok (P := Try.prog) (cx drawPartsOf_ctr <| cx implPartsOf_ctr <| cx sameLists_ctr <| cx specPartsOf_ctr <| cx specKatValid_ctr <| cx aliveL_ctr <| cx drawTraceBy_ctr <| cx specTraceValid_ctr <| cx implTraceBy_ctr <| cx0)
  have hel := progX_len (bs.take 2000) 0 8 9
  obtain ⟨e, he⟩ : ∃ e, (progX (bs.take 2000) 0 8 9).1 = e := ⟨_, rfl⟩
  rw [he] at hel
  obtain ⟨atom, hat⟩ : ∃ a, poAtom (bs.take 2000) (progX (bs.take 2000) 0 8 9).2 = a := ⟨_, rfl⟩
  obtain ⟨act, hac⟩ : ∃ a, poAct (bs.take 2000) ((progX (bs.take 2000) 0 8 9).2 + 1) = a := ⟨_, rfl⟩
  obtain ⟨hP1, hP2⟩ := poD_bd e atom act hel
  have hPn := partsOfD_no (e := e) (atom := atom) (act := act)
  obtain ⟨P, hP⟩ : ∃ P, partsOfD e atom act = P := ⟨_, rfl⟩
  rw [hP] at hP1 hP2 hPn
  have hP3 : ∀ x ∈ P, x.length ≤ 1099511627776 := fun x hx => by have := hP2 x hx; omega
  repeat' (first | refine wS fun K hK => ?_ | refine wB ?_ | ((first | refine wR hΓ ?_ | refine wD hΓ fun B hB => ?_); simp (config := { maxSteps := 2000000 }) only [go_sem]) | ((repeat ((fail_if_success (refine hK _ ?_)); clear hK K)); refine hK _ ?_; clear hK K) | (refine w1 ?_; simp only [xs, xi, Nat.reduceEqDiff, reduceCtorEq]) | (refine wC (fun hb => ?_) fun hb => ?_ <;> (try simp only [xb, reduceCtorEq] at hb)) | (refine w2 (fun hc => ?_) (fun hc => ?_) <;> (try simp only [xc] at hc) <;> (try simp only [go_sem, hc]) <;> (try simp only [xb] at hc)) | refine wI ?_ | refine ex_idx (by omega) ?_ | fail)
  · simp [Try.results5, RetOK, RetP, backA, upd_at, plainB, getP, isOwn, anyOwn, isP]
  rotate_left
  · simp [Try.results5, RetOK, RetP, backA, upd_at, plainB, getP, isOwn, anyOwn, isP]
  (first | refine wA rfl ?_ ?_ ?_ | refine dA rfl ?_ ?_ ?_); exact (.tup [ints e, I atom, I act]); exact (⟨bs, rfl, by omega, hb256, by rw [he, hat, hac]⟩); simp (config := { maxSteps := 2000000 }) only [go_sem]
  repeat' (first | refine wS fun K hK => ?_ | refine wB ?_ | ((first | refine wR hΓ ?_ | refine wD hΓ fun B hB => ?_); simp (config := { maxSteps := 2000000 }) only [go_sem]) | ((repeat ((fail_if_success (refine hK _ ?_)); clear hK K)); refine hK _ ?_; clear hK K) | (refine w1 ?_; simp only [xs, xi, Nat.reduceEqDiff, reduceCtorEq]) | (refine wC (fun hb => ?_) fun hb => ?_ <;> (try simp only [xb, reduceCtorEq] at hb)) | (refine w2 (fun hc => ?_) (fun hc => ?_) <;> (try simp only [xc] at hc) <;> (try simp only [go_sem, hc]) <;> (try simp only [xb] at hc)) | refine wI ?_ | refine ex_idx (by omega) ?_ | fail)
  (first | refine wA rfl ?_ ?_ ?_ | refine dA rfl ?_ ?_ ?_); exact (oorows P); exact (⟨e, atom, act, rfl, by omega, by rw [hP]⟩); simp (config := { maxSteps := 2000000 }) only [go_sem]
  repeat' (first | refine wS fun K hK => ?_ | refine wB ?_ | ((first | refine wR hΓ ?_ | refine wD hΓ fun B hB => ?_); simp (config := { maxSteps := 2000000 }) only [go_sem]) | ((repeat ((fail_if_success (refine hK _ ?_)); clear hK K)); refine hK _ ?_; clear hK K) | (refine w1 ?_; simp only [xs, xi, Nat.reduceEqDiff, reduceCtorEq]) | (refine wC (fun hb => ?_) fun hb => ?_ <;> (try simp only [xb, reduceCtorEq] at hb)) | (refine w2 (fun hc => ?_) (fun hc => ?_) <;> (try simp only [xc] at hc) <;> (try simp only [go_sem, hc]) <;> (try simp only [xb] at hc)) | refine wI ?_ | refine ex_idx (by omega) ?_ | fail)
  (first | refine wA rfl ?_ ?_ ?_ | refine dA rfl ?_ ?_ ?_); exact (rows P); exact (⟨e, atom, act, rfl, by omega, by rw [hP]⟩); simp (config := { maxSteps := 2000000 }) only [go_sem]
  repeat' (first | refine wS fun K hK => ?_ | refine wB ?_ | ((first | refine wR hΓ ?_ | refine wD hΓ fun B hB => ?_); simp (config := { maxSteps := 2000000 }) only [go_sem]) | ((repeat ((fail_if_success (refine hK _ ?_)); clear hK K)); refine hK _ ?_; clear hK K) | (refine w1 ?_; simp only [xs, xi, Nat.reduceEqDiff, reduceCtorEq]) | (refine wC (fun hb => ?_) fun hb => ?_ <;> (try simp only [xb, reduceCtorEq] at hb)) | (refine w2 (fun hc => ?_) (fun hc => ?_) <;> (try simp only [xc] at hc) <;> (try simp only [go_sem, hc]) <;> (try simp only [xb] at hc)) | refine wI ?_ | refine ex_idx (by omega) ?_ | fail)
  (first | refine wA rfl ?_ ?_ ?_ | refine dA rfl ?_ ?_ ?_); exact (.bool true); exact (⟨P, P, by simp [view, viewL_map, view_I, Function.comp_def], by omega, by omega, hP3, hP3, by simp⟩); simp (config := { maxSteps := 2000000 }) only [go_sem]
  repeat' (first | refine wS fun K hK => ?_ | refine wB ?_ | ((first | refine wR hΓ ?_ | refine wD hΓ fun B hB => ?_); simp (config := { maxSteps := 2000000 }) only [go_sem]) | ((repeat ((fail_if_success (refine hK _ ?_)); clear hK K)); refine hK _ ?_; clear hK K) | (refine w1 ?_; simp only [xs, xi, Nat.reduceEqDiff, reduceCtorEq]) | (refine wC (fun hb => ?_) fun hb => ?_ <;> (try simp only [xb, reduceCtorEq] at hb)) | (refine w2 (fun hc => ?_) (fun hc => ?_) <;> (try simp only [xc] at hc) <;> (try simp only [go_sem, hc]) <;> (try simp only [xb] at hc)) | refine wI ?_ | refine ex_idx (by omega) ?_ | fail)
  obtain ⟨V, hV⟩ : ∃ V, katB e = V := ⟨_, rfl⟩
  rw [hV] at hPn
  (first | refine wA rfl ?_ ?_ ?_ | refine dA rfl ?_ ?_ ?_); exact (.bool V); exact (⟨e, rfl, by omega, by rw [hV]⟩); simp (config := { maxSteps := 2000000 }) only [go_sem]
  by_cases hall : V = true ∧ (0 ≤ atom ∧ atom ≤ 3) ∧ (16 ≤ act ∧ act ≤ 18)
  rotate_left
  · have hPe := hPn hall
    subst hPe
    repeat' (first | refine wS fun K hK => ?_ | refine wB ?_ | ((first | refine wR hΓ ?_ | refine wD hΓ fun B hB => ?_); simp (config := { maxSteps := 2000000 }) only [go_sem]) | ((repeat ((fail_if_success (refine hK _ ?_)); clear hK K)); refine hK _ ?_; clear hK K) | (refine w1 ?_; simp only [xs, xi, Nat.reduceEqDiff, reduceCtorEq]) | (refine wC (fun hb => ?_) fun hb => ?_ <;> (try simp only [xb, reduceCtorEq] at hb)) | (refine w2 (fun hc => ?_) (fun hc => ?_) <;> (try simp only [xc] at hc) <;> (try simp only [go_sem, hc]) <;> (try simp only [xb] at hc)) | refine wI ?_ | refine ex_idx (by omega) ?_ | fail)
    all_goals try (exfalso; exact hall ⟨‹_›, ⟨by omega, by omega⟩, by omega, by omega⟩)
    all_goals try (exfalso; first | omega | (simp at hc; done))
    all_goals ((first | refine wA rfl _ (⟨rfl, rfl⟩) ?_ | refine dA rfl _ (⟨rfl, rfl⟩) ?_); simp (config := { maxSteps := 2000000 }) only [go_sem]; repeat' (first | refine wS fun K hK => ?_ | refine wB ?_ | ((first | refine wR hΓ ?_ | refine wD hΓ fun B hB => ?_); simp (config := { maxSteps := 2000000 }) only [go_sem]) | ((repeat ((fail_if_success (refine hK _ ?_)); clear hK K)); refine hK _ ?_; clear hK K) | (refine w1 ?_; simp only [xs, xi, Nat.reduceEqDiff, reduceCtorEq]) | (refine wC (fun hb => ?_) fun hb => ?_ <;> (try simp only [xb, reduceCtorEq] at hb)) | (refine w2 (fun hc => ?_) (fun hc => ?_) <;> (try simp only [xc] at hc) <;> (try simp only [go_sem, hc]) <;> (try simp only [xb] at hc)) | refine wI ?_ | refine ex_idx (by omega) ?_ | fail); simp [Try.results5, RetOK, RetP, backA, upd_at, plainB, getP, isOwn, anyOwn, isP])
  obtain ⟨hVt, ha, hc0⟩ := hall
  subst hVt
  repeat' (first | refine wS fun K hK => ?_ | refine wB ?_ | ((first | refine wR hΓ ?_ | refine wD hΓ fun B hB => ?_); simp (config := { maxSteps := 2000000 }) only [go_sem]) | ((repeat ((fail_if_success (refine hK _ ?_)); clear hK K)); refine hK _ ?_; clear hK K) | (refine w1 ?_; simp only [xs, xi, Nat.reduceEqDiff, reduceCtorEq]) | (refine wC (fun hb => ?_) fun hb => ?_ <;> (try simp only [xb, reduceCtorEq] at hb)) | (refine w2 (fun hc => ?_) (fun hc => ?_) <;> (try simp only [xc] at hc) <;> (try simp only [go_sem, hc]) <;> (try simp only [xb] at hc)) | refine wI ?_ | refine ex_idx (by omega) ?_ | fail)
  all_goals try (exfalso; first | omega | (exact absurd ‹true = false› (by decide)))
  have htl := toldX_len (cs.take 2000) 0 5
  obtain ⟨e2, he2⟩ : ∃ e, (toldX (cs.take 2000) 0 5).1 = e := ⟨_, rfl⟩
  obtain ⟨t, ht⟩ : ∃ t, (toldX (cs.take 2000) 0 5).2.1 = t := ⟨_, rfl⟩
  rw [ht] at htl
  (first | refine wA rfl ?_ ?_ ?_ | refine dA rfl ?_ ?_ ?_); exact (.tup [ints e2, ints t]); exact (⟨cs, rfl, by omega, hc256, by rw [he2, ht]⟩); simp (config := { maxSteps := 2000000 }) only [go_sem]
  repeat' (first | refine wS fun K hK => ?_ | refine wB ?_ | ((first | refine wR hΓ ?_ | refine wD hΓ fun B hB => ?_); simp (config := { maxSteps := 2000000 }) only [go_sem]) | ((repeat ((fail_if_success (refine hK _ ?_)); clear hK K)); refine hK _ ?_; clear hK K) | (refine w1 ?_; simp only [xs, xi, Nat.reduceEqDiff, reduceCtorEq]) | (refine wC (fun hb => ?_) fun hb => ?_ <;> (try simp only [xb, reduceCtorEq] at hb)) | (refine w2 (fun hc => ?_) (fun hc => ?_) <;> (try simp only [xc] at hc) <;> (try simp only [go_sem, hc]) <;> (try simp only [xb] at hc)) | refine wI ?_ | refine ex_idx (by omega) ?_ | fail)
  have fin : ∀ u : List Int, TraceOK u → u.length ≤ 9 → (∀ p ∈ P, p.length ≤ 40) → trbB e (atom :: act :: u) = someT P u P.length := by
    intro u hu hul h40
    obtain ⟨a, ha'⟩ : ∃ a : Nat, atom = a := ⟨atom.toNat, by omega⟩
    rw [someT_all, Bool.eq_iff_iff, decide_eq_true_eq, ← hP]
    subst ha'
    exact trb_parts hV hu (by omega) (by omega) hc0 (by rw [hP]; exact h40)
  obtain ⟨V, hV2⟩ : ∃ V, traceOKB t = V := ⟨_, rfl⟩
  (first | refine wA rfl ?_ ?_ ?_ | refine dA rfl ?_ ?_ ?_); exact (.bool V); exact (⟨t, rfl, by omega, by rw [hV2]⟩); simp (config := { maxSteps := 2000000 }) only [go_sem]
  repeat' (first | refine wS fun K hK => ?_ | refine wB ?_ | ((first | refine wR hΓ ?_ | refine wD hΓ fun B hB => ?_); simp (config := { maxSteps := 2000000 }) only [go_sem]) | ((repeat ((fail_if_success (refine hK _ ?_)); clear hK K)); refine hK _ ?_; clear hK K) | (refine w1 ?_; simp only [xs, xi, Nat.reduceEqDiff, reduceCtorEq]) | (refine wC (fun hb => ?_) fun hb => ?_ <;> (try simp only [xb, reduceCtorEq] at hb)) | (refine w2 (fun hc => ?_) (fun hc => ?_) <;> (try simp only [xc] at hc) <;> (try simp only [go_sem, hc]) <;> (try simp only [xb] at hc)) | refine wI ?_ | refine ex_idx (by omega) ?_ | fail)
  · have hu : TraceOK [atom] := traceOK_one ha
    have hul : ([atom]).length ≤ 9 := by simp
    have hfin := fin _ hu hul
    refine CW.loop (ι := Nat) (fun k => [(5, ints e), (6, I atom), (7, I act), (8, oorows P), (10, oints [atom]), (11, .bool (someT P [atom] k)), (12, I (k : Int))]) (fun k => k ≤ P.length ∧ ∀ i (h : i < P.length), i < k → P[i].length ≤ 40) (fun k => P.length - k) 0 ?_ ?_
    · exact ⟨by rw [someT_zero]; (simp only [xe, xj, Nat.reduceEqDiff]; (try simp [view, viewL_map]); (try omega)), by omega, by intros; omega⟩
    rintro k ⟨hk, h40⟩
    obtain ⟨B, hB⟩ : ∃ B, someT P [atom] k = B := ⟨_, rfl⟩
    simp only [envOf, hB]
    replace hB : someT P [atom] k = B ∧ True := ⟨hB, trivial⟩
    cases B with
    | true =>
      repeat' (first | refine wS fun K hK => ?_ | refine wB ?_ | ((first | refine wR hΓ ?_ | refine wD hΓ fun B hB => ?_); simp (config := { maxSteps := 2000000 }) only [go_sem]) | ((repeat ((fail_if_success (refine hK _ ?_)); clear hK K)); refine hK _ ?_; clear hK K) | (refine w1 ?_; simp only [xs, xi, Nat.reduceEqDiff, reduceCtorEq]) | (refine wC (fun hb => ?_) fun hb => ?_ <;> (try simp only [xb, reduceCtorEq] at hb)) | (refine w2 (fun hc => ?_) (fun hc => ?_) <;> (try simp only [xc] at hc) <;> (try simp only [go_sem, hc]) <;> (try simp only [xb] at hc)) | refine wI ?_ | refine ex_idx (by omega) ?_ | fail)
      · simp [Try.results5, RetOK, RetP, backA, upd_at, plainB, getP, isOwn, anyOwn, isP]
      · refine ⟨k + 1, by rw [someT_succ (by omega), hB.1, Bool.true_or]; (simp only [xe, xj, Nat.reduceEqDiff]; (try simp [view, viewL_map]); (try omega)), ⟨by omega, fun i h hi => ?_⟩, by omega⟩
        rcases Nat.lt_or_ge i k with g | g
        · exact h40 i h g
        · obtain rfl : i = k := by omega
          omega
      · obtain rfl : k = P.length := by omega
        rw [hB.1] at hfin
        (first | refine wA rfl ?_ ?_ ?_ | refine dA rfl ?_ ?_ ?_); exact (.bool true); exact (⟨e, atom :: act :: [atom], rfl, by omega, by simp <;> omega, by rw [hfin (fun p hp => by obtain ⟨i, hi, rfl⟩ := List.getElem_of_mem hp; exact h40 i hi hi)]⟩); simp (config := { maxSteps := 2000000 }) only [go_sem]
        repeat' (first | refine wS fun K hK => ?_ | refine wB ?_ | ((first | refine wR hΓ ?_ | refine wD hΓ fun B hB => ?_); simp (config := { maxSteps := 2000000 }) only [go_sem]) | ((repeat ((fail_if_success (refine hK _ ?_)); clear hK K)); refine hK _ ?_; clear hK K) | (refine w1 ?_; simp only [xs, xi, Nat.reduceEqDiff, reduceCtorEq]) | (refine wC (fun hb => ?_) fun hb => ?_ <;> (try simp only [xb, reduceCtorEq] at hb)) | (refine w2 (fun hc => ?_) (fun hc => ?_) <;> (try simp only [xc] at hc) <;> (try simp only [go_sem, hc]) <;> (try simp only [xb] at hc)) | refine wI ?_ | refine ex_idx (by omega) ?_ | fail)
        simp [Try.results5, RetOK, RetP, backA, upd_at, plainB, getP, isOwn, anyOwn, isP]
    | false =>
      repeat' (first | refine wS fun K hK => ?_ | refine wB ?_ | ((first | refine wR hΓ ?_ | refine wD hΓ fun B hB => ?_); simp (config := { maxSteps := 2000000 }) only [go_sem]) | ((repeat ((fail_if_success (refine hK _ ?_)); clear hK K)); refine hK _ ?_; clear hK K) | (refine w1 ?_; simp only [xs, xi, Nat.reduceEqDiff, reduceCtorEq]) | (refine wC (fun hb => ?_) fun hb => ?_ <;> (try simp only [xb, reduceCtorEq] at hb)) | (refine w2 (fun hc => ?_) (fun hc => ?_) <;> (try simp only [xc] at hc) <;> (try simp only [go_sem, hc]) <;> (try simp only [xb] at hc)) | refine wI ?_ | refine ex_idx (by omega) ?_ | fail)
      · simp [Try.results5, RetOK, RetP, backA, upd_at, plainB, getP, isOwn, anyOwn, isP]
      · obtain ⟨W, hW⟩ : ∃ W, trbB P[k] [atom] = W := ⟨_, rfl⟩
        (first | refine wA rfl ?_ ?_ ?_ | refine dA rfl ?_ ?_ ?_); exact (.bool W); exact (⟨P[k], [atom], rfl, by omega, by omega, by rw [hW]⟩); simp (config := { maxSteps := 2000000 }) only [go_sem]
        repeat' (first | refine wS fun K hK => ?_ | refine wB ?_ | ((first | refine wR hΓ ?_ | refine wD hΓ fun B hB => ?_); simp (config := { maxSteps := 2000000 }) only [go_sem]) | ((repeat ((fail_if_success (refine hK _ ?_)); clear hK K)); refine hK _ ?_; clear hK K) | (refine w1 ?_; simp only [xs, xi, Nat.reduceEqDiff, reduceCtorEq]) | (refine wC (fun hb => ?_) fun hb => ?_ <;> (try simp only [xb, reduceCtorEq] at hb)) | (refine w2 (fun hc => ?_) (fun hc => ?_) <;> (try simp only [xc] at hc) <;> (try simp only [go_sem, hc]) <;> (try simp only [xb] at hc)) | refine wI ?_ | refine ex_idx (by omega) ?_ | fail)
        refine ⟨k + 1, by rw [someT_succ (by omega), hB.1, hW, Bool.false_or]; (simp only [xe, xj, Nat.reduceEqDiff]; (try simp [view, viewL_map]); (try omega)), ⟨by omega, fun i h hi => ?_⟩, by omega⟩
        rcases Nat.lt_or_ge i k with g | g
        · exact h40 i h g
        · obtain rfl : i = k := by omega
          omega
      · obtain rfl : k = P.length := by omega
        rw [hB.1] at hfin
        (first | refine wA rfl ?_ ?_ ?_ | refine dA rfl ?_ ?_ ?_); exact (.bool false); exact (⟨e, atom :: act :: [atom], rfl, by omega, by simp <;> omega, by rw [hfin (fun p hp => by obtain ⟨i, hi, rfl⟩ := List.getElem_of_mem hp; exact h40 i hi hi)]⟩); simp (config := { maxSteps := 2000000 }) only [go_sem]
        repeat' (first | refine wS fun K hK => ?_ | refine wB ?_ | ((first | refine wR hΓ ?_ | refine wD hΓ fun B hB => ?_); simp (config := { maxSteps := 2000000 }) only [go_sem]) | ((repeat ((fail_if_success (refine hK _ ?_)); clear hK K)); refine hK _ ?_; clear hK K) | (refine w1 ?_; simp only [xs, xi, Nat.reduceEqDiff, reduceCtorEq]) | (refine wC (fun hb => ?_) fun hb => ?_ <;> (try simp only [xb, reduceCtorEq] at hb)) | (refine w2 (fun hc => ?_) (fun hc => ?_) <;> (try simp only [xc] at hc) <;> (try simp only [go_sem, hc]) <;> (try simp only [xb] at hc)) | refine wI ?_ | refine ex_idx (by omega) ?_ | fail)
        simp [Try.results5, RetOK, RetP, backA, upd_at, plainB, getP, isOwn, anyOwn, isP]
  · have hu : TraceOK t := traceOKB_true.1 (by rw [hV2]; assumption)
    have hul : (t).length ≤ 9 := by omega
    have hfin := fin _ hu hul
    refine CW.loop (ι := Nat) (fun k => [(5, ints e), (6, I atom), (7, I act), (8, oorows P), (10, ints t), (11, .bool (someT P t k)), (12, I (k : Int))]) (fun k => k ≤ P.length ∧ ∀ i (h : i < P.length), i < k → P[i].length ≤ 40) (fun k => P.length - k) 0 ?_ ?_
    · exact ⟨by rw [someT_zero]; (simp only [xe, xj, Nat.reduceEqDiff]; (try simp [view, viewL_map]); (try omega)), by omega, by intros; omega⟩
    rintro k ⟨hk, h40⟩
    obtain ⟨B, hB⟩ : ∃ B, someT P t k = B := ⟨_, rfl⟩
    simp only [envOf, hB]
    replace hB : someT P t k = B ∧ True := ⟨hB, trivial⟩
    cases B with
    | true =>
      repeat' (first | refine wS fun K hK => ?_ | refine wB ?_ | ((first | refine wR hΓ ?_ | refine wD hΓ fun B hB => ?_); simp (config := { maxSteps := 2000000 }) only [go_sem]) | ((repeat ((fail_if_success (refine hK _ ?_)); clear hK K)); refine hK _ ?_; clear hK K) | (refine w1 ?_; simp only [xs, xi, Nat.reduceEqDiff, reduceCtorEq]) | (refine wC (fun hb => ?_) fun hb => ?_ <;> (try simp only [xb, reduceCtorEq] at hb)) | (refine w2 (fun hc => ?_) (fun hc => ?_) <;> (try simp only [xc] at hc) <;> (try simp only [go_sem, hc]) <;> (try simp only [xb] at hc)) | refine wI ?_ | refine ex_idx (by omega) ?_ | fail)
      · simp [Try.results5, RetOK, RetP, backA, upd_at, plainB, getP, isOwn, anyOwn, isP]
      · refine ⟨k + 1, by rw [someT_succ (by omega), hB.1, Bool.true_or]; (simp only [xe, xj, Nat.reduceEqDiff]; (try simp [view, viewL_map]); (try omega)), ⟨by omega, fun i h hi => ?_⟩, by omega⟩
        rcases Nat.lt_or_ge i k with g | g
        · exact h40 i h g
        · obtain rfl : i = k := by omega
          omega
      · obtain rfl : k = P.length := by omega
        rw [hB.1] at hfin
        (first | refine wA rfl ?_ ?_ ?_ | refine dA rfl ?_ ?_ ?_); exact (.bool true); exact (⟨e, atom :: act :: t, rfl, by omega, by simp <;> omega, by rw [hfin (fun p hp => by obtain ⟨i, hi, rfl⟩ := List.getElem_of_mem hp; exact h40 i hi hi)]⟩); simp (config := { maxSteps := 2000000 }) only [go_sem]
        repeat' (first | refine wS fun K hK => ?_ | refine wB ?_ | ((first | refine wR hΓ ?_ | refine wD hΓ fun B hB => ?_); simp (config := { maxSteps := 2000000 }) only [go_sem]) | ((repeat ((fail_if_success (refine hK _ ?_)); clear hK K)); refine hK _ ?_; clear hK K) | (refine w1 ?_; simp only [xs, xi, Nat.reduceEqDiff, reduceCtorEq]) | (refine wC (fun hb => ?_) fun hb => ?_ <;> (try simp only [xb, reduceCtorEq] at hb)) | (refine w2 (fun hc => ?_) (fun hc => ?_) <;> (try simp only [xc] at hc) <;> (try simp only [go_sem, hc]) <;> (try simp only [xb] at hc)) | refine wI ?_ | refine ex_idx (by omega) ?_ | fail)
        simp [Try.results5, RetOK, RetP, backA, upd_at, plainB, getP, isOwn, anyOwn, isP]
    | false =>
      repeat' (first | refine wS fun K hK => ?_ | refine wB ?_ | ((first | refine wR hΓ ?_ | refine wD hΓ fun B hB => ?_); simp (config := { maxSteps := 2000000 }) only [go_sem]) | ((repeat ((fail_if_success (refine hK _ ?_)); clear hK K)); refine hK _ ?_; clear hK K) | (refine w1 ?_; simp only [xs, xi, Nat.reduceEqDiff, reduceCtorEq]) | (refine wC (fun hb => ?_) fun hb => ?_ <;> (try simp only [xb, reduceCtorEq] at hb)) | (refine w2 (fun hc => ?_) (fun hc => ?_) <;> (try simp only [xc] at hc) <;> (try simp only [go_sem, hc]) <;> (try simp only [xb] at hc)) | refine wI ?_ | refine ex_idx (by omega) ?_ | fail)
      · simp [Try.results5, RetOK, RetP, backA, upd_at, plainB, getP, isOwn, anyOwn, isP]
      · obtain ⟨W, hW⟩ : ∃ W, trbB P[k] t = W := ⟨_, rfl⟩
        (first | refine wA rfl ?_ ?_ ?_ | refine dA rfl ?_ ?_ ?_); exact (.bool W); exact (⟨P[k], t, rfl, by omega, by omega, by rw [hW]⟩); simp (config := { maxSteps := 2000000 }) only [go_sem]
        repeat' (first | refine wS fun K hK => ?_ | refine wB ?_ | ((first | refine wR hΓ ?_ | refine wD hΓ fun B hB => ?_); simp (config := { maxSteps := 2000000 }) only [go_sem]) | ((repeat ((fail_if_success (refine hK _ ?_)); clear hK K)); refine hK _ ?_; clear hK K) | (refine w1 ?_; simp only [xs, xi, Nat.reduceEqDiff, reduceCtorEq]) | (refine wC (fun hb => ?_) fun hb => ?_ <;> (try simp only [xb, reduceCtorEq] at hb)) | (refine w2 (fun hc => ?_) (fun hc => ?_) <;> (try simp only [xc] at hc) <;> (try simp only [go_sem, hc]) <;> (try simp only [xb] at hc)) | refine wI ?_ | refine ex_idx (by omega) ?_ | fail)
        refine ⟨k + 1, by rw [someT_succ (by omega), hB.1, hW, Bool.false_or]; (simp only [xe, xj, Nat.reduceEqDiff]; (try simp [view, viewL_map]); (try omega)), ⟨by omega, fun i h hi => ?_⟩, by omega⟩
        rcases Nat.lt_or_ge i k with g | g
        · exact h40 i h g
        · obtain rfl : i = k := by omega
          omega
      · obtain rfl : k = P.length := by omega
        rw [hB.1] at hfin
        (first | refine wA rfl ?_ ?_ ?_ | refine dA rfl ?_ ?_ ?_); exact (.bool false); exact (⟨e, atom :: act :: t, rfl, by omega, by simp <;> omega, by rw [hfin (fun p hp => by obtain ⟨i, hi, rfl⟩ := List.getElem_of_mem hp; exact h40 i hi hi)]⟩); simp (config := { maxSteps := 2000000 }) only [go_sem]
        repeat' (first | refine wS fun K hK => ?_ | refine wB ?_ | ((first | refine wR hΓ ?_ | refine wD hΓ fun B hB => ?_); simp (config := { maxSteps := 2000000 }) only [go_sem]) | ((repeat ((fail_if_success (refine hK _ ?_)); clear hK K)); refine hK _ ?_; clear hK K) | (refine w1 ?_; simp only [xs, xi, Nat.reduceEqDiff, reduceCtorEq]) | (refine wC (fun hb => ?_) fun hb => ?_ <;> (try simp only [xb, reduceCtorEq] at hb)) | (refine w2 (fun hc => ?_) (fun hc => ?_) <;> (try simp only [xc] at hc) <;> (try simp only [go_sem, hc]) <;> (try simp only [xb] at hc)) | refine wI ?_ | refine ex_idx (by omega) ?_ | fail)
        simp [Try.results5, RetOK, RetP, backA, upd_at, plainB, getP, isOwn, anyOwn, isP]
  · have hu : TraceOK [atom] := traceOK_one ha
    have hul : ([atom]).length ≤ 9 := by simp
    have hfin := fin _ hu hul
    refine CW.loop (ι := Nat) (fun k => [(5, ints e), (6, I atom), (7, I act), (8, oorows P), (10, oints [atom]), (11, .bool (someT P [atom] k)), (12, I (k : Int))]) (fun k => k ≤ P.length ∧ ∀ i (h : i < P.length), i < k → P[i].length ≤ 40) (fun k => P.length - k) 0 ?_ ?_
    · exact ⟨by rw [someT_zero]; (simp only [xe, xj, Nat.reduceEqDiff]; (try simp [view, viewL_map]); (try omega)), by omega, by intros; omega⟩
    rintro k ⟨hk, h40⟩
    obtain ⟨B, hB⟩ : ∃ B, someT P [atom] k = B := ⟨_, rfl⟩
    simp only [envOf, hB]
    replace hB : someT P [atom] k = B ∧ True := ⟨hB, trivial⟩
    cases B with
    | true =>
      repeat' (first | refine wS fun K hK => ?_ | refine wB ?_ | ((first | refine wR hΓ ?_ | refine wD hΓ fun B hB => ?_); simp (config := { maxSteps := 2000000 }) only [go_sem]) | ((repeat ((fail_if_success (refine hK _ ?_)); clear hK K)); refine hK _ ?_; clear hK K) | (refine w1 ?_; simp only [xs, xi, Nat.reduceEqDiff, reduceCtorEq]) | (refine wC (fun hb => ?_) fun hb => ?_ <;> (try simp only [xb, reduceCtorEq] at hb)) | (refine w2 (fun hc => ?_) (fun hc => ?_) <;> (try simp only [xc] at hc) <;> (try simp only [go_sem, hc]) <;> (try simp only [xb] at hc)) | refine wI ?_ | refine ex_idx (by omega) ?_ | fail)
      · simp [Try.results5, RetOK, RetP, backA, upd_at, plainB, getP, isOwn, anyOwn, isP]
      · refine ⟨k + 1, by rw [someT_succ (by omega), hB.1, Bool.true_or]; (simp only [xe, xj, Nat.reduceEqDiff]; (try simp [view, viewL_map]); (try omega)), ⟨by omega, fun i h hi => ?_⟩, by omega⟩
        rcases Nat.lt_or_ge i k with g | g
        · exact h40 i h g
        · obtain rfl : i = k := by omega
          omega
      · obtain rfl : k = P.length := by omega
        rw [hB.1] at hfin
        (first | refine wA rfl ?_ ?_ ?_ | refine dA rfl ?_ ?_ ?_); exact (.bool true); exact (⟨e, atom :: act :: [atom], rfl, by omega, by simp <;> omega, by rw [hfin (fun p hp => by obtain ⟨i, hi, rfl⟩ := List.getElem_of_mem hp; exact h40 i hi hi)]⟩); simp (config := { maxSteps := 2000000 }) only [go_sem]
        repeat' (first | refine wS fun K hK => ?_ | refine wB ?_ | ((first | refine wR hΓ ?_ | refine wD hΓ fun B hB => ?_); simp (config := { maxSteps := 2000000 }) only [go_sem]) | ((repeat ((fail_if_success (refine hK _ ?_)); clear hK K)); refine hK _ ?_; clear hK K) | (refine w1 ?_; simp only [xs, xi, Nat.reduceEqDiff, reduceCtorEq]) | (refine wC (fun hb => ?_) fun hb => ?_ <;> (try simp only [xb, reduceCtorEq] at hb)) | (refine w2 (fun hc => ?_) (fun hc => ?_) <;> (try simp only [xc] at hc) <;> (try simp only [go_sem, hc]) <;> (try simp only [xb] at hc)) | refine wI ?_ | refine ex_idx (by omega) ?_ | fail)
        simp [Try.results5, RetOK, RetP, backA, upd_at, plainB, getP, isOwn, anyOwn, isP]
    | false =>
      repeat' (first | refine wS fun K hK => ?_ | refine wB ?_ | ((first | refine wR hΓ ?_ | refine wD hΓ fun B hB => ?_); simp (config := { maxSteps := 2000000 }) only [go_sem]) | ((repeat ((fail_if_success (refine hK _ ?_)); clear hK K)); refine hK _ ?_; clear hK K) | (refine w1 ?_; simp only [xs, xi, Nat.reduceEqDiff, reduceCtorEq]) | (refine wC (fun hb => ?_) fun hb => ?_ <;> (try simp only [xb, reduceCtorEq] at hb)) | (refine w2 (fun hc => ?_) (fun hc => ?_) <;> (try simp only [xc] at hc) <;> (try simp only [go_sem, hc]) <;> (try simp only [xb] at hc)) | refine wI ?_ | refine ex_idx (by omega) ?_ | fail)
      · simp [Try.results5, RetOK, RetP, backA, upd_at, plainB, getP, isOwn, anyOwn, isP]
      · obtain ⟨W, hW⟩ : ∃ W, trbB P[k] [atom] = W := ⟨_, rfl⟩
        (first | refine wA rfl ?_ ?_ ?_ | refine dA rfl ?_ ?_ ?_); exact (.bool W); exact (⟨P[k], [atom], rfl, by omega, by omega, by rw [hW]⟩); simp (config := { maxSteps := 2000000 }) only [go_sem]
        repeat' (first | refine wS fun K hK => ?_ | refine wB ?_ | ((first | refine wR hΓ ?_ | refine wD hΓ fun B hB => ?_); simp (config := { maxSteps := 2000000 }) only [go_sem]) | ((repeat ((fail_if_success (refine hK _ ?_)); clear hK K)); refine hK _ ?_; clear hK K) | (refine w1 ?_; simp only [xs, xi, Nat.reduceEqDiff, reduceCtorEq]) | (refine wC (fun hb => ?_) fun hb => ?_ <;> (try simp only [xb, reduceCtorEq] at hb)) | (refine w2 (fun hc => ?_) (fun hc => ?_) <;> (try simp only [xc] at hc) <;> (try simp only [go_sem, hc]) <;> (try simp only [xb] at hc)) | refine wI ?_ | refine ex_idx (by omega) ?_ | fail)
        refine ⟨k + 1, by rw [someT_succ (by omega), hB.1, hW, Bool.false_or]; (simp only [xe, xj, Nat.reduceEqDiff]; (try simp [view, viewL_map]); (try omega)), ⟨by omega, fun i h hi => ?_⟩, by omega⟩
        rcases Nat.lt_or_ge i k with g | g
        · exact h40 i h g
        · obtain rfl : i = k := by omega
          omega
      · obtain rfl : k = P.length := by omega
        rw [hB.1] at hfin
        (first | refine wA rfl ?_ ?_ ?_ | refine dA rfl ?_ ?_ ?_); exact (.bool false); exact (⟨e, atom :: act :: [atom], rfl, by omega, by simp <;> omega, by rw [hfin (fun p hp => by obtain ⟨i, hi, rfl⟩ := List.getElem_of_mem hp; exact h40 i hi hi)]⟩); simp (config := { maxSteps := 2000000 }) only [go_sem]
        repeat' (first | refine wS fun K hK => ?_ | refine wB ?_ | ((first | refine wR hΓ ?_ | refine wD hΓ fun B hB => ?_); simp (config := { maxSteps := 2000000 }) only [go_sem]) | ((repeat ((fail_if_success (refine hK _ ?_)); clear hK K)); refine hK _ ?_; clear hK K) | (refine w1 ?_; simp only [xs, xi, Nat.reduceEqDiff, reduceCtorEq]) | (refine wC (fun hb => ?_) fun hb => ?_ <;> (try simp only [xb, reduceCtorEq] at hb)) | (refine w2 (fun hc => ?_) (fun hc => ?_) <;> (try simp only [xc] at hc) <;> (try simp only [go_sem, hc]) <;> (try simp only [xb] at hc)) | refine wI ?_ | refine ex_idx (by omega) ?_ | fail)
        simp [Try.results5, RetOK, RetP, backA, upd_at, plainB, getP, isOwn, anyOwn, isP]

end Go.Proofs.Ytaniaocanekajaa
