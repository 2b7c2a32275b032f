/- The program's TraceBy, walked by the engine; slices.ContainsFunc at rows of integers. -/
import Derived.Test.YtmhiipmajlmlgaaF2
import Derived.Test.YtmhiipmajlmlgaaG1
import Derived.Test.YtmhiipmajlmlgaaGrpH
import Derived.Test.YtmhiipmajlmlgaaEngMin
namespace Go.Proofs.Ytmhiipmajlmlgaa
set_option linter.unusedSimpArgs false
set_option linter.unusedVariables false
set_option maxRecDepth 8000
set_option maxHeartbeats 2000000
open Go Go.RowKit AV

def predDR (D : List Int → Prop) (caps : List AV) (q : List Int → Bool) (args : List AV) (r : AV) : Prop := ∃ x : List Int, D x ∧ args = ints x :: caps ∧ r = .bool (q x)
def idxDR (D : List Int → Prop) (f : Nat) (caps : List AV) (q : List Int → Bool) (args : List AV) (r : AV) : Prop := ∃ l : LL, args = [rows l, .fn f caps] ∧ l.length ≤ 1099511627776 ∧ (∀ x ∈ l, D x) ∧ r = .num .i64 (idxF q 0 l)
def contR (D : List Int → Prop) (f : Nat) (caps : List AV) (q : List Int → Bool) (args : List AV) (r : AV) : Prop := ∃ l : LL, args = [rows l, .fn f caps] ∧ l.length ≤ 1099511627776 ∧ (∀ x ∈ l, D x) ∧ r = .bool (l.any q)

theorem idx_genD (D : List Int → Prop) (f : Nat) (caps : List AV) (q : List Int → Bool) (hcp : allP caps = true) (hf_ctr : CtrOK Try.prog f (pureC (predDR D caps q))) : CtrOK Try.prog 93 (pureC (idxDR D f caps q)) := by
  refine ctr_pure' Try.func93 rfl rfl Try.ntmps93 ?_
  rintro _ _ ⟨l, rfl, hl, hx, rfl⟩
  refine ⟨by simp, fun κ hκ => ?_⟩
  have hbig := bigW_gt
  rw [argEnv_eq]
  simp only [envA]
  have hΓ := ctxOf_ok (P := Try.prog) (cx hf_ctr <| cx0)
  repeat' (first | refine wS fun K hK => ?_ | refine wB ?_ | ((first | refine wR hΓ ?_ | refine wD hΓ fun B hB => ?_); simp (config := { maxSteps := 2000000 }) only [go_sem, hcp]) | ((repeat ((fail_if_success (refine hK _ ?_)); clear hK K)); refine hK _ ?_; clear hK K) | (refine w1 ?_; simp only [xs, xi, Nat.reduceEqDiff, reduceCtorEq]) | (refine wC (fun hb => ?_) fun hb => ?_ <;> (try simp only [xb, reduceCtorEq] at hb)) | (refine w2 (fun hc => ?_) (fun hc => ?_) <;> (try simp only [xc] at hc) <;> (try simp only [go_sem, hc, hcp]) <;> (try simp only [xb] at hc)) | refine wI ?_ | refine ex_idx (by omega) ?_ | fail)
  refine CW.loop (ι := Nat) (fun k => [(0, rows l), (1, .fn f caps), (6, rows l), (7, I l.length), (8, I k)]) (fun k => k ≤ l.length ∧ idxF q 0 l = idxF q k (l.drop k)) (fun k => l.length - k) 0 ?_ ?_
  · exact ⟨by (simp only [xe, xj, Nat.reduceEqDiff]; (try simp [view, viewL_map]); (try omega)), by omega, rfl⟩
  rintro k ⟨hk, hi⟩
  simp only [envOf]
  repeat' (first | refine wS fun K hK => ?_ | refine wB ?_ | ((first | refine wR hΓ ?_ | refine wD hΓ fun B hB => ?_); simp (config := { maxSteps := 2000000 }) only [go_sem, hcp]) | ((repeat ((fail_if_success (refine hK _ ?_)); clear hK K)); refine hK _ ?_; clear hK K) | (refine w1 ?_; simp only [xs, xi, Nat.reduceEqDiff, reduceCtorEq]) | (refine wC (fun hb => ?_) fun hb => ?_ <;> (try simp only [xb, reduceCtorEq] at hb)) | (refine w2 (fun hc => ?_) (fun hc => ?_) <;> (try simp only [xc] at hc) <;> (try simp only [go_sem, hc, hcp]) <;> (try simp only [xb] at hc)) | refine wI ?_ | refine ex_idx (by omega) ?_ | fail)
  · have hkl : k < l.length := by omega
    have hxk := hx _ (List.getElem_mem hkl)
    (first | refine W_askP (rel := predDR D caps q) (by simp [ctxOf]) _ (⟨_, hxk, rfl, rfl⟩) ?_ | refine D_askP (rel := predDR D caps q) (by simp [ctxOf]) _ (⟨_, hxk, rfl, rfl⟩) ?_); simp (config := { maxSteps := 2000000 }) only [go_sem]
    repeat' (first | refine wS fun K hK => ?_ | refine wB ?_ | ((first | refine wR hΓ ?_ | refine wD hΓ fun B hB => ?_); simp (config := { maxSteps := 2000000 }) only [go_sem, hcp]) | ((repeat ((fail_if_success (refine hK _ ?_)); clear hK K)); refine hK _ ?_; clear hK K) | (refine w1 ?_; simp only [xs, xi, Nat.reduceEqDiff, reduceCtorEq]) | (refine wC (fun hb => ?_) fun hb => ?_ <;> (try simp only [xb, reduceCtorEq] at hb)) | (refine w2 (fun hc => ?_) (fun hc => ?_) <;> (try simp only [xc] at hc) <;> (try simp only [go_sem, hc, hcp]) <;> (try simp only [xb] at hc)) | refine wI ?_ | refine ex_idx (by omega) ?_ | fail)
    · have hq : q l[k] = true := by assumption
      rw [hi, idxF_hit hkl hq]
      simp [Try.results93, RetOK, RetP, backA, upd_at, plainB, getP, isOwn, anyOwn, isP]
    · have hq : q l[k] = false := by simp_all
      refine ⟨k + 1, by (simp only [xe, xj, Nat.reduceEqDiff]; (try simp [view, viewL_map]); (try omega)), ⟨by omega, ?_⟩, by omega⟩
      have := idxF_skip (n := 0) hkl hq
      simp only [Nat.zero_add] at this
      rw [hi, this]
  · have hke : l.drop k = [] := List.drop_eq_nil_of_le (by omega)
    rw [hi, hke]
    simp [Try.results93, RetOK, RetP, backA, upd_at, plainB, getP, isOwn, anyOwn, isP]
    simp [idxF]

theorem any_idx (q : List Int → Bool) (l : LL) : l.any q = decide (0 ≤ idxF q 0 l) := by
  have h := idxF_neg (q := q) l 0
  rw [Bool.eq_iff_iff, decide_eq_true_eq, List.any_eq_true]
  constructor
  · rintro ⟨x, hx, hq⟩
    by_cases hn : idxF q 0 l < 0
    · rw [h.1 hn x hx] at hq; cases hq
    · omega
  · intro hn
    apply Classical.byContradiction
    intro hno
    have : idxF q 0 l < 0 := h.2 fun x hx => by
      cases hq : q x with
      | false => rfl
      | true => exact absurd ⟨x, hx, hq⟩ hno
    omega

theorem cont_genD (D : List Int → Prop) (f : Nat) (caps : List AV) (q : List Int → Bool) (hcp : allP caps = true) (hf_ctr : CtrOK Try.prog f (pureC (predDR D caps q))) : CtrOK Try.prog 70 (pureC (contR D f caps q)) := by
  have idx_ctr := idx_genD D f caps q hcp hf_ctr
  refine ctr_pure' Try.func70 rfl rfl Try.ntmps70 ?_
  rintro _ _ ⟨l, rfl, hl, hx, rfl⟩
  refine ⟨by simp, fun κ hκ => ?_⟩
  have hbig := bigW_gt
  rw [argEnv_eq]
  simp only [envA]
  have hΓ := ctxOf_ok (P := Try.prog) (cx idx_ctr <| cx0)
  repeat' (first | refine wS fun K hK => ?_ | refine wB ?_ | ((first | refine wR hΓ ?_ | refine wD hΓ fun B hB => ?_); simp (config := { maxSteps := 2000000 }) only [go_sem, hcp]) | ((repeat ((fail_if_success (refine hK _ ?_)); clear hK K)); refine hK _ ?_; clear hK K) | (refine w1 ?_; simp only [xs, xi, Nat.reduceEqDiff, reduceCtorEq]) | (refine wC (fun hb => ?_) fun hb => ?_ <;> (try simp only [xb, reduceCtorEq] at hb)) | (refine w2 (fun hc => ?_) (fun hc => ?_) <;> (try simp only [xc] at hc) <;> (try simp only [go_sem, hc, hcp]) <;> (try simp only [xb] at hc)) | refine wI ?_ | refine ex_idx (by omega) ?_ | fail)
  (first | refine wA rfl _ (⟨l, rfl, hl, hx, rfl⟩) ?_ | refine dA rfl _ (⟨l, rfl, hl, hx, rfl⟩) ?_); simp (config := { maxSteps := 2000000 }) only [go_sem]
  repeat' (first | refine wS fun K hK => ?_ | refine wB ?_ | ((first | refine wR hΓ ?_ | refine wD hΓ fun B hB => ?_); simp (config := { maxSteps := 2000000 }) only [go_sem, hcp]) | ((repeat ((fail_if_success (refine hK _ ?_)); clear hK K)); refine hK _ ?_; clear hK K) | (refine w1 ?_; simp only [xs, xi, Nat.reduceEqDiff, reduceCtorEq]) | (refine wC (fun hb => ?_) fun hb => ?_ <;> (try simp only [xb, reduceCtorEq] at hb)) | (refine w2 (fun hc => ?_) (fun hc => ?_) <;> (try simp only [xc] at hc) <;> (try simp only [go_sem, hc, hcp]) <;> (try simp only [xb] at hc)) | refine wI ?_ | refine ex_idx (by omega) ?_ | fail)
  rw [any_idx]
  simp [Try.results70, RetOK, RetP, backA, upd_at, plainB, getP, isOwn, anyOwn, isP]

def TreeT (t : List Int) : Prop := ∃ p : Ex, p.wf ∧ p.steps = t ∧ t.length ≤ 1601

def traceBy1R (args : List AV) (r : AV) : Prop := ∃ last : Nat, last < 4 ∧ predDR TreeT [.pbox [I last]] (fun a => (endX (exOf a)).testBit last) args r
theorem traceBy1_ctr : CtrOK Try.prog 71 (pureC traceBy1R) := by
  refine ctr_pure' Try.func71 rfl rfl Try.ntmps71 ?_
  rintro _ _ ⟨last, hla, a, ⟨p, hp, rfl, hle⟩, rfl, rfl⟩
  refine ⟨by simp, fun κ hκ => ?_⟩
  have hbig := bigW_gt
  rw [argEnv_eq]
  simp only [envA]
  have hΓ := ctxOf_ok (P := Try.prog) (cx ends_ctr <| cx holds_ctr <| cx0)
  repeat' (first | refine wS fun K hK => ?_ | refine wB ?_ | ((first | refine wR hΓ ?_ | refine wD hΓ fun B hB => ?_); simp (config := { maxSteps := 2000000 }) only [go_sem]) | ((repeat ((fail_if_success (refine hK _ ?_)); clear hK K)); refine hK _ ?_; clear hK K) | (refine w1 ?_; simp only [xs, xi, Nat.reduceEqDiff, reduceCtorEq]) | (refine wC (fun hb => ?_) fun hb => ?_ <;> (try simp only [xb, reduceCtorEq] at hb)) | (refine w2 (fun hc => ?_) (fun hc => ?_) <;> (try simp only [xc] at hc) <;> (try simp only [go_sem, hc]) <;> (try simp only [xb] at hc)) | refine wI ?_ | refine ex_idx (by omega) ?_ | fail)
  (first | refine wA rfl _ (⟨p, rfl, hp, by omega, rfl⟩) ?_ | refine dA rfl _ (⟨p, rfl, hp, by omega, rfl⟩) ?_); simp (config := { maxSteps := 2000000 }) only [go_sem]
  repeat' (first | refine wS fun K hK => ?_ | refine wB ?_ | ((first | refine wR hΓ ?_ | refine wD hΓ fun B hB => ?_); simp (config := { maxSteps := 2000000 }) only [go_sem]) | ((repeat ((fail_if_success (refine hK _ ?_)); clear hK K)); refine hK _ ?_; clear hK K) | (refine w1 ?_; simp only [xs, xi, Nat.reduceEqDiff, reduceCtorEq]) | (refine wC (fun hb => ?_) fun hb => ?_ <;> (try simp only [xb, reduceCtorEq] at hb)) | (refine w2 (fun hc => ?_) (fun hc => ?_) <;> (try simp only [xc] at hc) <;> (try simp only [go_sem, hc]) <;> (try simp only [xb] at hc)) | refine wI ?_ | refine ex_idx (by omega) ?_ | fail)
  have h16 := endX_lt hp
  (first | refine wA rfl _ (⟨_, _, rfl, by omega, by omega, rfl⟩) ?_ | refine dA rfl _ (⟨_, _, rfl, by omega, by omega, rfl⟩) ?_); simp (config := { maxSteps := 2000000 }) only [go_sem]
  repeat' (first | refine wS fun K hK => ?_ | refine wB ?_ | ((first | refine wR hΓ ?_ | refine wD hΓ fun B hB => ?_); simp (config := { maxSteps := 2000000 }) only [go_sem]) | ((repeat ((fail_if_success (refine hK _ ?_)); clear hK K)); refine hK _ ?_; clear hK K) | (refine w1 ?_; simp only [xs, xi, Nat.reduceEqDiff, reduceCtorEq]) | (refine wC (fun hb => ?_) fun hb => ?_ <;> (try simp only [xb, reduceCtorEq] at hb)) | (refine w2 (fun hc => ?_) (fun hc => ?_) <;> (try simp only [xc] at hc) <;> (try simp only [go_sem, hc]) <;> (try simp only [xb] at hc)) | refine wI ?_ | refine ex_idx (by omega) ?_ | fail)
  rw [exOf_steps hp]
  simp [Try.results71, RetOK, RetP, backA, upd_at, plainB, getP, isOwn, anyOwn, isP]

def contTrR (args : List AV) (r : AV) : Prop := ∃ last : Nat, last < 4 ∧ contR TreeT 71 [.pbox [I last]] (fun a => (endX (exOf a)).testBit last) args r
theorem contTr_ctr : CtrOK Try.prog 70 (pureC contTrR) := by
  have h : ∀ t : Nat, t < 4 → CtrOK Try.prog 70 (pureC (contR TreeT 71 [.pbox [I t]] (fun a => (endX (exOf a)).testBit t))) := fun t ht =>
    cont_genD _ _ _ _ rfl ⟨traceBy1_ctr.1, fun args r args' ⟨h1, h2⟩ => traceBy1_ctr.2 args r args' ⟨h1, t, ht, h2⟩⟩
  exact ⟨(h 0 (by omega)).1, fun args r args' ⟨h1, t, ht, h2⟩ => (h t ht).2 args r args' ⟨h1, h2⟩⟩

theorem implTraceBy_ctr : CtrOK Try.prog 29 (pureC traceByR) := by
  refine ctr_pure' Try.func29 rfl rfl Try.ntmps29 ?_
  rintro _ _ ⟨e, t, rfl, hl, htl, rfl⟩
  refine ⟨by simp, fun κ hκ => ?_⟩
  have hbig := bigW_gt
  rw [argEnv_eq]
  simp only [envA]
  have hΓ := ctxOf_ok (P := Try.prog) (cx implKatValid_ctr <| cx implTraceValid_ctr <| cx build_ctr <| cx tparts_ctr <| cx ordered_ctr <| cx contTr_ctr <| cx0)
  repeat' (first | refine wS fun K hK => ?_ | refine wB ?_ | ((first | refine wR hΓ ?_ | refine wD hΓ fun B hB => ?_); simp (config := { maxSteps := 2000000 }) only [go_sem]) | ((repeat ((fail_if_success (refine hK _ ?_)); clear hK K)); refine hK _ ?_; clear hK K) | (refine w1 ?_; simp only [xs, xi, Nat.reduceEqDiff, reduceCtorEq]) | (refine wC (fun hb => ?_) fun hb => ?_ <;> (try simp only [xb, reduceCtorEq] at hb)) | (refine w2 (fun hc => ?_) (fun hc => ?_) <;> (try simp only [xc] at hc) <;> (try simp only [go_sem, hc]) <;> (try simp only [xb] at hc)) | refine wI ?_ | refine ex_idx (by omega) ?_ | fail)
  (first | refine wA rfl _ (⟨e, rfl, by omega, rfl⟩) ?_ | refine dA rfl _ (⟨e, rfl, by omega, rfl⟩) ?_); simp (config := { maxSteps := 2000000 }) only [go_sem]
  repeat' (first | refine wS fun K hK => ?_ | refine wB ?_ | ((first | refine wR hΓ ?_ | refine wD hΓ fun B hB => ?_); simp (config := { maxSteps := 2000000 }) only [go_sem]) | ((repeat ((fail_if_success (refine hK _ ?_)); clear hK K)); refine hK _ ?_; clear hK K) | (refine w1 ?_; simp only [xs, xi, Nat.reduceEqDiff, reduceCtorEq]) | (refine wC (fun hb => ?_) fun hb => ?_ <;> (try simp only [xb, reduceCtorEq] at hb)) | (refine w2 (fun hc => ?_) (fun hc => ?_) <;> (try simp only [xc] at hc) <;> (try simp only [go_sem, hc]) <;> (try simp only [xb] at hc)) | refine wI ?_ | refine ex_idx (by omega) ?_ | fail)
  rotate_left
  · have hkb := ‹katB e = false›
    have hf : trbB e t = false := trbB_false.2 fun h => by simp [hkb] at h
    rw [hf]
    simp [Try.results29, RetOK, RetP, backA, upd_at, plainB, getP, isOwn, anyOwn, isP]
  (first | refine wA rfl _ (⟨t, rfl, by omega, rfl⟩) ?_ | refine dA rfl _ (⟨t, rfl, by omega, rfl⟩) ?_); simp (config := { maxSteps := 2000000 }) only [go_sem]
  repeat' (first | refine wS fun K hK => ?_ | refine wB ?_ | ((first | refine wR hΓ ?_ | refine wD hΓ fun B hB => ?_); simp (config := { maxSteps := 2000000 }) only [go_sem]) | ((repeat ((fail_if_success (refine hK _ ?_)); clear hK K)); refine hK _ ?_; clear hK K) | (refine w1 ?_; simp only [xs, xi, Nat.reduceEqDiff, reduceCtorEq]) | (refine wC (fun hb => ?_) fun hb => ?_ <;> (try simp only [xb, reduceCtorEq] at hb)) | (refine w2 (fun hc => ?_) (fun hc => ?_) <;> (try simp only [xc] at hc) <;> (try simp only [go_sem, hc]) <;> (try simp only [xb] at hc)) | refine wI ?_ | refine ex_idx (by omega) ?_ | fail)
  · have hkb := ‹traceOKB t = false›
    have hf : trbB e t = false := trbB_false.2 fun h => traceOKB_false.1 hkb h.2.1
    rw [hf]
    simp [Try.results29, RetOK, RetP, backA, upd_at, plainB, getP, isOwn, anyOwn, isP]
  have hkb := ‹katB e = true›
  have htr := traceOKB_true.1 ‹traceOKB t = true›
  obtain ⟨x, hw, rfl, h40⟩ := katB_tree hkb
  have hodd := htr.odd
  have h41 := htr.len
  refine CW.loop (ι := Nat) (fun k => [(0, ints x.steps), (1, ints t), (5, rows (setTo x.steps t k)), (6, I ((2 * k : Nat) : Int))]) (fun k => 2 * k ≤ t.length) (fun k => t.length - 2 * k) 0 ?_ ?_
  · exact ⟨by (simp only [xe, xj, Nat.reduceEqDiff]; (try simp [view, viewL_map]); (try omega)); simp [setTo], by omega⟩
  rintro k hk
  simp only [envOf]
  obtain ⟨hS1, hS2⟩ := setTo_left hw htr k hk
  have hS3 := setTo_len hw htr hk
  have hacx := actsX_len x
  generalize hS : setTo x.steps t k = S at *
  have e20 : ((2 * k : Nat) : Int) + 1 = ((2 * k + 1 : Nat) : Int) := by omega
  repeat' (first | refine wS fun K hK => ?_ | refine wB ?_ | ((first | refine wR hΓ ?_ | refine wD hΓ fun B hB => ?_); simp (config := { maxSteps := 2000000 }) only [go_sem, e20]) | ((repeat ((fail_if_success (refine hK _ ?_)); clear hK K)); refine hK _ ?_; clear hK K) | (refine w1 ?_; simp only [xs, xi, Nat.reduceEqDiff, reduceCtorEq]) | (refine wC (fun hb => ?_) fun hb => ?_ <;> (try simp only [xb, reduceCtorEq] at hb)) | (refine w2 (fun hc => ?_) (fun hc => ?_) <;> (try simp only [xc] at hc) <;> (try simp only [go_sem, hc, e20]) <;> (try simp only [xb] at hc)) | refine wI ?_ | refine ex_idx (by omega) ?_ | fail)
  · have hkl : 2 * k + 1 < t.length := by omega
    have hat := htr.atoms k (by omega)
    have hac := htr.acts k hkl
    have hn0 : nth t (2 * k) = t[2 * k] := nth_getElem (by omega)
    have hn1 : nth t (2 * k + 1) = t[2 * k + 1] := nth_getElem hkl
    have hSs : setTo x.steps t (k + 1) = ordL (S.flatMap (partsOfL (nth t (2 * k)).toNat (nth t (2 * k + 1)))) := by rw [setTo, hS]; rfl
    have hbd := fun j => stepF_bd hw h40 hS1 (by omega) (atom := (nth t (2 * k)).toNat) hac.1 j
    generalize hF : partsOfL (nth t (2 * k)).toNat (nth t (2 * k + 1)) = F at *
    refine CW.loop (ι := Nat) (fun j => [(0, ints x.steps), (1, ints t), (6, I ((2 * k : Nat) : Int)), (7, oorows ((S.take j).flatMap F)), (28, rows S), (29, I S.length), (30, I j)]) (fun j => j ≤ S.length) (fun j => S.length - j) 0 ?_ ?_
    · exact ⟨by (simp only [xe, xj, Nat.reduceEqDiff]; (try simp [view, viewL_map]); (try omega)), by omega⟩
    rintro j hj
    simp only [envOf]
    repeat' (first | refine wS fun K hK => ?_ | refine wB ?_ | ((first | refine wR hΓ ?_ | refine wD hΓ fun B hB => ?_); simp (config := { maxSteps := 2000000 }) only [go_sem, e20]) | ((repeat ((fail_if_success (refine hK _ ?_)); clear hK K)); refine hK _ ?_; clear hK K) | (refine w1 ?_; simp only [xs, xi, Nat.reduceEqDiff, reduceCtorEq]) | (refine wC (fun hb => ?_) fun hb => ?_ <;> (try simp only [xb, reduceCtorEq] at hb)) | (refine w2 (fun hc => ?_) (fun hc => ?_) <;> (try simp only [xc] at hc) <;> (try simp only [go_sem, hc, e20]) <;> (try simp only [xb] at hc)) | refine wI ?_ | refine ex_idx (by omega) ?_ | fail)
    · have hjl : j < S.length := by omega
      obtain ⟨p, hpw, hps, hpe⟩ := (hS1 _ (List.getElem_mem hjl)).tree
      have hsh := (hS1 _ (List.getElem_mem hjl)).short h40
      have h0 : (((nth t (2 * k)).toNat : Nat) : Int) = t[2 * k] := by rw [← hn0]; omega
      have hbj := hbd j
      have hbj1 := hbd (j + 1)
      have hst : (S.take (j + 1)).flatMap F = (S.take j).flatMap F ++ F S[j] := flatMap_take hjl
      have hFj : partsL (nth t (2 * k)).toNat (nth t (2 * k + 1)) p = F S[j] := by rw [← hF, ← hps, partsOfL_steps hpw]
      have hFl : (F S[j]).length ≤ 32841 := by have := hbj1.1; rw [hst, List.length_append] at this; omega
      (first | refine wA rfl _ (⟨p, by rw [hps], hpw, by rw [hps]; omega, (treeA_eq p).symm⟩) ?_ | refine dA rfl _ (⟨p, by rw [hps], hpw, by rw [hps]; omega, (treeA_eq p).symm⟩) ?_); simp (config := { maxSteps := 2000000 }) only [go_sem]
      repeat' (first | refine wS fun K hK => ?_ | refine wB ?_ | ((first | refine wR hΓ ?_ | refine wD hΓ fun B hB => ?_); simp (config := { maxSteps := 2000000 }) only [go_sem, e20]) | ((repeat ((fail_if_success (refine hK _ ?_)); clear hK K)); refine hK _ ?_; clear hK K) | (refine w1 ?_; simp only [xs, xi, Nat.reduceEqDiff, reduceCtorEq]) | (refine wC (fun hb => ?_) fun hb => ?_ <;> (try simp only [xb, reduceCtorEq] at hb)) | (refine w2 (fun hc => ?_) (fun hc => ?_) <;> (try simp only [xc] at hc) <;> (try simp only [go_sem, hc, e20]) <;> (try simp only [xb] at hc)) | refine wI ?_ | refine ex_idx (by omega) ?_ | fail)
      (first | refine wA rfl _ (⟨p, (nth t (2 * k)).toNat, nth t (2 * k + 1), by simp only [show ((((2 * k : Nat) : Int) + 1).toNat) = 2 * k + 1 by omega]; rw [treeA_eq, h0, hn1], hpw, by rw [hps]; omega, by omega, hac.1, hac.2, rfl⟩) ?_ | refine dA rfl _ (⟨p, (nth t (2 * k)).toNat, nth t (2 * k + 1), by simp only [show ((((2 * k : Nat) : Int) + 1).toNat) = 2 * k + 1 by omega]; rw [treeA_eq, h0, hn1], hpw, by rw [hps]; omega, by omega, hac.1, hac.2, rfl⟩) ?_); simp (config := { maxSteps := 2000000 }) only [go_sem]
      rw [hFj]
      have hbl := hbj.1
      generalize hFS : F S[j] = FS at *
      generalize hacc : (S.take j).flatMap F = acc at *
      repeat' (first | refine wS fun K hK => ?_ | refine wB ?_ | ((first | refine wR hΓ ?_ | refine wD hΓ fun B hB => ?_); simp (config := { maxSteps := 2000000 }) only [go_sem, e20]) | ((repeat ((fail_if_success (refine hK _ ?_)); clear hK K)); refine hK _ ?_; clear hK K) | (refine w1 ?_; simp only [xs, xi, Nat.reduceEqDiff, reduceCtorEq]) | (refine wC (fun hb => ?_) fun hb => ?_ <;> (try simp only [xb, reduceCtorEq] at hb)) | (refine w2 (fun hc => ?_) (fun hc => ?_) <;> (try simp only [xc] at hc) <;> (try simp only [go_sem, hc, e20]) <;> (try simp only [xb] at hc)) | refine wI ?_ | refine ex_idx (by omega) ?_ | fail)
      refine ⟨j + 1, ?_, by omega, by omega⟩
      rw [hst]
      (simp only [xe, xj, Nat.reduceEqDiff]; (try simp [view, viewL_map]); (try omega))
      all_goals trace_state
    · have hje : j = S.length := by omega
      subst hje
      have hbj := hbd S.length
      rw [List.take_length] at hbj ⊢
      (first | refine W_askT rfl _ (⟨_, rfl, by omega, fun s hs => Nat.le_trans (hbj.2 s hs) (by omega), rfl⟩) ?_ | refine D_askT rfl _ (⟨_, rfl, by omega, fun s hs => Nat.le_trans (hbj.2 s hs) (by omega), rfl⟩) ?_); simp (config := { maxSteps := 2000000 }) only [go_sem]
      repeat' (first | refine wS fun K hK => ?_ | refine wB ?_ | ((first | refine wR hΓ ?_ | refine wD hΓ fun B hB => ?_); simp (config := { maxSteps := 2000000 }) only [go_sem, e20]) | ((repeat ((fail_if_success (refine hK _ ?_)); clear hK K)); refine hK _ ?_; clear hK K) | (refine w1 ?_; simp only [xs, xi, Nat.reduceEqDiff, reduceCtorEq]) | (refine wC (fun hb => ?_) fun hb => ?_ <;> (try simp only [xb, reduceCtorEq] at hb)) | (refine w2 (fun hc => ?_) (fun hc => ?_) <;> (try simp only [xc] at hc) <;> (try simp only [go_sem, hc, e20]) <;> (try simp only [xb] at hc)) | refine wI ?_ | refine ex_idx (by omega) ?_ | fail)
      refine ⟨k + 1, ?_, by omega, by omega⟩
      rw [hSs]
      (simp only [xe, xj, Nat.reduceEqDiff]; (try simp [view, viewL_map]); (try omega))
      all_goals trace_state
  · have hke : k = t.length / 2 := by omega
    have hlast := htr.atoms (t.length / 2) (by omega)
    have e21 : 2 * (t.length / 2) = t.length - 1 := by omega
    have e22 : ((t.length : Nat) : Int) - 1 = ((t.length - 1 : Nat) : Int) := by omega
    rw [e21] at hlast
    have hnl : nth t (t.length - 1) = t[t.length - 1] := nth_getElem (by omega)
    have hend : trbB x.steps t = true ↔ ∃ p ∈ S, (endX (exOf p)).testBit (nth t (t.length - 1)).toNat = true := by
      rw [trbB_true, ← hke, hS]
      exact ⟨fun h => h.2.2, fun h => ⟨hkb, htr, h⟩⟩
    have hend2 : trbB x.steps t = S.any (fun a => (endX (exOf a)).testBit (nth t (t.length - 1)).toNat) := by
      rw [Bool.eq_iff_iff, hend, List.any_eq_true]
    have h0 : (((nth t (t.length - 1)).toNat : Nat) : Int) = t[t.length - 1] := by rw [← hnl]; omega
    repeat' (first | refine wS fun K hK => ?_ | refine wB ?_ | ((first | refine wR hΓ ?_ | refine wD hΓ fun B hB => ?_); simp (config := { maxSteps := 2000000 }) only [go_sem, e22]) | ((repeat ((fail_if_success (refine hK _ ?_)); clear hK K)); refine hK _ ?_; clear hK K) | (refine w1 ?_; simp only [xs, xi, Nat.reduceEqDiff, reduceCtorEq]) | (refine wC (fun hb => ?_) fun hb => ?_ <;> (try simp only [xb, reduceCtorEq] at hb)) | (refine w2 (fun hc => ?_) (fun hc => ?_) <;> (try simp only [xc] at hc) <;> (try simp only [go_sem, hc, e22]) <;> (try simp only [xb] at hc)) | refine wI ?_ | refine ex_idx (by omega) ?_ | fail)
    all_goals trace_state
    have hTT : ∀ s ∈ S, TreeT s := fun s hs => by
      obtain ⟨p, hpw, hps, hpe⟩ := (hS1 _ hs).tree
      exact ⟨p, hpw, hps, (hS1 _ hs).short h40⟩
    (first | refine wA rfl _ (⟨(nth t (t.length - 1)).toNat, by omega, S, by simp only [show ((t.length : Int) - 1).toNat = t.length - 1 by omega]; rw [h0], by omega, hTT, rfl⟩) ?_ | refine dA rfl _ (⟨(nth t (t.length - 1)).toNat, by omega, S, by simp only [show ((t.length : Int) - 1).toNat = t.length - 1 by omega]; rw [h0], by omega, hTT, rfl⟩) ?_); simp (config := { maxSteps := 2000000 }) only [go_sem]
    repeat' (first | refine wS fun K hK => ?_ | refine wB ?_ | ((first | refine wR hΓ ?_ | refine wD hΓ fun B hB => ?_); simp (config := { maxSteps := 2000000 }) only [go_sem, e22]) | ((repeat ((fail_if_success (refine hK _ ?_)); clear hK K)); refine hK _ ?_; clear hK K) | (refine w1 ?_; simp only [xs, xi, Nat.reduceEqDiff, reduceCtorEq]) | (refine wC (fun hb => ?_) fun hb => ?_ <;> (try simp only [xb, reduceCtorEq] at hb)) | (refine w2 (fun hc => ?_) (fun hc => ?_) <;> (try simp only [xc] at hc) <;> (try simp only [go_sem, hc, e22]) <;> (try simp only [xb] at hc)) | refine wI ?_ | refine ex_idx (by omega) ?_ | fail)
    rw [hend2]
    simp [Try.results29, RetOK, RetP, backA, upd_at, plainB, getP, isOwn, anyOwn, isP]

end Go.Proofs.Ytmhiipmajlmlgaa
