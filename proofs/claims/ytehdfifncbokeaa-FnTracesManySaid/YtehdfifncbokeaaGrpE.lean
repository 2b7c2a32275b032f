/- The parts of expressions in the reference, walked by the engine. -/
import Derived.Test.YtehdfifncbokeaaGrpD
import Derived.Test.YtehdfifncbokeaaEngMin
namespace Go.Proofs.Ytehdfifncbokeaa
set_option linter.unusedSimpArgs false
set_option linter.unusedVariables false
set_option maxRecDepth 8000
set_option maxHeartbeats 2000000
open Go Go.RowKit AV

theorem take_map_len {α β : Type} (f : α → β) (l : List α) : (l.map f).take l.length = l.map f := List.take_of_length_le (by simp)

def spanR (args : List AV) (r : AV) : Prop := ∃ (L M : List Int) (x : Ex), args = [ints (L ++ (x.steps ++ M)), I ((L.length + x.steps.length : Nat) - 1 : Int)] ∧ x.wf ∧ (L ++ (x.steps ++ M)).length ≤ 1099511627776 ∧ r = I L.length
theorem l2Span_ctr : CtrOK Try.prog 42 (pureC spanR) := by
  refine ctr_pure' Try.func42 rfl rfl Try.ntmps42 ?_
  rintro _ _ ⟨L, M, x, rfl, hw, hl, rfl⟩
  refine ⟨by simp, fun κ hκ => ?_⟩
  have hbig := bigW_gt
  rw [argEnv_eq]
  simp only [envA]
  have hΓ := ctxOf_ok (P := Try.prog) (cx l2Takes_ctr <| cx0)
  have hlen : (L ++ (x.steps ++ M)).length = L.length + x.steps.length + M.length := by simp only [List.length_append]; omega
  have hpos := x.steps_pos
  repeat' (first | exact hb.elim | refine wS fun K hK => ?_ | refine wB ?_ | refine uR hΓ ?_ | refine uD hΓ fun B hB => ?_ | ((repeat ((fail_if_success (refine hK _ ?_)); clear hK K)); refine hK _ ?_; clear hK K) | refine u1 ?_ | refine uC (fun hb => ?_) fun hb => ?_ | refine u2 (fun hc => ?_) fun hc => ?_ | refine wI ?_ | refine ex_idx (by omega) ?_ | exact True.intro | fail)
  refine CW.loop (ι := Nat × List Ex) (fun y => [(0, ints (L ++ (x.steps ++ M))), (5, I (y.2.length : Nat)), (6, I (y.1 : Nat))]) (fun y => SpanAt (L ++ (x.steps ++ M)) L y.1 y.2) (fun y => y.1) (L.length + x.steps.length, [x]) ?_ ?_
  · refine ⟨?_, ⟨by dsimp only; omega, ?_, ⟨hw, trivial⟩⟩⟩
    · (simp only [xe, xj, Nat.reduceEqDiff]; (try simp [view, viewL_map]); (try omega))
    · dsimp only
      have h1 : L ++ (x.steps ++ M) = (L ++ x.steps) ++ M := by simp
      rw [h1, List.take_left' (by simp)]
      simp [flat]
  rintro ⟨k, ys⟩ hsp
  have hle := hsp.le
  have hyl := hsp.len
  dsimp only at hsp hle hyl ⊢
  simp only [envOf]
  generalize he : L ++ (x.steps ++ M) = e at *
  cases ys with
  | nil =>
    have := hsp.nil
    subst this
    repeat' (first | exact hb.elim | refine wS fun K hK => ?_ | refine wB ?_ | refine uR hΓ ?_ | refine uD hΓ fun B hB => ?_ | ((repeat ((fail_if_success (refine hK _ ?_)); clear hK K)); refine hK _ ?_; clear hK K) | refine u1 ?_ | refine uC (fun hb => ?_) fun hb => ?_ | refine u2 (fun hc => ?_) fun hc => ?_ | refine wI ?_ | refine ex_idx (by omega) ?_ | exact True.intro | fail)
    · simp at hb
    · simp [Try.results42, RetOK, RetP, backA, upd_at, plainB, getP, isOwn, anyOwn, isP]
  | cons y r =>
    obtain ⟨j, rfl, hop, htk, hsp'⟩ := hsp.cons
    have hj : j < e.length := by omega
    have e1 : ((j + 1 : Nat) : Int) - 1 = (j : Int) := by omega
    have hpl : 0 < (y :: r).length := by simp
    have e2 : (((y :: r).length : Nat) : Int) - 1 + ((takesN e[j] : Nat) : Int) = (((y.kids ++ r).length : Nat) : Int) := by
      have h1 : takesN e[j] = y.kids.length := by rw [← htk, ← hop, nth_getElem hj]
      rw [h1, List.length_append, List.length_cons]; omega
    have htl := takesN_le e[j]
    generalize hn0 : (y :: r).length = n0 at *
    repeat' (first | refine wS fun K hK => ?_ | refine wB ?_ | ((first | refine wR hΓ ?_ | refine wD hΓ fun B hB => ?_); simp (maxSteps := 2000000) only [go_sem, e1]) | ((repeat ((fail_if_success (refine hK _ ?_)); clear hK K)); refine hK _ ?_; clear hK K) | (refine w1 ?_; simp only [xs, xi, Nat.reduceEqDiff, reduceCtorEq]) | (refine wC (fun hb => ?_) fun hb => ?_ <;> (try simp only [xb, reduceCtorEq] at hb)) | (refine w2 (fun hc => ?_) (fun hc => ?_) <;> (try simp only [xc] at hc) <;> (try simp only [go_sem, hc, e1]) <;> (try simp only [xb] at hc)) | refine wI ?_ | refine ex_idx (by omega) ?_ | fail)
    · (first | refine wA rfl _ (⟨_, rfl, rfl⟩) ?_ | refine dA rfl _ (⟨_, rfl, rfl⟩) ?_); simp (maxSteps := 2000000) only [go_sem]
      repeat' (first | refine wS fun K hK => ?_ | refine wB ?_ | ((first | refine wR hΓ ?_ | refine wD hΓ fun B hB => ?_); simp (maxSteps := 2000000) only [go_sem, e1]) | ((repeat ((fail_if_success (refine hK _ ?_)); clear hK K)); refine hK _ ?_; clear hK K) | (refine w1 ?_; simp only [xs, xi, Nat.reduceEqDiff, reduceCtorEq]) | (refine wC (fun hb => ?_) fun hb => ?_ <;> (try simp only [xb, reduceCtorEq] at hb)) | (refine w2 (fun hc => ?_) (fun hc => ?_) <;> (try simp only [xc] at hc) <;> (try simp only [go_sem, hc, e1]) <;> (try simp only [xb] at hc)) | refine wI ?_ | refine ex_idx (by omega) ?_ | fail)
      rw [e2]
      exact ⟨(j, y.kids ++ r), by (simp only [xe, xj, Nat.reduceEqDiff]; (try simp [view, viewL_map]); (try omega)), hsp', by dsimp only; omega⟩
    · omega

def halvesR (args : List AV) (r : AV) : Prop := ∃ (a b : Ex) (n : Int), args = [ints (a.steps ++ (b.steps ++ [n]))] ∧ a.wf ∧ b.wf ∧ (a.steps ++ (b.steps ++ [n])).length ≤ 1099511627776 ∧ r = .tup [ints a.steps, ints b.steps]
theorem l2Halves_ctr : CtrOK Try.prog 31 (pureC halvesR) := by
  refine ctr_pure' Try.func31 rfl rfl Try.ntmps31 ?_
  rintro _ _ ⟨a, b, n, rfl, hwa, hwb, hl, rfl⟩
  refine ⟨by simp, fun κ hκ => ?_⟩
  have hbig := bigW_gt
  rw [argEnv_eq]
  simp only [envA]
  have hΓ := ctxOf_ok (P := Try.prog) (cx l2Span_ctr <| cx0)
  have hlen : (a.steps ++ (b.steps ++ [n])).length = a.steps.length + b.steps.length + 1 := by simp only [List.length_append, List.length_cons, List.length_nil]; omega
  have hpa := a.steps_pos
  have hpb := b.steps_pos
  have e1 : (((a.steps ++ (b.steps ++ [n])).length : Nat) : Int) - 1 - 1 = ((a.steps.length + b.steps.length : Nat) - 1 : Int) := by omega
  have t1 : (a.steps ++ (b.steps ++ [n])).take a.steps.length = a.steps := List.take_left
  have t2 : ((a.steps ++ (b.steps ++ [n])).take (a.steps.length + b.steps.length)).drop a.steps.length = b.steps := by
    rw [← List.append_assoc, List.take_left' (by simp), List.drop_left]
  repeat' (first | refine wS fun K hK => ?_ | refine wB ?_ | ((first | refine wR hΓ ?_ | refine wD hΓ fun B hB => ?_); simp (maxSteps := 2000000) only [go_sem, e1]) | ((repeat ((fail_if_success (refine hK _ ?_)); clear hK K)); refine hK _ ?_; clear hK K) | (refine w1 ?_; simp only [xs, xi, Nat.reduceEqDiff, reduceCtorEq]) | (refine wC (fun hb => ?_) fun hb => ?_ <;> (try simp only [xb, reduceCtorEq] at hb)) | (refine w2 (fun hc => ?_) (fun hc => ?_) <;> (try simp only [xc] at hc) <;> (try simp only [go_sem, hc, e1]) <;> (try simp only [xb] at hc)) | refine wI ?_ | refine ex_idx (by omega) ?_ | fail)
  (first | refine wA rfl _ (⟨a.steps, [n], b, rfl, hwb, hl, rfl⟩) ?_ | refine dA rfl _ (⟨a.steps, [n], b, rfl, hwb, hl, rfl⟩) ?_); simp (maxSteps := 2000000) only [go_sem]
  repeat' (first | exact hb.elim | refine wS fun K hK => ?_ | refine wB ?_ | refine uR hΓ ?_ | refine uD hΓ fun B hB => ?_ | ((repeat ((fail_if_success (refine hK _ ?_)); clear hK K)); refine hK _ ?_; clear hK K) | refine u1 ?_ | refine uC (fun hb => ?_) fun hb => ?_ | refine u2 (fun hc => ?_) fun hc => ?_ | refine wI ?_ | refine ex_idx (by omega) ?_ | exact True.intro | fail)
  simp only [← List.map_take, ← List.map_drop, t1, t2, Int.toNat_natCast, List.take_length, List.drop_zero]
  rw [Try.results31]
  refine ⟨ints a.steps, ints b.steps, rfl, by decide, rfl, rfl, .inl ?_, .inl ?_⟩
  · simp [upd_at, ← List.map_take, t1]
  · simp only [upd_at, if_true, if_false, Nat.reduceEqDiff]
    rw [show (((a.steps ++ (b.steps ++ [n])).length : Nat) - 1 : Int).toNat = a.steps.length + b.steps.length by omega, t2]

def joinR (args : List AV) (r : AV) : Prop := ∃ (a b : List Int) (n : Int), args = [ints a, ints b, I n] ∧ a.length ≤ 274877906944 ∧ b.length ≤ 274877906944 ∧ r = oints (a ++ (b ++ [n]))
theorem l2Join_ctr : CtrOK Try.prog 37 (pureC joinR) := by
  refine ctr_pure' Try.func37 rfl rfl Try.ntmps37 ?_
  rintro _ _ ⟨a, b, n, rfl, ha, hb0, rfl⟩
  refine ⟨by simp, fun κ hκ => ?_⟩
  have hbig := bigW_gt
  rw [argEnv_eq]
  simp only [envA]
  have hΓ := noCtx_ok Try.prog
  repeat' (first | exact hb.elim | refine wS fun K hK => ?_ | refine wB ?_ | refine uR hΓ ?_ | refine uD hΓ fun B hB => ?_ | ((repeat ((fail_if_success (refine hK _ ?_)); clear hK K)); refine hK _ ?_; clear hK K) | refine u1 ?_ | refine uC (fun hb => ?_) fun hb => ?_ | refine u2 (fun hc => ?_) fun hc => ?_ | refine wI ?_ | refine ex_idx (by omega) ?_ | exact True.intro | fail)
  have : List.map I a ++ List.map I b ++ [I n] = List.map I (a ++ (b ++ [n])) := by simp
  rw [this]
  simp [Try.results37, RetOK, RetP, backA, upd_at, plainB, getP, isOwn, anyOwn, isP]

theorem addL_find {t : List Int} : ∀ {l : LL} {k : Nat}, k ≤ l.length → (∀ i (h : i < l.length), i < k → lexLt l[i] t = true) → (∀ h : k < l.length, lexLt l[k] t = false) →
    addL t l = l.take k ++ addL t (l.drop k)
  | l, 0, _, _, _ => by simp
  | [], k + 1, hk, _, _ => by simp at hk
  | x :: r, k + 1, hk, h1, h2 => by
    have hx := h1 0 (by simp) (by omega)
    simp only [List.getElem_cons_zero] at hx
    have ih := addL_find (t := t) (l := r) (k := k) (by simpa using hk) (fun i hi hik => by have := h1 (i + 1) (by simpa using hi) (by omega); simpa using this) (fun h => by have := h2 (by simpa using h); simpa using this)
    rw [addL, if_pos hx, ih]
    simp
theorem addL_has {t : List Int} {l : LL} {k : Nat} (hk : k < l.length) (h1 : ∀ i (h : i < l.length), i < k → lexLt l[i] t = true) (he : l[k] = t) : addL t l = l := by
  rw [addL_find (k := k) (by omega) h1 (fun _ => by rw [he]; exact lexLt_irrefl t), List.drop_eq_getElem_cons hk, addL, he, lexLt_irrefl, if_neg (by simp), if_pos rfl, ← he, ← List.drop_eq_getElem_cons hk, List.take_append_drop]
theorem addL_ins {t : List Int} {l : LL} {k : Nat} (hk : k ≤ l.length) (h1 : ∀ i (h : i < l.length), i < k → lexLt l[i] t = true) (h2 : ∀ h : k < l.length, lexLt l[k] t = false ∧ l[k] ≠ t) : addL t l = l.take k ++ [t] ++ l.drop k := by
  rw [addL_find hk h1 fun h => (h2 h).1]
  by_cases hkl : k < l.length
  · rw [List.drop_eq_getElem_cons hkl, addL, (h2 hkl).1, if_neg (by simp), if_neg (h2 hkl).2]; simp
  · rw [List.drop_eq_nil_of_le (by omega), addL]; simp

def addR (args : List AV) (r : AV) : Prop := ∃ (l : LL) (t : List Int), args = [rows l, ints t] ∧ l.length ≤ 1048576 ∧ (∀ x ∈ l, x.length ≤ 1099511627776) ∧ t.length ≤ 1099511627776 ∧ r = rows (addL t l)
theorem l3Add_ctr : CtrOK Try.prog 32 (pureC addR) := by
  refine ctr_pure' Try.func32 rfl rfl Try.ntmps32 ?_
  rintro _ _ ⟨l, t, rfl, hl, hx, ht, rfl⟩
  refine ⟨by simp, fun κ hκ => ?_⟩
  have hbig := bigW_gt
  rw [argEnv_eq]
  simp only [envA]
  have hΓ := ctxOf_ok (P := Try.prog) (cx l1Same_ctr <| cx l1Less_ctr <| cx0)
  repeat' (first | exact hb.elim | refine wS fun K hK => ?_ | refine wB ?_ | refine uR hΓ ?_ | refine uD hΓ fun B hB => ?_ | ((repeat ((fail_if_success (refine hK _ ?_)); clear hK K)); refine hK _ ?_; clear hK K) | refine u1 ?_ | refine uC (fun hb => ?_) fun hb => ?_ | refine u2 (fun hc => ?_) fun hc => ?_ | refine wI ?_ | refine ex_idx (by omega) ?_ | exact True.intro | fail)
  refine CW.loop (ι := Nat) (fun k => [(0, rows l), (1, ints t), (5, I k)]) (fun k => k ≤ l.length ∧ ∀ i (h : i < l.length), i < k → lexLt l[i] t = true) (fun k => l.length - k) 0 ?_ ?_
  · exact ⟨by (simp only [xe, xj, Nat.reduceEqDiff]; (try simp [view, viewL_map]); (try omega)), by omega, fun i _ h => by omega⟩
  rintro k ⟨hk, hlt⟩
  simp only [envOf]
  repeat' (first | exact hb.elim | refine wS fun K hK => ?_ | refine wB ?_ | refine uR hΓ ?_ | refine uD hΓ fun B hB => ?_ | ((repeat ((fail_if_success (refine hK _ ?_)); clear hK K)); refine hK _ ?_; clear hK K) | refine u1 ?_ | refine uC (fun hb => ?_) fun hb => ?_ | refine u2 (fun hc => ?_) fun hc => ?_ | refine wI ?_ | refine ex_idx (by omega) ?_ | exact True.intro | fail)
  · have hxk := hx _ (List.getElem_mem (show k < l.length by omega))
    (first | refine wA rfl _ (⟨_, _, rfl, hxk, ht, rfl⟩) ?_ | refine dA rfl _ (⟨_, _, rfl, hxk, ht, rfl⟩) ?_); simp (maxSteps := 2000000) only [go_sem]
    repeat' (first | exact hb.elim | refine wS fun K hK => ?_ | refine wB ?_ | refine uR hΓ ?_ | refine uD hΓ fun B hB => ?_ | ((repeat ((fail_if_success (refine hK _ ?_)); clear hK K)); refine hK _ ?_; clear hK K) | refine u1 ?_ | refine uC (fun hb => ?_) fun hb => ?_ | refine u2 (fun hc => ?_) fun hc => ?_ | refine wI ?_ | refine ex_idx (by omega) ?_ | exact True.intro | fail)
    · exact ⟨k + 1, by (simp only [xe, xj, Nat.reduceEqDiff]; (try simp [view, viewL_map]); (try omega)), ⟨by omega, fun i hi hik => by
        by_cases hik' : i < k
        · exact hlt i hi hik'
        · obtain rfl : i = k := by omega
          assumption⟩, by omega⟩
    · (first | refine wA rfl _ (⟨_, _, rfl, hxk, ht, rfl⟩) ?_ | refine dA rfl _ (⟨_, _, rfl, hxk, ht, rfl⟩) ?_); simp (maxSteps := 2000000) only [go_sem]
      repeat' (first | exact hb.elim | refine wS fun K hK => ?_ | refine wB ?_ | refine uR hΓ ?_ | refine uD hΓ fun B hB => ?_ | ((repeat ((fail_if_success (refine hK _ ?_)); clear hK K)); refine hK _ ?_; clear hK K) | refine u1 ?_ | refine uC (fun hb => ?_) fun hb => ?_ | refine u2 (fun hc => ?_) fun hc => ?_ | refine wI ?_ | refine ex_idx (by omega) ?_ | exact True.intro | fail)
      · rw [addL_has (k := k) (by omega) hlt (by assumption)]
        simp [Try.results32, RetOK, RetP, backA, upd_at, plainB, getP, isOwn, anyOwn, isP]
      · rw [addL_ins (k := k) (by omega) hlt fun h => ⟨by assumption, by assumption⟩]
        simp [Try.results32, RetOK, RetP, backA, upd_at, plainB, getP, isOwn, anyOwn, isP]
        simp [view, viewL_map, List.map_take, List.map_drop, view_ints, take_map_len]
    · omega
  · omega
  · rw [addL_ins (k := k) (by omega) hlt fun h => by omega]
    simp [Try.results32, RetOK, RetP, backA, upd_at, plainB, getP, isOwn, anyOwn, isP]
    simp [view, viewL_map, List.map_take, List.map_drop, view_ints, take_map_len]

end Go.Proofs.Ytehdfifncbokeaa

namespace Go.Proofs.Ytehdfifncbokeaa
set_option linter.unusedSimpArgs false
set_option linter.unusedVariables false
set_option maxRecDepth 8000
set_option maxHeartbeats 2000000
open Go Go.RowKit AV

theorem steps_last (x : Ex) : ∃ L, x.steps = L ++ [x.op] := ⟨flat (x.kids ++ []), by have := flat_kids x []; simpa [flat] using this⟩
theorem steps_get {x : Ex} (h : x.steps.length - 1 < x.steps.length) : x.steps[x.steps.length - 1] = x.op := by
  obtain ⟨L, e⟩ := steps_last x
  simp [e]
end Go.Proofs.Ytehdfifncbokeaa

namespace Go.Proofs.Ytehdfifncbokeaa
set_option linter.unusedSimpArgs false
set_option linter.unusedVariables false
set_option maxRecDepth 8000
set_option maxHeartbeats 2000000
open Go Go.RowKit AV

theorem addsL_bd {l m : LL} {A B : Nat} (hl : l.length ≤ A) (hm : m.length ≤ B) {C : Nat} (h1 : ∀ t ∈ l, t.length ≤ C) (h2 : ∀ t ∈ m, t.length ≤ C) : (addsL l m).length ≤ A + B ∧ ∀ t ∈ addsL l m, t.length ≤ C := by
  refine ⟨by have := addsL_length m l; omega, fun t ht => ?_⟩
  rcases (mem_addsL t m l).1 ht with h | h
  · exact h1 t h
  · exact h2 t h
theorem take_bd {l : LL} {k C : Nat} (h : ∀ t ∈ l, t.length ≤ C) : ∀ t ∈ l.take k, t.length ≤ C := fun t ht => h t (List.mem_of_mem_take ht)
theorem addsL_take (l m : LL) {k : Nat} (h : k < m.length) : addsL l (m.take (k + 1)) = addL m[k] (addsL l (m.take k)) := by
  rw [List.take_succ_eq_append_getElem h, addsL_snoc]

end Go.Proofs.Ytehdfifncbokeaa

namespace Go.Proofs.Ytehdfifncbokeaa
set_option linter.unusedSimpArgs false
set_option linter.unusedVariables false
set_option maxRecDepth 8000
set_option maxHeartbeats 2000000
open Go Go.RowKit AV

end Go.Proofs.Ytehdfifncbokeaa
