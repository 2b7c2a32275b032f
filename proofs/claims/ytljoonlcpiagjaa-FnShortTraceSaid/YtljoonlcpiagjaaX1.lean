/- ShortTrace of the reference, walked by the engine. -/
import Derived.Test.YtljoonlcpiagjaaGrpU
import Derived.Test.YtljoonlcpiagjaaT1
import Derived.Test.YtljoonlcpiagjaaGrpD
import Derived.Test.YtljoonlcpiagjaaGrpC
import Derived.Test.YtljoonlcpiagjaaGrpN
import Derived.Test.YtljoonlcpiagjaaEngMin
namespace Go.Proofs.Ytljoonlcpiagjaa
set_option linter.unusedSimpArgs false
set_option linter.unusedVariables false
set_option maxRecDepth 8000
set_option maxHeartbeats 2000000
open Go Go.RowKit AV

noncomputable def shTD (D : AutoD) : List Int := if autoOKB D = true then shT (behF D) 1 (endF D) else []
noncomputable def shBD (D : AutoD) : Bool := autoOKB D && shB (behF D) 1 (endF D)
def shortR (args : List AV) (r : AV) : Prop := ∃ D : AutoD, args = [autA D] ∧ D.ends.length ≤ 4611686018427387904 ∧ D.next.length ≤ 4611686018427387904 ∧ (∀ x ∈ D.next, x.length ≤ 4611686018427387904) ∧ r = .tup [oints (shTD D), .bool (shBD D)]
theorem shTD_no {D : AutoD} (h : autoOKB D = false) : shTD D = [] := if_neg (by simp [h])
theorem shBD_no {D : AutoD} (h : autoOKB D = false) : shBD D = false := by unfold shBD; rw [h]; rfl
theorem shD_yes {D : AutoD} (h : autoOKB D = true) {t : List Int} {ok : Bool} (hs : ShR (behF D) 1 (endF D) t ok) : shTD D = t ∧ shBD D = ok := by
  obtain ⟨rfl, rfl⟩ := hs.eq
  unfold shTD shBD
  rw [h]; exact ⟨rfl, rfl⟩
def stD (D : AutoD) : Nat → Nat → Nat := stA (behF D) 1
def NZ (D : AutoD) (n c : Nat) : Prop := stD D n c ≠ 0
theorem stD_lt {D : AutoD} (h : AutoOK D) : ∀ n c, stD D n c < 2 ^ D.ends.length
  | 0, _ => two_le h
  | n + 1, c => h.behF_lt _ (by omega)
theorem lvD_len {D : AutoD} (hD : AutoOK D) {n : Nat} {L : List Nat} (h : (L.map (stD D n)).Nodup) : L.length ≤ 1024 := by
  have := nodup_len (m := List.range 1024) h fun x hx => by
    obtain ⟨c, _, rfl⟩ := List.mem_map.1 hx
    have := stD_lt hD n c
    have := hD.pow_le
    rw [List.mem_range]; omega
  simpa using this
theorem accD_nz {D : AutoD} {n c : Nat} (h : AccW (behF D) 1 (endF D) n c) : NZ D n (c / 4) := by
  intro e
  have h2 := h.2
  rw [show stA (behF D) 1 n (c / 4) = 0 from e, endF_zero] at h2
  simp at h2
theorem bestD_atom {σ : Type} {stp : σ → Nat → σ} {s0 : σ} {fin : σ → Nat} {R : Nat → Prop} {n : Nat} {L : List Nat} {i a : Nat} {best : List Int} (hL : LvW stp s0 R n L) (h : BestW stp s0 fin n L i (a + 1) best) (hi : i < L.length) (ha : a < 4) :
    BestW stp s0 fin n L i a (if (fin (stA stp s0 n L[i])).testBit a = true ∧ (best.length = 0 ∨ lexLt (trcL n (L[i] * 4 + a)) best = true) then trcL n (L[i] * 4 + a) else best) := by
  cases ht : (fin (stA stp s0 n L[i])).testBit a with
  | false => rw [if_neg (fun h => by simp at h)]; exact h.skip hi ht
  | true =>
    have := h.step hL hi ha ht
    by_cases g : best.length = 0 ∨ lexLt (trcL n (L[i] * 4 + a)) best = true
    · rw [if_pos g] at this; rw [if_pos ⟨rfl, g⟩]; exact this
    · rw [if_neg g] at this; rw [if_neg (fun h => g h.2)]; exact this

theorem specShortTrace_ctr : CtrOK Try.prog 47 (pureC shortR) := by
  refine ctr_pure' Try.func47 rfl rfl Try.ntmps47 ?_
  rintro _ _ ⟨D, rfl, h1, h2, h3, rfl⟩
  refine ⟨by simp, fun κ hκ => ?_⟩
  have hbig := bigW_gt
  rw [argEnv_eq]
  simp only [envA]
  have hΓ := ctxOf_ok (P := Try.prog) (cx specAutoValid_ctr <| cx l5Ends_ctr <| cx l1Bit_ctr <| cx l1Less_ctr <| cx l5Step_ctr <| cx l1Has_ctr <| cx0)
  simp only [autA]
  repeat' (first | refine wS fun K hK => ?_ | refine wB ?_ | ((first | refine wR hΓ ?_ | refine wD hΓ fun B hB => ?_); simp (config := { maxSteps := 2000000 }) only [go_sem]) | ((repeat ((fail_if_success (refine hK _ ?_)); clear hK K)); refine hK _ ?_; clear hK K) | (refine w1 ?_; simp only [xs, xi, Nat.reduceEqDiff, reduceCtorEq]) | (refine wC (fun hb => ?_) fun hb => ?_ <;> (try simp only [xb, reduceCtorEq] at hb)) | (refine w2 (fun hc => ?_) (fun hc => ?_) <;> (try simp only [xc] at hc) <;> (try simp only [go_sem, hc]) <;> (try simp only [xb] at hc)) | refine wI ?_ | refine ex_idx (by omega) ?_ | fail)
  obtain ⟨T, hT⟩ : ∃ T, autoOKB D = T := ⟨_, rfl⟩
  (first | refine wA rfl ?_ ?_ ?_ | refine dA rfl ?_ ?_ ?_); exact (.bool T); exact (⟨D.ends, D.next, rfl, h1, h2, h3, by rw [← hT]⟩); simp (config := { maxSteps := 2000000 }) only [go_sem]
  cases T with
  | false =>
    repeat' (first | refine wS fun K hK => ?_ | refine wB ?_ | ((first | refine wR hΓ ?_ | refine wD hΓ fun B hB => ?_); simp (config := { maxSteps := 2000000 }) only [go_sem]) | ((repeat ((fail_if_success (refine hK _ ?_)); clear hK K)); refine hK _ ?_; clear hK K) | (refine w1 ?_; simp only [xs, xi, Nat.reduceEqDiff, reduceCtorEq]) | (refine wC (fun hb => ?_) fun hb => ?_ <;> (try simp only [xb, reduceCtorEq] at hb)) | (refine w2 (fun hc => ?_) (fun hc => ?_) <;> (try simp only [xc] at hc) <;> (try simp only [go_sem, hc]) <;> (try simp only [xb] at hc)) | refine wI ?_ | refine ex_idx (by omega) ?_ | fail)
    rw [shTD_no hT, shBD_no hT]
    (rw [Try.results47]; refine ⟨_, _, rfl, by decide, rfl, rfl, ?_, ?_⟩ <;> simp [upd_at])
  | true =>
    have hok := autoOKB_true.1 hT
    have hp := hok.pow_le
    have hst := stD_lt hok
    repeat' (first | refine wS fun K hK => ?_ | refine wB ?_ | ((first | refine wR hΓ ?_ | refine wD hΓ fun B hB => ?_); simp (config := { maxSteps := 2000000 }) only [go_sem]) | ((repeat ((fail_if_success (refine hK _ ?_)); clear hK K)); refine hK _ ?_; clear hK K) | (refine w1 ?_; simp only [xs, xi, Nat.reduceEqDiff, reduceCtorEq]) | (refine wC (fun hb => ?_) fun hb => ?_ <;> (try simp only [xb, reduceCtorEq] at hb)) | (refine w2 (fun hc => ?_) (fun hc => ?_) <;> (try simp only [xc] at hc) <;> (try simp only [go_sem, hc]) <;> (try simp only [xb] at hc)) | refine wI ?_ | refine ex_idx (by omega) ?_ | fail)
    refine CW.loop (ι := Nat × List Nat) (fun y => [(1, box [ints D.ends, rows D.next]), (4, oorows (y.2.map (wdL y.1))), (5, oints (y.2.map fun c => (stD D y.1 c : Int))), (6, I y.1)]) (fun y => y.1 ≤ 21 ∧ LvW (behF D) 1 (NZ D y.1) y.1 y.2 ∧ NoneW (behF D) 1 (endF D) y.1) (fun y => 21 - y.1) (0, [0]) ?_ ?_
    · exact ⟨by ((simp only [xe, xj, Nat.reduceEqDiff]; (try simp [view, viewL_map]); (try omega)); try simp [wdL, stD, stA]), by omega, LvW.start _, NoneW.zero _ _ _⟩
    rintro ⟨n, L⟩ ⟨hn, hL, hN⟩
    simp only [envOf]
    dsimp only at hn hL hN
    have hLl := lvD_len hok hL.inj
    have hR : ∀ c, AccW (behF D) 1 (endF D) n c → NZ D n (c / 4) := fun c h => accD_nz h
    obtain ⟨W, hW⟩ : ∃ W, L.map (wdL n) = W := ⟨_, rfl⟩
    obtain ⟨S, hS⟩ : ∃ S, L.map (fun c => (stD D n c : Int)) = S := ⟨_, rfl⟩
    have hWl : W.length = L.length := by rw [← hW]; simp
    have hSl : S.length = L.length := by rw [← hS]; simp
    have hWk : ∀ k (h : k < W.length), W[k] = wdL n (L[k]'(by omega)) := by subst hW; simp
    have hSk : ∀ k (h : k < S.length), S[k] = ((stD D n (L[k]'(by omega)) : Nat) : Int) := by subst hS; simp
    rw [hW, hS]
    repeat' (first | refine wS fun K hK => ?_ | refine wB ?_ | ((first | refine wR hΓ ?_ | refine wD hΓ fun B hB => ?_); simp (config := { maxSteps := 2000000 }) only [go_sem]) | ((repeat ((fail_if_success (refine hK _ ?_)); clear hK K)); refine hK _ ?_; clear hK K) | (refine w1 ?_; simp only [xs, xi, Nat.reduceEqDiff, reduceCtorEq]) | (refine wC (fun hb => ?_) fun hb => ?_ <;> (try simp only [xb, reduceCtorEq] at hb)) | (refine w2 (fun hc => ?_) (fun hc => ?_) <;> (try simp only [xc] at hc) <;> (try simp only [go_sem, hc]) <;> (try simp only [xb] at hc)) | refine wI ?_ | refine ex_idx (by omega) ?_ | fail)
    rotate_left
    · have hN21 : NoneW (behF D) 1 (endF D) 21 := by
        have : n = 21 := by omega
        subst this; exact hN
      obtain ⟨e1, e2⟩ := shD_yes hT (.inr ⟨rfl, rfl, hN21⟩)
      rw [e1, e2]
      (rw [Try.results47]; refine ⟨_, _, rfl, by decide, rfl, rfl, ?_, ?_⟩ <;> simp [upd_at])
    refine CW.loop (ι := Nat × List Int) (fun y => [(1, box [ints D.ends, rows D.next]), (4, oorows W), (5, oints S), (6, I n), (7, oints y.2), (8, I y.1)]) (fun y => y.1 ≤ L.length ∧ BestW (behF D) 1 (endF D) n L y.1 4 y.2) (fun y => L.length - y.1) (0, []) ?_ ?_
    · exact ⟨by (simp only [xe, xj, Nat.reduceEqDiff]; (try simp [view, viewL_map]); (try omega)), by omega, BestW.start _ _⟩
    rintro ⟨k, best⟩ ⟨hk, hB0⟩
    dsimp only at hk hB0
    simp only [envOf]
    have hbl := hB0.len
    repeat' (first | refine wS fun K hK => ?_ | refine wB ?_ | ((first | refine wR hΓ ?_ | refine wD hΓ fun B hB => ?_); simp (config := { maxSteps := 2000000 }) only [go_sem]) | ((repeat ((fail_if_success (refine hK _ ?_)); clear hK K)); refine hK _ ?_; clear hK K) | (refine w1 ?_; simp only [xs, xi, Nat.reduceEqDiff, reduceCtorEq]) | (refine wC (fun hb => ?_) fun hb => ?_ <;> (try simp only [xb, reduceCtorEq] at hb)) | (refine w2 (fun hc => ?_) (fun hc => ?_) <;> (try simp only [xc] at hc) <;> (try simp only [go_sem, hc]) <;> (try simp only [xb] at hc)) | refine wI ?_ | refine ex_idx (by omega) ?_ | fail)
    · have hkL : k < L.length := by omega
      have hWn : (W[k]'(by omega)).length = 2 * n := by rw [hWk]; exact wdL_len _ _
      refine CW.loop (ι := Nat × List Int) (fun y => [(1, box [ints D.ends, rows D.next]), (4, oorows W), (5, oints S), (6, I n), (7, oints y.2), (8, I k), (9, I ((y.1 : Int) - 1))]) (fun y => y.1 ≤ 4 ∧ BestW (behF D) 1 (endF D) n L k y.1 y.2) (fun y => y.1) (4, best) ?_ ?_
      · exact ⟨by (simp only [xe, xj, Nat.reduceEqDiff]; (try simp [view, viewL_map]); (try omega)), by omega, hB0⟩
      rintro ⟨a, best⟩ ⟨ha, hB⟩
      dsimp only at ha hB
      simp only [envOf]
      have hbl := hB.len
      cases a with
      | zero =>
        repeat' (first | refine wS fun K hK => ?_ | refine wB ?_ | ((first | refine wR hΓ ?_ | refine wD hΓ fun B hB => ?_); simp (config := { maxSteps := 2000000 }) only [go_sem]) | ((repeat ((fail_if_success (refine hK _ ?_)); clear hK K)); refine hK _ ?_; clear hK K) | (refine w1 ?_; simp only [xs, xi, Nat.reduceEqDiff, reduceCtorEq]) | (refine wC (fun hb => ?_) fun hb => ?_ <;> (try simp only [xb, reduceCtorEq] at hb)) | (refine w2 (fun hc => ?_) (fun hc => ?_) <;> (try simp only [xc] at hc) <;> (try simp only [go_sem, hc]) <;> (try simp only [xb] at hc)) | refine wI ?_ | refine ex_idx (by omega) ?_ | fail)
        · exfalso; omega
        · exact ⟨(k + 1, best), by (simp only [xe, xj, Nat.reduceEqDiff]; (try simp [view, viewL_map]); (try omega)), ⟨by show k + 1 ≤ _; omega, hB.word⟩, by show L.length - (k + 1) < _; omega⟩
      | succ b =>
        have e1 : ((b + 1 : Nat) : Int) - 1 = (b : Int) := by omega
        rw [e1]
        have hB' := bestD_atom hL hB hkL (by omega)
        obtain ⟨X, hX⟩ : ∃ X, trcL n (L[k] * 4 + b) = X := ⟨_, rfl⟩
        have hXe : X = W[k] ++ [(b : Int)] := by rw [← hX, trcL_mk n _ _ (by omega), hWk]
        have hXl : X.length = 2 * n + 1 := by rw [← hX, trcL_len]
        obtain ⟨x, hx⟩ : ∃ x, stD D n L[k] = x := ⟨_, rfl⟩
        have hSx : S[k] = (x : Int) := by rw [hSk, hx]
        have hxl := hst n L[k]
        rw [hx] at hxl
        have hyl := hok.endF_lt x
        obtain ⟨y, hy⟩ : ∃ y, endF D x = y := ⟨_, rfl⟩
        rw [hX, show stA (behF D) 1 n L[k] = x from hx, hy] at hB'
        repeat' (first | refine wS fun K hK => ?_ | refine wB ?_ | ((first | refine wR hΓ ?_ | refine wD hΓ fun B hB => ?_); simp (config := { maxSteps := 2000000 }) only [go_sem]) | ((repeat ((fail_if_success (refine hK _ ?_)); clear hK K)); refine hK _ ?_; clear hK K) | (refine w1 ?_; simp only [xs, xi, Nat.reduceEqDiff, reduceCtorEq]) | (refine wC (fun hb => ?_) fun hb => ?_ <;> (try simp only [xb, reduceCtorEq] at hb)) | (refine w2 (fun hc => ?_) (fun hc => ?_) <;> (try simp only [xc] at hc) <;> (try simp only [go_sem, hc]) <;> (try simp only [xb] at hc)) | refine wI ?_ | refine ex_idx (by omega) ?_ | fail)
        (first | refine wA rfl ?_ ?_ ?_ | refine dA rfl ?_ ?_ ?_); exact (I ((y : Nat) : Int)); exact (⟨D, x, by rw [hSx]; rfl, hok, by omega, by rw [hy]⟩); simp (config := { maxSteps := 2000000 }) only [go_sem]
        repeat' (first | refine wS fun K hK => ?_ | refine wB ?_ | ((first | refine wR hΓ ?_ | refine wD hΓ fun B hB => ?_); simp (config := { maxSteps := 2000000 }) only [go_sem]) | ((repeat ((fail_if_success (refine hK _ ?_)); clear hK K)); refine hK _ ?_; clear hK K) | (refine w1 ?_; simp only [xs, xi, Nat.reduceEqDiff, reduceCtorEq]) | (refine wC (fun hb => ?_) fun hb => ?_ <;> (try simp only [xb, reduceCtorEq] at hb)) | (refine w2 (fun hc => ?_) (fun hc => ?_) <;> (try simp only [xc] at hc) <;> (try simp only [go_sem, hc]) <;> (try simp only [xb] at hc)) | refine wI ?_ | refine ex_idx (by omega) ?_ | fail)
        (first | refine wA rfl ?_ ?_ ?_ | refine dA rfl ?_ ?_ ?_); exact (I ((bitN y b : Nat) : Int)); exact (⟨y, b, rfl, by omega, rfl⟩); simp (config := { maxSteps := 2000000 }) only [go_sem]
        cases hyb : y.testBit b with
        | false =>
          have hb0 := bitN_f hyb
          rw [if_neg (fun h => by rw [hyb] at h; cases h.1)] at hB'
          repeat' (first | refine wS fun K hK => ?_ | refine wB ?_ | ((first | refine wR hΓ ?_ | refine wD hΓ fun B hB => ?_); simp (config := { maxSteps := 2000000 }) only [go_sem]) | ((repeat ((fail_if_success (refine hK _ ?_)); clear hK K)); refine hK _ ?_; clear hK K) | (refine w1 ?_; simp only [xs, xi, Nat.reduceEqDiff, reduceCtorEq]) | (refine wC (fun hb => ?_) fun hb => ?_ <;> (try simp only [xb, reduceCtorEq] at hb)) | (refine w2 (fun hc => ?_) (fun hc => ?_) <;> (try simp only [xc] at hc) <;> (try simp only [go_sem, hc]) <;> (try simp only [xb] at hc)) | refine wI ?_ | refine ex_idx (by omega) ?_ | fail)
          all_goals try (exfalso; omega)
          exact ⟨(b, best), by (simp only [xe, xj, Nat.reduceEqDiff]; (try simp [view, viewL_map]); (try omega)), ⟨by show b ≤ 4; omega, hB'⟩, by show b < b + 1; omega⟩
        | true =>
          have hb0 := bitN_t hyb
          by_cases hl0 : best.length = 0
          · rw [if_pos ⟨hyb, .inl hl0⟩] at hB'
            repeat' (first | refine wS fun K hK => ?_ | refine wB ?_ | ((first | refine wR hΓ ?_ | refine wD hΓ fun B hB => ?_); simp (config := { maxSteps := 2000000 }) only [go_sem]) | ((repeat ((fail_if_success (refine hK _ ?_)); clear hK K)); refine hK _ ?_; clear hK K) | (refine w1 ?_; simp only [xs, xi, Nat.reduceEqDiff, reduceCtorEq]) | (refine wC (fun hb => ?_) fun hb => ?_ <;> (try simp only [xb, reduceCtorEq] at hb)) | (refine w2 (fun hc => ?_) (fun hc => ?_) <;> (try simp only [xc] at hc) <;> (try simp only [go_sem, hc]) <;> (try simp only [xb] at hc)) | refine wI ?_ | refine ex_idx (by omega) ?_ | fail)
            all_goals try (exfalso; omega)
            exact ⟨(b, X), by (rw [hXe]; (simp only [xe, xj, Nat.reduceEqDiff]; (try simp [view, viewL_map]); (try omega))), ⟨by show b ≤ 4; omega, hB'⟩, by show b < b + 1; omega⟩
          · obtain ⟨l, hlx⟩ : ∃ l, lexLt X best = l := ⟨_, rfl⟩
            repeat' (first | refine wS fun K hK => ?_ | refine wB ?_ | ((first | refine wR hΓ ?_ | refine wD hΓ fun B hB => ?_); simp (config := { maxSteps := 2000000 }) only [go_sem]) | ((repeat ((fail_if_success (refine hK _ ?_)); clear hK K)); refine hK _ ?_; clear hK K) | (refine w1 ?_; simp only [xs, xi, Nat.reduceEqDiff, reduceCtorEq]) | (refine wC (fun hb => ?_) fun hb => ?_ <;> (try simp only [xb, reduceCtorEq] at hb)) | (refine w2 (fun hc => ?_) (fun hc => ?_) <;> (try simp only [xc] at hc) <;> (try simp only [go_sem, hc]) <;> (try simp only [xb] at hc)) | refine wI ?_ | refine ex_idx (by omega) ?_ | fail)
            all_goals try (exfalso; omega)
            (first | refine wA rfl ?_ ?_ ?_ | refine dA rfl ?_ ?_ ?_); exact (.bool l); exact (⟨X, best, by rw [hXe]; simp [view_I, view], by omega, by omega, by rw [hlx]⟩); simp (config := { maxSteps := 2000000 }) only [go_sem]
            cases l with
            | true =>
              rw [if_pos ⟨hyb, .inr hlx⟩] at hB'
              repeat' (first | refine wS fun K hK => ?_ | refine wB ?_ | ((first | refine wR hΓ ?_ | refine wD hΓ fun B hB => ?_); simp (config := { maxSteps := 2000000 }) only [go_sem]) | ((repeat ((fail_if_success (refine hK _ ?_)); clear hK K)); refine hK _ ?_; clear hK K) | (refine w1 ?_; simp only [xs, xi, Nat.reduceEqDiff, reduceCtorEq]) | (refine wC (fun hb => ?_) fun hb => ?_ <;> (try simp only [xb, reduceCtorEq] at hb)) | (refine w2 (fun hc => ?_) (fun hc => ?_) <;> (try simp only [xc] at hc) <;> (try simp only [go_sem, hc]) <;> (try simp only [xb] at hc)) | refine wI ?_ | refine ex_idx (by omega) ?_ | fail)
              exact ⟨(b, X), by (rw [hXe]; (simp only [xe, xj, Nat.reduceEqDiff]; (try simp [view, viewL_map]); (try omega))), ⟨by show b ≤ 4; omega, hB'⟩, by show b < b + 1; omega⟩
            | false =>
              rw [if_neg (fun h => by rcases h.2 with g | g; exact hl0 g; rw [hlx] at g; cases g)] at hB'
              repeat' (first | refine wS fun K hK => ?_ | refine wB ?_ | ((first | refine wR hΓ ?_ | refine wD hΓ fun B hB => ?_); simp (config := { maxSteps := 2000000 }) only [go_sem]) | ((repeat ((fail_if_success (refine hK _ ?_)); clear hK K)); refine hK _ ?_; clear hK K) | (refine w1 ?_; simp only [xs, xi, Nat.reduceEqDiff, reduceCtorEq]) | (refine wC (fun hb => ?_) fun hb => ?_ <;> (try simp only [xb, reduceCtorEq] at hb)) | (refine w2 (fun hc => ?_) (fun hc => ?_) <;> (try simp only [xc] at hc) <;> (try simp only [go_sem, hc]) <;> (try simp only [xb] at hc)) | refine wI ?_ | refine ex_idx (by omega) ?_ | fail)
              exact ⟨(b, best), by (simp only [xe, xj, Nat.reduceEqDiff]; (try simp [view, viewL_map]); (try omega)), ⟨by show b ≤ 4; omega, hB'⟩, by show b < b + 1; omega⟩
    · obtain ⟨c, hc, rfl⟩ := (show BestW (behF D) 1 (endF D) n L k 4 best from hB0).found hL hN hR (by omega) (by omega)
      obtain ⟨e1, e2⟩ := shD_yes hT (.inl ⟨rfl, n, c, by omega, hc, rfl⟩)
      rw [e1, e2]
      (rw [Try.results47]; refine ⟨_, _, rfl, by decide, rfl, rfl, ?_, ?_⟩ <;> simp [upd_at])
    · have hN' := (show BestW (behF D) 1 (endF D) n L k 4 best from hB0).none hL hN hR (by omega) (by omega)
      clear hB0
      refine CW.loop (ι := Nat × List Nat) (fun y => [(1, box [ints D.ends, rows D.next]), (4, oorows W), (5, oints S), (6, I n), (11, oorows (y.2.map (wdL (n + 1)))), (12, oints (y.2.map fun c => (stD D (n + 1) c : Int))), (13, I y.1)]) (fun y => y.1 ≤ L.length ∧ NextW (behF D) 1 (fun x => x = 0) n L y.1 0 y.2) (fun y => L.length - y.1) (0, []) ?_ ?_
      · exact ⟨by (simp only [xe, xj, Nat.reduceEqDiff]; (try simp [view, viewL_map]); (try omega)), by omega, NextW.start _ _ _⟩
      rintro ⟨k, F⟩ ⟨hk, hF0⟩
      dsimp only at hk hF0
      simp only [envOf]
      repeat' (first | refine wS fun K hK => ?_ | refine wB ?_ | ((first | refine wR hΓ ?_ | refine wD hΓ fun B hB => ?_); simp (config := { maxSteps := 2000000 }) only [go_sem]) | ((repeat ((fail_if_success (refine hK _ ?_)); clear hK K)); refine hK _ ?_; clear hK K) | (refine w1 ?_; simp only [xs, xi, Nat.reduceEqDiff, reduceCtorEq]) | (refine wC (fun hb => ?_) fun hb => ?_ <;> (try simp only [xb, reduceCtorEq] at hb)) | (refine w2 (fun hc => ?_) (fun hc => ?_) <;> (try simp only [xc] at hc) <;> (try simp only [go_sem, hc]) <;> (try simp only [xb] at hc)) | refine wI ?_ | refine ex_idx (by omega) ?_ | fail)
      · refine CW.loop (ι := Nat × List Nat) (fun y => [(1, box [ints D.ends, rows D.next]), (4, oorows W), (5, oints S), (6, I n), (11, oorows (y.2.map (wdL (n + 1)))), (12, oints (y.2.map fun c => (stD D (n + 1) c : Int))), (13, I k), (14, I y.1)]) (fun y => y.1 ≤ 12 ∧ NextW (behF D) 1 (fun x => x = 0) n L k y.1 y.2) (fun y => 12 - y.1) (0, F) ?_ ?_
        · exact ⟨by (simp only [xe, xj, Nat.reduceEqDiff]; (try simp [view, viewL_map]); (try omega)), by omega, hF0⟩
        rintro ⟨m, F⟩ ⟨hm, hF⟩
        dsimp only at hm hF
        simp only [envOf]
        have hFl := lvD_len hok hF.inj
        repeat' (first | refine wS fun K hK => ?_ | refine wB ?_ | ((first | refine wR hΓ ?_ | refine wD hΓ fun B hB => ?_); simp (config := { maxSteps := 2000000 }) only [go_sem]) | ((repeat ((fail_if_success (refine hK _ ?_)); clear hK K)); refine hK _ ?_; clear hK K) | (refine w1 ?_; simp only [xs, xi, Nat.reduceEqDiff, reduceCtorEq]) | (refine wC (fun hb => ?_) fun hb => ?_ <;> (try simp only [xb, reduceCtorEq] at hb)) | (refine w2 (fun hc => ?_) (fun hc => ?_) <;> (try simp only [xc] at hc) <;> (try simp only [go_sem, hc]) <;> (try simp only [xb] at hc)) | refine wI ?_ | refine ex_idx (by omega) ?_ | fail)
        · have hkL : k < L.length := by omega
          obtain ⟨x, hx⟩ : ∃ x, stD D n L[k] = x := ⟨_, rfl⟩
          have hSx : S[k] = (x : Int) := by rw [hSk, hx]
          have hxl := hst n L[k]
          rw [hx] at hxl
          have hyl := hok.behF_lt x (show m < 12 by omega)
          have hWn : (W[k]'(by omega)).length = 2 * n := by rw [hWk]; exact wdL_len _ _
          have hst1 : stD D (n + 1) (L[k] * 12 + m) = behF D x m := by rw [← hx]; exact stA_succ _ _ _ _ _ (by omega)
          obtain ⟨y, hy⟩ : ∃ y, behF D x m = y := ⟨_, rfl⟩
          rw [hy] at hyl hst1
          have hwm : wdL (n + 1) (L[k] * 12 + m) = W[k] ++ [((m / 3 : Nat) : Int), ((16 + m % 3 : Nat) : Int)] := by rw [wdL_succ n _ m (by omega), hWk]
          (first | refine wA rfl ?_ ?_ ?_ | refine dA rfl ?_ ?_ ?_); exact (I ((y : Nat) : Int)); exact (⟨D, x, m, by rw [hSx]; rfl, hok, by omega, by omega, by rw [hy]⟩); simp (config := { maxSteps := 2000000 }) only [go_sem]
          have hsk := fun hz => hF.skip hL hkL (m := m) hz
          have had := fun hz hf => hF.add hL hkL (m := m) (by omega) hz hf
          rw [show stA (behF D) 1 (n + 1) (L[k] * 12 + m) = y from hst1] at hsk had
          repeat' (first | refine wS fun K hK => ?_ | refine wB ?_ | ((first | refine wR hΓ ?_ | refine wD hΓ fun B hB => ?_); simp (config := { maxSteps := 2000000 }) only [go_sem]) | ((repeat ((fail_if_success (refine hK _ ?_)); clear hK K)); refine hK _ ?_; clear hK K) | (refine w1 ?_; simp only [xs, xi, Nat.reduceEqDiff, reduceCtorEq]) | (refine wC (fun hb => ?_) fun hb => ?_ <;> (try simp only [xb, reduceCtorEq] at hb)) | (refine w2 (fun hc => ?_) (fun hc => ?_) <;> (try simp only [xc] at hc) <;> (try simp only [go_sem, hc]) <;> (try simp only [xb] at hc)) | refine wI ?_ | refine ex_idx (by omega) ?_ | fail)
          · obtain ⟨R, hR0⟩ : ∃ R, F.map (stD D (n + 1)) = R := ⟨_, rfl⟩
            by_cases hin : ∃ f ∈ F, stA (behF D) 1 (n + 1) f = y
            · have hd : decide ((y : Int) ∈ F.map fun c => (stD D (n + 1) c : Int)) = true := decide_eq_true (by obtain ⟨f, hf, e⟩ := hin; exact List.mem_map.2 ⟨f, hf, by rw [show stD D (n + 1) f = y from e]⟩)
              (first | refine wA rfl ?_ ?_ ?_ | refine dA rfl ?_ ?_ ?_); exact (.bool true); exact (⟨F.map fun c => (stD D (n + 1) c : Int), y, by simp [view_I, view], by simp; omega, by rw [hd]⟩); simp (config := { maxSteps := 2000000 }) only [go_sem]
              repeat' (first | refine wS fun K hK => ?_ | refine wB ?_ | ((first | refine wR hΓ ?_ | refine wD hΓ fun B hB => ?_); simp (config := { maxSteps := 2000000 }) only [go_sem]) | ((repeat ((fail_if_success (refine hK _ ?_)); clear hK K)); refine hK _ ?_; clear hK K) | (refine w1 ?_; simp only [xs, xi, Nat.reduceEqDiff, reduceCtorEq]) | (refine wC (fun hb => ?_) fun hb => ?_ <;> (try simp only [xb, reduceCtorEq] at hb)) | (refine w2 (fun hc => ?_) (fun hc => ?_) <;> (try simp only [xc] at hc) <;> (try simp only [go_sem, hc]) <;> (try simp only [xb] at hc)) | refine wI ?_ | refine ex_idx (by omega) ?_ | fail)
              exact ⟨(m + 1, F), by (simp only [xe, xj, Nat.reduceEqDiff]; (try simp [view, viewL_map]); (try omega)), ⟨by show m + 1 ≤ 12; omega, hsk (.inr hin)⟩, by show 12 - (m + 1) < _; omega⟩
            · have hd : decide ((y : Int) ∈ F.map fun c => (stD D (n + 1) c : Int)) = false := decide_eq_false fun h => by
                obtain ⟨f, hf, e⟩ := List.mem_map.1 h
                exact hin ⟨f, hf, by show stD D (n + 1) f = y; omega⟩
              (first | refine wA rfl ?_ ?_ ?_ | refine dA rfl ?_ ?_ ?_); exact (.bool false); exact (⟨F.map fun c => (stD D (n + 1) c : Int), y, by simp [view_I, view], by simp; omega, by rw [hd]⟩); simp (config := { maxSteps := 2000000 }) only [go_sem]
              repeat' (first | refine wS fun K hK => ?_ | refine wB ?_ | ((first | refine wR hΓ ?_ | refine wD hΓ fun B hB => ?_); simp (config := { maxSteps := 2000000 }) only [go_sem]) | ((repeat ((fail_if_success (refine hK _ ?_)); clear hK K)); refine hK _ ?_; clear hK K) | (refine w1 ?_; simp only [xs, xi, Nat.reduceEqDiff, reduceCtorEq]) | (refine wC (fun hb => ?_) fun hb => ?_ <;> (try simp only [xb, reduceCtorEq] at hb)) | (refine w2 (fun hc => ?_) (fun hc => ?_) <;> (try simp only [xc] at hc) <;> (try simp only [go_sem, hc]) <;> (try simp only [xb] at hc)) | refine wI ?_ | refine ex_idx (by omega) ?_ | fail)
              refine ⟨(m + 1, F ++ [L[k] * 12 + m]), by (simp only [List.map_append, List.map_cons, List.map_nil, hwm, hst1]; (simp only [xe, xj, Nat.reduceEqDiff]; (try simp [view, viewL_map]); (try omega))), ⟨by show m + 1 ≤ 12; omega, had (by omega) fun f hf e => hin ⟨f, hf, e⟩⟩, by show 12 - (m + 1) < _; omega⟩
          · exact ⟨(m + 1, F), by (simp only [xe, xj, Nat.reduceEqDiff]; (try simp [view, viewL_map]); (try omega)), ⟨by show m + 1 ≤ 12; omega, hsk (.inl (by omega))⟩, by show 12 - (m + 1) < _; omega⟩
        · obtain rfl : m = 12 := by omega
          exact ⟨(k + 1, F), by (simp only [xe, xj, Nat.reduceEqDiff]; (try simp [view, viewL_map]); (try omega)), ⟨by show k + 1 ≤ _; omega, hF.word⟩, by show L.length - (k + 1) < _; omega⟩
      · have hLv := hF0.level (R' := NZ D (n + 1)) hL (by omega) fun c hc hz => ⟨fun h => hz (by show behF D (stD D n (c / 12)) (c % 12) = 0; rw [h, behF_zero]), hz⟩
        exact ⟨(n + 1, F), by (simp only [xe, xj, Nat.reduceEqDiff]; (try simp [view, viewL_map]); (try omega)), ⟨by show n + 1 ≤ 21; omega, hLv, hN'⟩, by show 21 - (n + 1) < _; omega⟩

end Go.Proofs.Ytljoonlcpiagjaa
