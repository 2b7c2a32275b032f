/- The reference's draw of a trace; traces joined. Walked by the engine. -/
import Derived.Test.YtehdfifncbokeaaGreatGrpS
import Derived.Test.YtehdfifncbokeaaGreatDrawP4
import Derived.Test.YtehdfifncbokeaaGreatGrpK
import Derived.Test.YtehdfifncbokeaaGreatGrpJ
import Derived.Test.YtehdfifncbokeaaGreatEngMin
import Derived.Test.YtehdfifncbokeaaGreatGrpE
import Derived.Test.YtehdfifncbokeaaGreatDrawP6
import Derived.Test.YtehdfifncbokeaaGreatGrpY
import Derived.Test.YtehdfifncbokeaaGreatGrpC
namespace Go.Proofs.YtehdfifncbokeaaGreat
set_option linter.unusedSimpArgs false
set_option linter.unusedVariables false
set_option maxRecDepth 8000
set_option maxHeartbeats 2000000
open Go Go.RowKit AV

attribute [local go_sem] List.nil_prefix

def traceXR (args : List AV) (r : AV) (args' : List AV) : Prop := ∃ (bs : List Nat) (p most n : Nat), args = [rdr bs p, I (most : Int), I (n : Int)] ∧ CodeOK bs ∧ p < 1099510000000 ∧ most ≤ 1000 ∧ n < 1099511627776 ∧ r = oints (traceX bs p most n).1 ∧ args' = [rdr bs (traceX bs p most n).2]
theorem trace_ctr : CtrOK Tryz.prog 60 (effC traceXR) := by
  refine ctr_lend' Tryz.func60 rfl rfl Tryz.ntmps60 ?_
  rintro _ _ _ ⟨bs, p, most, n, rfl, hcd, hp, hm, hn, rfl, rfl⟩
  refine ⟨_, rfl, by simp, by simp, fun κ hκ => ?_⟩
  have hbig := bigW_gt
  rw [argEnv_eq]
  simp only [envA]
  have hΓ := ctxOf_ok (P := Tryz.prog) (cx pick_ctr <| cx odd_ctr <| cx0)
  have hk := pickX_lt (bs := bs) (p := p + 1) (n := most + 1) (by omega)
  obtain ⟨k0, hk0⟩ : ∃ k, pickX bs (p + 1) (most + 1) = k := ⟨_, rfl⟩
  rw [hk0] at hk
  have hc4 := pickX_lt (bs := bs) (p := p) (n := 4) (by decide)
  obtain ⟨c0, hc0⟩ : ∃ k, pickX bs p 4 = k := ⟨_, rfl⟩
  rw [hc0] at hc4
  have ho1 := oddX_p bs (p + 2 + 2 * k0) n
  obtain ⟨⟨oo, p1⟩, hO⟩ : ∃ o, oddX bs (p + 2 + 2 * k0) n = o := ⟨_, rfl⟩
  rw [hO] at ho1
  dsimp only at ho1
  have hX : traceX bs p most n = if oo then
      (if pickX bs p1 4 = 0 then ([], p1 + 1)
      else if pickX bs p1 4 = 1 then (((c0 : Int) :: trkX bs (p + 2) k0) ++ [16], p1 + 1)
      else if pickX bs p1 4 = 2 then (((c0 : Int) :: trkX bs (p + 2) k0) ++ [19, 0], p1 + 1)
      else (fillX ((c0 : Int) :: trkX bs (p + 2) k0) (21 - k0), p1 + 1)) else ((c0 : Int) :: trkX bs (p + 2) k0, p1) := by
    unfold traceX; dsimp only; rw [hk0, hc0, hO]
  repeat' (first | exact hb.elim | refine wS fun K hK => ?_ | refine wB ?_ | refine uR hΓ ?_ | refine uD hΓ fun B hB => ?_ | ((repeat ((fail_if_success (refine hK _ ?_)); clear hK K)); refine hK _ ?_; clear hK K) | refine u1 ?_ | refine uC (fun hb => ?_) fun hb => ?_ | refine u2 (fun hc => ?_) fun hc => ?_ | refine wI ?_ | refine ex_idx (by omega) ?_ | exact True.intro | fail)
  (first | refine W_askE rfl _ _ (⟨bs, p, 4, rfl, hcd, by omega, by omega, rfl, rfl⟩) ?_ | refine D_askE rfl _ _ (⟨bs, p, 4, rfl, hcd, by omega, by omega, rfl, rfl⟩) ?_); simp (maxSteps := 2000000) only [go_sem]
  rw [hc0]
  repeat' (first | exact hb.elim | refine wS fun K hK => ?_ | refine wB ?_ | refine uR hΓ ?_ | refine uD hΓ fun B hB => ?_ | ((repeat ((fail_if_success (refine hK _ ?_)); clear hK K)); refine hK _ ?_; clear hK K) | refine u1 ?_ | refine uC (fun hb => ?_) fun hb => ?_ | refine u2 (fun hc => ?_) fun hc => ?_ | refine wI ?_ | refine ex_idx (by omega) ?_ | exact True.intro | fail)
  (first | refine W_askE rfl _ _ (⟨bs, p + 1, most + 1, rfl, hcd, by omega, by omega, rfl, rfl⟩) ?_ | refine D_askE rfl _ _ (⟨bs, p + 1, most + 1, rfl, hcd, by omega, by omega, rfl, rfl⟩) ?_); simp (maxSteps := 2000000) only [go_sem]
  rw [hk0]
  repeat' (first | exact hb.elim | refine wS fun K hK => ?_ | refine wB ?_ | refine uR hΓ ?_ | refine uD hΓ fun B hB => ?_ | ((repeat ((fail_if_success (refine hK _ ?_)); clear hK K)); refine hK _ ?_; clear hK K) | refine u1 ?_ | refine uC (fun hb => ?_) fun hb => ?_ | refine u2 (fun hc => ?_) fun hc => ?_ | refine wI ?_ | refine ex_idx (by omega) ?_ | exact True.intro | fail)
  refine CW.loop (ι := Nat) (fun j => [(0, rdr bs (p + 2 + 2 * j)), (1, I (most : Int)), (2, I (n : Int)), (7, oints ((c0 : Int) :: trkX bs (p + 2) j)), (8, I ((k0 - j : Nat) : Int))]) (fun j => j ≤ k0) (fun j => k0 - j) 0 ?_ ?_
  · exact ⟨by ((simp only [xe, xj, Nat.reduceEqDiff]; (try simp [view, viewL_map]); (try omega)); simp [trkX]), by omega⟩
  rintro j hj
  simp only [envOf]
  have hl := trkX_len bs (p + 2) j
  repeat' (first | exact hb.elim | refine wS fun K hK => ?_ | refine wB ?_ | refine uR hΓ ?_ | refine uD hΓ fun B hB => ?_ | ((repeat ((fail_if_success (refine hK _ ?_)); clear hK K)); refine hK _ ?_; clear hK K) | refine u1 ?_ | refine uC (fun hb => ?_) fun hb => ?_ | refine u2 (fun hc => ?_) fun hc => ?_ | refine wI ?_ | refine ex_idx (by omega) ?_ | exact True.intro | fail)
  · have ha := pickX_lt (bs := bs) (p := p + 2 + 2 * j) (n := 3) (by decide)
    have hb4 := pickX_lt (bs := bs) (p := p + 2 + 2 * j + 1) (n := 4) (by decide)
    have e1 : ((k0 - j : Nat) : Int) - 1 = ((k0 - (j + 1) : Nat) : Int) := by omega
    have hs : trkX bs (p + 2) (j + 1) = trkX bs (p + 2) j ++ [16 + (pickX bs (p + 2 + 2 * j) 3 : Int), (pickX bs (p + 2 + 2 * j + 1) 4 : Int)] := rfl
    (first | refine W_askE rfl _ _ (⟨bs, p + 2 + 2 * j, 3, rfl, hcd, by omega, by omega, rfl, rfl⟩) ?_ | refine D_askE rfl _ _ (⟨bs, p + 2 + 2 * j, 3, rfl, hcd, by omega, by omega, rfl, rfl⟩) ?_); simp (maxSteps := 2000000) only [go_sem]
    repeat' (first | exact hb.elim | refine wS fun K hK => ?_ | refine wB ?_ | refine uR hΓ ?_ | refine uD hΓ fun B hB => ?_ | ((repeat ((fail_if_success (refine hK _ ?_)); clear hK K)); refine hK _ ?_; clear hK K) | refine u1 ?_ | refine uC (fun hb => ?_) fun hb => ?_ | refine u2 (fun hc => ?_) fun hc => ?_ | refine wI ?_ | refine ex_idx (by omega) ?_ | exact True.intro | fail)
    (first | refine W_askE rfl _ _ (⟨bs, p + 2 + 2 * j + 1, 4, rfl, hcd, by omega, by omega, rfl, rfl⟩) ?_ | refine D_askE rfl _ _ (⟨bs, p + 2 + 2 * j + 1, 4, rfl, hcd, by omega, by omega, rfl, rfl⟩) ?_); simp (maxSteps := 2000000) only [go_sem]
    repeat' (first | refine wS fun K hK => ?_ | refine wB ?_ | ((first | refine wR hΓ ?_ | refine wD hΓ fun B hB => ?_); simp (maxSteps := 2000000) only [go_sem, e1]) | ((repeat ((fail_if_success (refine hK _ ?_)); clear hK K)); refine hK _ ?_; clear hK K) | (refine w1 ?_; simp only [xs, xi, Nat.reduceEqDiff, reduceCtorEq, retL_ret, retL_normal]) | (refine wC (fun hb => ?_) fun hb => ?_ <;> (try simp only [xb, reduceCtorEq] at hb)) | (refine w2 (fun hc => ?_) (fun hc => ?_) <;> (try simp only [xc] at hc) <;> (try simp only [go_sem, hc, e1]) <;> (try simp only [xb] at hc)) | refine wI ?_ | refine ex_idx (by omega) ?_ | fail)
    refine ⟨j + 1, ?_, by omega, by omega⟩
    rw [hs]
    (simp only [xe, xj, Nat.reduceEqDiff]; (try simp [view, viewL_map]); (try omega))
  have hjk : j = k0 := by omega
  subst hjk
  (first | refine W_askE rfl _ _ (⟨bs, p + 2 + 2 * j, n, rfl, hcd, by omega, hn, rfl, rfl⟩) ?_ | refine D_askE rfl _ _ (⟨bs, p + 2 + 2 * j, n, rfl, hcd, by omega, hn, rfl, rfl⟩) ?_); simp (maxSteps := 2000000) only [go_sem]
  rw [hO]
  dsimp only
  cases oo
  · repeat' (first | exact hb.elim | refine wS fun K hK => ?_ | refine wB ?_ | refine uR hΓ ?_ | refine uD hΓ fun B hB => ?_ | ((repeat ((fail_if_success (refine hK _ ?_)); clear hK K)); refine hK _ ?_; clear hK K) | refine u1 ?_ | refine uC (fun hb => ?_) fun hb => ?_ | refine u2 (fun hc => ?_) fun hc => ?_ | refine wI ?_ | refine ex_idx (by omega) ?_ | exact True.intro | fail)
    rw [if_neg (by decide)] at hX
    rw [hX]
    simp [Tryz.results60, RetL, upd_at, plainB, isOwn, anyOwn]
  · rw [if_pos rfl] at hX
    have hk5 := pickX_lt (bs := bs) (p := p1) (n := 4) (by decide)
    obtain ⟨c, hc⟩ : ∃ c, pickX bs p1 4 = c := ⟨_, rfl⟩
    rw [hc] at hX hk5
    repeat' (first | exact hb.elim | refine wS fun K hK => ?_ | refine wB ?_ | refine uR hΓ ?_ | refine uD hΓ fun B hB => ?_ | ((repeat ((fail_if_success (refine hK _ ?_)); clear hK K)); refine hK _ ?_; clear hK K) | refine u1 ?_ | refine uC (fun hb => ?_) fun hb => ?_ | refine u2 (fun hc => ?_) fun hc => ?_ | refine wI ?_ | refine ex_idx (by omega) ?_ | exact True.intro | fail)
    (first | refine W_askE rfl _ _ (⟨bs, p1, 4, rfl, hcd, by omega, by omega, rfl, rfl⟩) ?_ | refine D_askE rfl _ _ (⟨bs, p1, 4, rfl, hcd, by omega, by omega, rfl, rfl⟩) ?_); simp (maxSteps := 2000000) only [go_sem]
    rw [hc]
    repeat' (first | exact hb.elim | refine wS fun K hK => ?_ | refine wB ?_ | refine uR hΓ ?_ | refine uD hΓ fun B hB => ?_ | ((repeat ((fail_if_success (refine hK _ ?_)); clear hK K)); refine hK _ ?_; clear hK K) | refine u1 ?_ | refine uC (fun hb => ?_) fun hb => ?_ | refine u2 (fun hc => ?_) fun hc => ?_ | refine wI ?_ | refine ex_idx (by omega) ?_ | exact True.intro | fail)
    · rw [hX, if_pos (by omega)]
      simp [Tryz.results60, RetL, upd_at, plainB, isOwn, anyOwn]
    · rw [hX, if_neg (by omega), if_pos (by omega)]
      simp [Tryz.results60, RetL, upd_at, plainB, isOwn, anyOwn]
    · rw [hX, if_neg (by omega), if_neg (by omega), if_pos (by omega)]
      simp [Tryz.results60, RetL, upd_at, plainB, isOwn, anyOwn]
    · rw [if_neg (by omega), if_neg (by omega), if_neg (by omega)] at hX
      obtain ⟨out, hout⟩ : ∃ out, (c0 : Int) :: trkX bs (p + 2) j = out := ⟨_, rfl⟩
      have hol : out.length = 1 + 2 * j := by rw [← hout]; simp only [List.length_cons]; omega
      rw [hout] at hX ⊢
      refine CW.loop (ι := Nat) (fun i => [(0, rdr bs (p1 + 1)), (7, oints (fillX out i))]) (fun i => i ≤ 21 - j) (fun i => 21 - j - i) 0 ?_ ?_
      · exact ⟨by ((simp only [xe, xj, Nat.reduceEqDiff]; (try simp [view, viewL_map]); (try omega)); simp [fillX]), by omega⟩
      rintro i hi
      simp only [envOf]
      have hfl := fillX_len out i
      repeat' (first | exact hb.elim | refine wS fun K hK => ?_ | refine wB ?_ | refine uR hΓ ?_ | refine uD hΓ fun B hB => ?_ | ((repeat ((fail_if_success (refine hK _ ?_)); clear hK K)); refine hK _ ?_; clear hK K) | refine u1 ?_ | refine uC (fun hb => ?_) fun hb => ?_ | refine u2 (fun hc => ?_) fun hc => ?_ | refine wI ?_ | refine ex_idx (by omega) ?_ | exact True.intro | fail)
      · refine ⟨i + 1, ?_, by omega, by omega⟩
        rw [show fillX out (i + 1) = fillX out i ++ [16, 0] from rfl]
        (simp only [xe, xj, Nat.reduceEqDiff]; (try simp [view, viewL_map]); (try omega))
      · have hi2 : i = 21 - j := by omega
        rw [hX, ← hi2]
        simp [Tryz.results60, RetL, upd_at, plainB, isOwn, anyOwn]

def glueXR (args : List AV) (r : AV) (args' : List AV) : Prop := ∃ (bs : List Nat) (p : Nat) (a b : List Int), args = [rdr bs p, oints a, ints b] ∧ CodeOK bs ∧ p < 1099511000000 ∧ 1 ≤ a.length ∧ a.length ≤ 1048576 ∧ b.length ≤ 1048576 ∧ r = oints (glueX bs p a b).1 ∧ args' = [rdr bs (glueX bs p a b).2]
theorem glue_ctr : CtrOK Tryz.prog 79 (effC glueXR) := by
  refine ctr_lend' Tryz.func79 rfl rfl Tryz.ntmps79 ?_
  rintro _ _ _ ⟨bs, p, a, b, rfl, hcd, hp, ha1, ha, hbl, rfl, rfl⟩
  refine ⟨_, rfl, by simp, by simp, fun κ hκ => ?_⟩
  have hbig := bigW_gt
  rw [argEnv_eq]
  simp only [envA]
  have hΓ := ctxOf_ok (P := Tryz.prog) (cx pick_ctr <| cx0)
  have e1 : ((a.length : Nat) : Int) - 1 = ((a.length - 1 : Nat) : Int) := by omega
  have htk : allP ((List.map I a).take (a.length - 1)) = true := by rw [← List.map_take]; exact allP_ints _
  repeat' (first | refine wS fun K hK => ?_ | refine wB ?_ | ((first | refine wQ hΓ ?_ | refine wD hΓ fun B hB => ?_); simp (maxSteps := 2000000) only [go_sem, e1, htk]) | ((repeat ((fail_if_success (refine hK _ ?_)); clear hK K)); refine hK _ ?_; clear hK K) | (refine w1 ?_; simp only [xs, xi, Nat.reduceEqDiff, reduceCtorEq, retL_ret, retL_normal]) | (refine wC (fun hb => ?_) fun hb => ?_ <;> (try simp only [xb, reduceCtorEq] at hb)) | (refine w2 (fun hc => ?_) (fun hc => ?_) <;> (try simp only [xc] at hc) <;> (try simp only [go_sem, hc, e1, htk]) <;> (try simp only [xb] at hc)) | refine wI ?_ | refine ex_idx (by omega) ?_ | fail)
  · (first | refine W_askE rfl _ _ (⟨bs, p, 3, rfl, hcd, by omega, by omega, rfl, rfl⟩) ?_ | refine D_askE rfl _ _ (⟨bs, p, 3, rfl, hcd, by omega, by omega, rfl, rfl⟩) ?_); simp (maxSteps := 2000000) only [go_sem]
    repeat' (first | refine wS fun K hK => ?_ | refine wB ?_ | ((first | refine wQ hΓ ?_ | refine wD hΓ fun B hB => ?_); simp (maxSteps := 2000000) only [go_sem]) | ((repeat ((fail_if_success (refine hK _ ?_)); clear hK K)); refine hK _ ?_; clear hK K) | (refine w1 ?_; simp only [xs, xi, Nat.reduceEqDiff, reduceCtorEq, retL_ret, retL_normal]) | (refine wC (fun hb => ?_) fun hb => ?_ <;> (try simp only [xb, reduceCtorEq] at hb)) | (refine w2 (fun hc => ?_) (fun hc => ?_) <;> (try simp only [xc] at hc) <;> (try simp only [go_sem, hc]) <;> (try simp only [xb] at hc)) | refine wI ?_ | refine ex_idx (by omega) ?_ | fail)
    · have hX : glueX bs p a b = (a, p + 1) := by unfold glueX; rw [if_pos (by omega), if_pos (by omega)]
      rw [hX]
      simp [Tryz.results79, RetL, upd_at, plainB, isOwn, anyOwn, view, viewL_map, view_I, List.map_take]
    · have hX : glueX bs p a b = (a.take (a.length - 1) ++ b, p + 1) := by unfold glueX; rw [if_pos (by omega), if_neg (by omega)]
      rw [hX]
      simp [Tryz.results79, RetL, upd_at, plainB, isOwn, anyOwn, view, viewL_map, view_I, List.map_take]
  · have hX : glueX bs p a b = (a.take (a.length - 1) ++ b, p) := by unfold glueX; rw [if_neg (by omega)]
    rw [hX]
    simp [Tryz.results79, RetL, upd_at, plainB, isOwn, anyOwn, view, viewL_map, view_I, List.map_take]

def ofXR (N : Nat) (args : List AV) (r : AV) (args' : List AV) : Prop := ∃ (bs : List Nat) (x : Ex) (deep p : Nat), args = [rdr bs p, ints x.steps, I (deep : Int)] ∧ x.wf ∧ x.steps.length ≤ N ∧ deep ≤ 2 ∧ CodeOK bs ∧ p + 1000000 * x.steps.length < 1099511000000 ∧ r = oints (ofX bs x deep p).1 ∧ args' = [rdr bs (ofX bs x deep p).2]
theorem of_step (N : Nat) (hN : N ≤ 4096) (ih : CtrOK Tryz.prog 61 (effC (ofXR (N - 1)))) : CtrOK Tryz.prog 61 (effC (ofXR N)) := by
  have of_ctr := ih
  refine ctr_lend' Tryz.func61 rfl rfl Tryz.ntmps61 ?_
  rintro _ _ _ ⟨bs, x, deep, p, rfl, hw, hl, hdp, hcd, hp, rfl, rfl⟩
  refine ⟨_, rfl, by simp, by simp, fun κ hκ => ?_⟩
  have hbig := bigW_gt
  rw [argEnv_eq]
  simp only [envA]
  have hΓ := ctxOf_ok (P := Tryz.prog) (cx pick_ctr <| cx of_ctr <| cx glue_ctr <| cx l2Halves_ctr <| cx l1Bit_ctr <| cx0)
  have hpos := x.steps_pos
  have e1 : ((x.steps.length : Nat) : Int) - 1 = ((x.steps.length - 1 : Nat) : Int) := by omega
  have hlast := steps_get (x := x) (by omega)
  have hop := op_wf hw
  have ha4 := pickX_lt (bs := bs) (p := p) (n := 4) (by decide)
  obtain ⟨a0, ha0⟩ : ∃ a, pickX bs p 4 = a := ⟨_, rfl⟩
  rw [ha0] at ha4
  repeat' (first | refine wS fun K hK => ?_ | refine wB ?_ | ((first | refine CW.regG hΓ [19, 56, 70, 73, 77, 92, 93, 97, 104, 114, 116] [115] 79 0 (by rw [hκ]; rfl) (by kernel_rfl) (fun v0 => ?_) | refine CW.drwL hΓ Tryz_mixed [19, 56, 70, 73, 77, 92, 93, 97, 104, 114, 116] 0 (by rw [hκ]; rfl) (by kernel_rfl) (by kernel_rfl) fun v0 B hB => ?_); simp (maxSteps := 2000000) only [go_sem, e1]) | ((repeat ((fail_if_success (refine hK _ ?_)); clear hK K)); refine hK _ ?_; clear hK K) | (refine w1 ?_; simp only [xs, xi, Nat.reduceEqDiff, reduceCtorEq, retL_ret, retL_normal]) | (refine wC (fun hb => ?_) fun hb => ?_ <;> (try simp only [xb, reduceCtorEq] at hb)) | (refine w2 (fun hc => ?_) (fun hc => ?_) <;> (try simp only [xc] at hc) <;> (try simp only [go_sem, hc, e1]) <;> (try simp only [xb] at hc)) | refine wI ?_ | refine ex_idx (by omega) ?_ | fail)
  (first | refine W_askE rfl _ _ (⟨bs, p, 4, rfl, hcd, by omega, by omega, rfl, rfl⟩) ?_ | refine D_askE rfl _ _ (⟨bs, p, 4, rfl, hcd, by omega, by omega, rfl, rfl⟩) ?_); simp (maxSteps := 2000000) only [go_sem]
  rw [ha0]
  cases x with
  | leaf n =>
    have hw0 : 0 ≤ n ∧ n ≤ 18 := hw
    have hX15 : n ≤ 15 → ofX bs (.leaf n) deep p = ([(seekX n.toNat 4 a0 : Int)], p + 1) := fun h => by unfold ofX; rw [if_pos h, ha0]
    have hX18 : ¬ n ≤ 15 → ofX bs (.leaf n) deep p = ([(a0 : Int), n, (pickX bs (p + 1) 4 : Int)], p + 2) := fun h => by unfold ofX; rw [if_neg h, ha0]
    have hlast2 : (Ex.leaf n).steps[(Ex.leaf n).steps.length - 1]'(by omega) = n := hlast
    have hn : ((n.toNat : Nat) : Int) = n := by omega
    clear hlast hop
    obtain ⟨e, he⟩ : ∃ e, (Ex.leaf n).steps = e := ⟨_, rfl⟩
    simp only [he] at hlast2 hpos e1 hl ⊢
    repeat' (first | refine wS fun K hK => ?_ | refine wB ?_ | ((first | refine CW.regG hΓ [19, 56, 70, 73, 77, 92, 93, 97, 104, 114, 116] [115] 79 0 (by rw [hκ]; rfl) (by kernel_rfl) (fun v0 => ?_) | refine CW.drwL hΓ Tryz_mixed [19, 56, 70, 73, 77, 92, 93, 97, 104, 114, 116] 0 (by rw [hκ]; rfl) (by kernel_rfl) (by kernel_rfl) fun v0 B hB => ?_); simp (maxSteps := 2000000) only [go_sem, hlast2]) | ((repeat ((fail_if_success (refine hK _ ?_)); clear hK K)); refine hK _ ?_; clear hK K) | (refine w1 ?_; simp only [xs, xi, Nat.reduceEqDiff, reduceCtorEq, retL_ret, retL_normal]) | (refine wC (fun hb => ?_) fun hb => ?_ <;> (try simp only [xb, reduceCtorEq] at hb)) | (refine w2 (fun hc => ?_) (fun hc => ?_) <;> (try simp only [xc] at hc) <;> (try simp only [go_sem, hc, hlast2]) <;> (try simp only [xb] at hc)) | refine wI ?_ | refine ex_idx (by omega) ?_ | fail)
    all_goals try (exfalso; omega)
    · refine CW.loop (ι := Nat × Nat) (fun y => [(0, rdr bs (p + 1)), (1, ints e), (2, I (deep : Int)), (7, I ((e.length - 1 : Nat) : Int)), (8, I (y.2 : Int)), (9, I (y.1 : Int))]) (fun y => y.1 ≤ 4 ∧ y.2 < 4 ∧ seekX n.toNat (4 - y.1) y.2 = seekX n.toNat 4 a0) (fun y => 4 - y.1) (0, a0) ?_ ?_
      · exact ⟨by (simp only [xe, xj, Nat.reduceEqDiff]; (try simp [view, viewL_map]); (try omega)), by dsimp only; omega, ha4, rfl⟩
      rintro ⟨j, at1⟩ ⟨hj, hat, hsk⟩
      dsimp only at hj hat hsk
      simp only [envOf]
      repeat' (first | refine wS fun K hK => ?_ | refine wB ?_ | ((first | refine CW.regG hΓ [19, 56, 70, 73, 77, 92, 93, 97, 104, 114, 116] [115] 79 0 (by rw [hκ]; rfl) (by kernel_rfl) (fun v0 => ?_) | refine CW.drwL hΓ Tryz_mixed [19, 56, 70, 73, 77, 92, 93, 97, 104, 114, 116] 0 (by rw [hκ]; rfl) (by kernel_rfl) (by kernel_rfl) fun v0 B hB => ?_); simp (maxSteps := 2000000) only [go_sem, hlast2]) | ((repeat ((fail_if_success (refine hK _ ?_)); clear hK K)); refine hK _ ?_; clear hK K) | (refine w1 ?_; simp only [xs, xi, Nat.reduceEqDiff, reduceCtorEq, retL_ret, retL_normal]) | (refine wC (fun hb => ?_) fun hb => ?_ <;> (try simp only [xb, reduceCtorEq] at hb)) | (refine w2 (fun hc => ?_) (fun hc => ?_) <;> (try simp only [xc] at hc) <;> (try simp only [go_sem, hc, hlast2]) <;> (try simp only [xb] at hc)) | refine wI ?_ | refine ex_idx (by omega) ?_ | fail)
      · simp only [hlast2]
        (first | refine wA rfl _ (⟨n.toNat, at1, by rw [hn], by omega, rfl⟩) ?_ | refine dA rfl _ (⟨n.toNat, at1, by rw [hn], by omega, rfl⟩) ?_); simp (maxSteps := 2000000) only [go_sem]
        have hsucc : 4 - j = (4 - (j + 1)) + 1 := by omega
        rw [hsucc] at hsk
        have hcast : ((at1 : Int) + 1) % 4 = (((at1 + 1) % 4 : Nat) : Int) := by omega
        cases hbit : n.toNat.testBit at1 with
        | false =>
          rw [bitN_f hbit]
          rw [seekX, if_pos hbit] at hsk
          repeat' (first | refine wS fun K hK => ?_ | refine wB ?_ | ((first | refine CW.regG hΓ [19, 56, 70, 73, 77, 92, 93, 97, 104, 114, 116] [115] 79 0 (by rw [hκ]; rfl) (by kernel_rfl) (fun v0 => ?_) | refine CW.drwL hΓ Tryz_mixed [19, 56, 70, 73, 77, 92, 93, 97, 104, 114, 116] 0 (by rw [hκ]; rfl) (by kernel_rfl) (by kernel_rfl) fun v0 B hB => ?_); simp (maxSteps := 2000000) only [go_sem, hcast]) | ((repeat ((fail_if_success (refine hK _ ?_)); clear hK K)); refine hK _ ?_; clear hK K) | (refine w1 ?_; simp only [xs, xi, Nat.reduceEqDiff, reduceCtorEq, retL_ret, retL_normal]) | (refine wC (fun hb => ?_) fun hb => ?_ <;> (try simp only [xb, reduceCtorEq] at hb)) | (refine w2 (fun hc => ?_) (fun hc => ?_) <;> (try simp only [xc] at hc) <;> (try simp only [go_sem, hc, hcast]) <;> (try simp only [xb] at hc)) | refine wI ?_ | refine ex_idx (by omega) ?_ | fail)
          all_goals try (exfalso; omega)
          exact ⟨(j + 1, (at1 + 1) % 4), by (simp only [xe, xj, Nat.reduceEqDiff]; (try simp [view, viewL_map]); (try omega)), ⟨by dsimp only; omega, Nat.mod_lt _ (by decide), hsk⟩, by dsimp only; omega⟩
        | true =>
          rw [bitN_t hbit]
          rw [seekX, if_neg (by rw [hbit]; decide)] at hsk
          repeat' (first | refine wS fun K hK => ?_ | refine wB ?_ | ((first | refine CW.regG hΓ [19, 56, 70, 73, 77, 92, 93, 97, 104, 114, 116] [115] 79 0 (by rw [hκ]; rfl) (by kernel_rfl) (fun v0 => ?_) | refine CW.drwL hΓ Tryz_mixed [19, 56, 70, 73, 77, 92, 93, 97, 104, 114, 116] 0 (by rw [hκ]; rfl) (by kernel_rfl) (by kernel_rfl) fun v0 B hB => ?_); simp (maxSteps := 2000000) only [go_sem]) | ((repeat ((fail_if_success (refine hK _ ?_)); clear hK K)); refine hK _ ?_; clear hK K) | (refine w1 ?_; simp only [xs, xi, Nat.reduceEqDiff, reduceCtorEq, retL_ret, retL_normal]) | (refine wC (fun hb => ?_) fun hb => ?_ <;> (try simp only [xb, reduceCtorEq] at hb)) | (refine w2 (fun hc => ?_) (fun hc => ?_) <;> (try simp only [xc] at hc) <;> (try simp only [go_sem, hc]) <;> (try simp only [xb] at hc)) | refine wI ?_ | refine ex_idx (by omega) ?_ | fail)
          all_goals try (exfalso; omega)
          rw [hX15 (by omega), ← hsk]
          simp [Tryz.results61, RetL, upd_at, plainB, isOwn, anyOwn]
      · have hj4 : j = 4 := by omega
        subst hj4
        rw [hX15 (by omega), ← hsk]
        simp [Tryz.results61, RetL, upd_at, plainB, isOwn, anyOwn]
        simp [seekX]
    · have hk4 := pickX_lt (bs := bs) (p := p + 1) (n := 4) (by decide)
      (first | refine W_askE rfl _ _ (⟨bs, p + 1, 4, rfl, hcd, by omega, by omega, rfl, rfl⟩) ?_ | refine D_askE rfl _ _ (⟨bs, p + 1, 4, rfl, hcd, by omega, by omega, rfl, rfl⟩) ?_); simp (maxSteps := 2000000) only [go_sem]
      try simp only [hlast2]
      repeat' (first | refine wS fun K hK => ?_ | refine wB ?_ | ((first | refine CW.regG hΓ [19, 56, 70, 73, 77, 92, 93, 97, 104, 114, 116] [115] 79 0 (by rw [hκ]; rfl) (by kernel_rfl) (fun v0 => ?_) | refine CW.drwL hΓ Tryz_mixed [19, 56, 70, 73, 77, 92, 93, 97, 104, 114, 116] 0 (by rw [hκ]; rfl) (by kernel_rfl) (by kernel_rfl) fun v0 B hB => ?_); simp (maxSteps := 2000000) only [go_sem, hlast2]) | ((repeat ((fail_if_success (refine hK _ ?_)); clear hK K)); refine hK _ ?_; clear hK K) | (refine w1 ?_; simp only [xs, xi, Nat.reduceEqDiff, reduceCtorEq, retL_ret, retL_normal]) | (refine wC (fun hb => ?_) fun hb => ?_ <;> (try simp only [xb, reduceCtorEq] at hb)) | (refine w2 (fun hc => ?_) (fun hc => ?_) <;> (try simp only [xc] at hc) <;> (try simp only [go_sem, hc, hlast2]) <;> (try simp only [xb] at hc)) | refine wI ?_ | refine ex_idx (by omega) ?_ | fail)
      rw [hX18 (by omega)]
      (simp [Tryz.results61, RetL, upd_at, plainB, isOwn, anyOwn]; try omega)
  | pls a b =>
    have hlast2 : (Ex.pls a b).steps[(Ex.pls a b).steps.length - 1]'(by omega) = 20 := hlast
    have hlen : (Ex.pls a b).steps.length = a.steps.length + b.steps.length + 1 := by simp only [Ex.steps, List.length_append, List.length_cons, List.length_nil]; omega
    have hX : ofX bs (.pls a b) deep p = if pickX bs (p + 1) 2 = 0 then ofX bs a deep (p + 2) else ofX bs b deep (p + 2) := by rw [ofX]
    have hpa := a.steps_pos
    have hpb := b.steps_pos
    clear hlast hop
    repeat' (first | refine wS fun K hK => ?_ | refine wB ?_ | ((first | refine CW.regG hΓ [19, 56, 70, 73, 77, 92, 93, 97, 104, 114, 116] [115] 79 0 (by rw [hκ]; rfl) (by kernel_rfl) (fun v0 => ?_) | refine CW.drwL hΓ Tryz_mixed [19, 56, 70, 73, 77, 92, 93, 97, 104, 114, 116] 0 (by rw [hκ]; rfl) (by kernel_rfl) (by kernel_rfl) fun v0 B hB => ?_); simp (maxSteps := 2000000) only [go_sem, hlast2]) | ((repeat ((fail_if_success (refine hK _ ?_)); clear hK K)); refine hK _ ?_; clear hK K) | (refine w1 ?_; simp only [xs, xi, Nat.reduceEqDiff, reduceCtorEq, retL_ret, retL_normal]) | (refine wC (fun hb => ?_) fun hb => ?_ <;> (try simp only [xb, reduceCtorEq] at hb)) | (refine w2 (fun hc => ?_) (fun hc => ?_) <;> (try simp only [xc] at hc) <;> (try simp only [go_sem, hc, hlast2]) <;> (try simp only [xb] at hc)) | refine wI ?_ | refine ex_idx (by omega) ?_ | fail)
    all_goals try (exfalso; omega)
    (first | refine wA rfl _ (⟨a, b, 20, rfl, hw.1, hw.2, by show (Ex.pls a b).steps.length ≤ _; omega, rfl⟩) ?_ | refine dA rfl _ (⟨a, b, 20, rfl, hw.1, hw.2, by show (Ex.pls a b).steps.length ≤ _; omega, rfl⟩) ?_); simp (maxSteps := 2000000) only [go_sem]
    repeat' (first | refine wS fun K hK => ?_ | refine wB ?_ | ((first | refine CW.regG hΓ [19, 56, 70, 73, 77, 92, 93, 97, 104, 114, 116] [115] 79 0 (by rw [hκ]; rfl) (by kernel_rfl) (fun v0 => ?_) | refine CW.drwL hΓ Tryz_mixed [19, 56, 70, 73, 77, 92, 93, 97, 104, 114, 116] 0 (by rw [hκ]; rfl) (by kernel_rfl) (by kernel_rfl) fun v0 B hB => ?_); simp (maxSteps := 2000000) only [go_sem]) | ((repeat ((fail_if_success (refine hK _ ?_)); clear hK K)); refine hK _ ?_; clear hK K) | (refine w1 ?_; simp only [xs, xi, Nat.reduceEqDiff, reduceCtorEq, retL_ret, retL_normal]) | (refine wC (fun hb => ?_) fun hb => ?_ <;> (try simp only [xb, reduceCtorEq] at hb)) | (refine w2 (fun hc => ?_) (fun hc => ?_) <;> (try simp only [xc] at hc) <;> (try simp only [go_sem, hc]) <;> (try simp only [xb] at hc)) | refine wI ?_ | refine ex_idx (by omega) ?_ | fail)
    (first | refine W_askE rfl _ _ (⟨bs, p + 1, 2, rfl, hcd, by omega, by omega, rfl, rfl⟩) ?_ | refine D_askE rfl _ _ (⟨bs, p + 1, 2, rfl, hcd, by omega, by omega, rfl, rfl⟩) ?_); simp (maxSteps := 2000000) only [go_sem]
    repeat' (first | refine wS fun K hK => ?_ | refine wB ?_ | ((first | refine CW.regG hΓ [19, 56, 70, 73, 77, 92, 93, 97, 104, 114, 116] [115] 79 0 (by rw [hκ]; rfl) (by kernel_rfl) (fun v0 => ?_) | refine CW.drwL hΓ Tryz_mixed [19, 56, 70, 73, 77, 92, 93, 97, 104, 114, 116] 0 (by rw [hκ]; rfl) (by kernel_rfl) (by kernel_rfl) fun v0 B hB => ?_); simp (maxSteps := 2000000) only [go_sem]) | ((repeat ((fail_if_success (refine hK _ ?_)); clear hK K)); refine hK _ ?_; clear hK K) | (refine w1 ?_; simp only [xs, xi, Nat.reduceEqDiff, reduceCtorEq, retL_ret, retL_normal]) | (refine wC (fun hb => ?_) fun hb => ?_ <;> (try simp only [xb, reduceCtorEq] at hb)) | (refine w2 (fun hc => ?_) (fun hc => ?_) <;> (try simp only [xc] at hc) <;> (try simp only [go_sem, hc]) <;> (try simp only [xb] at hc)) | refine wI ?_ | refine ex_idx (by omega) ?_ | fail)
    · (first | refine W_askE rfl _ _ (⟨bs, a, deep, p + 2, rfl, hw.1, by omega, hdp, hcd, by omega, rfl, rfl⟩) ?_ | refine D_askE rfl _ _ (⟨bs, a, deep, p + 2, rfl, hw.1, by omega, hdp, hcd, by omega, rfl, rfl⟩) ?_); simp (maxSteps := 2000000) only [go_sem]
      repeat' (first | refine wS fun K hK => ?_ | refine wB ?_ | ((first | refine CW.regG hΓ [19, 56, 70, 73, 77, 92, 93, 97, 104, 114, 116] [115] 79 0 (by rw [hκ]; rfl) (by kernel_rfl) (fun v0 => ?_) | refine CW.drwL hΓ Tryz_mixed [19, 56, 70, 73, 77, 92, 93, 97, 104, 114, 116] 0 (by rw [hκ]; rfl) (by kernel_rfl) (by kernel_rfl) fun v0 B hB => ?_); simp (maxSteps := 2000000) only [go_sem]) | ((repeat ((fail_if_success (refine hK _ ?_)); clear hK K)); refine hK _ ?_; clear hK K) | (refine w1 ?_; simp only [xs, xi, Nat.reduceEqDiff, reduceCtorEq, retL_ret, retL_normal]) | (refine wC (fun hb => ?_) fun hb => ?_ <;> (try simp only [xb, reduceCtorEq] at hb)) | (refine w2 (fun hc => ?_) (fun hc => ?_) <;> (try simp only [xc] at hc) <;> (try simp only [go_sem, hc]) <;> (try simp only [xb] at hc)) | refine wI ?_ | refine ex_idx (by omega) ?_ | fail)
      rw [hX, if_pos (by omega)]
      simp [Tryz.results61, RetL, upd_at, plainB, isOwn, anyOwn]
    · (first | refine W_askE rfl _ _ (⟨bs, b, deep, p + 2, rfl, hw.2, by omega, hdp, hcd, by omega, rfl, rfl⟩) ?_ | refine D_askE rfl _ _ (⟨bs, b, deep, p + 2, rfl, hw.2, by omega, hdp, hcd, by omega, rfl, rfl⟩) ?_); simp (maxSteps := 2000000) only [go_sem]
      repeat' (first | refine wS fun K hK => ?_ | refine wB ?_ | ((first | refine CW.regG hΓ [19, 56, 70, 73, 77, 92, 93, 97, 104, 114, 116] [115] 79 0 (by rw [hκ]; rfl) (by kernel_rfl) (fun v0 => ?_) | refine CW.drwL hΓ Tryz_mixed [19, 56, 70, 73, 77, 92, 93, 97, 104, 114, 116] 0 (by rw [hκ]; rfl) (by kernel_rfl) (by kernel_rfl) fun v0 B hB => ?_); simp (maxSteps := 2000000) only [go_sem]) | ((repeat ((fail_if_success (refine hK _ ?_)); clear hK K)); refine hK _ ?_; clear hK K) | (refine w1 ?_; simp only [xs, xi, Nat.reduceEqDiff, reduceCtorEq, retL_ret, retL_normal]) | (refine wC (fun hb => ?_) fun hb => ?_ <;> (try simp only [xb, reduceCtorEq] at hb)) | (refine w2 (fun hc => ?_) (fun hc => ?_) <;> (try simp only [xc] at hc) <;> (try simp only [go_sem, hc]) <;> (try simp only [xb] at hc)) | refine wI ?_ | refine ex_idx (by omega) ?_ | fail)
      rw [hX, if_neg (by omega)]
      simp [Tryz.results61, RetL, upd_at, plainB, isOwn, anyOwn]
  | thn a b =>
    have hlast2 : (Ex.thn a b).steps[(Ex.thn a b).steps.length - 1]'(by omega) = 19 := hlast
    have hlen : (Ex.thn a b).steps.length = a.steps.length + b.steps.length + 1 := by simp only [Ex.steps, List.length_append, List.length_cons, List.length_nil]; omega
    have hpa := a.steps_pos
    have hpb := b.steps_pos
    have a1 := ofX_p9 bs a (p + 1) hdp
    have a2 := ofX_len9 bs a (p + 1) hdp
    have a3 := ofX_pos bs a deep (p + 1)
    obtain ⟨⟨A, p1⟩, hA⟩ : ∃ o, ofX bs a deep (p + 1) = o := ⟨_, rfl⟩
    rw [hA] at a1 a2 a3
    dsimp only at a1 a2 a3
    have b1 := ofX_p9 bs b p1 hdp
    have b2 := ofX_len9 bs b p1 hdp
    obtain ⟨⟨B2, p2⟩, hB2⟩ : ∃ o, ofX bs b deep p1 = o := ⟨_, rfl⟩
    rw [hB2] at b1 b2
    dsimp only at b1 b2
    have hX : ofX bs (.thn a b) deep p = glueX bs p2 A B2 := by rw [ofX, hA]; dsimp only; rw [hB2]
    clear hlast hop
    repeat' (first | refine wS fun K hK => ?_ | refine wB ?_ | ((first | refine CW.regG hΓ [19, 56, 70, 73, 77, 92, 93, 97, 104, 114, 116] [115] 79 0 (by rw [hκ]; rfl) (by kernel_rfl) (fun v0 => ?_) | refine CW.drwL hΓ Tryz_mixed [19, 56, 70, 73, 77, 92, 93, 97, 104, 114, 116] 0 (by rw [hκ]; rfl) (by kernel_rfl) (by kernel_rfl) fun v0 B hB => ?_); simp (maxSteps := 2000000) only [go_sem, hlast2]) | ((repeat ((fail_if_success (refine hK _ ?_)); clear hK K)); refine hK _ ?_; clear hK K) | (refine w1 ?_; simp only [xs, xi, Nat.reduceEqDiff, reduceCtorEq, retL_ret, retL_normal]) | (refine wC (fun hb => ?_) fun hb => ?_ <;> (try simp only [xb, reduceCtorEq] at hb)) | (refine w2 (fun hc => ?_) (fun hc => ?_) <;> (try simp only [xc] at hc) <;> (try simp only [go_sem, hc, hlast2]) <;> (try simp only [xb] at hc)) | refine wI ?_ | refine ex_idx (by omega) ?_ | fail)
    all_goals try (exfalso; omega)
    (first | refine wA rfl _ (⟨a, b, 19, rfl, hw.1, hw.2, by show (Ex.thn a b).steps.length ≤ _; omega, rfl⟩) ?_ | refine dA rfl _ (⟨a, b, 19, rfl, hw.1, hw.2, by show (Ex.thn a b).steps.length ≤ _; omega, rfl⟩) ?_); simp (maxSteps := 2000000) only [go_sem]
    repeat' (first | refine wS fun K hK => ?_ | refine wB ?_ | ((first | refine CW.regG hΓ [19, 56, 70, 73, 77, 92, 93, 97, 104, 114, 116] [115] 79 0 (by rw [hκ]; rfl) (by kernel_rfl) (fun v0 => ?_) | refine CW.drwL hΓ Tryz_mixed [19, 56, 70, 73, 77, 92, 93, 97, 104, 114, 116] 0 (by rw [hκ]; rfl) (by kernel_rfl) (by kernel_rfl) fun v0 B hB => ?_); simp (maxSteps := 2000000) only [go_sem]) | ((repeat ((fail_if_success (refine hK _ ?_)); clear hK K)); refine hK _ ?_; clear hK K) | (refine w1 ?_; simp only [xs, xi, Nat.reduceEqDiff, reduceCtorEq, retL_ret, retL_normal]) | (refine wC (fun hb => ?_) fun hb => ?_ <;> (try simp only [xb, reduceCtorEq] at hb)) | (refine w2 (fun hc => ?_) (fun hc => ?_) <;> (try simp only [xc] at hc) <;> (try simp only [go_sem, hc]) <;> (try simp only [xb] at hc)) | refine wI ?_ | refine ex_idx (by omega) ?_ | fail)
    (first | refine W_askE rfl _ _ (⟨bs, a, deep, p + 1, rfl, hw.1, by omega, hdp, hcd, by omega, rfl, rfl⟩) ?_ | refine D_askE rfl _ _ (⟨bs, a, deep, p + 1, rfl, hw.1, by omega, hdp, hcd, by omega, rfl, rfl⟩) ?_); simp (maxSteps := 2000000) only [go_sem]
    rw [hA]
    dsimp only
    repeat' (first | refine wS fun K hK => ?_ | refine wB ?_ | ((first | refine CW.regG hΓ [19, 56, 70, 73, 77, 92, 93, 97, 104, 114, 116] [115] 79 0 (by rw [hκ]; rfl) (by kernel_rfl) (fun v0 => ?_) | refine CW.drwL hΓ Tryz_mixed [19, 56, 70, 73, 77, 92, 93, 97, 104, 114, 116] 0 (by rw [hκ]; rfl) (by kernel_rfl) (by kernel_rfl) fun v0 B hB => ?_); simp (maxSteps := 2000000) only [go_sem]) | ((repeat ((fail_if_success (refine hK _ ?_)); clear hK K)); refine hK _ ?_; clear hK K) | (refine w1 ?_; simp only [xs, xi, Nat.reduceEqDiff, reduceCtorEq, retL_ret, retL_normal]) | (refine wC (fun hb => ?_) fun hb => ?_ <;> (try simp only [xb, reduceCtorEq] at hb)) | (refine w2 (fun hc => ?_) (fun hc => ?_) <;> (try simp only [xc] at hc) <;> (try simp only [go_sem, hc]) <;> (try simp only [xb] at hc)) | refine wI ?_ | refine ex_idx (by omega) ?_ | fail)
    (first | refine W_askE rfl _ _ (⟨bs, b, deep, p1, rfl, hw.2, by omega, hdp, hcd, by omega, rfl, rfl⟩) ?_ | refine D_askE rfl _ _ (⟨bs, b, deep, p1, rfl, hw.2, by omega, hdp, hcd, by omega, rfl, rfl⟩) ?_); simp (maxSteps := 2000000) only [go_sem]
    rw [hB2]
    dsimp only
    repeat' (first | refine wS fun K hK => ?_ | refine wB ?_ | ((first | refine CW.regG hΓ [19, 56, 70, 73, 77, 92, 93, 97, 104, 114, 116] [115] 79 0 (by rw [hκ]; rfl) (by kernel_rfl) (fun v0 => ?_) | refine CW.drwL hΓ Tryz_mixed [19, 56, 70, 73, 77, 92, 93, 97, 104, 114, 116] 0 (by rw [hκ]; rfl) (by kernel_rfl) (by kernel_rfl) fun v0 B hB => ?_); simp (maxSteps := 2000000) only [go_sem]) | ((repeat ((fail_if_success (refine hK _ ?_)); clear hK K)); refine hK _ ?_; clear hK K) | (refine w1 ?_; simp only [xs, xi, Nat.reduceEqDiff, reduceCtorEq, retL_ret, retL_normal]) | (refine wC (fun hb => ?_) fun hb => ?_ <;> (try simp only [xb, reduceCtorEq] at hb)) | (refine w2 (fun hc => ?_) (fun hc => ?_) <;> (try simp only [xc] at hc) <;> (try simp only [go_sem, hc]) <;> (try simp only [xb] at hc)) | refine wI ?_ | refine ex_idx (by omega) ?_ | fail)
    (first | refine W_askE rfl _ _ (⟨bs, p2, A, B2, rfl, hcd, by omega, a3, by omega, by omega, rfl, rfl⟩) ?_ | refine D_askE rfl _ _ (⟨bs, p2, A, B2, rfl, hcd, by omega, a3, by omega, by omega, rfl, rfl⟩) ?_); simp (maxSteps := 2000000) only [go_sem]
    repeat' (first | refine wS fun K hK => ?_ | refine wB ?_ | ((first | refine CW.regG hΓ [19, 56, 70, 73, 77, 92, 93, 97, 104, 114, 116] [115] 79 0 (by rw [hκ]; rfl) (by kernel_rfl) (fun v0 => ?_) | refine CW.drwL hΓ Tryz_mixed [19, 56, 70, 73, 77, 92, 93, 97, 104, 114, 116] 0 (by rw [hκ]; rfl) (by kernel_rfl) (by kernel_rfl) fun v0 B hB => ?_); simp (maxSteps := 2000000) only [go_sem]) | ((repeat ((fail_if_success (refine hK _ ?_)); clear hK K)); refine hK _ ?_; clear hK K) | (refine w1 ?_; simp only [xs, xi, Nat.reduceEqDiff, reduceCtorEq, retL_ret, retL_normal]) | (refine wC (fun hb => ?_) fun hb => ?_ <;> (try simp only [xb, reduceCtorEq] at hb)) | (refine w2 (fun hc => ?_) (fun hc => ?_) <;> (try simp only [xc] at hc) <;> (try simp only [go_sem, hc]) <;> (try simp only [xb] at hc)) | refine wI ?_ | refine ex_idx (by omega) ?_ | fail)
    rw [hX]
    simp [Tryz.results61, RetL, upd_at, plainB, isOwn, anyOwn]
  | str a =>
    have hlast2 : (Ex.str a).steps[(Ex.str a).steps.length - 1]'(by omega) = 21 := hlast
    have hlen : (Ex.str a).steps.length = a.steps.length + 1 := by simp only [Ex.steps, List.length_append, List.length_cons, List.length_nil]
    have hpa := a.steps_pos
    have hk3 := pickX_lt (bs := bs) (p := p + 1) (n := 3) (by decide)
    obtain ⟨k0, hk0⟩ : ∃ k, pickX bs (p + 1) 3 = k := ⟨_, rfl⟩
    rw [hk0] at hk3
    have hX : ofX bs (.str a) deep p = starX bs (fun q => ofX bs a (deep - 1) q) (if 0 < deep then k0 else 0) [(a0 : Int)] (p + 2) := by rw [ofX, hk0, ha0]
    obtain ⟨⟨S, pF⟩, hS⟩ : ∃ o, ofX bs (.str a) deep p = o := ⟨_, rfl⟩
    rw [hS] at hX
    have htk : ((Ex.str a).steps.map I).take ((Ex.str a).steps.length - 1) = a.steps.map I := by rw [hlen]; simp [Ex.steps]
    have hed : ((deep : Nat) : Int) - 1 = ((deep - 1 : Nat) : Int) ∨ deep = 0 := by omega
    obtain ⟨C1, hC1⟩ : ∃ C, 27 * a.steps.length = C := ⟨_, rfl⟩
    obtain ⟨C2, hC2⟩ : ∃ C, 36 * a.steps.length + 1 = C := ⟨_, rfl⟩
    clear hlast hop
    repeat' (first | refine wS fun K hK => ?_ | refine wB ?_ | ((first | refine CW.regG hΓ [19, 56, 70, 73, 77, 92, 93, 97, 104, 114, 116] [115] 79 0 (by rw [hκ]; rfl) (by kernel_rfl) (fun v0 => ?_) | refine CW.drwL hΓ Tryz_mixed [19, 56, 70, 73, 77, 92, 93, 97, 104, 114, 116] 0 (by rw [hκ]; rfl) (by kernel_rfl) (by kernel_rfl) fun v0 B hB => ?_); simp (maxSteps := 2000000) only [go_sem, hlast2]) | ((repeat ((fail_if_success (refine hK _ ?_)); clear hK K)); refine hK _ ?_; clear hK K) | (refine w1 ?_; simp only [xs, xi, Nat.reduceEqDiff, reduceCtorEq, retL_ret, retL_normal]) | (refine wC (fun hb => ?_) fun hb => ?_ <;> (try simp only [xb, reduceCtorEq] at hb)) | (refine w2 (fun hc => ?_) (fun hc => ?_) <;> (try simp only [xc] at hc) <;> (try simp only [go_sem, hc, hlast2]) <;> (try simp only [xb] at hc)) | refine wI ?_ | refine ex_idx (by omega) ?_ | fail)
    all_goals try (exfalso; omega)
    (first | refine W_askE rfl _ _ (⟨bs, p + 1, 3, rfl, hcd, by omega, by omega, rfl, rfl⟩) ?_ | refine D_askE rfl _ _ (⟨bs, p + 1, 3, rfl, hcd, by omega, by omega, rfl, rfl⟩) ?_); simp (maxSteps := 2000000) only [go_sem]
    rw [hk0]
    repeat' (first | refine wS fun K hK => ?_ | refine wB ?_ | ((first | refine CW.regG hΓ [19, 56, 70, 73, 77, 92, 93, 97, 104, 114, 116] [115] 79 0 (by rw [hκ]; rfl) (by kernel_rfl) (fun v0 => ?_) | refine CW.drwL hΓ Tryz_mixed [19, 56, 70, 73, 77, 92, 93, 97, 104, 114, 116] 0 (by rw [hκ]; rfl) (by kernel_rfl) (by kernel_rfl) fun v0 B hB => ?_); simp (maxSteps := 2000000) only [go_sem]) | ((repeat ((fail_if_success (refine hK _ ?_)); clear hK K)); refine hK _ ?_; clear hK K) | (refine w1 ?_; simp only [xs, xi, Nat.reduceEqDiff, reduceCtorEq, retL_ret, retL_normal]) | (refine wC (fun hb => ?_) fun hb => ?_ <;> (try simp only [xb, reduceCtorEq] at hb)) | (refine w2 (fun hc => ?_) (fun hc => ?_) <;> (try simp only [xc] at hc) <;> (try simp only [go_sem, hc]) <;> (try simp only [xb] at hc)) | refine wI ?_ | refine ex_idx (by omega) ?_ | fail)
    refine CW.loop (ι := Nat × List Int × Nat) (fun y => [(0, rdr bs y.2.2), (1, ints (Ex.str a).steps), (2, I (deep : Int)), (7, I (((Ex.str a).steps.length - 1 : Nat) : Int)), (14, oints y.2.1), (15, I (y.1 : Int))]) (fun y => (0 < deep → starX bs (fun q => ofX bs a (deep - 1) q) y.1 y.2.1 y.2.2 = (S, pF)) ∧ (¬ 0 < deep → (y.2.1, y.2.2) = (S, pF)) ∧ 1 ≤ y.2.1.length ∧ y.2.1.length + y.1 * C1 ≤ 1 + 2 * C1 ∧ y.2.2 + y.1 * C2 ≤ p + 2 + 2 * C2 ∧ y.1 ≤ 2) (fun y => y.1) (k0, [(a0 : Int)], p + 2) ?_ ?_
    · refine ⟨by (simp only [xe, xj, Nat.reduceEqDiff]; (try simp [view, viewL_map]); (try omega)), fun h => ?_, fun h => ?_, by simp, ?_, ?_, by dsimp only; omega⟩
      · rw [hX, if_pos h]
      · rw [hX, if_neg h]; rfl
      · have : k0 * C1 ≤ 2 * C1 := Nat.mul_le_mul_right _ (by omega)
        simp; omega
      · have : k0 * C2 ≤ 2 * C2 := Nat.mul_le_mul_right _ (by omega)
        dsimp only; omega
    rintro ⟨k, out, q⟩ ⟨g1, g2, g3, g4, g5, g6⟩
    dsimp only at g1 g2 g3 g4 g5 g6
    simp only [envOf]
    repeat' (first | refine wS fun K hK => ?_ | refine wB ?_ | ((first | refine CW.regG hΓ [19, 56, 70, 73, 77, 92, 93, 97, 104, 114, 116] [115] 79 0 (by rw [hκ]; rfl) (by kernel_rfl) (fun v0 => ?_) | refine CW.drwL hΓ Tryz_mixed [19, 56, 70, 73, 77, 92, 93, 97, 104, 114, 116] 0 (by rw [hκ]; rfl) (by kernel_rfl) (by kernel_rfl) fun v0 B hB => ?_); simp (maxSteps := 2000000) only [go_sem]) | ((repeat ((fail_if_success (refine hK _ ?_)); clear hK K)); refine hK _ ?_; clear hK K) | (refine w1 ?_; simp only [xs, xi, Nat.reduceEqDiff, reduceCtorEq, retL_ret, retL_normal]) | (refine wC (fun hb => ?_) fun hb => ?_ <;> (try simp only [xb, reduceCtorEq] at hb)) | (refine w2 (fun hc => ?_) (fun hc => ?_) <;> (try simp only [xc] at hc) <;> (try simp only [go_sem, hc]) <;> (try simp only [xb] at hc)) | refine wI ?_ | refine ex_idx (by omega) ?_ | fail)
    · have hdpos : 0 < deep := by omega
      obtain ⟨j, rfl⟩ : ∃ j, k = j + 1 := ⟨k - 1, by omega⟩
      have hed2 : ((deep : Nat) : Int) - 1 = ((deep - 1 : Nat) : Int) := by omega
      have ek : ((j + 1 : Nat) : Int) - 1 = (j : Int) := by omega
      have m1 : (j + 1) * C1 = j * C1 + C1 := Nat.succ_mul _ _
      have m2 : (j + 1) * C2 = j * C2 + C2 := Nat.succ_mul _ _
      rw [m1] at g4
      rw [m2] at g5
      have g1' := g1 hdpos
      have f1 := ofX_p9 bs a (deep := deep - 1) q (by omega)
      have f2 := ofX_len9 bs a (deep := deep - 1) q (by omega)
      have f3 := ofX_pos bs a (deep - 1) q
      rw [starX] at g1'
      obtain ⟨⟨s1, q1⟩, hs1⟩ : ∃ o, ofX bs a (deep - 1) q = o := ⟨_, rfl⟩
      rw [hs1] at f1 f2 f3
      simp only [hs1] at g1'
      dsimp only at f1 f2 f3
      have f4 := glueX_len bs q1 out s1
      have f5 := glueX_p bs q1 out s1
      have f6 := glueX_pos bs q1 g3 f3
      obtain ⟨⟨s2, q2⟩, hs2⟩ : ∃ o, glueX bs q1 out s1 = o := ⟨_, rfl⟩
      rw [hs2] at f4 f5 f6 g1'
      dsimp only at f4 f5 f6 g1'
      have hj2 : j * C1 ≤ 2 * C1 := by omega
      rw [htk, hed2]
      simp only [List.drop_zero]
      (first | refine W_askE rfl _ _ (⟨bs, a, deep - 1, q, rfl, hw, by omega, by omega, hcd, by omega, rfl, rfl⟩) ?_ | refine D_askE rfl _ _ (⟨bs, a, deep - 1, q, rfl, hw, by omega, by omega, hcd, by omega, rfl, rfl⟩) ?_); simp (maxSteps := 2000000) only [go_sem]
      rw [hs1]
      dsimp only
      repeat' (first | refine wS fun K hK => ?_ | refine wB ?_ | ((first | refine CW.regG hΓ [19, 56, 70, 73, 77, 92, 93, 97, 104, 114, 116] [115] 79 0 (by rw [hκ]; rfl) (by kernel_rfl) (fun v0 => ?_) | refine CW.drwL hΓ Tryz_mixed [19, 56, 70, 73, 77, 92, 93, 97, 104, 114, 116] 0 (by rw [hκ]; rfl) (by kernel_rfl) (by kernel_rfl) fun v0 B hB => ?_); simp (maxSteps := 2000000) only [go_sem]) | ((repeat ((fail_if_success (refine hK _ ?_)); clear hK K)); refine hK _ ?_; clear hK K) | (refine w1 ?_; simp only [xs, xi, Nat.reduceEqDiff, reduceCtorEq, retL_ret, retL_normal]) | (refine wC (fun hb => ?_) fun hb => ?_ <;> (try simp only [xb, reduceCtorEq] at hb)) | (refine w2 (fun hc => ?_) (fun hc => ?_) <;> (try simp only [xc] at hc) <;> (try simp only [go_sem, hc]) <;> (try simp only [xb] at hc)) | refine wI ?_ | refine ex_idx (by omega) ?_ | fail)
      (first | refine W_askE rfl _ _ (⟨bs, q1, out, s1, rfl, hcd, by omega, g3, by omega, by omega, rfl, rfl⟩) ?_ | refine D_askE rfl _ _ (⟨bs, q1, out, s1, rfl, hcd, by omega, g3, by omega, by omega, rfl, rfl⟩) ?_); simp (maxSteps := 2000000) only [go_sem]
      rw [hs2]
      dsimp only
      repeat' (first | refine wS fun K hK => ?_ | refine wB ?_ | ((first | refine CW.regG hΓ [19, 56, 70, 73, 77, 92, 93, 97, 104, 114, 116] [115] 79 0 (by rw [hκ]; rfl) (by kernel_rfl) (fun v0 => ?_) | refine CW.drwL hΓ Tryz_mixed [19, 56, 70, 73, 77, 92, 93, 97, 104, 114, 116] 0 (by rw [hκ]; rfl) (by kernel_rfl) (by kernel_rfl) fun v0 B hB => ?_); simp (maxSteps := 2000000) only [go_sem, ek]) | ((repeat ((fail_if_success (refine hK _ ?_)); clear hK K)); refine hK _ ?_; clear hK K) | (refine w1 ?_; simp only [xs, xi, Nat.reduceEqDiff, reduceCtorEq, retL_ret, retL_normal]) | (refine wC (fun hb => ?_) fun hb => ?_ <;> (try simp only [xb, reduceCtorEq] at hb)) | (refine w2 (fun hc => ?_) (fun hc => ?_) <;> (try simp only [xc] at hc) <;> (try simp only [go_sem, hc, ek]) <;> (try simp only [xb] at hc)) | refine wI ?_ | refine ex_idx (by omega) ?_ | fail)
      exact ⟨(j, s2, q2), by (simp only [xe, xj, Nat.reduceEqDiff]; (try simp [view, viewL_map]); (try omega)), ⟨fun _ => g1', fun h => absurd hdpos h, f6, by dsimp only; omega, by dsimp only; omega, by dsimp only; omega⟩, by dsimp only; omega⟩
    · have hd0 : ¬ 0 < deep := by omega
      have := g2 hd0
      injection this with q1 q2
      subst q1 q2
      rw [hS]
      simp [Tryz.results61, RetL, upd_at, plainB, isOwn, anyOwn]
    · have hk00 : k = 0 := by omega
      subst hk00
      have : (out, q) = (S, pF) := by
        by_cases hd0 : 0 < deep
        · exact g1 hd0
        · exact g2 hd0
      injection this with q1 q2
      subst q1 q2
      rw [hS]
      simp [Tryz.results61, RetL, upd_at, plainB, isOwn, anyOwn]

theorem of_all : ∀ N : Nat, N ≤ 4096 → CtrOK Tryz.prog 61 (effC (ofXR N))
  | 0, h => of_step 0 h ⟨⟨_, _, Tryz.func61, rfl, rfl⟩, fun args r args' ⟨_, x, _, _, _, _, h, _⟩ => by have := x.steps_pos; omega⟩
  | N + 1, h => of_step (N + 1) h (of_all N (by omega))
theorem of_ctr : CtrOK Tryz.prog 61 (effC (ofXR 4096)) := of_all 4096 (by omega)

def toldXR (args : List AV) (r : AV) (args' : List AV) : Prop := ∃ (bs : List Nat) (p parts : Nat), args = [rdr bs p, I (parts : Int)] ∧ CodeOK bs ∧ p < 1000000000 ∧ parts ≤ 1000 ∧ r = .tup [ints (toldX bs p parts).1, oints (toldX bs p parts).2.1] ∧ args' = [rdr bs (toldX bs p parts).2.2]
theorem told_ctr : CtrOK Tryz.prog 31 (effC toldXR) := by
  refine ctr_lend' Tryz.func31 rfl rfl Tryz.ntmps31 ?_
  rintro _ _ _ ⟨bs, p, parts, rfl, hcd, hp, hpa, rfl, rfl⟩
  refine ⟨_, rfl, by simp, by simp, fun κ hκ => ?_⟩
  have hbig := bigW_gt
  rw [argEnv_eq]
  simp only [envA]
  have hΓ := ctxOf_ok (P := Tryz.prog) (cx pick_ctr <| cx kat_ctr <| cx specKatValid_ctr <| cx trace_ctr <| cx of_ctr <| cx0)
  have k1 := katX_p bs p parts 12
  have k2 := katX_len bs p parts 12
  obtain ⟨⟨e, p1⟩, hE⟩ : ∃ o, katX bs p parts 12 = o := ⟨_, rfl⟩
  rw [hE] at k1 k2
  dsimp only at k1 k2
  have hX : toldX bs p parts = if katB e = false then (e, (traceX bs p1 3 12).1, (traceX bs p1 3 12).2)
      else if pickX bs p1 3 = 0 then (e, (traceX bs (p1 + 1) 3 12).1, (traceX bs (p1 + 1) 3 12).2)
      else
        let t := ofX bs (exOf e) 2 (p1 + 1)
        let u := if 41 < t.1.length then t.1.take 41 else t.1
        if pickX bs t.2 5 = 0 then (e, u.set (pickX bs (t.2 + 1) (u.length / 2 + 1) * 2) (pickX bs (t.2 + 2) 4 : Int), t.2 + 3)
        else (e, u, t.2 + 1) := by unfold toldX; rw [hE]
  refine CW.seqK fun K hK => ?_
  repeat' (first | refine wB ?_ | ((first | refine CW.regG hΓ [9, 21, 23, 31, 34, 43] [29] 79 0 (by rw [hκ]; rfl) (by kernel_rfl) (fun v0 => ?_) | refine CW.drwL hΓ Tryz_mixed [9, 16, 21, 23, 31, 34, 43] 0 (by rw [hκ]; rfl) (by kernel_rfl) (by kernel_rfl) fun v0 B hB => ?_); simp (maxSteps := 2000000) only [go_sem]) | (refine w1 ?_; simp only [xs, xi, Nat.reduceEqDiff, reduceCtorEq, retL_ret, retL_normal]) | (refine wC (fun hb => ?_) fun hb => ?_ <;> (try simp only [xb, reduceCtorEq] at hb)) | (refine w2 (fun hc => ?_) (fun hc => ?_) <;> (try simp only [xc] at hc) <;> (try simp only [go_sem, hc]) <;> (try simp only [xb] at hc)) | refine wI ?_ | refine ex_idx (by omega) ?_ | fail)
  (refine hK _ ?_; clear hK K)
  refine CW.seqK fun K hK => ?_
  repeat' (first | refine wB ?_ | ((first | refine CW.regG hΓ [9, 21, 23, 31, 34, 43] [29] 79 0 (by rw [hκ]; rfl) (by kernel_rfl) (fun v0 => ?_) | refine CW.drwL hΓ Tryz_mixed [9, 16, 21, 23, 31, 34, 43] 0 (by rw [hκ]; rfl) (by kernel_rfl) (by kernel_rfl) fun v0 B hB => ?_); simp (maxSteps := 2000000) only [go_sem]) | (refine w1 ?_; simp only [xs, xi, Nat.reduceEqDiff, reduceCtorEq, retL_ret, retL_normal]) | (refine wC (fun hb => ?_) fun hb => ?_ <;> (try simp only [xb, reduceCtorEq] at hb)) | (refine w2 (fun hc => ?_) (fun hc => ?_) <;> (try simp only [xc] at hc) <;> (try simp only [go_sem, hc]) <;> (try simp only [xb] at hc)) | refine wI ?_ | refine ex_idx (by omega) ?_ | fail)
  (first | refine W_askE rfl _ _ (⟨bs, p, parts, 12, rfl, hcd, by omega, hpa, by omega, rfl, rfl⟩) ?_ | refine D_askE rfl _ _ (⟨bs, p, parts, 12, rfl, hcd, by omega, hpa, by omega, rfl, rfl⟩) ?_); simp (maxSteps := 2000000) only [go_sem]
  rw [hE]
  dsimp only
  repeat' (first | refine wB ?_ | ((first | refine CW.regG hΓ [9, 21, 23, 31, 34, 43] [29] 79 0 (by rw [hκ]; rfl) (by kernel_rfl) (fun v0 => ?_) | refine CW.drwL hΓ Tryz_mixed [9, 16, 21, 23, 31, 34, 43] 0 (by rw [hκ]; rfl) (by kernel_rfl) (by kernel_rfl) fun v0 B hB => ?_); simp (maxSteps := 2000000) only [go_sem]) | (refine w1 ?_; simp only [xs, xi, Nat.reduceEqDiff, reduceCtorEq, retL_ret, retL_normal]) | (refine wC (fun hb => ?_) fun hb => ?_ <;> (try simp only [xb, reduceCtorEq] at hb)) | (refine w2 (fun hc => ?_) (fun hc => ?_) <;> (try simp only [xc] at hc) <;> (try simp only [go_sem, hc]) <;> (try simp only [xb] at hc)) | refine wI ?_ | refine ex_idx (by omega) ?_ | fail)
  (refine hK _ ?_; clear hK K)
  refine CW.frz 6 [] (oints e) (by simp [upd_at, getP]) rfl ?_
  simp (maxSteps := 2000000) only [go_sem]
  repeat' (first | refine wS fun K hK => ?_ | refine wB ?_ | ((first | refine CW.regG hΓ [9, 21, 23, 31, 34, 43] [29] 79 0 (by rw [hκ]; rfl) (by kernel_rfl) (fun v0 => ?_) | refine CW.drwL hΓ Tryz_mixed [9, 16, 21, 23, 31, 34, 43] 0 (by rw [hκ]; rfl) (by kernel_rfl) (by kernel_rfl) fun v0 B hB => ?_); simp (maxSteps := 2000000) only [go_sem]) | ((repeat ((fail_if_success (refine hK _ ?_)); clear hK K)); refine hK _ ?_; clear hK K) | (refine w1 ?_; simp only [xs, xi, Nat.reduceEqDiff, reduceCtorEq, retL_ret, retL_normal]) | (refine wC (fun hb => ?_) fun hb => ?_ <;> (try simp only [xb, reduceCtorEq] at hb)) | (refine w2 (fun hc => ?_) (fun hc => ?_) <;> (try simp only [xc] at hc) <;> (try simp only [go_sem, hc]) <;> (try simp only [xb] at hc)) | refine wI ?_ | refine ex_idx (by omega) ?_ | fail)
  (first | refine wA rfl _ (⟨e, by simp [view], by omega, rfl⟩) ?_ | refine dA rfl _ (⟨e, by simp [view], by omega, rfl⟩) ?_); simp (maxSteps := 2000000) only [go_sem]
  repeat' (first | refine wS fun K hK => ?_ | refine wB ?_ | ((first | refine CW.regG hΓ [9, 21, 23, 31, 34, 43] [29] 79 0 (by rw [hκ]; rfl) (by kernel_rfl) (fun v0 => ?_) | refine CW.drwL hΓ Tryz_mixed [9, 16, 21, 23, 31, 34, 43] 0 (by rw [hκ]; rfl) (by kernel_rfl) (by kernel_rfl) fun v0 B hB => ?_); simp (maxSteps := 2000000) only [go_sem]) | ((repeat ((fail_if_success (refine hK _ ?_)); clear hK K)); refine hK _ ?_; clear hK K) | (refine w1 ?_; simp only [xs, xi, Nat.reduceEqDiff, reduceCtorEq, retL_ret, retL_normal]) | (refine wC (fun hb => ?_) fun hb => ?_ <;> (try simp only [xb, reduceCtorEq] at hb)) | (refine w2 (fun hc => ?_) (fun hc => ?_) <;> (try simp only [xc] at hc) <;> (try simp only [go_sem, hc]) <;> (try simp only [xb] at hc)) | refine wI ?_ | refine ex_idx (by omega) ?_ | fail)
  · obtain ⟨x, hw, rfl, h40⟩ := katB_tree hc
    rw [if_neg (by simp [hc]), exOf_steps hw] at hX
    (first | refine W_askE rfl _ _ (⟨bs, p1, 3, rfl, hcd, by omega, by omega, rfl, rfl⟩) ?_ | refine D_askE rfl _ _ (⟨bs, p1, 3, rfl, hcd, by omega, by omega, rfl, rfl⟩) ?_); simp (maxSteps := 2000000) only [go_sem]
    repeat' (first | refine wS fun K hK => ?_ | refine wB ?_ | ((first | refine CW.regG hΓ [9, 21, 23, 31, 34, 43] [29] 79 0 (by rw [hκ]; rfl) (by kernel_rfl) (fun v0 => ?_) | refine CW.drwL hΓ Tryz_mixed [9, 16, 21, 23, 31, 34, 43] 0 (by rw [hκ]; rfl) (by kernel_rfl) (by kernel_rfl) fun v0 B hB => ?_); simp (maxSteps := 2000000) only [go_sem]) | ((repeat ((fail_if_success (refine hK _ ?_)); clear hK K)); refine hK _ ?_; clear hK K) | (refine w1 ?_; simp only [xs, xi, Nat.reduceEqDiff, reduceCtorEq, retL_ret, retL_normal]) | (refine wC (fun hb => ?_) fun hb => ?_ <;> (try simp only [xb, reduceCtorEq] at hb)) | (refine w2 (fun hc => ?_) (fun hc => ?_) <;> (try simp only [xc] at hc) <;> (try simp only [go_sem, hc]) <;> (try simp only [xb] at hc)) | refine wI ?_ | refine ex_idx (by omega) ?_ | fail)
    · rw [if_pos (by omega)] at hX
      (first | refine W_askE rfl _ _ (⟨bs, p1 + 1, 3, 12, rfl, hcd, by omega, by omega, by omega, rfl, rfl⟩) ?_ | refine D_askE rfl _ _ (⟨bs, p1 + 1, 3, 12, rfl, hcd, by omega, by omega, by omega, rfl, rfl⟩) ?_); simp (maxSteps := 2000000) only [go_sem]
      repeat' (first | refine wS fun K hK => ?_ | refine wB ?_ | ((first | refine CW.regG hΓ [9, 21, 23, 31, 34, 43] [29] 79 0 (by rw [hκ]; rfl) (by kernel_rfl) (fun v0 => ?_) | refine CW.drwL hΓ Tryz_mixed [9, 16, 21, 23, 31, 34, 43] 0 (by rw [hκ]; rfl) (by kernel_rfl) (by kernel_rfl) fun v0 B hB => ?_); simp (maxSteps := 2000000) only [go_sem]) | ((repeat ((fail_if_success (refine hK _ ?_)); clear hK K)); refine hK _ ?_; clear hK K) | (refine w1 ?_; simp only [xs, xi, Nat.reduceEqDiff, reduceCtorEq, retL_ret, retL_normal]) | (refine wC (fun hb => ?_) fun hb => ?_ <;> (try simp only [xb, reduceCtorEq] at hb)) | (refine w2 (fun hc => ?_) (fun hc => ?_) <;> (try simp only [xc] at hc) <;> (try simp only [go_sem, hc]) <;> (try simp only [xb] at hc)) | refine wI ?_ | refine ex_idx (by omega) ?_ | fail)
      rw [hX]
      simp [Tryz.results31, RetL, upd_at, plainB, isOwn, anyOwn]
      exact ⟨_, _, ⟨rfl, rfl⟩, rfl, rfl, .inl rfl, .inl rfl⟩
    · rw [if_neg (by omega)] at hX
      have f1 := ofX_p9 bs x (deep := 2) (p1 + 1) (by omega)
      have f2 := ofX_odd bs x 2 (p1 + 1)
      obtain ⟨⟨t, q⟩, hT⟩ : ∃ o, ofX bs x 2 (p1 + 1) = o := ⟨_, rfl⟩
      rw [hT] at f1 f2
      simp only [hT] at hX
      dsimp only at f1 f2
      (first | refine W_askE rfl _ _ (⟨bs, x, 2, p1 + 1, rfl, hw, by omega, by omega, hcd, by omega, rfl, rfl⟩) ?_ | refine D_askE rfl _ _ (⟨bs, x, 2, p1 + 1, rfl, hw, by omega, by omega, hcd, by omega, rfl, rfl⟩) ?_); simp (maxSteps := 2000000) only [go_sem]
      rw [hT]
      dsimp only
      repeat' (first | refine wS fun K hK => ?_ | refine wB ?_ | ((first | refine CW.regG hΓ [9, 21, 23, 31, 34, 43] [29] 79 0 (by rw [hκ]; rfl) (by kernel_rfl) (fun v0 => ?_) | refine CW.drwL hΓ Tryz_mixed [9, 16, 21, 23, 31, 34, 43] 0 (by rw [hκ]; rfl) (by kernel_rfl) (by kernel_rfl) fun v0 B hB => ?_); simp (maxSteps := 2000000) only [go_sem]) | ((repeat ((fail_if_success (refine hK _ ?_)); clear hK K)); refine hK _ ?_; clear hK K) | (refine w1 ?_; simp only [xs, xi, Nat.reduceEqDiff, reduceCtorEq, retL_ret, retL_normal]) | (refine wC (fun hb => ?_) fun hb => ?_ <;> (try simp only [xb, reduceCtorEq] at hb)) | (refine w2 (fun hc => ?_) (fun hc => ?_) <;> (try simp only [xc] at hc) <;> (try simp only [go_sem, hc]) <;> (try simp only [xb] at hc)) | refine wI ?_ | refine ex_idx (by omega) ?_ | fail)
      · rw [if_pos (show 41 < t.length by omega)] at hX
        have hu : (t.take 41).length = 41 := by simp; omega
        rw [show List.take (Int.toNat 41) (List.map I t) = List.map I (t.take 41) from by simp [List.map_take]]
        generalize t.take 41 = u at *
        (first | refine W_askE rfl _ _ (⟨bs, q, 5, rfl, hcd, by omega, by omega, rfl, rfl⟩) ?_ | refine D_askE rfl _ _ (⟨bs, q, 5, rfl, hcd, by omega, by omega, rfl, rfl⟩) ?_); simp (maxSteps := 2000000) only [go_sem]
        repeat' (first | refine wS fun K hK => ?_ | refine wB ?_ | ((first | refine CW.regG hΓ [9, 21, 23, 31, 34, 43] [29] 79 0 (by rw [hκ]; rfl) (by kernel_rfl) (fun v0 => ?_) | refine CW.drwL hΓ Tryz_mixed [9, 16, 21, 23, 31, 34, 43] 0 (by rw [hκ]; rfl) (by kernel_rfl) (by kernel_rfl) fun v0 B hB => ?_); simp (maxSteps := 2000000) only [go_sem]) | ((repeat ((fail_if_success (refine hK _ ?_)); clear hK K)); refine hK _ ?_; clear hK K) | (refine w1 ?_; simp only [xs, xi, Nat.reduceEqDiff, reduceCtorEq, retL_ret, retL_normal]) | (refine wC (fun hb => ?_) fun hb => ?_ <;> (try simp only [xb, reduceCtorEq] at hb)) | (refine w2 (fun hc => ?_) (fun hc => ?_) <;> (try simp only [xc] at hc) <;> (try simp only [go_sem, hc]) <;> (try simp only [xb] at hc)) | refine wI ?_ | refine ex_idx (by omega) ?_ | fail)
        · rw [if_pos (by omega)] at hX
          have eL : ((u.length : Int) / 2 + 1) = ((u.length / 2 + 1 : Nat) : Int) := by omega
          have pb := pickX_lt (bs := bs) (p := q + 1) (n := u.length / 2 + 1) (by omega)
          obtain ⟨a, ha⟩ : ∃ a, pickX bs (q + 1) (u.length / 2 + 1) = a := ⟨_, rfl⟩
          rw [ha] at hX pb
          rw [eL]
          (first | refine W_askE rfl _ _ (⟨bs, q + 1, u.length / 2 + 1, rfl, hcd, by omega, by omega, rfl, rfl⟩) ?_ | refine D_askE rfl _ _ (⟨bs, q + 1, u.length / 2 + 1, rfl, hcd, by omega, by omega, rfl, rfl⟩) ?_); simp (maxSteps := 2000000) only [go_sem]
          rw [ha]
          repeat' (first | refine wS fun K hK => ?_ | refine wB ?_ | ((first | refine CW.regG hΓ [9, 21, 23, 31, 34, 43] [29] 79 0 (by rw [hκ]; rfl) (by kernel_rfl) (fun v0 => ?_) | refine CW.drwL hΓ Tryz_mixed [9, 16, 21, 23, 31, 34, 43] 0 (by rw [hκ]; rfl) (by kernel_rfl) (by kernel_rfl) fun v0 B hB => ?_); simp (maxSteps := 2000000) only [go_sem]) | ((repeat ((fail_if_success (refine hK _ ?_)); clear hK K)); refine hK _ ?_; clear hK K) | (refine w1 ?_; simp only [xs, xi, Nat.reduceEqDiff, reduceCtorEq, retL_ret, retL_normal]) | (refine wC (fun hb => ?_) fun hb => ?_ <;> (try simp only [xb, reduceCtorEq] at hb)) | (refine w2 (fun hc => ?_) (fun hc => ?_) <;> (try simp only [xc] at hc) <;> (try simp only [go_sem, hc]) <;> (try simp only [xb] at hc)) | refine wI ?_ | refine ex_idx (by omega) ?_ | fail)
          (first | refine W_askE rfl _ _ (⟨bs, q + 2, 4, rfl, hcd, by omega, by omega, rfl, rfl⟩) ?_ | refine D_askE rfl _ _ (⟨bs, q + 2, 4, rfl, hcd, by omega, by omega, rfl, rfl⟩) ?_); simp (maxSteps := 2000000) only [go_sem]
          repeat' (first | refine wS fun K hK => ?_ | refine wB ?_ | ((first | refine CW.regG hΓ [9, 21, 23, 31, 34, 43] [29] 79 0 (by rw [hκ]; rfl) (by kernel_rfl) (fun v0 => ?_) | refine CW.drwL hΓ Tryz_mixed [9, 16, 21, 23, 31, 34, 43] 0 (by rw [hκ]; rfl) (by kernel_rfl) (by kernel_rfl) fun v0 B hB => ?_); simp (maxSteps := 2000000) only [go_sem]) | ((repeat ((fail_if_success (refine hK _ ?_)); clear hK K)); refine hK _ ?_; clear hK K) | (refine w1 ?_; simp only [xs, xi, Nat.reduceEqDiff, reduceCtorEq, retL_ret, retL_normal]) | (refine wC (fun hb => ?_) fun hb => ?_ <;> (try simp only [xb, reduceCtorEq] at hb)) | (refine w2 (fun hc => ?_) (fun hc => ?_) <;> (try simp only [xc] at hc) <;> (try simp only [go_sem, hc]) <;> (try simp only [xb] at hc)) | refine wI ?_ | refine ex_idx (by omega) ?_ | fail)
          have eA : ((a : Int) * 2).toNat = a * 2 := by omega
          have eS : (List.map I u).set (a * 2) (num IntKind.i64 (pickX bs (q + 2) 4 : Int)) = List.map I (u.set (a * 2) (pickX bs (q + 2) 4 : Int)) := List.map_set.symm
          rw [eA, eS, hX]
          generalize u.set (a * 2) (pickX bs (q + 2) 4 : Int) = w
          simp [Tryz.results31, RetL, upd_at, plainB, isOwn, anyOwn]
          refine ⟨by omega, _, _, ⟨rfl, rfl⟩, rfl, rfl, .inl rfl, .inl rfl⟩
        · rw [if_neg (by omega)] at hX
          rw [hX]
          simp [Tryz.results31, RetL, upd_at, plainB, isOwn, anyOwn]
          exact ⟨_, _, ⟨rfl, rfl⟩, rfl, rfl, .inl rfl, .inl rfl⟩
      · rw [if_neg (show ¬ 41 < t.length by omega)] at hX
        obtain ⟨u, hut⟩ : ∃ u, t = u := ⟨_, rfl⟩
        rw [hut] at hX f2 ⊢
        have hu : u.length ≤ 41 := by rw [← hut]; omega
        (first | refine W_askE rfl _ _ (⟨bs, q, 5, rfl, hcd, by omega, by omega, rfl, rfl⟩) ?_ | refine D_askE rfl _ _ (⟨bs, q, 5, rfl, hcd, by omega, by omega, rfl, rfl⟩) ?_); simp (maxSteps := 2000000) only [go_sem]
        repeat' (first | refine wS fun K hK => ?_ | refine wB ?_ | ((first | refine CW.regG hΓ [9, 21, 23, 31, 34, 43] [29] 79 0 (by rw [hκ]; rfl) (by kernel_rfl) (fun v0 => ?_) | refine CW.drwL hΓ Tryz_mixed [9, 16, 21, 23, 31, 34, 43] 0 (by rw [hκ]; rfl) (by kernel_rfl) (by kernel_rfl) fun v0 B hB => ?_); simp (maxSteps := 2000000) only [go_sem]) | ((repeat ((fail_if_success (refine hK _ ?_)); clear hK K)); refine hK _ ?_; clear hK K) | (refine w1 ?_; simp only [xs, xi, Nat.reduceEqDiff, reduceCtorEq, retL_ret, retL_normal]) | (refine wC (fun hb => ?_) fun hb => ?_ <;> (try simp only [xb, reduceCtorEq] at hb)) | (refine w2 (fun hc => ?_) (fun hc => ?_) <;> (try simp only [xc] at hc) <;> (try simp only [go_sem, hc]) <;> (try simp only [xb] at hc)) | refine wI ?_ | refine ex_idx (by omega) ?_ | fail)
        · rw [if_pos (by omega)] at hX
          have eL : ((u.length : Int) / 2 + 1) = ((u.length / 2 + 1 : Nat) : Int) := by omega
          have pb := pickX_lt (bs := bs) (p := q + 1) (n := u.length / 2 + 1) (by omega)
          obtain ⟨a, ha⟩ : ∃ a, pickX bs (q + 1) (u.length / 2 + 1) = a := ⟨_, rfl⟩
          rw [ha] at hX pb
          rw [eL]
          (first | refine W_askE rfl _ _ (⟨bs, q + 1, u.length / 2 + 1, rfl, hcd, by omega, by omega, rfl, rfl⟩) ?_ | refine D_askE rfl _ _ (⟨bs, q + 1, u.length / 2 + 1, rfl, hcd, by omega, by omega, rfl, rfl⟩) ?_); simp (maxSteps := 2000000) only [go_sem]
          rw [ha]
          repeat' (first | refine wS fun K hK => ?_ | refine wB ?_ | ((first | refine CW.regG hΓ [9, 21, 23, 31, 34, 43] [29] 79 0 (by rw [hκ]; rfl) (by kernel_rfl) (fun v0 => ?_) | refine CW.drwL hΓ Tryz_mixed [9, 16, 21, 23, 31, 34, 43] 0 (by rw [hκ]; rfl) (by kernel_rfl) (by kernel_rfl) fun v0 B hB => ?_); simp (maxSteps := 2000000) only [go_sem]) | ((repeat ((fail_if_success (refine hK _ ?_)); clear hK K)); refine hK _ ?_; clear hK K) | (refine w1 ?_; simp only [xs, xi, Nat.reduceEqDiff, reduceCtorEq, retL_ret, retL_normal]) | (refine wC (fun hb => ?_) fun hb => ?_ <;> (try simp only [xb, reduceCtorEq] at hb)) | (refine w2 (fun hc => ?_) (fun hc => ?_) <;> (try simp only [xc] at hc) <;> (try simp only [go_sem, hc]) <;> (try simp only [xb] at hc)) | refine wI ?_ | refine ex_idx (by omega) ?_ | fail)
          (first | refine W_askE rfl _ _ (⟨bs, q + 2, 4, rfl, hcd, by omega, by omega, rfl, rfl⟩) ?_ | refine D_askE rfl _ _ (⟨bs, q + 2, 4, rfl, hcd, by omega, by omega, rfl, rfl⟩) ?_); simp (maxSteps := 2000000) only [go_sem]
          repeat' (first | refine wS fun K hK => ?_ | refine wB ?_ | ((first | refine CW.regG hΓ [9, 21, 23, 31, 34, 43] [29] 79 0 (by rw [hκ]; rfl) (by kernel_rfl) (fun v0 => ?_) | refine CW.drwL hΓ Tryz_mixed [9, 16, 21, 23, 31, 34, 43] 0 (by rw [hκ]; rfl) (by kernel_rfl) (by kernel_rfl) fun v0 B hB => ?_); simp (maxSteps := 2000000) only [go_sem]) | ((repeat ((fail_if_success (refine hK _ ?_)); clear hK K)); refine hK _ ?_; clear hK K) | (refine w1 ?_; simp only [xs, xi, Nat.reduceEqDiff, reduceCtorEq, retL_ret, retL_normal]) | (refine wC (fun hb => ?_) fun hb => ?_ <;> (try simp only [xb, reduceCtorEq] at hb)) | (refine w2 (fun hc => ?_) (fun hc => ?_) <;> (try simp only [xc] at hc) <;> (try simp only [go_sem, hc]) <;> (try simp only [xb] at hc)) | refine wI ?_ | refine ex_idx (by omega) ?_ | fail)
          have eA : ((a : Int) * 2).toNat = a * 2 := by omega
          have eS : (List.map I u).set (a * 2) (num IntKind.i64 (pickX bs (q + 2) 4 : Int)) = List.map I (u.set (a * 2) (pickX bs (q + 2) 4 : Int)) := List.map_set.symm
          rw [eA, eS, hX]
          generalize u.set (a * 2) (pickX bs (q + 2) 4 : Int) = w
          simp [Tryz.results31, RetL, upd_at, plainB, isOwn, anyOwn]
          refine ⟨by omega, _, _, ⟨rfl, rfl⟩, rfl, rfl, .inl rfl, .inl rfl⟩
        · rw [if_neg (by omega)] at hX
          rw [hX]
          simp [Tryz.results31, RetL, upd_at, plainB, isOwn, anyOwn]
          exact ⟨_, _, ⟨rfl, rfl⟩, rfl, rfl, .inl rfl, .inl rfl⟩
  · rw [if_pos hc] at hX
    (first | refine W_askE rfl _ _ (⟨bs, p1, 3, 12, rfl, hcd, by omega, by omega, by omega, rfl, rfl⟩) ?_ | refine D_askE rfl _ _ (⟨bs, p1, 3, 12, rfl, hcd, by omega, by omega, by omega, rfl, rfl⟩) ?_); simp (maxSteps := 2000000) only [go_sem]
    repeat' (first | refine wS fun K hK => ?_ | refine wB ?_ | ((first | refine CW.regG hΓ [9, 21, 23, 31, 34, 43] [29] 79 0 (by rw [hκ]; rfl) (by kernel_rfl) (fun v0 => ?_) | refine CW.drwL hΓ Tryz_mixed [9, 16, 21, 23, 31, 34, 43] 0 (by rw [hκ]; rfl) (by kernel_rfl) (by kernel_rfl) fun v0 B hB => ?_); simp (maxSteps := 2000000) only [go_sem]) | ((repeat ((fail_if_success (refine hK _ ?_)); clear hK K)); refine hK _ ?_; clear hK K) | (refine w1 ?_; simp only [xs, xi, Nat.reduceEqDiff, reduceCtorEq, retL_ret, retL_normal]) | (refine wC (fun hb => ?_) fun hb => ?_ <;> (try simp only [xb, reduceCtorEq] at hb)) | (refine w2 (fun hc => ?_) (fun hc => ?_) <;> (try simp only [xc] at hc) <;> (try simp only [go_sem, hc]) <;> (try simp only [xb] at hc)) | refine wI ?_ | refine ex_idx (by omega) ?_ | fail)
    rw [hX]
    simp [Tryz.results31, RetL, upd_at, plainB, isOwn, anyOwn]
    exact ⟨_, _, ⟨rfl, rfl⟩, rfl, rfl, .inl rfl, .inl rfl⟩

end Go.Proofs.YtehdfifncbokeaaGreat
