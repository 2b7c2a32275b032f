/- Expressions backwards, in the program, walked by the engine. -/
import Derived.Test.YtehdfifncbokeaaGrpH
import Derived.Test.YtehdfifncbokeaaGrpJ
import Derived.Test.YtehdfifncbokeaaGrpC
import Derived.Test.YtehdfifncbokeaaEngMin
namespace Go.Proofs.Ytehdfifncbokeaa
set_option linter.unusedSimpArgs false
set_option linter.unusedVariables false
set_option maxRecDepth 8000
set_option maxHeartbeats 2000000
open Go Go.RowKit AV

attribute [local go_sem] List.nil_prefix

def backX : Ex → Ex
  | .leaf n => .leaf n
  | .thn a b => .thn (backX b) (backX a)
  | .pls a b => .pls (backX a) (backX b)
  | .str a => .str (backX a)
theorem backX_wf : ∀ {x : Ex}, x.wf → (backX x).wf := by
  intro x
  induction x with
  | leaf n => exact id
  | thn a b iha ihb => exact fun h => ⟨ihb h.2, iha h.1⟩
  | pls a b iha ihb => exact fun h => ⟨iha h.1, ihb h.2⟩
  | str a ih => exact fun h => ih h
theorem backX_len : ∀ x : Ex, (backX x).steps.length = x.steps.length
  | .leaf _ => rfl
  | .thn a b => by simp only [backX, Ex.steps, List.length_append, List.length_cons, List.length_nil, backX_len a, backX_len b]; omega
  | .pls a b => by simp only [backX, Ex.steps, List.length_append, List.length_cons, List.length_nil, backX_len a, backX_len b]
  | .str a => by simp only [backX, Ex.steps, List.length_append, List.length_cons, List.length_nil, backX_len a]
theorem backX_back : ∀ x : Ex, backX (backX x) = x
  | .leaf _ => rfl
  | .thn a b => by simp only [backX, backX_back a, backX_back b]
  | .pls a b => by simp only [backX, backX_back a, backX_back b]
  | .str a => by simp only [backX, backX_back a]
theorem backX_nothn {x : Ex} (h : x.op ≠ 19) : treeA (backX x) = .pbox [I x.op, .sh ((x.subs.map backX).map treeA)] := by
  cases x with
  | thn a b => exact absurd rfl h
  | _ => rfl

def unpin : AV → AV
  | .pin A _ => A
  | A => A
theorem ORep.unpin {Z : Nat → Option Obj} {H : Array Obj} {β : List Nat → Option Nat} {p : List Nat} {A : AV} {v : Value} (h : ORep Z H β p A v) : ORep Z H β p (unpin A) v := by
  cases A with
  | pin B u =>
    cases h with
    | pers h => exact .pers h.unpin
  | _ => exact h
theorem ORep.unpins {Z : Nat → Option Obj} {H : Array Obj} {β : List Nat → Option Nat} {p : List Nat} {l : List AV} {v : Value} (h : ORep Z H β p (.own l) v) : ORep Z H β p (.own (l.map Go.Proofs.Ytehdfifncbokeaa.unpin)) v := by
  cases h with
  | pers h => cases h
  | nil => exact .nil
  | own l b c cs T us hb hz h1 h2 h3 hu h4 hk =>
    have := ORep.own (Z := Z) (H := H) (β := β) (p := p) (l.map Go.Proofs.Ytehdfifncbokeaa.unpin) b c cs T us hb hz (by simpa using h1) h2 h3 (fun k h => hu k (by simpa using h)) (fun k h => h4 k (by simpa using h)) (fun k h => by
      simp only [List.getElem_map]
      exact (hk k (by simpa using h)).unpin)
    simpa using this

def trevPR (args : List AV) (r : AV) (args' : List AV) : Prop := ∃ (a b : List AV) (u v : Value), args = [.own [.pin (.pbox a) u, .pin (.pbox b) v]] ∧ r = .tup [] ∧ args' = [.own [.pin (.pbox b) v, .pin (.pbox a) u]]
theorem trevP_ctr : CtrOK Try.prog 35 (effC trevPR) := by
  refine ctr_lend' Try.func35 rfl rfl Try.ntmps35 ?_
  rintro _ _ _ ⟨a, b, u, v, rfl, rfl, rfl⟩
  refine ⟨_, rfl, by simp, by simp, fun κ hκ => ?_⟩
  have hbig := bigW_gt
  rw [argEnv_eq]
  simp only [envA]
  have hΓ := noCtx_ok Try.prog
  repeat' (first | exact hb.elim | refine wS fun K hK => ?_ | refine wB ?_ | refine uR hΓ ?_ | refine uD hΓ fun B hB => ?_ | ((repeat ((fail_if_success (refine hK _ ?_)); clear hK K)); refine hK _ ?_; clear hK K) | refine u1 ?_ | refine uC (fun hb => ?_) fun hb => ?_ | refine u2 (fun hc => ?_) fun hc => ?_ | refine wI ?_ | refine ex_idx (by omega) ?_ | exact True.intro | fail)
  refine CW.loop (ι := Nat) (fun k => [(0, .own (if k = 0 then [.pin (.pbox a) u, .pin (.pbox b) v] else [.pin (.pbox b) v, .pin (.pbox a) u])), (2, I (if k = 0 then 0 else 1)), (3, I (if k = 0 then 1 else 0))]) (fun k => k ≤ 1) (fun k => 1 - k) 0 ?_ ?_
  · exact ⟨by (simp only [xe, xj, Nat.reduceEqDiff]; (try simp [view, viewL_map]); (try omega)), by omega⟩
  rintro k hk
  simp only [envOf]
  have hk2 : k = 0 ∨ k = 1 := by omega
  rcases hk2 with rfl | rfl
  · simp only [if_true]
    repeat' (first | exact hb.elim | refine wS fun K hK => ?_ | refine wB ?_ | refine uR hΓ ?_ | refine uD hΓ fun B hB => ?_ | ((repeat ((fail_if_success (refine hK _ ?_)); clear hK K)); refine hK _ ?_; clear hK K) | refine u1 ?_ | refine uC (fun hb => ?_) fun hb => ?_ | refine u2 (fun hc => ?_) fun hc => ?_ | refine wI ?_ | refine ex_idx (by omega) ?_ | exact True.intro | fail)
    all_goals try (exfalso; omega)
    exact ⟨1, by (simp only [xe, xj, Nat.reduceEqDiff]; (try simp [view, viewL_map]); (try omega)), by omega, by omega⟩
  · simp only [if_false, Nat.reduceEqDiff]
    repeat' (first | exact hb.elim | refine wS fun K hK => ?_ | refine wB ?_ | refine uR hΓ ?_ | refine uD hΓ fun B hB => ?_ | ((repeat ((fail_if_success (refine hK _ ?_)); clear hK K)); refine hK _ ?_; clear hK K) | refine u1 ?_ | refine uC (fun hb => ?_) fun hb => ?_ | refine u2 (fun hc => ?_) fun hc => ?_ | refine wI ?_ | refine ex_idx (by omega) ?_ | exact True.intro | fail)
    all_goals try (exfalso; omega)
    simp [Try.results35, RetL, upd_at, plainB, isOwn, anyOwn]

def trevR (args : List AV) (r : AV) (args' : List AV) : Prop := ∃ a b : List AV, args = [.own [.pbox a, .pbox b]] ∧ r = .tup [] ∧ args' = [.own [.pbox b, .pbox a]]
theorem trev_ctr : CtrOK Try.prog 35 (effC trevR) := by
  refine ⟨trevP_ctr.1, ?_⟩
  rintro _ _ _ ⟨a, b, rfl, rfl, rfl⟩ w Z β vs hvs hwf hargs
  simp only [effC_eff, if_true] at hargs
  have h0 := hargs 0 (by simp)
  simp only [List.getElem_cons_zero] at h0
  obtain ⟨v0, hv0⟩ : ∃ v0, vs.getD 0 undef = v0 := ⟨_, rfl⟩
  rw [hv0] at h0
  have key : ∃ u v, ORep Z w.heap β [0] (.own [.pin (.pbox a) u, .pin (.pbox b) v]) v0 := by
    cases h0 with
    | pers h => cases h
    | own l b' c cs T us hb hz h1 h2 h3 hu h4 hk =>
      have k0 := ORep.toP (hk 0 (by simp)) rfl
      have k1 := ORep.toP (hk 1 (by simp)) rfl
      refine ⟨us 0, us 1, ?_⟩
      exact .own [.pin (.pbox a) (us 0), .pin (.pbox b) (us 1)] b' c cs T us hb hz h1 h2 h3 hu h4 (fun k h => by
        have : k = 0 ∨ k = 1 := by simp at h; omega
        rcases this with rfl | rfl
        · exact .pers (.pin _ _ k0)
        · exact .pers (.pin _ _ k1))
  obtain ⟨u, v, hp⟩ := key
  refine (trevP_ctr.2 _ _ _ ⟨a, b, u, v, rfl, rfl, rfl⟩ w Z β vs hvs hwf (by
    simp only [effC_eff, if_true]
    intro i hi
    have : i = 0 := by simpa using hi
    subst this
    simp only [List.getElem_cons_zero, hv0]
    exact hp)).mono fun en w' ⟨x, Z', β', g1, g2, g3, g4⟩ => ⟨x, Z', β', g1, g2, g3, fun i hi => ?_⟩
  have hi0 : i = 0 := by simpa using hi
  subst hi0
  exact (g4 0 (by simp)).unpins

def backR (N : Nat) (args : List AV) (r : AV) : Prop := ∃ x : Ex, args = [treeA x] ∧ x.wf ∧ x.steps.length ≤ N ∧ r = treeA (backX x)
theorem subs_wf {x y : Ex} (hw : x.wf) (h : y ∈ x.subs) : y.wf := by
  cases x with
  | leaf n => simp [Ex.subs] at h
  | thn a b =>
    simp only [Ex.subs, List.mem_cons, List.not_mem_nil, or_false] at h
    rcases h with rfl | rfl
    · exact hw.1
    · exact hw.2
  | pls a b =>
    simp only [Ex.subs, List.mem_cons, List.not_mem_nil, or_false] at h
    rcases h with rfl | rfl
    · exact hw.1
    · exact hw.2
  | str a =>
    simp only [Ex.subs, List.mem_cons, List.not_mem_nil, or_false] at h
    subst h; exact hw
theorem op_thn {x : Ex} (hw : x.wf) (h : x.op = 19) : ∃ a b, x = .thn a b := by
  cases x with
  | leaf n => have := hw.2; simp only [Ex.op] at h; omega
  | thn a b => exact ⟨a, b, rfl⟩
  | pls a b => exact absurd h (by simp [Ex.op])
  | str a => exact absurd h (by simp [Ex.op])
theorem back_step (N : Nat) (ih : CtrOK Try.prog 19 (pureC (backR (N - 1)))) : CtrOK Try.prog 19 (pureC (backR N)) := by
  have tback_ctr := ih
  refine ctr_pure' Try.func19 rfl rfl Try.ntmps19 ?_
  rintro _ _ ⟨x, rfl, hw, hl, rfl⟩
  refine ⟨by simp, fun κ hκ => ?_⟩
  have hbig := bigW_gt
  rw [argEnv_eq]
  simp only [envA]
  have hΓ := ctxOf_ok (P := Try.prog) (cx tback_ctr <| cx trev_ctr <| cx0)
  have hs2 : x.subs.length ≤ 2 := by cases x <;> simp [Ex.subs]
  rw [treeA_eq x]
  repeat' (first | exact hb.elim | refine wS fun K hK => ?_ | refine wB ?_ | refine uR hΓ ?_ | refine uD hΓ fun B hB => ?_ | ((repeat ((fail_if_success (refine hK _ ?_)); clear hK K)); refine hK _ ?_; clear hK K) | refine u1 ?_ | refine uC (fun hb => ?_) fun hb => ?_ | refine u2 (fun hc => ?_) fun hc => ?_ | refine wI ?_ | refine ex_idx (by omega) ?_ | exact True.intro | fail)
  refine CW.loop (ι := Nat) (fun k => [(0, .pbox [I x.op, .sh (x.subs.map treeA)]), (3, .box [I x.op, .own (((x.subs.take k).map backX).map treeA)]), (15, .sh (x.subs.map treeA)), (16, I x.subs.length), (17, I k)]) (fun k => k ≤ x.subs.length) (fun k => x.subs.length - k) 0 ?_ ?_
  · exact ⟨by (simp only [xe, xj, Nat.reduceEqDiff]; (try simp [view, viewL_map]); (try omega)), by omega⟩
  rintro k hk
  simp only [envOf]
  repeat' (first | refine wS fun K hK => ?_ | refine wB ?_ | ((first | refine wR hΓ ?_ | refine wD hΓ fun B hB => ?_); simp (maxSteps := 2000000) only [go_sem, treeA_eq]) | ((repeat ((fail_if_success (refine hK _ ?_)); clear hK K)); refine hK _ ?_; clear hK K) | (refine w1 ?_; simp only [xs, xi, Nat.reduceEqDiff, reduceCtorEq, retL_ret, retL_normal]) | (refine wC (fun hb => ?_) fun hb => ?_ <;> (try simp only [xb, reduceCtorEq] at hb)) | (refine w2 (fun hc => ?_) (fun hc => ?_) <;> (try simp only [xc] at hc) <;> (try simp only [go_sem, hc, treeA_eq]) <;> (try simp only [xb] at hc)) | refine wI ?_ | refine ex_idx (by omega) ?_ | fail)
  · have hkl : k < x.subs.length := by omega
    have hlt := subs_len (List.getElem_mem hkl)
    have htk : (x.subs.take (k + 1)).map backX = (x.subs.take k).map backX ++ [backX x.subs[k]] := by
      rw [List.take_succ_eq_append_getElem hkl, List.map_append]; rfl
    (first | refine wA rfl _ (⟨x.subs[k], by rw [treeA_eq], subs_wf hw (List.getElem_mem hkl), by omega, (treeA_eq _).symm⟩) ?_ | refine dA rfl _ (⟨x.subs[k], by rw [treeA_eq], subs_wf hw (List.getElem_mem hkl), by omega, (treeA_eq _).symm⟩) ?_); simp (maxSteps := 2000000) only [go_sem]
    repeat' (first | exact hb.elim | refine wS fun K hK => ?_ | refine wB ?_ | refine uR hΓ ?_ | refine uD hΓ fun B hB => ?_ | ((repeat ((fail_if_success (refine hK _ ?_)); clear hK K)); refine hK _ ?_; clear hK K) | refine u1 ?_ | refine uC (fun hb => ?_) fun hb => ?_ | refine u2 (fun hc => ?_) fun hc => ?_ | refine wI ?_ | refine ex_idx (by omega) ?_ | exact True.intro | fail)
    have hmk : List.map (treeA ∘ backX) (x.subs.take (k + 1)) = List.map (treeA ∘ backX) (x.subs.take k) ++ [.pbox [I (backX x.subs[k]).op, .sh ((backX x.subs[k]).subs.map treeA)]] := by
      rw [List.take_succ_eq_append_getElem hkl, List.map_append]
      show _ ++ [treeA (backX x.subs[k])] = _
      rw [treeA_eq (backX x.subs[k])]
    refine ⟨k + 1, ?_, by omega, by omega⟩
    rw [hmk]
    (simp only [xe, xj, Nat.reduceEqDiff]; (try simp [view, viewL_map]); (try omega))
  · have hke : x.subs.take k = x.subs := List.take_of_length_le (by omega)
    obtain ⟨a, b, rfl⟩ := op_thn hw ‹_›
    have hm : List.map (treeA ∘ backX) (Ex.thn a b).subs = [.pbox [I (backX a).op, .sh ((backX a).subs.map treeA)], .pbox [I (backX b).op, .sh ((backX b).subs.map treeA)]] := by
      show [treeA (backX a), treeA (backX b)] = _
      rw [treeA_eq (backX b), treeA_eq (backX a)]
    have e19 : treeA (backX (.thn a b)) = .pbox [I 19, .sh [.pbox [I (backX b).op, .sh ((backX b).subs.map treeA)], .pbox [I (backX a).op, .sh ((backX a).subs.map treeA)]]] := by
      show AV.pbox [I 19, .sh [treeA (backX b), treeA (backX a)]] = _
      rw [treeA_eq (backX b), treeA_eq (backX a)]
    rw [hke, hm]
    (first | refine W_askE rfl _ _ (⟨_, _, rfl, rfl, rfl⟩) ?_ | refine D_askE rfl _ _ (⟨_, _, rfl, rfl, rfl⟩) ?_); simp (maxSteps := 2000000) only [go_sem]
    repeat' (first | exact hb.elim | refine wS fun K hK => ?_ | refine wB ?_ | refine uR hΓ ?_ | refine uD hΓ fun B hB => ?_ | ((repeat ((fail_if_success (refine hK _ ?_)); clear hK K)); refine hK _ ?_; clear hK K) | refine u1 ?_ | refine uC (fun hb => ?_) fun hb => ?_ | refine u2 (fun hc => ?_) fun hc => ?_ | refine wI ?_ | refine ex_idx (by omega) ?_ | exact True.intro | fail)
    rw [e19]
    simp [Try.results19, RetOK, RetP, backA, upd_at, plainB, getP, isOwn, anyOwn, isP]
    rfl
  · have hke : x.subs.take k = x.subs := List.take_of_length_le (by omega)
    rw [hke, backX_nothn ‹_›]
    simp [Try.results19, RetOK, RetP, backA, upd_at, plainB, getP, isOwn, anyOwn, isP]
    have hv : view ∘ (treeA ∘ backX) = treeA ∘ backX := by funext x; exact treeA_view _
    simp only [view, viewL, viewL_map, List.map_map, hv]

theorem back_all : ∀ N : Nat, N ≤ 4194304 → CtrOK Try.prog 19 (pureC (backR N))
  | 0, _ => back_step 0 ⟨⟨_, _, Try.func19, rfl, rfl⟩, fun args r args' ⟨_, x, _, _, h, _⟩ => by have := x.steps_pos; omega⟩
  | N + 1, h => back_step (N + 1) (back_all N (by omega))
theorem tback_ctr : CtrOK Try.prog 19 (pureC (backR 4194304)) := back_all 4194304 (by omega)

noncomputable def backL (e : List Int) : List Int := if katB e = true then (backX (exOf e)).steps else []
theorem backL_yes {x : Ex} (hw : x.wf) (h : katB x.steps = true) : backL x.steps = (backX x).steps := by unfold backL; rw [if_pos h, exOf_steps hw]
theorem backL_no {e : List Int} (h : katB e = false) : backL e = [] := if_neg (by simp [h])
theorem backL_ok {e : List Int} (h : katB e = true) : katB (backL e) = true := by
  obtain ⟨x, hx, rfl, hl⟩ := (katB_true.1 h).ex
  rw [backL_yes hx h]
  exact katB_true.2 (KatOK.of (backX_wf hx) (by rw [backX_len]; exact hl))

def katBackR (args : List AV) (r : AV) : Prop := ∃ e : List Int, args = [ints e] ∧ e.length ≤ 1048576 ∧ r = oints (backL e)
theorem katBack_ctr : CtrOK Try.prog 9 (pureC katBackR) := by
  refine ctr_pure' Try.func9 rfl rfl Try.ntmps9 ?_
  rintro _ _ ⟨e, rfl, hl, rfl⟩
  refine ⟨by simp, fun κ hκ => ?_⟩
  have hbig := bigW_gt
  rw [argEnv_eq]
  simp only [envA]
  have hΓ := ctxOf_ok (P := Try.prog) (cx implKatValid_ctr <| cx build_ctr <| cx tback_ctr <| cx tsteps_ctr <| cx0)
  repeat' (first | exact hb.elim | refine wS fun K hK => ?_ | refine wB ?_ | refine uR hΓ ?_ | refine uD hΓ fun B hB => ?_ | ((repeat ((fail_if_success (refine hK _ ?_)); clear hK K)); refine hK _ ?_; clear hK K) | refine u1 ?_ | refine uC (fun hb => ?_) fun hb => ?_ | refine u2 (fun hc => ?_) fun hc => ?_ | refine wI ?_ | refine ex_idx (by omega) ?_ | exact True.intro | fail)
  (first | refine wA rfl _ (⟨e, rfl, by omega, rfl⟩) ?_ | refine dA rfl _ (⟨e, rfl, by omega, rfl⟩) ?_); simp (maxSteps := 2000000) only [go_sem]
  cases hkb : katB e
  · repeat' (first | exact hb.elim | refine wS fun K hK => ?_ | refine wB ?_ | refine uR hΓ ?_ | refine uD hΓ fun B hB => ?_ | ((repeat ((fail_if_success (refine hK _ ?_)); clear hK K)); refine hK _ ?_; clear hK K) | refine u1 ?_ | refine uC (fun hb => ?_) fun hb => ?_ | refine u2 (fun hc => ?_) fun hc => ?_ | refine wI ?_ | refine ex_idx (by omega) ?_ | exact True.intro | fail)
    rw [backL_no hkb]
    simp [Try.results9, RetOK, RetP, backA, upd_at, plainB, getP, isOwn, anyOwn, isP]
  · repeat' (first | exact hb.elim | refine wS fun K hK => ?_ | refine wB ?_ | refine uR hΓ ?_ | refine uD hΓ fun B hB => ?_ | ((repeat ((fail_if_success (refine hK _ ?_)); clear hK K)); refine hK _ ?_; clear hK K) | refine u1 ?_ | refine uC (fun hb => ?_) fun hb => ?_ | refine u2 (fun hc => ?_) fun hc => ?_ | refine wI ?_ | refine ex_idx (by omega) ?_ | exact True.intro | fail)
    obtain ⟨x, hw, rfl, hxl⟩ := (katB_true.1 hkb).ex
    (first | refine wA rfl _ (⟨x, rfl, hw, by omega, (treeA_eq x).symm⟩) ?_ | refine dA rfl _ (⟨x, rfl, hw, by omega, (treeA_eq x).symm⟩) ?_); simp (maxSteps := 2000000) only [go_sem]
    repeat' (first | exact hb.elim | refine wS fun K hK => ?_ | refine wB ?_ | refine uR hΓ ?_ | refine uD hΓ fun B hB => ?_ | ((repeat ((fail_if_success (refine hK _ ?_)); clear hK K)); refine hK _ ?_; clear hK K) | refine u1 ?_ | refine uC (fun hb => ?_) fun hb => ?_ | refine u2 (fun hc => ?_) fun hc => ?_ | refine wI ?_ | refine ex_idx (by omega) ?_ | exact True.intro | fail)
    (first | refine wA rfl _ (⟨x, by rw [treeA_eq], hw, by omega, (treeA_eq _).symm⟩) ?_ | refine dA rfl _ (⟨x, by rw [treeA_eq], hw, by omega, (treeA_eq _).symm⟩) ?_); simp (maxSteps := 2000000) only [go_sem]
    repeat' (first | exact hb.elim | refine wS fun K hK => ?_ | refine wB ?_ | refine uR hΓ ?_ | refine uD hΓ fun B hB => ?_ | ((repeat ((fail_if_success (refine hK _ ?_)); clear hK K)); refine hK _ ?_; clear hK K) | refine u1 ?_ | refine uC (fun hb => ?_) fun hb => ?_ | refine u2 (fun hc => ?_) fun hc => ?_ | refine wI ?_ | refine ex_idx (by omega) ?_ | exact True.intro | fail)
    (first | refine wA rfl _ (⟨backX x, by rw [treeA_eq], by rw [backX_len]; omega, rfl⟩) ?_ | refine dA rfl _ (⟨backX x, by rw [treeA_eq], by rw [backX_len]; omega, rfl⟩) ?_); simp (maxSteps := 2000000) only [go_sem]
    repeat' (first | exact hb.elim | refine wS fun K hK => ?_ | refine wB ?_ | refine uR hΓ ?_ | refine uD hΓ fun B hB => ?_ | ((repeat ((fail_if_success (refine hK _ ?_)); clear hK K)); refine hK _ ?_; clear hK K) | refine u1 ?_ | refine uC (fun hb => ?_) fun hb => ?_ | refine u2 (fun hc => ?_) fun hc => ?_ | refine wI ?_ | refine ex_idx (by omega) ?_ | exact True.intro | fail)
    rw [backL_yes hw hkb]
    simp [Try.results9, RetOK, RetP, backA, upd_at, plainB, getP, isOwn, anyOwn, isP]

end Go.Proofs.Ytehdfifncbokeaa
