/- Whether a trace is one of an expression, in the program: answers are remembered in a map. Walked by the engine. -/
import Derived.Test.YtehdfifncbokeaaGrpH
import Derived.Test.YtehdfifncbokeaaEngMm
import Derived.Test.YtehdfifncbokeaaLangP
import Derived.Test.YtehdfifncbokeaaEngMin
namespace Go.Proofs.Ytehdfifncbokeaa
set_option linter.unusedSimpArgs false
set_option linter.unusedVariables false
set_option maxRecDepth 8000
set_option maxHeartbeats 2000000
open Go Go.RowKit AV

attribute [local go_sem] List.nil_prefix

theorem cm_aggT : aggT Try.prog 64 = some false := by kernel_rfl
theorem cm_szT : szT Try.prog 64 = some 1 := by kernel_rfl
attribute [local go_sem] cm_aggT cm_szT

theorem treeA_one (x : Ex) : one (treeA x) = true := by cases x <;> rfl
theorem tree_ex3 : ∀ x : Ex, Ex3 (treeA x)
  | .leaf n => .mk _ _ _ (by simp)
  | .thn a b => .mk _ _ _ fun y hy => by
    simp only [List.mem_cons, List.not_mem_nil, or_false] at hy
    rcases hy with rfl | rfl
    · exact tree_ex3 a
    · exact tree_ex3 b
  | .pls a b => .mk _ _ _ fun y hy => by
    simp only [List.mem_cons, List.not_mem_nil, or_false] at hy
    rcases hy with rfl | rfl
    · exact tree_ex3 a
    · exact tree_ex3 b
  | .str a => .mk _ _ _ fun y hy => by
    simp only [List.mem_cons, List.not_mem_nil, or_false] at hy
    subst hy
    exact tree_ex3 a
theorem treeA_inj : ∀ {x y : Ex}, x.wf → y.wf → treeA x = treeA y → x = y
  | .leaf n, y, hx, hy, h => by
    have h1 := hx.2
    cases y <;> simp [treeA] at h <;> first | (subst h; rfl) | omega
  | .thn a b, y, hx, hy, h => by
    cases y with
    | leaf n => have h1 := hy.2; simp [treeA] at h
    | thn c d => simp [treeA] at h; rw [treeA_inj hx.1 hy.1 h.1, treeA_inj hx.2 hy.2 h.2]
    | pls c d => simp [treeA] at h
    | str c => simp [treeA] at h
  | .pls a b, y, hx, hy, h => by
    cases y with
    | leaf n => have h1 := hy.2; simp [treeA] at h
    | thn c d => simp [treeA] at h
    | pls c d => simp [treeA] at h; rw [treeA_inj hx.1 hy.1 h.1, treeA_inj hx.2 hy.2 h.2]
    | str c => simp [treeA] at h
  | .str a, y, hx, hy, h => by
    cases y with
    | leaf n => have h1 := hy.2; simp [treeA] at h
    | thn c d => simp [treeA] at h
    | pls c d => simp [treeA] at h
    | str c => 
      simp [treeA] at h
      have hx' : a.wf := hx
      have hy' : c.wf := hy
      rw [treeA_inj hx' hy' h]

open Classical in
noncomputable def exW (e : List Int) : Ex := if (exOf e).wf then exOf e else .leaf 0
theorem exW_steps {x : Ex} (h : x.wf) : exW x.steps = x := by unfold exW; rw [exOf_steps h, if_pos h]
theorem exW_wf (e : List Int) : (exW e).wf := by
  unfold exW
  split
  · assumption
  · exact ⟨by omega, by omega⟩
noncomputable def keyA (x : Ex) (v : Value) (a b : Nat) : AV := .agg [.pin (treeA x) v, I (a : Int), I (b : Int)]
noncomputable def kF : MemoF := fun E => E.map fun p => keyA (exW p.1) p.2.1 (p.2.2.1 % 64) (p.2.2.2 % 64)
noncomputable def gF (T : List Int) : MemoF := fun E => E.map fun p => .bool (lgB T (exW p.1) (p.2.2.1 % 64) (p.2.2.2 % 64))
theorem kF_ok (E : List (List Int × Value × Nat × Nat)) : ∀ Y ∈ kF E, kOK 3 Y := by
  intro Y hY
  obtain ⟨p, hp, rfl⟩ := List.mem_map.1 hY
  exact ⟨tree_ex3 _, by unfold in64; omega, by unfold in64; omega⟩
theorem keyA_ok (x : Ex) (v : Value) {a b : Nat} (ha : a < 64) (hb : b < 64) : kOK 3 (keyA x v a b) := ⟨tree_ex3 _, by unfold in64; omega, by unfold in64; omega⟩
theorem keyA_inj {x y : Ex} (hx : x.wf) (hy : y.wf) {v u : Value} {a b c d : Nat} (h : keyA x v a b = keyA y u c d) : x = y ∧ a = c ∧ b = d := by
  unfold keyA at h
  simp at h
  exact ⟨treeA_inj hx hy h.1.1, by omega, by omega⟩
theorem memo_at {T : List Int} {x : Ex} (hw : x.wf) {v : Value} {a b : Nat} (ha : a < 64) (hb : b < 64) {E : List (List Int × Value × Nat × Nat)} {i : Nat} (h : (kF E)[i]? = some (keyA x v a b)) : (gF T E)[i]? = some (.bool (lgB T x a b)) := by
  unfold kF at h
  rw [List.getElem?_map] at h
  cases hE : E[i]? with
  | none => rw [hE] at h; cases h
  | some p =>
    rw [hE] at h
    simp only [Option.map_some, Option.some.injEq] at h
    obtain ⟨e1, e2, e3⟩ := keyA_inj (exW_wf _) hw h
    unfold gF
    rw [List.getElem?_map, hE]
    simp only [Option.map_some, e1, e2, e3]
theorem look_M {P : Program} {K Eb : Nat} (hk : kkT P K = 3) (hz : zOf P Eb = .bool false) (T : List Int) {x : Ex} (hw : x.wf) (v : Value) {a b : Nat} (ha : a < 64) (hb : b < 64) (E : List (List Int × Value × Nat × Nat)) : ∃ r bo : Bool, Look2OK P K Eb (kF E) (gF T E) (keyA x v a b) (.bool r) bo ∧ (bo = true → r = lgB T x a b) := by
  classical
  by_cases hm : keyA x v a b ∈ kF E
  · exact ⟨lgB T x a b, true, ⟨by rw [hk]; decide, by rw [hk]; exact keyA_ok x v ha hb, by rw [hk]; exact kF_ok E, rfl, by simp, fun i hi => ⟨memo_at hw ha hb hi, rfl⟩, fun h => absurd hm h⟩, fun _ => rfl⟩
  · exact ⟨false, false, ⟨by rw [hk]; decide, by rw [hk]; exact keyA_ok x v ha hb, by rw [hk]; exact kF_ok E, rfl, by simp, fun i hi => absurd (List.mem_of_getElem? hi) hm, fun _ => ⟨hz, rfl⟩⟩, fun h => by cases h⟩
theorem upd_M {P : Program} {K : Nat} (hk : kkT P K = 3) (T : List Int) {x : Ex} (hw : x.wf) (v : Value) {a b : Nat} (ha : a < 64) (hb : b < 64) (E : List (List Int × Value × Nat × Nat)) : ∃ E2, UpdOK P K (kF E) (gF T E) (keyA x v a b) (.bool (lgB T x a b)) (kF E2) (gF T E2) := by
  classical
  by_cases hm : keyA x v a b ∈ kF E
  · refine ⟨E, by rw [hk]; decide, by rw [hk]; exact keyA_ok x v ha hb, by rw [hk]; exact kF_ok E, rfl, by simp, .inl ⟨hm, rfl, fun i hi => ?_⟩⟩
    have h := memo_at (T := T) hw ha hb hi
    obtain ⟨hi', e⟩ := List.getElem?_eq_some_iff.1 h
    rw [← e, List.set_getElem_self]
  · refine ⟨E ++ [(x.steps, v, a, b)], by rw [hk]; decide, by rw [hk]; exact keyA_ok x v ha hb, by rw [hk]; exact kF_ok E, rfl, by simp, .inr ⟨hm, ?_, ?_⟩⟩
    · unfold kF
      rw [List.map_append]
      simp only [List.map_cons, List.map_nil, exW_steps hw, Nat.mod_eq_of_lt ha, Nat.mod_eq_of_lt hb]
    · unfold gF
      rw [List.map_append]
      simp only [List.map_cons, List.map_nil, exW_steps hw, Nat.mod_eq_of_lt ha, Nat.mod_eq_of_lt hb]

def inP (T : List Int) (x : Ex) (a b N : Nat) : Prop := x.wf ∧ x.steps.length * 64 + (b - a) ≤ N ∧ a ≤ b ∧ 2 * b < T.length ∧ T.length ≤ 41 ∧ TrV T b
def inR (N : Nat) (args : List AV) (r : AV) (args' : List AV) : Prop := ∃ (T : List Int) (x : Ex) (a b : Nat), args = [.box [ints T, .memo kF (gF T)], treeA x, I (a : Int), I (b : Int)] ∧ inP T x a b N ∧ r = .bool (lgB T x a b) ∧ args' = [.box [ints T, .memo kF (gF T)]]

theorem in_step (N : Nat) (hf : CtrOK Try.prog 48 (effC (inR N))) : CtrOK Try.prog 41 (effC (inR N)) := by
  have find_ctr := hf
  refine ctr_lend' Try.func41 rfl rfl Try.ntmps41 ?_
  rintro _ _ _ ⟨T, x, a, b, rfl, ⟨hw, hm, hab, hb, hT, hV⟩, rfl, rfl⟩
  refine ⟨_, rfl, by simp, by simp, fun κ hκ => ?_⟩
  have hbig := bigW_gt
  rw [argEnv_eq]
  simp only [envA]
  have hΓ := ctxOf_ok (P := Try.prog) (cx find_ctr <| cx0)
  have ho := treeA_one x
  have hp := treeA_isP x
  refine CW.pinSlot 1 (treeA x) (by simp [upd_at]) hp fun v => ?_
  refine CW.memoQ 0 [1] kF (gF T) ?_
  refine CW.memoOpen 0 [1] kF (gF T) (by simp [upd_at, getP, kids]) fun E => ?_
  obtain ⟨q, bo, hL, hbo⟩ := look_M (P := Try.prog) (K := 72) (Eb := 4) Ty_kkT_72 Ty_zOf_4 T hw v (a := a) (b := b) (by omega) (by omega) E
  refine CW.weaken (LeL.le (L := [(0, .box [ints T, .omap (kF E) (gF T E)]), (1, .pin (treeA x) v), (2, I (a : Int)), (3, I (b : Int))]) (by simp [LeL, upd_at, Wr.app, isOwn, anyOwn, kill_upd, killV, setP, kids, withKids])) ?_
  simp only [envOf]
  refine CW.seqK fun K hK => ?_
  repeat' (first | refine wB ?_ | ((first | refine wR hΓ ?_ | refine wD hΓ fun B hB => ?_); simp (maxSteps := 2000000) only [go_sem]) | (refine w1 ?_; simp only [xs, xi, Nat.reduceEqDiff, reduceCtorEq, retL_ret, retL_normal, memoQ_ret, memoQ_normal]) | (refine wC (fun hb => ?_) fun hb => ?_ <;> (try simp only [xb, reduceCtorEq] at hb)) | (refine w2 (fun hc => ?_) (fun hc => ?_) <;> (try simp only [xc] at hc) <;> (try simp only [go_sem, hc]) <;> (try simp only [xb] at hc)) | refine wI ?_ | refine ex_idx (by omega) ?_ | fail)
  (refine hK _ ?_; clear hK K)
  refine CW.seqK fun K hK => ?_
  repeat' (first | refine wB ?_ | ((first | refine wR hΓ ?_ | refine wD hΓ fun B hB => ?_); simp (maxSteps := 2000000) only [go_sem, ho]) | (refine w1 ?_; simp only [xs, xi, Nat.reduceEqDiff, reduceCtorEq, retL_ret, retL_normal, memoQ_ret, memoQ_normal]) | (refine wC (fun hb => ?_) fun hb => ?_ <;> (try simp only [xb, reduceCtorEq] at hb)) | (refine w2 (fun hc => ?_) (fun hc => ?_) <;> (try simp only [xc] at hc) <;> (try simp only [go_sem, hc, ho]) <;> (try simp only [xb] at hc)) | refine wI ?_ | refine ex_idx (by omega) ?_ | fail)
  (refine hK _ ?_; clear hK K)
  refine CW.seqM (ι := Unit) (fun _ => [(0, .box [ints T, .omap (kF E) (gF T E)]), (1, .pin (treeA x) v), (2, I (a : Int)), (3, I (b : Int)), (9, .box [.pin (treeA x) v, I (a : Int), I (b : Int)])]) (fun _ => True) ?_ ?_
  rotate_left
  · repeat' (first | refine wS fun K hK => ?_ | refine wB ?_ | ((first | refine wR hΓ ?_ | refine wD hΓ fun B hB => ?_); simp (maxSteps := 2000000) only [go_sem, ho]) | ((repeat ((fail_if_success (refine hK _ ?_)); clear hK K)); refine hK _ ?_; clear hK K) | (refine w1 ?_; simp only [xs, xi, Nat.reduceEqDiff, reduceCtorEq, retL_ret, retL_normal, memoQ_ret, memoQ_normal]) | (refine wC (fun hb => ?_) fun hb => ?_ <;> (try simp only [xb, reduceCtorEq] at hb)) | (refine w2 (fun hc => ?_) (fun hc => ?_) <;> (try simp only [xc] at hc) <;> (try simp only [go_sem, hc, ho]) <;> (try simp only [xb] at hc)) | refine wI ?_ | refine ex_idx (by omega) ?_ | fail)
    refine ⟨.bool q, bo, hL, ?_⟩
    simp (maxSteps := 2000000) only [go_sem]
    repeat' (first | refine wS fun K hK => ?_ | refine wB ?_ | ((first | refine wR hΓ ?_ | refine wD hΓ fun B hB => ?_); simp (maxSteps := 2000000) only [go_sem]) | ((repeat ((fail_if_success (refine hK _ ?_)); clear hK K)); refine hK _ ?_; clear hK K) | (refine w1 ?_; simp only [xs, xi, Nat.reduceEqDiff, reduceCtorEq, retL_ret, retL_normal, memoQ_ret, memoQ_normal]) | (refine wC (fun hb => ?_) fun hb => ?_ <;> (try simp only [xb, reduceCtorEq] at hb)) | (refine w2 (fun hc => ?_) (fun hc => ?_) <;> (try simp only [xc] at hc) <;> (try simp only [go_sem, hc]) <;> (try simp only [xb] at hc)) | refine wI ?_ | refine ex_idx (by omega) ?_ | fail)
    · refine ⟨⟨E, rfl⟩, ?_⟩
      rw [hbo ‹_›]
      simp only [app_mod_memo, kill_upd, kill_nil, killV, upd_at, setP, kids, withKids, List.getD_cons_succ, List.getD_cons_zero, List.set_cons_succ, List.set_cons_zero]
      simp [Try.results41, RetL, upd_at, plainB, isOwn, anyOwn]
    · exact ⟨(), by (simp only [xe, xj, Nat.reduceEqDiff]; (try simp [view, viewL_map]); (try omega)), trivial⟩
  rintro _ _
  simp only [envOf]
  refine CW.memoClose 0 [1] kF (gF T) E (by simp [upd_at, getP, kids]) ?_
  refine CW.weaken (LeL.le (L := [(0, .box [ints T, .memo kF (gF T)]), (1, .pin (treeA x) v), (2, I (a : Int)), (3, I (b : Int)), (9, .box [.pin (treeA x) v, I (a : Int), I (b : Int)])]) (by simp [LeL, upd_at, Wr.app, isOwn, anyOwn, kill_upd, killV, setP, kids, withKids])) ?_
  simp only [envOf]
  refine CW.seqK fun K hK => ?_
  repeat' (first | refine wB ?_ | ((first | refine wR hΓ ?_ | refine wD hΓ fun B hB => ?_); simp (maxSteps := 2000000) only [go_sem]) | (refine w1 ?_; simp only [xs, xi, Nat.reduceEqDiff, reduceCtorEq, retL_ret, retL_normal, memoQ_ret, memoQ_normal]) | (refine wC (fun hb => ?_) fun hb => ?_ <;> (try simp only [xb, reduceCtorEq] at hb)) | (refine w2 (fun hc => ?_) (fun hc => ?_) <;> (try simp only [xc] at hc) <;> (try simp only [go_sem, hc]) <;> (try simp only [xb] at hc)) | refine wI ?_ | refine ex_idx (by omega) ?_ | fail)
  (first | refine W_askE rfl _ _ (⟨T, x, a, b, rfl, ⟨hw, hm, hab, hb, hT, hV⟩, rfl, rfl⟩) ?_ | refine D_askE rfl _ _ (⟨T, x, a, b, rfl, ⟨hw, hm, hab, hb, hT, hV⟩, rfl, rfl⟩) ?_); simp (maxSteps := 2000000) only [go_sem]
  repeat' (first | refine wB ?_ | ((first | refine wR hΓ ?_ | refine wD hΓ fun B hB => ?_); simp (maxSteps := 2000000) only [go_sem]) | (refine w1 ?_; simp only [xs, xi, Nat.reduceEqDiff, reduceCtorEq, retL_ret, retL_normal, memoQ_ret, memoQ_normal]) | (refine wC (fun hb => ?_) fun hb => ?_ <;> (try simp only [xb, reduceCtorEq] at hb)) | (refine w2 (fun hc => ?_) (fun hc => ?_) <;> (try simp only [xc] at hc) <;> (try simp only [go_sem, hc]) <;> (try simp only [xb] at hc)) | refine wI ?_ | refine ex_idx (by omega) ?_ | fail)
  (refine hK _ ?_; clear hK K)
  refine CW.memoOpen 0 [1] kF (gF T) (by simp [upd_at, getP, kids]) fun E' => ?_
  refine CW.weaken (LeL.le (L := [(0, .box [ints T, .omap (kF E') (gF T E')]), (12, .bool (lgB T x a b)), (9, .box [.pin (treeA x) v, I (a : Int), I (b : Int)])]) (by simp [LeL, upd_at, Wr.app, isOwn, anyOwn, kill_upd, killV, setP, kids, withKids])) ?_
  simp only [envOf]
  obtain ⟨E2, hU⟩ := upd_M (P := Try.prog) (K := 72) Ty_kkT_72 T hw v (a := a) (b := b) (by omega) (by omega) E'
  repeat' (first | refine wS fun K hK => ?_ | refine wB ?_ | ((first | refine wR hΓ ?_ | refine wD hΓ fun B hB => ?_); simp (maxSteps := 2000000) only [go_sem, ho]) | ((repeat ((fail_if_success (refine hK _ ?_)); clear hK K)); refine hK _ ?_; clear hK K) | (refine w1 ?_; simp only [xs, xi, Nat.reduceEqDiff, reduceCtorEq, retL_ret, retL_normal, memoQ_ret, memoQ_normal]) | (refine wC (fun hb => ?_) fun hb => ?_ <;> (try simp only [xb, reduceCtorEq] at hb)) | (refine w2 (fun hc => ?_) (fun hc => ?_) <;> (try simp only [xc] at hc) <;> (try simp only [go_sem, hc, ho]) <;> (try simp only [xb] at hc)) | refine wI ?_ | refine ex_idx (by omega) ?_ | fail)
  refine ⟨_, _, hU, ?_⟩
  repeat' (first | refine wS fun K hK => ?_ | refine wB ?_ | ((first | refine wR hΓ ?_ | refine wD hΓ fun B hB => ?_); simp (maxSteps := 2000000) only [go_sem]) | ((repeat ((fail_if_success (refine hK _ ?_)); clear hK K)); refine hK _ ?_; clear hK K) | (refine w1 ?_; simp only [xs, xi, Nat.reduceEqDiff, reduceCtorEq, retL_ret, retL_normal, memoQ_ret, memoQ_normal]) | (refine wC (fun hb => ?_) fun hb => ?_ <;> (try simp only [xb, reduceCtorEq] at hb)) | (refine w2 (fun hc => ?_) (fun hc => ?_) <;> (try simp only [xc] at hc) <;> (try simp only [go_sem, hc]) <;> (try simp only [xb] at hc)) | refine wI ?_ | refine ex_idx (by omega) ?_ | fail)
  refine ⟨⟨E2, rfl⟩, ?_⟩
  simp only [app_mod_memo, kill_upd, kill_nil, killV, upd_at, setP, kids, withKids, List.getD_cons_succ, List.getD_cons_zero, List.set_cons_succ, List.set_cons_zero]
  simp [Try.results41, RetL, upd_at, plainB, isOwn, anyOwn]

theorem lgB_pls (T : List Int) (y z : Ex) (a b : Nat) : lgB T (.pls y z) a b = (lgB T y a b || lgB T z a b) := by
  rw [Bool.eq_iff_iff, Bool.or_eq_true, lgB_true, lgB_true, lgB_true]; exact Iff.rfl
theorem lgB_thn_yes {T : List Int} {y z : Ex} {a b m : Nat} (h1 : a ≤ m) (h2 : m ≤ b) (h3 : lgB T y a m = true) (h4 : lgB T z m b = true) : lgB T (.thn y z) a b = true := lgB_true.2 ⟨m, h1, h2, lgB_true.1 h3, lgB_true.1 h4⟩
theorem lgB_thn_no {T : List Int} {y z : Ex} {a b : Nat} (h : ∀ m, a ≤ m → m ≤ b → (lgB T y a m && lgB T z m b) = false) : lgB T (.thn y z) a b = false := by
  refine lgB_false.2 ?_
  rintro ⟨m, h1, h2, h3, h4⟩
  have := h m h1 h2
  rw [lgB_true.2 h3, lgB_true.2 h4] at this
  cases this
theorem lgB_str_same (T : List Int) (y : Ex) (a : Nat) : lgB T (.str y) a a = true := lgB_true.2 (StarN.refl a)
theorem lgB_str_yes {T : List Int} {y : Ex} {a b m : Nat} (h1 : a < m) (h3 : lgB T y a m = true) (h4 : lgB T (.str y) m b = true) : lgB T (.str y) a b = true := lgB_true.2 (StarN.step h1 (lgB_true.1 h3) (lgB_true.1 h4))
theorem lgB_str_no {T : List Int} {y : Ex} {a b : Nat} (hab : a ≠ b) (h : ∀ m, a < m → m ≤ b → (lgB T y a m && lgB T (.str y) m b) = false) : lgB T (.str y) a b = false := by
  refine lgB_false.2 fun hs => ?_
  have hs' : StarN (Lg T y) a b := hs
  rcases StarN.inv.1 hs' with e | ⟨m, h1, h2, h3, h4⟩
  · exact hab e
  have := h m h1 h2
  rw [lgB_true.2 h3, lgB_true.2 (show Lg T (.str y) m b from h4)] at this
  cases this

def inLeafR (N : Nat) (args : List AV) (r : AV) (args' : List AV) : Prop := ∃ (T : List Int) (n : Int) (a b : Nat), args = [.box [ints T, .memo kF (gF T)], treeA (.leaf n), I (a : Int), I (b : Int)] ∧ inP T (.leaf n) a b N ∧ r = .bool (lgB T (.leaf n) a b) ∧ args' = [.box [ints T, .memo kF (gF T)]]
theorem findLeaf_step (N : Nat) (hi : CtrOK Try.prog 41 (effC (inR (N - 1)))) : CtrOK Try.prog 48 (effC (inLeafR N)) := by
  have cin_ctr := hi
  refine ctr_lend' Try.func48 rfl rfl Try.ntmps48 ?_
  rintro _ _ _ ⟨T, n, a, b, rfl, ⟨hw, hm, hab, hbT, hT, hV⟩, rfl, rfl⟩
  refine ⟨_, rfl, by simp, by simp, fun κ hκ => ?_⟩
  have hbig := bigW_gt
  rw [argEnv_eq]
  simp only [envA]
  have hΓ := ctxOf_ok (P := Try.prog) (cx isAct_ctr <| cx holds_ctr <| cx cin_ctr <| cx0)
  have hnt : nth T (2 * a) = T[2 * a]'(by omega) := nth_getElem (by omega)
  have hta := hV.1 a hab
  rw [hnt] at hta
  have hn1 := hw.1
  have hn2 := hw.2
  simp only [treeA]
  by_cases g : n ≤ 15
  · obtain ⟨m, rfl⟩ : ∃ m : Nat, n = (m : Int) := ⟨n.toNat, by omega⟩
    obtain ⟨k, hk⟩ : ∃ k : Nat, T[2 * a]'(by omega) = (k : Int) := ⟨(T[2 * a]'(by omega)).toNat, by omega⟩
    have hres : lgB T (.leaf (m : Int)) a b = (decide (a = b) && m.testBit k) := by
      rw [Bool.eq_iff_iff, lgB_true, Bool.and_eq_true, decide_eq_true_eq]
      simp only [Lg]
      rw [if_pos g, hnt, hk, Int.toNat_natCast, Int.toNat_natCast]
    have hac : decide (16 ≤ (m : Int) ∧ (m : Int) ≤ 18) = false := decide_eq_false (by omega)
    rw [hres]
    by_cases hab2 : a = b
    · subst hab2
      rw [decide_eq_true rfl, Bool.true_and]
      repeat' (first | exact hb.elim | refine wS fun K hK => ?_ | refine wB ?_ | refine uR hΓ ?_ | refine uD hΓ fun B hB => ?_ | ((repeat ((fail_if_success (refine hK _ ?_)); clear hK K)); refine hK _ ?_; clear hK K) | refine u1 ?_ | refine uC (fun hb => ?_) fun hb => ?_ | refine u2 (fun hc => ?_) fun hc => ?_ | refine wI ?_ | refine ex_idx (by omega) ?_ | exact True.intro | fail)
      (first | refine wA rfl ?_ ?_ ?_ | refine dA rfl ?_ ?_ ?_); exact (.bool false); exact (⟨(m : Int), rfl, by rw [hac]⟩); simp (maxSteps := 2000000) only [go_sem]
      repeat' (first | exact hb.elim | refine wS fun K hK => ?_ | refine wB ?_ | refine uR hΓ ?_ | refine uD hΓ fun B hB => ?_ | ((repeat ((fail_if_success (refine hK _ ?_)); clear hK K)); refine hK _ ?_; clear hK K) | refine u1 ?_ | refine uC (fun hb => ?_) fun hb => ?_ | refine u2 (fun hc => ?_) fun hc => ?_ | refine wI ?_ | refine ex_idx (by omega) ?_ | exact True.intro | fail)
      all_goals try (exfalso; omega)
      have e2 : (2 * (a : Int)).toNat = 2 * a := by omega
      simp only [e2, hk]
      (first | refine wA rfl ?_ ?_ ?_ | refine dA rfl ?_ ?_ ?_); exact (.bool (m.testBit k)); exact (⟨m, k, rfl, by omega, by omega, rfl⟩); simp (maxSteps := 2000000) only [go_sem]
      repeat' (first | exact hb.elim | refine wS fun K hK => ?_ | refine wB ?_ | refine uR hΓ ?_ | refine uD hΓ fun B hB => ?_ | ((repeat ((fail_if_success (refine hK _ ?_)); clear hK K)); refine hK _ ?_; clear hK K) | refine u1 ?_ | refine uC (fun hb => ?_) fun hb => ?_ | refine u2 (fun hc => ?_) fun hc => ?_ | refine wI ?_ | refine ex_idx (by omega) ?_ | exact True.intro | fail)
      simp [Try.results48, RetL, upd_at, plainB, isOwn, anyOwn]
    · rw [decide_eq_false hab2, Bool.false_and]
      repeat' (first | exact hb.elim | refine wS fun K hK => ?_ | refine wB ?_ | refine uR hΓ ?_ | refine uD hΓ fun B hB => ?_ | ((repeat ((fail_if_success (refine hK _ ?_)); clear hK K)); refine hK _ ?_; clear hK K) | refine u1 ?_ | refine uC (fun hb => ?_) fun hb => ?_ | refine u2 (fun hc => ?_) fun hc => ?_ | refine wI ?_ | refine ex_idx (by omega) ?_ | exact True.intro | fail)
      (first | refine wA rfl ?_ ?_ ?_ | refine dA rfl ?_ ?_ ?_); exact (.bool false); exact (⟨(m : Int), rfl, by rw [hac]⟩); simp (maxSteps := 2000000) only [go_sem]
      repeat' (first | exact hb.elim | refine wS fun K hK => ?_ | refine wB ?_ | refine uR hΓ ?_ | refine uD hΓ fun B hB => ?_ | ((repeat ((fail_if_success (refine hK _ ?_)); clear hK K)); refine hK _ ?_; clear hK K) | refine u1 ?_ | refine uC (fun hb => ?_) fun hb => ?_ | refine u2 (fun hc => ?_) fun hc => ?_ | refine wI ?_ | refine ex_idx (by omega) ?_ | exact True.intro | fail)
      all_goals try (exfalso; omega)
      simp [Try.results48, RetL, upd_at, plainB, isOwn, anyOwn]
  · have hac : decide (16 ≤ n ∧ n ≤ 18) = true := decide_eq_true (by omega)
    by_cases hab2 : b = a + 1
    · subst hab2
      have hnt2 : nth T (2 * a + 1) = T[2 * a + 1]'(by omega) := nth_getElem (by omega)
      have hres : lgB T (.leaf n) a (a + 1) = decide (T[2 * a + 1]'(by omega) = n) := by
        rw [Bool.eq_iff_iff, lgB_true, decide_eq_true_eq]
        simp only [Lg]
        rw [if_neg g, hnt2]
        simp
      rw [hres]
      repeat' (first | exact hb.elim | refine wS fun K hK => ?_ | refine wB ?_ | refine uR hΓ ?_ | refine uD hΓ fun B hB => ?_ | ((repeat ((fail_if_success (refine hK _ ?_)); clear hK K)); refine hK _ ?_; clear hK K) | refine u1 ?_ | refine uC (fun hb => ?_) fun hb => ?_ | refine u2 (fun hc => ?_) fun hc => ?_ | refine wI ?_ | refine ex_idx (by omega) ?_ | exact True.intro | fail)
      (first | refine wA rfl ?_ ?_ ?_ | refine dA rfl ?_ ?_ ?_); exact (.bool true); exact (⟨n, rfl, by rw [hac]⟩); simp (maxSteps := 2000000) only [go_sem]
      repeat' (first | exact hb.elim | refine wS fun K hK => ?_ | refine wB ?_ | refine uR hΓ ?_ | refine uD hΓ fun B hB => ?_ | ((repeat ((fail_if_success (refine hK _ ?_)); clear hK K)); refine hK _ ?_; clear hK K) | refine u1 ?_ | refine uC (fun hb => ?_) fun hb => ?_ | refine u2 (fun hc => ?_) fun hc => ?_ | refine wI ?_ | refine ex_idx (by omega) ?_ | exact True.intro | fail)
      all_goals try (exfalso; omega)
      simp only [show (2 * (a : Int) + 1).toNat = 2 * a + 1 by omega]
      simp [Try.results48, RetL, upd_at, plainB, isOwn, anyOwn]
    · have hres : lgB T (.leaf n) a b = false := by
        refine lgB_false.2 ?_
        simp only [Lg]
        rw [if_neg g]
        exact fun h => hab2 h.1
      rw [hres]
      repeat' (first | exact hb.elim | refine wS fun K hK => ?_ | refine wB ?_ | refine uR hΓ ?_ | refine uD hΓ fun B hB => ?_ | ((repeat ((fail_if_success (refine hK _ ?_)); clear hK K)); refine hK _ ?_; clear hK K) | refine u1 ?_ | refine uC (fun hb => ?_) fun hb => ?_ | refine u2 (fun hc => ?_) fun hc => ?_ | refine wI ?_ | refine ex_idx (by omega) ?_ | exact True.intro | fail)
      (first | refine wA rfl ?_ ?_ ?_ | refine dA rfl ?_ ?_ ?_); exact (.bool true); exact (⟨n, rfl, by rw [hac]⟩); simp (maxSteps := 2000000) only [go_sem]
      repeat' (first | exact hb.elim | refine wS fun K hK => ?_ | refine wB ?_ | refine uR hΓ ?_ | refine uD hΓ fun B hB => ?_ | ((repeat ((fail_if_success (refine hK _ ?_)); clear hK K)); refine hK _ ?_; clear hK K) | refine u1 ?_ | refine uC (fun hb => ?_) fun hb => ?_ | refine u2 (fun hc => ?_) fun hc => ?_ | refine wI ?_ | refine ex_idx (by omega) ?_ | exact True.intro | fail)
      all_goals try (exfalso; omega)
      simp [Try.results48, RetL, upd_at, plainB, isOwn, anyOwn]

def inThnR (N : Nat) (args : List AV) (r : AV) (args' : List AV) : Prop := ∃ (T : List Int) (y z : Ex) (a b : Nat), args = [.box [ints T, .memo kF (gF T)], treeA (.thn y z), I (a : Int), I (b : Int)] ∧ inP T (.thn y z) a b N ∧ r = .bool (lgB T (.thn y z) a b) ∧ args' = [.box [ints T, .memo kF (gF T)]]
theorem findThn_step (N : Nat) (hi : CtrOK Try.prog 41 (effC (inR (N - 1)))) : CtrOK Try.prog 48 (effC (inThnR N)) := by
  have cin_ctr := hi
  refine ctr_lend' Try.func48 rfl rfl Try.ntmps48 ?_
  rintro _ _ _ ⟨T, y, z, a, b, rfl, ⟨hw, hm, hab, hbT, hT, hV⟩, rfl, rfl⟩
  refine ⟨_, rfl, by simp, by simp, fun κ hκ => ?_⟩
  have hbig := bigW_gt
  rw [argEnv_eq]
  simp only [envA]
  have hΓ := ctxOf_ok (P := Try.prog) (cx isAct_ctr <| cx holds_ctr <| cx cin_ctr <| cx0)
  have hnt : nth T (2 * a) = T[2 * a]'(by omega) := nth_getElem (by omega)
  have hta := hV.1 a hab
  rw [hnt] at hta
  have hyw := hw.1
  have hzw := hw.2
  have hyl := y.steps_pos
  have hzl := z.steps_pos
  simp only [Ex.steps, List.length_append, List.length_cons, List.length_nil] at hm
  obtain ⟨ly, ty⟩ : ∃ l, treeA y = .pbox l := ⟨_, treeA_eq y⟩
  obtain ⟨lz, tz⟩ : ∃ l, treeA z = .pbox l := ⟨_, treeA_eq z⟩
  simp only [treeA, ty, tz]
  obtain ⟨V, hVr⟩ : ∃ V, lgB T (.thn y z) a b = V := ⟨_, rfl⟩
  rw [hVr]
  repeat' (first | exact hb.elim | refine wS fun K hK => ?_ | refine wB ?_ | refine uR hΓ ?_ | refine uD hΓ fun B hB => ?_ | ((repeat ((fail_if_success (refine hK _ ?_)); clear hK K)); refine hK _ ?_; clear hK K) | refine u1 ?_ | refine uC (fun hb => ?_) fun hb => ?_ | refine u2 (fun hc => ?_) fun hc => ?_ | refine wI ?_ | refine ex_idx (by omega) ?_ | exact True.intro | fail)
  (first | refine wA rfl ?_ ?_ ?_ | refine dA rfl ?_ ?_ ?_); exact (.bool false); exact (⟨19, rfl, by simp⟩); simp (maxSteps := 2000000) only [go_sem]
  repeat' (first | exact hb.elim | refine wS fun K hK => ?_ | refine wB ?_ | refine uR hΓ ?_ | refine uD hΓ fun B hB => ?_ | ((repeat ((fail_if_success (refine hK _ ?_)); clear hK K)); refine hK _ ?_; clear hK K) | refine u1 ?_ | refine uC (fun hb => ?_) fun hb => ?_ | refine u2 (fun hc => ?_) fun hc => ?_ | refine wI ?_ | refine ex_idx (by omega) ?_ | exact True.intro | fail)
  all_goals try (exfalso; omega)
  refine CW.loop (ι := Nat) (fun m => [(0, .box [ints T, .memo kF (gF T)]), (1, .pbox [I 19, .sh [.pbox ly, .pbox lz]]), (2, I (a : Int)), (3, I (b : Int)), (9, I (m : Nat))]) (fun m => a ≤ m ∧ m ≤ b + 1 ∧ ∀ c, a ≤ c → c < m → (lgB T y a c && lgB T z c b) = false) (fun m => b + 1 - m) a ?_ ?_
  · exact ⟨by (simp only [xe, xj, Nat.reduceEqDiff]; (try simp [view, viewL_map]); (try omega)), by omega, by omega, fun c h1 h2 => by omega⟩
  rintro m ⟨hm1, hm2, hm3⟩
  simp only [envOf]
  by_cases hmb : m ≤ b
  · repeat' (first | exact hb.elim | refine wS fun K hK => ?_ | refine wB ?_ | refine uR hΓ ?_ | refine uD hΓ fun B hB => ?_ | ((repeat ((fail_if_success (refine hK _ ?_)); clear hK K)); refine hK _ ?_; clear hK K) | refine u1 ?_ | refine uC (fun hb => ?_) fun hb => ?_ | refine u2 (fun hc => ?_) fun hc => ?_ | refine wI ?_ | refine ex_idx (by omega) ?_ | exact True.intro | fail)
    all_goals try (exfalso; omega)
    (first | refine W_askE rfl _ _ (⟨T, y, a, m, by rw [ty], ⟨hyw, by omega, hm1, by omega, hT, hV.mono (by omega)⟩, rfl, rfl⟩) ?_ | refine D_askE rfl _ _ (⟨T, y, a, m, by rw [ty], ⟨hyw, by omega, hm1, by omega, hT, hV.mono (by omega)⟩, rfl, rfl⟩) ?_); simp (maxSteps := 2000000) only [go_sem]
    cases hyb : lgB T y a m with
    | false =>
      repeat' (first | exact hb.elim | refine wS fun K hK => ?_ | refine wB ?_ | refine uR hΓ ?_ | refine uD hΓ fun B hB => ?_ | ((repeat ((fail_if_success (refine hK _ ?_)); clear hK K)); refine hK _ ?_; clear hK K) | refine u1 ?_ | refine uC (fun hb => ?_) fun hb => ?_ | refine u2 (fun hc => ?_) fun hc => ?_ | refine wI ?_ | refine ex_idx (by omega) ?_ | exact True.intro | fail)
      all_goals try (exfalso; first | exact absurd ‹false = true› (by decide) | exact absurd rfl ‹¬ true = true› | exact absurd trivial ‹¬ True›)
      refine ⟨m + 1, by (simp only [xe, xj, Nat.reduceEqDiff]; (try simp [view, viewL_map]); (try omega)), ⟨by omega, by omega, fun c h1 h2 => ?_⟩, by omega⟩
      by_cases hcm : c = m
      · subst hcm; rw [hyb]; rfl
      · exact hm3 c h1 (by omega)
    | true =>
      repeat' (first | exact hb.elim | refine wS fun K hK => ?_ | refine wB ?_ | refine uR hΓ ?_ | refine uD hΓ fun B hB => ?_ | ((repeat ((fail_if_success (refine hK _ ?_)); clear hK K)); refine hK _ ?_; clear hK K) | refine u1 ?_ | refine uC (fun hb => ?_) fun hb => ?_ | refine u2 (fun hc => ?_) fun hc => ?_ | refine wI ?_ | refine ex_idx (by omega) ?_ | exact True.intro | fail)
      all_goals try (exfalso; first | exact absurd ‹false = true› (by decide) | exact absurd rfl ‹¬ true = true› | exact absurd trivial ‹¬ True›)
      (first | refine W_askE rfl _ _ (⟨T, z, m, b, by rw [tz], ⟨hzw, by omega, hmb, hbT, hT, hV⟩, rfl, rfl⟩) ?_ | refine D_askE rfl _ _ (⟨T, z, m, b, by rw [tz], ⟨hzw, by omega, hmb, hbT, hT, hV⟩, rfl, rfl⟩) ?_); simp (maxSteps := 2000000) only [go_sem]
      cases hzb : lgB T z m b with
      | true =>
        repeat' (first | exact hb.elim | refine wS fun K hK => ?_ | refine wB ?_ | refine uR hΓ ?_ | refine uD hΓ fun B hB => ?_ | ((repeat ((fail_if_success (refine hK _ ?_)); clear hK K)); refine hK _ ?_; clear hK K) | refine u1 ?_ | refine uC (fun hb => ?_) fun hb => ?_ | refine u2 (fun hc => ?_) fun hc => ?_ | refine wI ?_ | refine ex_idx (by omega) ?_ | exact True.intro | fail)
        all_goals try (exfalso; first | exact absurd ‹false = true› (by decide) | exact absurd rfl ‹¬ true = true› | exact absurd trivial ‹¬ True›)
        have := lgB_thn_yes hm1 hmb hyb hzb
        rw [← hVr, this]
        simp [Try.results48, RetL, upd_at, plainB, isOwn, anyOwn]
      | false =>
        repeat' (first | exact hb.elim | refine wS fun K hK => ?_ | refine wB ?_ | refine uR hΓ ?_ | refine uD hΓ fun B hB => ?_ | ((repeat ((fail_if_success (refine hK _ ?_)); clear hK K)); refine hK _ ?_; clear hK K) | refine u1 ?_ | refine uC (fun hb => ?_) fun hb => ?_ | refine u2 (fun hc => ?_) fun hc => ?_ | refine wI ?_ | refine ex_idx (by omega) ?_ | exact True.intro | fail)
        all_goals try (exfalso; first | exact absurd ‹false = true› (by decide) | exact absurd rfl ‹¬ true = true› | exact absurd trivial ‹¬ True›)
        refine ⟨m + 1, by (simp only [xe, xj, Nat.reduceEqDiff]; (try simp [view, viewL_map]); (try omega)), ⟨by omega, by omega, fun c h1 h2 => ?_⟩, by omega⟩
        by_cases hcm : c = m
        · subst hcm; rw [hyb, hzb]; rfl
        · exact hm3 c h1 (by omega)
  · repeat' (first | exact hb.elim | refine wS fun K hK => ?_ | refine wB ?_ | refine uR hΓ ?_ | refine uD hΓ fun B hB => ?_ | ((repeat ((fail_if_success (refine hK _ ?_)); clear hK K)); refine hK _ ?_; clear hK K) | refine u1 ?_ | refine uC (fun hb => ?_) fun hb => ?_ | refine u2 (fun hc => ?_) fun hc => ?_ | refine wI ?_ | refine ex_idx (by omega) ?_ | exact True.intro | fail)
    all_goals try (exfalso; omega)
    have := lgB_thn_no (T := T) (y := y) (z := z) (a := a) (b := b) fun c h1 h2 => hm3 c h1 (by omega)
    rw [← hVr, this]
    simp [Try.results48, RetL, upd_at, plainB, isOwn, anyOwn]

def inPlsR (N : Nat) (args : List AV) (r : AV) (args' : List AV) : Prop := ∃ (T : List Int) (y z : Ex) (a b : Nat), args = [.box [ints T, .memo kF (gF T)], treeA (.pls y z), I (a : Int), I (b : Int)] ∧ inP T (.pls y z) a b N ∧ r = .bool (lgB T (.pls y z) a b) ∧ args' = [.box [ints T, .memo kF (gF T)]]
theorem findPls_step (N : Nat) (hi : CtrOK Try.prog 41 (effC (inR (N - 1)))) : CtrOK Try.prog 48 (effC (inPlsR N)) := by
  have cin_ctr := hi
  refine ctr_lend' Try.func48 rfl rfl Try.ntmps48 ?_
  rintro _ _ _ ⟨T, y, z, a, b, rfl, ⟨hw, hm, hab, hbT, hT, hV⟩, rfl, rfl⟩
  refine ⟨_, rfl, by simp, by simp, fun κ hκ => ?_⟩
  have hbig := bigW_gt
  rw [argEnv_eq]
  simp only [envA]
  have hΓ := ctxOf_ok (P := Try.prog) (cx isAct_ctr <| cx holds_ctr <| cx cin_ctr <| cx0)
  have hnt : nth T (2 * a) = T[2 * a]'(by omega) := nth_getElem (by omega)
  have hta := hV.1 a hab
  rw [hnt] at hta
  have hyw := hw.1
  have hzw := hw.2
  have hyl := y.steps_pos
  have hzl := z.steps_pos
  simp only [Ex.steps, List.length_append, List.length_cons, List.length_nil] at hm
  obtain ⟨ly, ty⟩ : ∃ l, treeA y = .pbox l := ⟨_, treeA_eq y⟩
  obtain ⟨lz, tz⟩ : ∃ l, treeA z = .pbox l := ⟨_, treeA_eq z⟩
  obtain ⟨V, hVr⟩ : ∃ V, lgB T (.pls y z) a b = V := ⟨_, rfl⟩
  rw [hVr]
  rw [lgB_pls] at hVr
  simp only [treeA, ty, tz]
  repeat' (first | exact hb.elim | refine wS fun K hK => ?_ | refine wB ?_ | refine uR hΓ ?_ | refine uD hΓ fun B hB => ?_ | ((repeat ((fail_if_success (refine hK _ ?_)); clear hK K)); refine hK _ ?_; clear hK K) | refine u1 ?_ | refine uC (fun hb => ?_) fun hb => ?_ | refine u2 (fun hc => ?_) fun hc => ?_ | refine wI ?_ | refine ex_idx (by omega) ?_ | exact True.intro | fail)
  (first | refine wA rfl ?_ ?_ ?_ | refine dA rfl ?_ ?_ ?_); exact (.bool false); exact (⟨20, rfl, by simp⟩); simp (maxSteps := 2000000) only [go_sem]
  repeat' (first | exact hb.elim | refine wS fun K hK => ?_ | refine wB ?_ | refine uR hΓ ?_ | refine uD hΓ fun B hB => ?_ | ((repeat ((fail_if_success (refine hK _ ?_)); clear hK K)); refine hK _ ?_; clear hK K) | refine u1 ?_ | refine uC (fun hb => ?_) fun hb => ?_ | refine u2 (fun hc => ?_) fun hc => ?_ | refine wI ?_ | refine ex_idx (by omega) ?_ | exact True.intro | fail)
  all_goals try (exfalso; first | omega | exact absurd trivial ‹_›)
  (first | refine W_askE rfl _ _ (⟨T, y, a, b, by rw [ty], ⟨hyw, by omega, hab, hbT, hT, hV⟩, rfl, rfl⟩) ?_ | refine D_askE rfl _ _ (⟨T, y, a, b, by rw [ty], ⟨hyw, by omega, hab, hbT, hT, hV⟩, rfl, rfl⟩) ?_); simp (maxSteps := 2000000) only [go_sem]
  cases hyb : lgB T y a b with
  | true =>
    repeat' (first | exact hb.elim | refine wS fun K hK => ?_ | refine wB ?_ | refine uR hΓ ?_ | refine uD hΓ fun B hB => ?_ | ((repeat ((fail_if_success (refine hK _ ?_)); clear hK K)); refine hK _ ?_; clear hK K) | refine u1 ?_ | refine uC (fun hb => ?_) fun hb => ?_ | refine u2 (fun hc => ?_) fun hc => ?_ | refine wI ?_ | refine ex_idx (by omega) ?_ | exact True.intro | fail)
    all_goals try (exfalso; first | exact absurd ‹true = false› (by decide) | exact absurd ‹false = true› (by decide) | exact absurd rfl ‹¬ true = true› | exact absurd trivial ‹¬ True›)
    rw [hyb, Bool.true_or] at hVr
    rw [← hVr]
    simp [Try.results48, RetL, upd_at, plainB, isOwn, anyOwn]
  | false =>
    repeat' (first | exact hb.elim | refine wS fun K hK => ?_ | refine wB ?_ | refine uR hΓ ?_ | refine uD hΓ fun B hB => ?_ | ((repeat ((fail_if_success (refine hK _ ?_)); clear hK K)); refine hK _ ?_; clear hK K) | refine u1 ?_ | refine uC (fun hb => ?_) fun hb => ?_ | refine u2 (fun hc => ?_) fun hc => ?_ | refine wI ?_ | refine ex_idx (by omega) ?_ | exact True.intro | fail)
    all_goals try (exfalso; first | exact absurd ‹true = false› (by decide) | exact absurd ‹false = true› (by decide) | exact absurd rfl ‹¬ true = true› | exact absurd trivial ‹¬ True›)
    (first | refine W_askE rfl _ _ (⟨T, z, a, b, by rw [tz], ⟨hzw, by omega, hab, hbT, hT, hV⟩, rfl, rfl⟩) ?_ | refine D_askE rfl _ _ (⟨T, z, a, b, by rw [tz], ⟨hzw, by omega, hab, hbT, hT, hV⟩, rfl, rfl⟩) ?_); simp (maxSteps := 2000000) only [go_sem]
    repeat' (first | exact hb.elim | refine wS fun K hK => ?_ | refine wB ?_ | refine uR hΓ ?_ | refine uD hΓ fun B hB => ?_ | ((repeat ((fail_if_success (refine hK _ ?_)); clear hK K)); refine hK _ ?_; clear hK K) | refine u1 ?_ | refine uC (fun hb => ?_) fun hb => ?_ | refine u2 (fun hc => ?_) fun hc => ?_ | refine wI ?_ | refine ex_idx (by omega) ?_ | exact True.intro | fail)
    rw [hyb, Bool.false_or] at hVr
    rw [← hVr]
    simp [Try.results48, RetL, upd_at, plainB, isOwn, anyOwn]

def inStrR (N : Nat) (args : List AV) (r : AV) (args' : List AV) : Prop := ∃ (T : List Int) (y : Ex) (a b : Nat), args = [.box [ints T, .memo kF (gF T)], treeA (.str y), I (a : Int), I (b : Int)] ∧ inP T (.str y) a b N ∧ r = .bool (lgB T (.str y) a b) ∧ args' = [.box [ints T, .memo kF (gF T)]]
theorem findStr_step (N : Nat) (hi : CtrOK Try.prog 41 (effC (inR (N - 1)))) : CtrOK Try.prog 48 (effC (inStrR N)) := by
  have cin_ctr := hi
  refine ctr_lend' Try.func48 rfl rfl Try.ntmps48 ?_
  rintro _ _ _ ⟨T, y, a, b, rfl, ⟨hw, hm, hab, hbT, hT, hV⟩, rfl, rfl⟩
  refine ⟨_, rfl, by simp, by simp, fun κ hκ => ?_⟩
  have hbig := bigW_gt
  rw [argEnv_eq]
  simp only [envA]
  have hΓ := ctxOf_ok (P := Try.prog) (cx isAct_ctr <| cx holds_ctr <| cx cin_ctr <| cx0)
  have hnt : nth T (2 * a) = T[2 * a]'(by omega) := nth_getElem (by omega)
  have hta := hV.1 a hab
  rw [hnt] at hta
  have hyw : y.wf := hw
  have hyl := y.steps_pos
  simp only [Ex.steps, List.length_append, List.length_cons, List.length_nil] at hm
  obtain ⟨ly, ty⟩ : ∃ l, treeA y = .pbox l := ⟨_, treeA_eq y⟩
  simp only [treeA, ty]
  obtain ⟨V, hVr⟩ : ∃ V, lgB T (.str y) a b = V := ⟨_, rfl⟩
  rw [hVr]
  by_cases hab2 : a = b
  · subst hab2
    rw [← hVr, lgB_str_same]
    repeat' (first | exact hb.elim | refine wS fun K hK => ?_ | refine wB ?_ | refine uR hΓ ?_ | refine uD hΓ fun B hB => ?_ | ((repeat ((fail_if_success (refine hK _ ?_)); clear hK K)); refine hK _ ?_; clear hK K) | refine u1 ?_ | refine uC (fun hb => ?_) fun hb => ?_ | refine u2 (fun hc => ?_) fun hc => ?_ | refine wI ?_ | refine ex_idx (by omega) ?_ | exact True.intro | fail)
    (first | refine wA rfl ?_ ?_ ?_ | refine dA rfl ?_ ?_ ?_); exact (.bool false); exact (⟨21, rfl, by simp⟩); simp (maxSteps := 2000000) only [go_sem]
    repeat' (first | exact hb.elim | refine wS fun K hK => ?_ | refine wB ?_ | refine uR hΓ ?_ | refine uD hΓ fun B hB => ?_ | ((repeat ((fail_if_success (refine hK _ ?_)); clear hK K)); refine hK _ ?_; clear hK K) | refine u1 ?_ | refine uC (fun hb => ?_) fun hb => ?_ | refine u2 (fun hc => ?_) fun hc => ?_ | refine wI ?_ | refine ex_idx (by omega) ?_ | exact True.intro | fail)
    all_goals try (exfalso; omega)
    simp [Try.results48, RetL, upd_at, plainB, isOwn, anyOwn]
  repeat' (first | exact hb.elim | refine wS fun K hK => ?_ | refine wB ?_ | refine uR hΓ ?_ | refine uD hΓ fun B hB => ?_ | ((repeat ((fail_if_success (refine hK _ ?_)); clear hK K)); refine hK _ ?_; clear hK K) | refine u1 ?_ | refine uC (fun hb => ?_) fun hb => ?_ | refine u2 (fun hc => ?_) fun hc => ?_ | refine wI ?_ | refine ex_idx (by omega) ?_ | exact True.intro | fail)
  (first | refine wA rfl ?_ ?_ ?_ | refine dA rfl ?_ ?_ ?_); exact (.bool false); exact (⟨21, rfl, by simp⟩); simp (maxSteps := 2000000) only [go_sem]
  repeat' (first | exact hb.elim | refine wS fun K hK => ?_ | refine wB ?_ | refine uR hΓ ?_ | refine uD hΓ fun B hB => ?_ | ((repeat ((fail_if_success (refine hK _ ?_)); clear hK K)); refine hK _ ?_; clear hK K) | refine u1 ?_ | refine uC (fun hb => ?_) fun hb => ?_ | refine u2 (fun hc => ?_) fun hc => ?_ | refine wI ?_ | refine ex_idx (by omega) ?_ | exact True.intro | fail)
  all_goals try (exfalso; omega)
  refine CW.loop (ι := Nat) (fun m => [(0, .box [ints T, .memo kF (gF T)]), (1, .pbox [I 21, .sh [.pbox ly]]), (2, I (a : Int)), (3, I (b : Int)), (10, I (m : Nat))]) (fun m => a + 1 ≤ m ∧ m ≤ b + 1 ∧ ∀ c, a < c → c < m → (lgB T y a c && lgB T (.str y) c b) = false) (fun m => b + 1 - m) (a + 1) ?_ ?_
  · exact ⟨by (simp only [xe, xj, Nat.reduceEqDiff]; (try simp [view, viewL_map]); (try omega)), by omega, by omega, fun c h1 h2 => by omega⟩
  rintro m ⟨hm1, hm2, hm3⟩
  simp only [envOf]
  by_cases hmb : m ≤ b
  · repeat' (first | exact hb.elim | refine wS fun K hK => ?_ | refine wB ?_ | refine uR hΓ ?_ | refine uD hΓ fun B hB => ?_ | ((repeat ((fail_if_success (refine hK _ ?_)); clear hK K)); refine hK _ ?_; clear hK K) | refine u1 ?_ | refine uC (fun hb => ?_) fun hb => ?_ | refine u2 (fun hc => ?_) fun hc => ?_ | refine wI ?_ | refine ex_idx (by omega) ?_ | exact True.intro | fail)
    all_goals try (exfalso; omega)
    (first | refine W_askE rfl _ _ (⟨T, y, a, m, by rw [ty], ⟨hyw, by omega, by omega, by omega, hT, hV.mono (by omega)⟩, rfl, rfl⟩) ?_ | refine D_askE rfl _ _ (⟨T, y, a, m, by rw [ty], ⟨hyw, by omega, by omega, by omega, hT, hV.mono (by omega)⟩, rfl, rfl⟩) ?_); simp (maxSteps := 2000000) only [go_sem]
    cases hyb : lgB T y a m with
    | false =>
      repeat' (first | exact hb.elim | refine wS fun K hK => ?_ | refine wB ?_ | refine uR hΓ ?_ | refine uD hΓ fun B hB => ?_ | ((repeat ((fail_if_success (refine hK _ ?_)); clear hK K)); refine hK _ ?_; clear hK K) | refine u1 ?_ | refine uC (fun hb => ?_) fun hb => ?_ | refine u2 (fun hc => ?_) fun hc => ?_ | refine wI ?_ | refine ex_idx (by omega) ?_ | exact True.intro | fail)
      all_goals try (exfalso; first | exact absurd ‹false = true› (by decide) | exact absurd rfl ‹¬ true = true› | exact absurd trivial ‹¬ True›)
      refine ⟨m + 1, by (simp only [xe, xj, Nat.reduceEqDiff]; (try simp [view, viewL_map]); (try omega)), ⟨by omega, by omega, fun c h1 h2 => ?_⟩, by omega⟩
      by_cases hcm : c = m
      · subst hcm; rw [hyb]; rfl
      · exact hm3 c h1 (by omega)
    | true =>
      repeat' (first | exact hb.elim | refine wS fun K hK => ?_ | refine wB ?_ | refine uR hΓ ?_ | refine uD hΓ fun B hB => ?_ | ((repeat ((fail_if_success (refine hK _ ?_)); clear hK K)); refine hK _ ?_; clear hK K) | refine u1 ?_ | refine uC (fun hb => ?_) fun hb => ?_ | refine u2 (fun hc => ?_) fun hc => ?_ | refine wI ?_ | refine ex_idx (by omega) ?_ | exact True.intro | fail)
      all_goals try (exfalso; first | exact absurd ‹false = true› (by decide) | exact absurd rfl ‹¬ true = true› | exact absurd trivial ‹¬ True›)
      (first | refine W_askE rfl _ _ (⟨T, .str y, m, b, by rw [treeA, ty], ⟨hw, by simp only [Ex.steps, List.length_append, List.length_cons, List.length_nil]; omega, hmb, hbT, hT, hV⟩, rfl, rfl⟩) ?_ | refine D_askE rfl _ _ (⟨T, .str y, m, b, by rw [treeA, ty], ⟨hw, by simp only [Ex.steps, List.length_append, List.length_cons, List.length_nil]; omega, hmb, hbT, hT, hV⟩, rfl, rfl⟩) ?_); simp (maxSteps := 2000000) only [go_sem]
      cases hzb : lgB T (.str y) m b with
      | true =>
        repeat' (first | exact hb.elim | refine wS fun K hK => ?_ | refine wB ?_ | refine uR hΓ ?_ | refine uD hΓ fun B hB => ?_ | ((repeat ((fail_if_success (refine hK _ ?_)); clear hK K)); refine hK _ ?_; clear hK K) | refine u1 ?_ | refine uC (fun hb => ?_) fun hb => ?_ | refine u2 (fun hc => ?_) fun hc => ?_ | refine wI ?_ | refine ex_idx (by omega) ?_ | exact True.intro | fail)
        all_goals try (exfalso; first | exact absurd ‹false = true› (by decide) | exact absurd rfl ‹¬ true = true› | exact absurd trivial ‹¬ True›)
        have := lgB_str_yes (show a < m by omega) hyb hzb
        rw [← hVr, this]
        simp [Try.results48, RetL, upd_at, plainB, isOwn, anyOwn]
      | false =>
        repeat' (first | exact hb.elim | refine wS fun K hK => ?_ | refine wB ?_ | refine uR hΓ ?_ | refine uD hΓ fun B hB => ?_ | ((repeat ((fail_if_success (refine hK _ ?_)); clear hK K)); refine hK _ ?_; clear hK K) | refine u1 ?_ | refine uC (fun hb => ?_) fun hb => ?_ | refine u2 (fun hc => ?_) fun hc => ?_ | refine wI ?_ | refine ex_idx (by omega) ?_ | exact True.intro | fail)
        all_goals try (exfalso; first | exact absurd ‹false = true› (by decide) | exact absurd rfl ‹¬ true = true› | exact absurd trivial ‹¬ True›)
        refine ⟨m + 1, by (simp only [xe, xj, Nat.reduceEqDiff]; (try simp [view, viewL_map]); (try omega)), ⟨by omega, by omega, fun c h1 h2 => ?_⟩, by omega⟩
        by_cases hcm : c = m
        · subst hcm; rw [hyb, hzb]; rfl
        · exact hm3 c h1 (by omega)
  · repeat' (first | exact hb.elim | refine wS fun K hK => ?_ | refine wB ?_ | refine uR hΓ ?_ | refine uD hΓ fun B hB => ?_ | ((repeat ((fail_if_success (refine hK _ ?_)); clear hK K)); refine hK _ ?_; clear hK K) | refine u1 ?_ | refine uC (fun hb => ?_) fun hb => ?_ | refine u2 (fun hc => ?_) fun hc => ?_ | refine wI ?_ | refine ex_idx (by omega) ?_ | exact True.intro | fail)
    all_goals try (exfalso; omega)
    have := lgB_str_no (T := T) (y := y) hab2 fun c h1 h2 => hm3 c h1 (by omega)
    rw [← hVr, this]
    simp [Try.results48, RetL, upd_at, plainB, isOwn, anyOwn]

end Go.Proofs.Ytehdfifncbokeaa
