/- Expressions as trees, in the program, walked by the engine. -/
import Derived.Test.YtehdfifncbokeaaGreatGrpD
import Derived.Test.YtehdfifncbokeaaGreatGrpJ
import Derived.Test.YtehdfifncbokeaaGreatEngMin
import Derived.Test.YtehdfifncbokeaaGreatGrpC
namespace Go.Proofs.YtehdfifncbokeaaGreat
set_option linter.unusedSimpArgs false
set_option linter.unusedVariables false
set_option maxRecDepth 8000
set_option maxHeartbeats 2000000
open Go Go.RowKit AV

def Ex.subs : Ex → List Ex
  | .leaf _ => []
  | .thn a b => [a, b]
  | .pls a b => [a, b]
  | .str a => [a]
def treeA : Ex → AV
  | .leaf n => .pbox [I n, .sh []]
  | .thn a b => .pbox [I 19, .sh [treeA a, treeA b]]
  | .pls a b => .pbox [I 20, .sh [treeA a, treeA b]]
  | .str a => .pbox [I 21, .sh [treeA a]]
theorem treeA_eq (x : Ex) : treeA x = .pbox [I x.op, .sh (x.subs.map treeA)] := by cases x <;> rfl
theorem treeA_view (x : Ex) : view (treeA x) = treeA x := by cases x <;> rfl
theorem treeA_isP (x : Ex) : isP (treeA x) = true := by cases x <;> rfl
theorem allP_trees (l : List Ex) : allP (l.map treeA) = true := (allP_iff _).2 fun a h => by
  obtain ⟨x, _, rfl⟩ := List.mem_map.1 h
  exact treeA_isP x
theorem view_trees : view ∘ treeA = treeA := by funext x; exact treeA_view x

def stk (st : List Ex) : List Ex := st.reverse
theorem push_stk {n : Int} {st st' : List Ex} (h : push n st = some st') : ∃ x : Ex, st' = x :: st.drop (takesN n) ∧ x.op = n ∧ x.subs = (stk st).drop (st.length - takesN n) ∧ takesN n ≤ st.length := by
  rcases push_inv h with ⟨h0, h1, rfl⟩ | ⟨rfl, a, b, r, rfl, rfl⟩ | ⟨rfl, a, b, r, rfl, rfl⟩ | ⟨rfl, a, r, rfl, rfl⟩
  · exact ⟨.leaf n, by rw [takesN_leaf h1]; rfl, rfl, by rw [takesN_leaf h1]; simp [stk, Ex.subs], by rw [takesN_leaf h1]; omega⟩
  · refine ⟨.thn a b, rfl, rfl, ?_, by simp [takesN]⟩
    simp [stk, Ex.subs, takesN]
  · refine ⟨.pls a b, rfl, rfl, ?_, by simp [takesN]⟩
    simp [stk, Ex.subs, takesN]
  · refine ⟨.str a, rfl, rfl, ?_, by simp [takesN]⟩
    simp [stk, Ex.subs, takesN]

theorem runS_step {e : List Int} {k : Nat} {st : List Ex} {x : Ex} (hk : k < e.length) (h : runS (e.take k) [] = some st) (hx : runS e [] = some [x]) : ∃ st', push e[k] st = some st' ∧ runS (e.take (k + 1)) [] = some st' := by
  have := runS_take hk h hx
  rwa [nth_getElem hk] at this

def buildR (args : List AV) (r : AV) : Prop := ∃ x : Ex, args = [ints x.steps] ∧ x.wf ∧ x.steps.length ≤ 1099511627776 ∧ r = treeA x
theorem build_ctr : CtrOK Tryz.prog 19 (pureC buildR) := by
  refine ctr_pure' Tryz.func19 rfl rfl Tryz.ntmps19 ?_
  rintro _ _ ⟨x, rfl, hw, hl, rfl⟩
  refine ⟨by simp, fun κ hκ => ?_⟩
  have hbig := bigW_gt
  rw [argEnv_eq]
  simp only [envA]
  have hΓ := ctxOf_ok (P := Tryz.prog) (cx takes_ctr <| cx0)
  have hrun : runS x.steps [] = some [x] := runS_steps x hw []
  repeat' (first | exact hb.elim | refine wS fun K hK => ?_ | refine wB ?_ | refine uR hΓ ?_ | refine uD hΓ fun B hB => ?_ | ((repeat ((fail_if_success (refine hK _ ?_)); clear hK K)); refine hK _ ?_; clear hK K) | refine u1 ?_ | refine uC (fun hb => ?_) fun hb => ?_ | refine u2 (fun hc => ?_) fun hc => ?_ | refine wI ?_ | refine ex_idx (by omega) ?_ | exact True.intro | fail)
  refine CW.loop (ι := Nat × List Ex) (fun y => [(3, .own ((stk y.2).map treeA)), (8, ints x.steps), (9, I x.steps.length), (10, I (y.1 : Nat))]) (fun y => y.1 ≤ x.steps.length ∧ runS (x.steps.take y.1) [] = some y.2) (fun y => x.steps.length - y.1) (0, []) ?_ ?_
  · exact ⟨by (simp only [xe, xj, Nat.reduceEqDiff]; (try simp [view, viewL_map]); (try omega)); simp [stk], by simp, by simp [runS]⟩
  rintro ⟨k, st⟩ ⟨hk, hst⟩
  dsimp only at hk hst ⊢
  simp only [envOf]
  have hsl := (depthAt_le (e := x.steps) (k := k) ⟨st, hst, rfl⟩ hk)
  have hskl : (stk st).length = st.length := by simp [stk]
  refine CW.frzPost (N := fun e' => ∃ (n : Nat) (A : AV), getP (e' 3) [n] = some A ∧ isOwn A = true ∧ ∃ y : Nat × List Ex, LeL ((Wr.mod 3 [n] (view A)).app e') [(3, .own ((stk y.2).map treeA)), (8, ints x.steps), (9, I x.steps.length), (10, I (y.1 : Nat))] ∧ (y.1 ≤ x.steps.length ∧ runS (x.steps.take y.1) [] = some y.2) ∧ x.steps.length - y.1 < x.steps.length - k) ?_ ?_
  rotate_left
  · rintro e' ⟨n, A, h1, h2, h3⟩
    exact .inr ⟨3, [n], A, h1, h2, h3⟩
  by_cases hkl : k < x.steps.length
  case neg =>
    have hke : k = x.steps.length := by omega
    subst hke
    rw [List.take_length, hrun] at hst
    injection hst with hst
    subst hst
    have hs1 : (stk [x]).map treeA = [treeA x] := rfl
    rw [hs1]
    repeat' (first | refine wS fun K hK => ?_ | refine wB ?_ | ((first | refine wR hΓ ?_ | refine wD hΓ fun B hB => ?_); simp (maxSteps := 2000000) only [go_sem, treeA_eq]) | ((repeat ((fail_if_success (refine hK _ ?_)); clear hK K)); refine hK _ ?_; clear hK K) | (refine w1 ?_; simp only [xs, xi, Nat.reduceEqDiff, reduceCtorEq]) | (refine wC (fun hb => ?_) fun hb => ?_ <;> (try simp only [xb, reduceCtorEq] at hb)) | (refine w2 (fun hc => ?_) (fun hc => ?_) <;> (try simp only [xc] at hc) <;> (try simp only [go_sem, hc, treeA_eq]) <;> (try simp only [xb] at hc)) | refine wI ?_ | refine ex_idx (by omega) ?_ | fail)
    · omega
    · simp [Tryz.results19, RetOK, upd_at, plainB, treeA_eq]
  obtain ⟨st', hpu, hst'⟩ := runS_step hkl hst hrun
  obtain ⟨z, hz1, hz2, hz3, hz4⟩ := push_stk hpu
  have hcs : (((stk st).length : Nat) : Int) - ((takesN x.steps[k] : Nat) : Int) = ((st.length - takesN x.steps[k] : Nat) : Int) := by omega
  have htk := takesN_le x.steps[k]
  have hbw : st.length - takesN x.steps[k] < 1180591620717411303424 := by omega
  have hdr : allP (((stk st).map treeA).drop (st.length - takesN x.steps[k])) = true := by rw [← List.map_drop]; exact allP_trees _
  repeat' (first | exact hb.elim | refine wS fun K hK => ?_ | refine wB ?_ | refine uR hΓ ?_ | refine uD hΓ fun B hB => ?_ | ((repeat ((fail_if_success (refine hK _ ?_)); clear hK K)); refine hK _ ?_; clear hK K) | refine u1 ?_ | refine uC (fun hb => ?_) fun hb => ?_ | refine u2 (fun hc => ?_) fun hc => ?_ | refine wI ?_ | refine ex_idx (by omega) ?_ | exact True.intro | fail)
  · (first | refine wA rfl _ (⟨_, rfl, rfl⟩) ?_ | refine dA rfl _ (⟨_, rfl, rfl⟩) ?_); simp (maxSteps := 2000000) only [go_sem]
    repeat' (first | refine wS fun K hK => ?_ | refine wB ?_ | ((first | refine wR hΓ ?_ | refine wD hΓ fun B hB => ?_); simp (maxSteps := 2000000) only [go_sem, hcs, hdr]) | ((repeat ((fail_if_success (refine hK _ ?_)); clear hK K)); refine hK _ ?_; clear hK K) | (refine w1 ?_; simp only [xs, xi, Nat.reduceEqDiff, reduceCtorEq]) | (refine wC (fun hb => ?_) fun hb => ?_ <;> (try simp only [xb, reduceCtorEq] at hb)) | (refine w2 (fun hc => ?_) (fun hc => ?_) <;> (try simp only [xc] at hc) <;> (try simp only [go_sem, hc, hcs, hdr]) <;> (try simp only [xb] at hc)) | refine wI ?_ | refine ex_idx (by omega) ?_ | fail)
    have hvd : viewL (((stk st).map treeA).drop (st.length - takesN x.steps[k])) = ((stk st).map treeA).drop (st.length - takesN x.steps[k]) := by
      rw [← List.map_drop, viewL_map, List.map_map, view_trees]
    have hfin : (stk st').map treeA = ((stk st).map treeA).take (st.length - takesN x.steps[k]) ++ [.pbox [I x.steps[k], .sh (((stk st).map treeA).drop (st.length - takesN x.steps[k]))]] := by
      have h1 : stk st' = (stk st).take (st.length - takesN x.steps[k]) ++ [z] := by
        rw [hz1]
        unfold stk
        rw [List.take_reverse, show st.length - (st.length - takesN x.steps[k]) = takesN x.steps[k] by omega]
        simp
      rw [h1, List.map_append, List.map_take]
      simp only [List.map_cons, List.map_nil]
      rw [treeA_eq z, hz2, hz3, List.map_drop]
    have hlt : (((stk st).map treeA).take (st.length - takesN x.steps[k])).length = st.length - takesN x.steps[k] := by simp [hskl]
    generalize st.length - takesN x.steps[k] = n at *
    generalize hB : (AV.box [num IntKind.i64 x.steps[k], own (List.drop n ((stk st).map treeA))]) = B
    refine ⟨n, B, ?_, by rw [← hB]; rfl, (k + 1, st'), ?_, ⟨by dsimp only; omega, hst'⟩, by dsimp only; omega⟩
    · rw [List.getElem?_append_right (by omega), hlt, Nat.sub_self]
      rfl
    · have hvB : view B = .pbox [I x.steps[k], .sh (((stk st).map treeA).drop n)] := by rw [← hB]; simp only [view, viewL]; rw [hvd]
      rw [hvB, app_mod_pbox]
      have hset : (((stk st).map treeA).take n ++ [B]).set n (.pbox [I x.steps[k], .sh (((stk st).map treeA).drop n)]) = (stk st').map treeA := by
        rw [hfin, List.set_append_right _ _ (by omega), hlt, Nat.sub_self]
        rfl
      simp only [LeL, upd_at, if_true, if_false, Nat.reduceEqDiff, setP, kids, withKids, List.getD]
      rw [hset]
      exact ⟨.inl rfl, .inl trivial, .inl trivial, .inl (by simp), trivial⟩
  · omega

def stepsR (N : Nat) (args : List AV) (r : AV) : Prop := ∃ x : Ex, args = [treeA x] ∧ x.steps.length ≤ N ∧ r = oints x.steps
theorem subs_steps (x : Ex) : x.steps = (x.subs.flatMap Ex.steps) ++ [x.op] := by cases x <;> simp [Ex.steps, Ex.subs, Ex.op]
theorem subs_len {x y : Ex} (h : y ∈ x.subs) : y.steps.length < x.steps.length := by
  cases x with
  | leaf n => simp [Ex.subs] at h
  | thn a b =>
    simp only [Ex.subs, List.mem_cons, List.not_mem_nil, or_false] at h
    simp only [Ex.steps, List.length_append, List.length_cons, List.length_nil]
    rcases h with rfl | rfl <;> omega
  | pls a b =>
    simp only [Ex.subs, List.mem_cons, List.not_mem_nil, or_false] at h
    simp only [Ex.steps, List.length_append, List.length_cons, List.length_nil]
    rcases h with rfl | rfl <;> omega
  | str a =>
    simp only [Ex.subs, List.mem_cons, List.not_mem_nil, or_false] at h
    simp only [Ex.steps, List.length_append, List.length_cons, List.length_nil]
    subst h; omega
theorem flat_take {l : List Ex} {k : Nat} (h : k < l.length) : (l.take (k + 1)).flatMap Ex.steps = (l.take k).flatMap Ex.steps ++ l[k].steps := by
  rw [List.take_succ_eq_append_getElem h, List.flatMap_append]
  simp only [List.flatMap_cons, List.flatMap_nil, List.append_nil]
theorem flat_take_len (l : List Ex) (k : Nat) : ((l.take k).flatMap Ex.steps).length ≤ (l.flatMap Ex.steps).length := by
  have h : l.flatMap Ex.steps = (l.take k).flatMap Ex.steps ++ (l.drop k).flatMap Ex.steps := by rw [← List.flatMap_append, List.take_append_drop]
  rw [h, List.length_append]; omega

theorem steps_step (N : Nat) (hN : N ≤ 4194304) (ih : CtrOK Tryz.prog 46 (pureC (stepsR (N - 1)))) : CtrOK Tryz.prog 46 (pureC (stepsR N)) := by
  have tsteps_ctr := ih
  refine ctr_pure' Tryz.func46 rfl rfl Tryz.ntmps46 ?_
  rintro _ _ ⟨x, rfl, hl, rfl⟩
  refine ⟨by simp, fun κ hκ => ?_⟩
  have hbig := bigW_gt
  rw [argEnv_eq]
  simp only [envA]
  have hΓ := ctxOf_ok (P := Tryz.prog) (cx tsteps_ctr <| cx0)
  have hss := subs_steps x
  have hsl : x.steps.length = (x.subs.flatMap Ex.steps).length + 1 := by rw [hss]; simp
  have hs2 : x.subs.length ≤ 2 := by cases x <;> simp [Ex.subs]
  rw [treeA_eq]
  repeat' (first | exact hb.elim | refine wS fun K hK => ?_ | refine wB ?_ | refine uR hΓ ?_ | refine uD hΓ fun B hB => ?_ | ((repeat ((fail_if_success (refine hK _ ?_)); clear hK K)); refine hK _ ?_; clear hK K) | refine u1 ?_ | refine uC (fun hb => ?_) fun hb => ?_ | refine u2 (fun hc => ?_) fun hc => ?_ | refine wI ?_ | refine ex_idx (by omega) ?_ | exact True.intro | fail)
  refine CW.loop (ι := Nat) (fun k => [(0, .pbox [I x.op, .sh (x.subs.map treeA)]), (3, oints ((x.subs.take k).flatMap Ex.steps)), (9, .sh (x.subs.map treeA)), (10, I x.subs.length), (11, I k)]) (fun k => k ≤ x.subs.length) (fun k => x.subs.length - k) 0 ?_ ?_
  · exact ⟨by (simp only [xe, xj, Nat.reduceEqDiff]; (try simp [view, viewL_map]); (try omega)), by omega⟩
  rintro k hk
  simp only [envOf]
  have hfl := flat_take_len x.subs k
  repeat' (first | refine wS fun K hK => ?_ | refine wB ?_ | ((first | refine wR hΓ ?_ | refine wD hΓ fun B hB => ?_); simp (maxSteps := 2000000) only [go_sem, treeA_eq]) | ((repeat ((fail_if_success (refine hK _ ?_)); clear hK K)); refine hK _ ?_; clear hK K) | (refine w1 ?_; simp only [xs, xi, Nat.reduceEqDiff, reduceCtorEq]) | (refine wC (fun hb => ?_) fun hb => ?_ <;> (try simp only [xb, reduceCtorEq] at hb)) | (refine w2 (fun hc => ?_) (fun hc => ?_) <;> (try simp only [xc] at hc) <;> (try simp only [go_sem, hc, treeA_eq]) <;> (try simp only [xb] at hc)) | refine wI ?_ | refine ex_idx (by omega) ?_ | fail)
  · have hkl : k < x.subs.length := by omega
    have hlt := subs_len (List.getElem_mem hkl)
    have hf2 := flat_take_len x.subs (k + 1)
    rw [flat_take hkl, List.length_append] at hf2
    (first | refine wA rfl _ (⟨x.subs[k], by rw [treeA_eq], by omega, rfl⟩) ?_ | refine dA rfl _ (⟨x.subs[k], by rw [treeA_eq], by omega, rfl⟩) ?_); simp (maxSteps := 2000000) only [go_sem]
    repeat' (first | exact hb.elim | refine wS fun K hK => ?_ | refine wB ?_ | refine uR hΓ ?_ | refine uD hΓ fun B hB => ?_ | ((repeat ((fail_if_success (refine hK _ ?_)); clear hK K)); refine hK _ ?_; clear hK K) | refine u1 ?_ | refine uC (fun hb => ?_) fun hb => ?_ | refine u2 (fun hc => ?_) fun hc => ?_ | refine wI ?_ | refine ex_idx (by omega) ?_ | exact True.intro | fail)
    refine ⟨k + 1, ?_, by omega, by omega⟩
    rw [flat_take hkl]
    (simp only [xe, xj, Nat.reduceEqDiff]; (try simp [view, viewL_map]); (try omega))
  · have hke : x.subs.take k = x.subs := List.take_of_length_le (by omega)
    rw [hke]
    have : List.map I (x.subs.flatMap Ex.steps) ++ [I x.op] = List.map I x.steps := by rw [hss]; simp
    rw [this]
    simp [Tryz.results46, RetOK, RetP, backA, upd_at, plainB, getP, isOwn, anyOwn, isP]

theorem steps_all : ∀ N : Nat, N ≤ 4194304 → CtrOK Tryz.prog 46 (pureC (stepsR N))
  | 0, _ => steps_step 0 (by omega) ⟨⟨_, _, Tryz.func46, rfl, rfl⟩, fun args r args' ⟨_, x, _, h, _⟩ => by have := x.steps_pos; omega⟩
  | N + 1, h => steps_step (N + 1) h (steps_all N (by omega))
theorem tsteps_ctr : CtrOK Tryz.prog 46 (pureC (stepsR 4194304)) := steps_all 4194304 (by omega)

end Go.Proofs.YtehdfifncbokeaaGreat

namespace Go.Proofs.YtehdfifncbokeaaGreat
set_option linter.unusedSimpArgs false
set_option linter.unusedVariables false
set_option maxRecDepth 8000
set_option maxHeartbeats 2000000
open Go Go.RowKit AV

def evs (st : List Ex) : List Int := (stk st).map fun x => ((endX x : Nat) : Int)
theorem evs_cons (x : Ex) (r : List Ex) : evs (x :: r) = evs r ++ [((endX x : Nat) : Int)] := by simp [evs, stk]
theorem evs_len (st : List Ex) : (evs st).length = st.length := by simp [evs, stk]
theorem get_last {l : List Int} {a : Int} {n : Nat} (hn : n = l.length) (h : n < (l ++ [a]).length) : (l ++ [a])[n] = a := by subst hn; simp
theorem get_last2 {l : List Int} {a b : Int} {n : Nat} (hn : n = l.length) (h : n < (l ++ [a] ++ [b]).length) : (l ++ [a] ++ [b])[n] = a := by subst hn; simp

def endsIR (args : List AV) (r : AV) : Prop := ∃ x : Ex, args = [ints x.steps] ∧ x.wf ∧ x.steps.length ≤ 1099511627776 ∧ r = I ((endX x : Nat) : Int)
theorem ends_ctr : CtrOK Tryz.prog 23 (pureC endsIR) := by
  refine ctr_pure' Tryz.func23 rfl rfl Tryz.ntmps23 ?_
  rintro _ _ ⟨x, rfl, hw, hl, rfl⟩
  refine ⟨by simp, fun κ hκ => ?_⟩
  have hbig := bigW_gt
  rw [argEnv_eq]
  simp only [envA]
  have hΓ := ctxOf_ok (P := Tryz.prog) (cx isAct_ctr <| cx0)
  have hrun : runS x.steps [] = some [x] := runS_steps x hw []
  repeat' (first | exact hb.elim | refine wS fun K hK => ?_ | refine wB ?_ | refine uR hΓ ?_ | refine uD hΓ fun B hB => ?_ | ((repeat ((fail_if_success (refine hK _ ?_)); clear hK K)); refine hK _ ?_; clear hK K) | refine u1 ?_ | refine uC (fun hb => ?_) fun hb => ?_ | refine u2 (fun hc => ?_) fun hc => ?_ | refine wI ?_ | refine ex_idx (by omega) ?_ | exact True.intro | fail)
  refine CW.loop (ι := Nat × List Ex) (fun y => [(3, oints (evs y.2)), (7, ints x.steps), (8, I x.steps.length), (9, I (y.1 : Nat))]) (fun y => y.1 ≤ x.steps.length ∧ runS (x.steps.take y.1) [] = some y.2) (fun y => x.steps.length - y.1) (0, []) ?_ ?_
  · exact ⟨by (simp only [xe, xj, Nat.reduceEqDiff]; (try simp [view, viewL_map]); (try omega)); simp [evs, stk], by simp, by simp [runS]⟩
  rintro ⟨k, st⟩ ⟨hk, hst⟩
  dsimp only at hk hst ⊢
  simp only [envOf]
  have hsl := (depthAt_le (e := x.steps) (k := k) ⟨st, hst, rfl⟩ hk)
  have hel := evs_len st
  have hwf : allWf st := (runS_flat _ [] st hst).2 trivial
  by_cases hkl : k < x.steps.length
  case neg =>
    have hke : k = x.steps.length := by omega
    subst hke
    rw [List.take_length, hrun] at hst
    injection hst with hst
    subst hst
    have hs1 : evs [x] = [((endX x : Nat) : Int)] := rfl
    rw [hs1]
    repeat' (first | exact hb.elim | refine wS fun K hK => ?_ | refine wB ?_ | refine uR hΓ ?_ | refine uD hΓ fun B hB => ?_ | ((repeat ((fail_if_success (refine hK _ ?_)); clear hK K)); refine hK _ ?_; clear hK K) | refine u1 ?_ | refine uC (fun hb => ?_) fun hb => ?_ | refine u2 (fun hc => ?_) fun hc => ?_ | refine wI ?_ | refine ex_idx (by omega) ?_ | exact True.intro | fail)
    · omega
    · simp [Tryz.results23, RetOK, RetP, backA, upd_at, plainB, getP, isOwn, anyOwn, isP]
  obtain ⟨st', hpu, hst'⟩ := runS_step hkl hst hrun
  repeat' (first | exact hb.elim | refine wS fun K hK => ?_ | refine wB ?_ | refine uR hΓ ?_ | refine uD hΓ fun B hB => ?_ | ((repeat ((fail_if_success (refine hK _ ?_)); clear hK K)); refine hK _ ?_; clear hK K) | refine u1 ?_ | refine uC (fun hb => ?_) fun hb => ?_ | refine u2 (fun hc => ?_) fun hc => ?_ | refine wI ?_ | refine ex_idx (by omega) ?_ | exact True.intro | fail)
  rotate_left
  · omega
  (first | refine wA rfl _ (⟨_, rfl, rfl⟩) ?_ | refine dA rfl _ (⟨_, rfl, rfl⟩) ?_); simp (maxSteps := 2000000) only [go_sem]
  rcases push_inv hpu with ⟨h0, h1, rfl⟩ | ⟨he, a, b, r, rfl, rfl⟩ | ⟨he, a, b, r, rfl, rfl⟩ | ⟨he, a, r, rfl, rfl⟩
  · repeat' (first | exact hb.elim | refine wS fun K hK => ?_ | refine wB ?_ | refine uR hΓ ?_ | refine uD hΓ fun B hB => ?_ | ((repeat ((fail_if_success (refine hK _ ?_)); clear hK K)); refine hK _ ?_; clear hK K) | refine u1 ?_ | refine uC (fun hb => ?_) fun hb => ?_ | refine u2 (fun hc => ?_) fun hc => ?_ | refine wI ?_ | refine ex_idx (by omega) ?_ | exact True.intro | fail)
    · have hz : endX (.leaf x.steps[k]) = 0 := by unfold endX; rw [if_neg (by omega)]
      refine ⟨(k + 1, _), ?_, ⟨by dsimp only; omega, hst'⟩, by dsimp only; omega⟩
      dsimp only
      rw [evs_cons, hz]
      (simp only [xe, xj, Nat.reduceEqDiff]; (try simp [view, viewL_map]); (try omega))
    · omega
    · omega
    · omega
    · have hz : ((endX (.leaf x.steps[k]) : Nat) : Int) = x.steps[k] := by unfold endX; rw [if_pos (by omega)]; omega
      refine ⟨(k + 1, _), ?_, ⟨by dsimp only; omega, hst'⟩, by dsimp only; omega⟩
      dsimp only
      rw [evs_cons, hz]
      (simp only [xe, xj, Nat.reduceEqDiff]; (try simp [view, viewL_map]); (try omega))
  · have hea := endX_lt hwf.2.1
    have heb := endX_lt hwf.1
    rw [evs_cons, evs_cons]
    have hrl := evs_len r
    have hcs : ((((b :: a :: r).length : Nat) : Int) - 2) = (r.length : Int) := by simp only [List.length_cons]; omega
    have hcs2 : ((((b :: a :: r).length : Nat) : Int) - 1) = ((r.length + 1 : Nat) : Int) := by simp only [List.length_cons]; omega
    have hlen : (evs r ++ [((endX a : Nat) : Int)] ++ [((endX b : Nat) : Int)]).length = r.length + 2 := by simp [hrl]
    have hco : ((((evs r ++ [((endX a : Nat) : Int)] ++ [((endX b : Nat) : Int)]).length : Nat) : Int) - 2) = (r.length : Int) := by omega
    have hco1 : ((((evs r ++ [((endX a : Nat) : Int)] ++ [((endX b : Nat) : Int)]).length : Nat) : Int) - 1) = ((r.length + 1 : Nat) : Int) := by omega
    have hg1 : ∀ h, (evs r ++ [((endX a : Nat) : Int)] ++ [((endX b : Nat) : Int)])[r.length]'h = ((endX a : Nat) : Int) := fun h => get_last2 hrl.symm h
    have hg2 : ∀ h, (evs r ++ [((endX a : Nat) : Int)] ++ [((endX b : Nat) : Int)])[r.length + 1]'h = ((endX b : Nat) : Int) := fun h => get_last (by simp [hrl]) h
    have htk : ((evs r ++ [((endX a : Nat) : Int)] ++ [((endX b : Nat) : Int)]).map I).take r.length = (evs r).map I := by
      rw [← List.map_take, List.append_assoc, List.take_append_of_le_length (by omega), ← hrl, List.take_length]
    simp only [List.length_cons] at hsl
    repeat' (first | refine wS fun K hK => ?_ | refine wB ?_ | ((first | refine wR hΓ ?_ | refine wD hΓ fun B hB => ?_); simp (maxSteps := 2000000) only [go_sem, he, hco, hco1, hg1, hg2, htk, Int.toNat_natCast]) | ((repeat ((fail_if_success (refine hK _ ?_)); clear hK K)); refine hK _ ?_; clear hK K) | (refine w1 ?_; simp only [xs, xi, Nat.reduceEqDiff, reduceCtorEq]) | (refine wC (fun hb => ?_) fun hb => ?_ <;> (try simp only [xb, reduceCtorEq] at hb)) | (refine w2 (fun hc => ?_) (fun hc => ?_) <;> (try simp only [xc] at hc) <;> (try simp only [go_sem, hc, he, hco, hco1, hg1, hg2, htk, Int.toNat_natCast]) <;> (try simp only [xb] at hc)) | refine wI ?_ | refine ex_idx (by omega) ?_ | fail)
    all_goals try (exfalso; omega)
    simp only [hg1, hg2, Int.toNat_natCast]
    refine ⟨⟨⟨by omega, by omega⟩, by omega, by omega⟩, ⟨by omega, by omega⟩, by rw [← hB]; kernel_rfl, ?_⟩
    repeat' (first | refine wS fun K hK => ?_ | refine wB ?_ | ((first | refine wR hΓ ?_ | refine wD hΓ fun B hB => ?_); simp (maxSteps := 2000000) only [go_sem, he, hco, hco1]) | ((repeat ((fail_if_success (refine hK _ ?_)); clear hK K)); refine hK _ ?_; clear hK K) | (refine w1 ?_; simp only [xs, xi, Nat.reduceEqDiff, reduceCtorEq]) | (refine wC (fun hb => ?_) fun hb => ?_ <;> (try simp only [xb, reduceCtorEq] at hb)) | (refine w2 (fun hc => ?_) (fun hc => ?_) <;> (try simp only [xc] at hc) <;> (try simp only [go_sem, hc, he, hco, hco1]) <;> (try simp only [xb] at hc)) | refine wI ?_ | refine ex_idx (by omega) ?_ | fail)
    all_goals try (exfalso; omega)
    all_goals trace_state
    · refine ⟨(k + 1, _), ?_, ⟨by dsimp only; omega, hst'⟩, by dsimp only; omega⟩
      dsimp only
      rw [evs_cons]
      have hv : endX (.thn a b) = endX a &&& endX b := by rw [endX]
      rw [hv]
      (simp only [xe, xj, Nat.reduceEqDiff]; (try simp [view, viewL_map]); (try omega))
  · have hea := endX_lt hwf.2.1
    have heb := endX_lt hwf.1
    rw [evs_cons, evs_cons]
    have hrl := evs_len r
    have hlen : (evs r ++ [((endX a : Nat) : Int)] ++ [((endX b : Nat) : Int)]).length = r.length + 2 := by simp [hrl]
    have hco : ((((evs r ++ [((endX a : Nat) : Int)] ++ [((endX b : Nat) : Int)]).length : Nat) : Int) - 2) = (r.length : Int) := by omega
    have hco1 : ((((evs r ++ [((endX a : Nat) : Int)] ++ [((endX b : Nat) : Int)]).length : Nat) : Int) - 1) = ((r.length + 1 : Nat) : Int) := by omega
    have hg1 : ∀ h, (evs r ++ [((endX a : Nat) : Int)] ++ [((endX b : Nat) : Int)])[r.length]'h = ((endX a : Nat) : Int) := fun h => get_last2 hrl.symm h
    have hg2 : ∀ h, (evs r ++ [((endX a : Nat) : Int)] ++ [((endX b : Nat) : Int)])[r.length + 1]'h = ((endX b : Nat) : Int) := fun h => get_last (by simp [hrl]) h
    have htk : ((evs r ++ [((endX a : Nat) : Int)] ++ [((endX b : Nat) : Int)]).map I).take r.length = (evs r).map I := by
      rw [← List.map_take, List.append_assoc, List.take_append_of_le_length (by omega), ← hrl, List.take_length]
    simp only [List.length_cons] at hsl
    repeat' (first | refine wS fun K hK => ?_ | refine wB ?_ | ((first | refine wR hΓ ?_ | refine wD hΓ fun B hB => ?_); simp (maxSteps := 2000000) only [go_sem, he, hco, hco1, hg1, hg2, htk, Int.toNat_natCast]) | ((repeat ((fail_if_success (refine hK _ ?_)); clear hK K)); refine hK _ ?_; clear hK K) | (refine w1 ?_; simp only [xs, xi, Nat.reduceEqDiff, reduceCtorEq]) | (refine wC (fun hb => ?_) fun hb => ?_ <;> (try simp only [xb, reduceCtorEq] at hb)) | (refine w2 (fun hc => ?_) (fun hc => ?_) <;> (try simp only [xc] at hc) <;> (try simp only [go_sem, hc, he, hco, hco1, hg1, hg2, htk, Int.toNat_natCast]) <;> (try simp only [xb] at hc)) | refine wI ?_ | refine ex_idx (by omega) ?_ | fail)
    all_goals try (exfalso; omega)
    simp only [hg1, hg2, Int.toNat_natCast]
    refine ⟨⟨⟨by omega, by omega⟩, by omega, by omega⟩, ⟨by omega, by omega⟩, by rw [← hB]; kernel_rfl, ?_⟩
    repeat' (first | refine wS fun K hK => ?_ | refine wB ?_ | ((first | refine wR hΓ ?_ | refine wD hΓ fun B hB => ?_); simp (maxSteps := 2000000) only [go_sem, he, hco, hco1]) | ((repeat ((fail_if_success (refine hK _ ?_)); clear hK K)); refine hK _ ?_; clear hK K) | (refine w1 ?_; simp only [xs, xi, Nat.reduceEqDiff, reduceCtorEq]) | (refine wC (fun hb => ?_) fun hb => ?_ <;> (try simp only [xb, reduceCtorEq] at hb)) | (refine w2 (fun hc => ?_) (fun hc => ?_) <;> (try simp only [xc] at hc) <;> (try simp only [go_sem, hc, he, hco, hco1]) <;> (try simp only [xb] at hc)) | refine wI ?_ | refine ex_idx (by omega) ?_ | fail)
    all_goals try (exfalso; omega)
    all_goals trace_state
    · refine ⟨(k + 1, _), ?_, ⟨by dsimp only; omega, hst'⟩, by dsimp only; omega⟩
      dsimp only
      rw [evs_cons]
      have hv : endX (.pls a b) = endX a ||| endX b := by rw [endX]
      rw [hv]
      (simp only [xe, xj, Nat.reduceEqDiff]; (try simp [view, viewL_map]); (try omega))
  · have hea := endX_lt hwf.1
    rw [evs_cons]
    have hrl := evs_len r
    have hlen : (evs r ++ [((endX a : Nat) : Int)]).length = r.length + 1 := by simp [hrl]
    have hco : ((((evs r ++ [((endX a : Nat) : Int)]).length : Nat) : Int) - 1) = (r.length : Int) := by omega
    simp only [List.length_cons] at hsl
    repeat' (first | refine wS fun K hK => ?_ | refine wB ?_ | ((first | refine wR hΓ ?_ | refine wD hΓ fun B hB => ?_); simp (maxSteps := 2000000) only [go_sem, he, hco]) | ((repeat ((fail_if_success (refine hK _ ?_)); clear hK K)); refine hK _ ?_; clear hK K) | (refine w1 ?_; simp only [xs, xi, Nat.reduceEqDiff, reduceCtorEq]) | (refine wC (fun hb => ?_) fun hb => ?_ <;> (try simp only [xb, reduceCtorEq] at hb)) | (refine w2 (fun hc => ?_) (fun hc => ?_) <;> (try simp only [xc] at hc) <;> (try simp only [go_sem, hc, he, hco]) <;> (try simp only [xb] at hc)) | refine wI ?_ | refine ex_idx (by omega) ?_ | fail)
    all_goals try (exfalso; omega)
    all_goals trace_state
    · have hset : ((evs r ++ [((endX a : Nat) : Int)]).map I).set r.length (num .i64 15) = (evs r ++ [15]).map I := by
        rw [List.map_append, List.set_append_right _ _ (by simp [hrl]), List.map_append]
        simp [hrl]
      refine ⟨(k + 1, _), ?_, ⟨by dsimp only; omega, hst'⟩, by dsimp only; omega⟩
      dsimp only
      rw [evs_cons, hset]
      have hv : endX (.str a) = 15 := by rw [endX]
      rw [hv]
      (simp only [xe, xj, Nat.reduceEqDiff]; (try simp [view, viewL_map]); (try omega))

end Go.Proofs.YtehdfifncbokeaaGreat

namespace Go.Proofs.YtehdfifncbokeaaGreat
set_option linter.unusedSimpArgs false
set_option linter.unusedVariables false
set_option maxRecDepth 8000
set_option maxHeartbeats 2000000
open Go Go.RowKit AV

abbrev PV := List Int × Value
def pinA (p : PV) : AV := .pin (ints p.1) p.2
def dedP (P : List PV) : Nat → List PV
  | 0 => []
  | k + 1 => match P[k]? with
    | none => dedP P k
    | some p => if 0 < k ∧ (P[k - 1]?).map (·.1) = some p.1 then dedP P k else dedP P k ++ [p]
theorem dedP_skip {P : List PV} {k : Nat} (h0 : 0 < k) (hk : k < P.length) (he : P[k].1 = P[k - 1].1) : dedP P (k + 1) = dedP P k := by
  simp only [dedP, List.getElem?_eq_getElem hk]
  rw [if_pos ⟨h0, by rw [List.getElem?_eq_getElem (by omega)]; simp [he]⟩]
theorem dedP_take {P : List PV} {k : Nat} (hk : k < P.length) (he : 0 < k → ∀ h : k - 1 < P.length, ¬ P[k].1 = (P[k - 1]'h).1) : dedP P (k + 1) = dedP P k ++ [P[k]] := by
  simp only [dedP, List.getElem?_eq_getElem hk]
  rw [if_neg]
  rintro ⟨h0, h1⟩
  rw [List.getElem?_eq_getElem (by omega)] at h1
  simp only [Option.map_some, Option.some.injEq] at h1
  exact he h0 (by omega) h1.symm
theorem dedP_rows {P : List PV} (hs : Ord (P.map (·.1))) : ∀ k, k ≤ P.length → Srt ((dedP P k).map (·.1)) ∧ ∀ x, x ∈ (dedP P k).map (·.1) ↔ x ∈ (P.take k).map (·.1)
  | 0, _ => by simp [dedP, Srt]
  | k + 1, hk => by
    have hkl : k < P.length := by omega
    obtain ⟨h1, h2⟩ := dedP_rows hs k (by omega)
    have hget : ∀ i (h : i < P.length) , (P.map (·.1))[i]'(by simpa using h) = P[i].1 := fun i h => by simp
    have hord : ∀ i j (hi : i < P.length) (hj : j < P.length), i < j → lexLt P[j].1 P[i].1 = false := fun i j hi hj hij => by
      have := List.pairwise_iff_getElem.1 hs i j (by simpa using hi) (by simpa using hj) hij
      rwa [hget, hget] at this
    by_cases he : 0 < k ∧ ∃ h : k - 1 < P.length, P[k].1 = (P[k - 1]'h).1
    · obtain ⟨h0, hkm, he⟩ := he
      rw [dedP_skip h0 hkl he]
      refine ⟨h1, fun x => ?_⟩
      rw [h2, List.take_succ_eq_append_getElem hkl, List.map_append, List.mem_append]
      constructor
      · exact .inl
      · rintro (h | h)
        · exact h
        · simp only [List.map_cons, List.map_nil, List.mem_singleton] at h
          rw [h, he]
          exact List.mem_map.2 ⟨P[k - 1], List.mem_take_iff_getElem.2 ⟨k - 1, by omega, rfl⟩, rfl⟩
    · rw [dedP_take hkl (fun h0 hkm e => he ⟨h0, hkm, e⟩)]
      have hlt : ∀ y ∈ (P.take k).map (·.1), lexLt y P[k].1 = true := by
        intro y hy
        obtain ⟨p, hp, rfl⟩ := List.mem_map.1 hy
        obtain ⟨i, hi, rfl⟩ := List.mem_take_iff_getElem.1 hp
        have hik : i < k := by omega
        have h3 := hord (k - 1) k (by omega) hkl (by omega)
        have h4 : lexLt P[k - 1].1 P[k].1 = true := by
          cases h : lexLt P[k - 1].1 P[k].1 with
          | true => rfl
          | false => exact absurd ⟨by omega, by omega, (lexLt_tri _ _ h h3).symm⟩ he
        by_cases hik1 : i = k - 1
        · subst hik1; exact h4
        · have h5 := hord i (k - 1) (by omega) (by omega) (by omega)
          cases h : lexLt P[i].1 P[k].1 with
          | true => rfl
          | false => have := lexLt_ntrans h5 h; rw [h4] at this; cases this
      rw [List.map_append]
      refine ⟨List.pairwise_append.2 ⟨h1, List.pairwise_singleton _ _, fun a ha b hb => ?_⟩, fun x => ?_⟩
      · simp only [List.map_cons, List.map_nil, List.mem_singleton] at hb
        subst hb
        exact hlt a ((h2 a).1 ha)
      · rw [List.mem_append, h2, List.take_succ_eq_append_getElem hkl, List.map_append, List.mem_append]
theorem dedP_ord {P : List PV} (hs : Ord (P.map (·.1))) : (dedP P P.length).map (·.1) = ordL (P.map (·.1)) := by
  obtain ⟨h1, h2⟩ := dedP_rows hs P.length (Nat.le_refl _)
  exact eq_ordL h1 fun x => by rw [h2, List.take_length]

def compactR (args : List AV) (r : AV) : Prop := ∃ P : List PV, args = [.own (P.map pinA), .fn 50 []] ∧ P.length ≤ 1048576 ∧ (∀ p ∈ P, p.1.length ≤ 1099511627776) ∧ r = .own ((dedP P P.length).map pinA)
theorem compact_ctr : CtrOK Tryz.prog 74 (takeC compactR) := by
  refine ctr_take Tryz.func74 rfl rfl Tryz.ntmps74 ?_
  rintro _ _ ⟨P, rfl, hl, hx, rfl⟩
  refine ⟨by simp, fun κ hκ => ?_⟩
  have hbig := bigW_gt
  rw [argEnv_eq]
  simp only [envA]
  have hΓ := ctxOf_ok (P := Tryz.prog) (cx equal_ctr <| cx0)
  repeat' (first | exact hb.elim | refine wS fun K hK => ?_ | refine wB ?_ | refine uR hΓ ?_ | refine uD hΓ fun B hB => ?_ | ((repeat ((fail_if_success (refine hK _ ?_)); clear hK K)); refine hK _ ?_; clear hK K) | refine u1 ?_ | refine uC (fun hb => ?_) fun hb => ?_ | refine u2 (fun hc => ?_) fun hc => ?_ | refine wI ?_ | refine ex_idx (by omega) ?_ | exact True.intro | fail)
  · have hsm : dedP P P.length = P := by
      match P, hb with
      | [], _ => rfl
      | [p], _ => rfl
      | _ :: _ :: _, hb => simp at hb; omega
    rw [hsm]
    simp [Tryz.results74, RetOK, RetP, backA, upd_at, plainB, getP, isOwn, anyOwn, isP]
  refine CW.loop (ι := Nat) (fun k => [(0, .own (P.map pinA)), (1, .fn 50 []), (5, I (k + 1 : Nat))]) (fun k => k + 1 ≤ P.length ∧ dedP P (k + 1) = P.take (k + 1)) (fun k => P.length - k) 0 ?_ ?_
  · refine ⟨by (simp only [xe, xj, Nat.reduceEqDiff]; (try simp [view, viewL_map]); (try omega)), by omega, ?_⟩
    rw [dedP_take (by omega) (fun h => absurd h (by omega)), List.take_succ_eq_append_getElem (by omega)]
    rfl
  rintro k ⟨hk, hd⟩
  simp only [envOf]
  have e1 : ((k + 1 : Nat) : Int) - 1 = (k : Int) := by omega
  repeat' (first | refine wS fun K hK => ?_ | refine wB ?_ | ((first | refine wR hΓ ?_ | refine wD hΓ fun B hB => ?_); simp (maxSteps := 2000000) only [go_sem, pinA, e1]) | ((repeat ((fail_if_success (refine hK _ ?_)); clear hK K)); refine hK _ ?_; clear hK K) | (refine w1 ?_; simp only [xs, xi, Nat.reduceEqDiff, reduceCtorEq]) | (refine wC (fun hb => ?_) fun hb => ?_ <;> (try simp only [xb, reduceCtorEq] at hb)) | (refine w2 (fun hc => ?_) (fun hc => ?_) <;> (try simp only [xc] at hc) <;> (try simp only [go_sem, hc, pinA, e1]) <;> (try simp only [xb] at hc)) | refine wI ?_ | refine ex_idx (by omega) ?_ | fail)
  · have hk1 : k + 1 < P.length := by omega
    have hx1 := hx _ (List.getElem_mem hk1)
    have hx0 := hx _ (List.getElem_mem (show k < P.length by omega))
    (first | refine wA rfl _ (⟨_, _, rfl, hx1, hx0, rfl⟩) ?_ | refine dA rfl _ (⟨_, _, rfl, hx1, hx0, rfl⟩) ?_); simp (maxSteps := 2000000) only [go_sem]
    have hnb : (bigW ≤ k + 1) = False := by rw [eq_iff_iff, iff_false]; omega
    repeat' (first | refine wS fun K hK => ?_ | refine wB ?_ | ((first | refine wR hΓ ?_ | refine wD hΓ fun B hB => ?_); simp (maxSteps := 2000000) only [go_sem, hnb]) | ((repeat ((fail_if_success (refine hK _ ?_)); clear hK K)); refine hK _ ?_; clear hK K) | (refine w1 ?_; simp only [xs, xi, Nat.reduceEqDiff, reduceCtorEq]) | (refine wC (fun hb => ?_) fun hb => ?_ <;> (try simp only [xb, reduceCtorEq] at hb)) | (refine w2 (fun hc => ?_) (fun hc => ?_) <;> (try simp only [xc] at hc) <;> (try simp only [go_sem, hc, hnb]) <;> (try simp only [xb] at hc)) | refine wI ?_ | refine ex_idx (by omega) ?_ | fail)
    · -- the first two alike: from here on the row is written anew
      have hd2 : dedP P (k + 2) = P.take (k + 1) := by rw [dedP_skip (by omega) hk1 (by assumption), hd]
      refine CW.loop (ι := Nat × List PV) (fun y => [(0, .own (y.2.map pinA)), (1, .fn 50 []), (5, I ((dedP P (k + 1 + y.1)).length : Nat)), (6, .win 0 [] (k + 1)), (7, I (y.1 : Nat))])
        (fun y => 1 ≤ y.1 ∧ k + 1 + y.1 ≤ P.length ∧ y.2.length = P.length ∧ (dedP P (k + 1 + y.1)).length + 1 ≤ k + 1 + y.1 ∧ y.2.take (dedP P (k + 1 + y.1)).length = dedP P (k + 1 + y.1) ∧ y.2.drop (k + y.1) = P.drop (k + y.1)) (fun y => P.length - y.1) (1, P) ?_ ?_
      · have hl2 : (dedP P (k + 1 + 1)).length = k + 1 := by rw [hd2]; simp; omega
        refine ⟨?_, by dsimp only; omega, by dsimp only; omega, rfl, by dsimp only; rw [hl2]; omega, by dsimp only; rw [hl2, hd2], rfl⟩
        dsimp only
        rw [hl2]
        (simp only [xe, xj, Nat.reduceEqDiff]; (try simp [view, viewL_map]); (try omega))
      rintro ⟨j, L⟩ ⟨hj1, hjl, hLl, hdl, htk, hdr⟩
      dsimp only at hj1 hjl hLl hdl htk hdr ⊢
      simp only [envOf]
      have hlL : (L.map pinA).length - (k + 1) = P.length - (k + 1) := by simp [hLl]
      have e2 : ((j : Nat) : Int) - 1 = ((j - 1 : Nat) : Int) := by omega
      have hbw : (k + 1 < bigW) = True := by rw [eq_iff_iff, iff_true]; omega
      by_cases hje : k + 1 + j < P.length
      case neg =>
        have hjn : k + 1 + j = P.length := by omega
        rw [hjn] at hdl htk ⊢
        generalize hQ : dedP P P.length = Q at *
        have hib : (Q.length < bigW) = True := by rw [eq_iff_iff, iff_true]; omega
        have hnb2 : (bigW ≤ Q.length) = False := by rw [eq_iff_iff, iff_false]; omega
        repeat' (first | refine wS fun K hK => ?_ | refine wB ?_ | ((first | refine wR hΓ ?_ | refine wD hΓ fun B hB => ?_); simp (maxSteps := 2000000) only [go_sem, hbw, hib, hnb2]) | ((repeat ((fail_if_success (refine hK _ ?_)); clear hK K)); refine hK _ ?_; clear hK K) | (refine w1 ?_; simp only [xs, xi, Nat.reduceEqDiff, reduceCtorEq]) | (refine wC (fun hb => ?_) fun hb => ?_ <;> (try simp only [xb, reduceCtorEq] at hb)) | (refine w2 (fun hc => ?_) (fun hc => ?_) <;> (try simp only [xc] at hc) <;> (try simp only [go_sem, hc, hbw, hib, hnb2]) <;> (try simp only [xb] at hc)) | refine wI ?_ | refine ex_idx (by omega) ?_ | fail)
        · omega
        · have hfin : ((L.map pinA).take Q.length ++ List.replicate ((L.map pinA).length - Q.length) junk).take Q.length = Q.map pinA := by
            rw [List.take_append_of_le_length (by simp; omega), List.take_take, Nat.min_self, ← List.map_take, htk]
          have hpre : (([] : List Nat) <+: []) = True := by simp
          simp only [hpre, if_true]
          simp [Tryz.results74, RetOK, RetP, backA, upd_at, plainB, getP, isOwn, anyOwn, isP]
          left
          rw [List.take_append_of_le_length (by simp; omega), List.take_take, Nat.min_self, ← List.map_take, htk]
      have hg1 : (L[k + 1 + j]'(by omega)) = P[k + 1 + j] := by
        have h5 : (L.drop (k + j))[1]? = (P.drop (k + j))[1]? := by rw [hdr]
        rw [List.getElem?_drop, List.getElem?_drop, show k + j + 1 = k + 1 + j by omega, List.getElem?_eq_getElem (by omega), List.getElem?_eq_getElem hje] at h5
        injection h5
      have hg0 : (L[k + 1 + (j - 1)]'(by omega)) = (P[k + 1 + (j - 1)]'(by omega)) := by
        have h5 : (L.drop (k + j))[0]? = (P.drop (k + j))[0]? := by rw [hdr]
        rw [List.getElem?_drop, List.getElem?_drop, show k + j + 0 = k + 1 + (j - 1) by omega, List.getElem?_eq_getElem (by omega), List.getElem?_eq_getElem (by omega)] at h5
        injection h5
      have hx1' := hx _ (List.getElem_mem hje)
      have hx0' := hx _ (List.getElem_mem (show k + 1 + (j - 1) < P.length by omega))
      repeat' (first | refine wS fun K hK => ?_ | refine wB ?_ | ((first | refine wR hΓ ?_ | refine wD hΓ fun B hB => ?_); simp (maxSteps := 2000000) only [go_sem, pinA, hbw, e2]) | ((repeat ((fail_if_success (refine hK _ ?_)); clear hK K)); refine hK _ ?_; clear hK K) | (refine w1 ?_; simp only [xs, xi, Nat.reduceEqDiff, reduceCtorEq]) | (refine wC (fun hb => ?_) fun hb => ?_ <;> (try simp only [xb, reduceCtorEq] at hb)) | (refine w2 (fun hc => ?_) (fun hc => ?_) <;> (try simp only [xc] at hc) <;> (try simp only [go_sem, hc, pinA, hbw, e2]) <;> (try simp only [xb] at hc)) | refine wI ?_ | refine ex_idx (by omega) ?_ | fail)
      · simp only [hg1, hg0]
        (first | refine wA rfl _ (⟨_, _, rfl, hx1', hx0', rfl⟩) ?_ | refine dA rfl _ (⟨_, _, rfl, hx1', hx0', rfl⟩) ?_); simp (maxSteps := 2000000) only [go_sem]
        repeat' (first | refine wS fun K hK => ?_ | refine wB ?_ | ((first | refine wR hΓ ?_ | refine wD hΓ fun B hB => ?_); simp (maxSteps := 2000000) only [go_sem, pinA, hbw, e2]) | ((repeat ((fail_if_success (refine hK _ ?_)); clear hK K)); refine hK _ ?_; clear hK K) | (refine w1 ?_; simp only [xs, xi, Nat.reduceEqDiff, reduceCtorEq]) | (refine wC (fun hb => ?_) fun hb => ?_ <;> (try simp only [xb, reduceCtorEq] at hb)) | (refine w2 (fun hc => ?_) (fun hc => ?_) <;> (try simp only [xc] at hc) <;> (try simp only [go_sem, hc, pinA, hbw, e2]) <;> (try simp only [xb] at hc)) | refine wI ?_ | refine ex_idx (by omega) ?_ | fail)
        · -- another row: it is stored
          have hne : ¬ P[k + 1 + j].1 = (P[k + 1 + (j - 1)]'(by omega)).1 := by assumption
          have hd3 : dedP P (k + 1 + (j + 1)) = dedP P (k + 1 + j) ++ [P[k + 1 + j]] := dedP_take hje (fun _ h => by
            have e3 : k + 1 + j - 1 = k + 1 + (j - 1) := by omega
            simp only [e3]; exact hne)
          have hmap : (L.set (dedP P (k + 1 + j)).length P[k + 1 + j]).map pinA = (L.map pinA).set (dedP P (k + 1 + j)).length (.pin (ints L[k + 1 + j].1) L[k + 1 + j].2) := by rw [List.map_set, hg1]; rfl
          refine ⟨(j + 1, L.set (dedP P (k + 1 + j)).length P[k + 1 + j]), ?_, ⟨by dsimp only; omega, by dsimp only; omega, by simpa using hLl, ?_, ?_, ?_⟩, by dsimp only; omega⟩
          · dsimp only
            rw [hd3, hmap]
            (simp only [xe, xj, Nat.reduceEqDiff]; (try simp [view, viewL_map]); (try omega))
          · dsimp only
            rw [hd3, List.length_append, List.length_singleton]
            omega
          · dsimp only
            rw [hd3, List.length_append, List.length_singleton, List.take_succ_eq_append_getElem (by simp; omega), List.getElem_set_self, List.take_set_of_le (Nat.le_refl _), htk]
          · dsimp only
            rw [List.drop_set_of_lt (by omega)]
            have h6 : (L.drop (k + j)).drop 1 = (P.drop (k + j)).drop 1 := by rw [hdr]
            rwa [List.drop_drop, List.drop_drop] at h6
        · have hdd : P[k + 1 + j].1 = (P[k + 1 + (j - 1)]'(by omega)).1 := by assumption
          have hd3 : dedP P (k + 1 + (j + 1)) = dedP P (k + 1 + j) := dedP_skip (k := k + 1 + j) (Nat.lt_of_lt_of_le (Nat.zero_lt_succ k) (Nat.le_add_right _ _)) hje (by
            have e3 : k + 1 + j - 1 = k + 1 + (j - 1) := by omega
            simp only [e3]; exact hdd)
          refine ⟨(j + 1, L), ?_, ⟨by dsimp only; omega, by dsimp only; omega, hLl, by dsimp only; rw [hd3]; omega, by dsimp only; rw [hd3]; exact htk, ?_⟩, by dsimp only; omega⟩
          · dsimp only
            rw [hd3]
            (simp only [xe, xj, Nat.reduceEqDiff]; (try simp [view, viewL_map]); (try omega))
          · dsimp only
            have h6 : (L.drop (k + j)).drop 1 = (P.drop (k + j)).drop 1 := by rw [hdr]
            rwa [List.drop_drop, List.drop_drop] at h6
      · omega
    · refine ⟨k + 1, by (simp only [xe, xj, Nat.reduceEqDiff]; (try simp [view, viewL_map]); (try omega)), ⟨by omega, ?_⟩, by omega⟩
      rw [dedP_take hk1 (fun _ _ => by assumption), hd, ← List.take_succ_eq_append_getElem hk1]
  · have hke : P.take (k + 1) = P := List.take_of_length_le (by omega)
    have hfin : dedP P P.length = P := by rw [show P.length = k + 1 by omega, hd, hke]
    rw [hfin]
    simp [Tryz.results74, RetOK, RetP, backA, upd_at, plainB, getP, isOwn, anyOwn, isP]

end Go.Proofs.YtehdfifncbokeaaGreat

namespace Go.Proofs.YtehdfifncbokeaaGreat
set_option linter.unusedSimpArgs false
set_option linter.unusedVariables false
set_option maxRecDepth 8000
set_option maxHeartbeats 2000000
open Go Go.RowKit AV

def idxF {α : Type} (q : α → Bool) : Nat → List α → Int
  | _, [] => -1
  | n, x :: l => if q x then (n : Int) else idxF q (n + 1) l
theorem idxF_skip {α : Type} {q : α → Bool} {n k : Nat} {l : List α} (h : k < l.length) (hq : q l[k] = false) : idxF q (n + k) (l.drop k) = idxF q (n + (k + 1)) (l.drop (k + 1)) := by
  rw [List.drop_eq_getElem_cons h, idxF, hq, if_neg (by simp)]
  rfl
theorem idxF_hit {α : Type} {q : α → Bool} {n : Nat} {k : Nat} {l : List α} (h : k < l.length) (hq : q l[k] = true) : idxF q n (l.drop k) = (n : Int) := by
  rw [List.drop_eq_getElem_cons h, idxF, hq, if_pos rfl]
theorem idxF_neg {α : Type} {q : α → Bool} : ∀ (l : List α) (n : Nat), idxF q n l < 0 ↔ ∀ x ∈ l, q x = false
  | [], n => by simp [idxF]
  | x :: l, n => by
    have := idxF_neg (q := q) l (n + 1)
    simp only [idxF, List.mem_cons, forall_eq_or_imp]
    cases q x with
    | true => simp
    | false => simpa using this

def predR (caps : List AV) (q : List Int → Bool) (args : List AV) (r : AV) : Prop := ∃ x : List Int, args = ints x :: caps ∧ x.length ≤ 1099511627776 ∧ r = .bool (q x)
def idxR (f : Nat) (caps : List AV) (q : List Int → Bool) (args : List AV) (r : AV) : Prop := ∃ l : LL, args = [rows l, .fn f caps] ∧ l.length ≤ 1099511627776 ∧ (∀ x ∈ l, x.length ≤ 1099511627776) ∧ r = .num .i64 (idxF q 0 l)

theorem idx_gen (f : Nat) (caps : List AV) (q : List Int → Bool) (hcp : allP caps = true) (hf_ctr : CtrOK Tryz.prog f (pureC (predR caps q))) : CtrOK Tryz.prog 48 (pureC (idxR f caps q)) := by
  refine ctr_pure' Tryz.func48 rfl rfl Tryz.ntmps48 ?_
  rintro _ _ ⟨l, rfl, hl, hx, rfl⟩
  refine ⟨by simp, fun κ hκ => ?_⟩
  have hbig := bigW_gt
  rw [argEnv_eq]
  simp only [envA]
  have hΓ := ctxOf_ok (P := Tryz.prog) (cx hf_ctr <| cx0)
  repeat' (first | refine wS fun K hK => ?_ | refine wB ?_ | ((first | refine wR hΓ ?_ | refine wD hΓ fun B hB => ?_); simp (maxSteps := 2000000) only [go_sem, hcp]) | ((repeat ((fail_if_success (refine hK _ ?_)); clear hK K)); refine hK _ ?_; clear hK K) | (refine w1 ?_; simp only [xs, xi, Nat.reduceEqDiff, reduceCtorEq]) | (refine wC (fun hb => ?_) fun hb => ?_ <;> (try simp only [xb, reduceCtorEq] at hb)) | (refine w2 (fun hc => ?_) (fun hc => ?_) <;> (try simp only [xc] at hc) <;> (try simp only [go_sem, hc, hcp]) <;> (try simp only [xb] at hc)) | refine wI ?_ | refine ex_idx (by omega) ?_ | fail)
  refine CW.loop (ι := Nat) (fun k => [(0, rows l), (1, .fn f caps), (6, rows l), (7, I l.length), (8, I k)]) (fun k => k ≤ l.length ∧ idxF q 0 l = idxF q k (l.drop k)) (fun k => l.length - k) 0 ?_ ?_
  · exact ⟨by (simp only [xe, xj, Nat.reduceEqDiff]; (try simp [view, viewL_map]); (try omega)), by omega, rfl⟩
  rintro k ⟨hk, hi⟩
  simp only [envOf]
  repeat' (first | refine wS fun K hK => ?_ | refine wB ?_ | ((first | refine wR hΓ ?_ | refine wD hΓ fun B hB => ?_); simp (maxSteps := 2000000) only [go_sem, hcp]) | ((repeat ((fail_if_success (refine hK _ ?_)); clear hK K)); refine hK _ ?_; clear hK K) | (refine w1 ?_; simp only [xs, xi, Nat.reduceEqDiff, reduceCtorEq]) | (refine wC (fun hb => ?_) fun hb => ?_ <;> (try simp only [xb, reduceCtorEq] at hb)) | (refine w2 (fun hc => ?_) (fun hc => ?_) <;> (try simp only [xc] at hc) <;> (try simp only [go_sem, hc, hcp]) <;> (try simp only [xb] at hc)) | refine wI ?_ | refine ex_idx (by omega) ?_ | fail)
  · have hkl : k < l.length := by omega
    have hxk := hx _ (List.getElem_mem hkl)
    (first | refine W_askP (rel := predR caps q) (by simp [ctxOf]) _ (⟨_, rfl, hxk, rfl⟩) ?_ | refine D_askP (rel := predR caps q) (by simp [ctxOf]) _ (⟨_, rfl, hxk, rfl⟩) ?_); simp (maxSteps := 2000000) only [go_sem]
    repeat' (first | refine wS fun K hK => ?_ | refine wB ?_ | ((first | refine wR hΓ ?_ | refine wD hΓ fun B hB => ?_); simp (maxSteps := 2000000) only [go_sem, hcp]) | ((repeat ((fail_if_success (refine hK _ ?_)); clear hK K)); refine hK _ ?_; clear hK K) | (refine w1 ?_; simp only [xs, xi, Nat.reduceEqDiff, reduceCtorEq]) | (refine wC (fun hb => ?_) fun hb => ?_ <;> (try simp only [xb, reduceCtorEq] at hb)) | (refine w2 (fun hc => ?_) (fun hc => ?_) <;> (try simp only [xc] at hc) <;> (try simp only [go_sem, hc, hcp]) <;> (try simp only [xb] at hc)) | refine wI ?_ | refine ex_idx (by omega) ?_ | fail)
    · have hq : q l[k] = true := by assumption
      rw [hi, idxF_hit hkl hq]
      simp [Tryz.results48, RetOK, RetP, backA, upd_at, plainB, getP, isOwn, anyOwn, isP]
    · have hq : q l[k] = false := by simp_all
      refine ⟨k + 1, by (simp only [xe, xj, Nat.reduceEqDiff]; (try simp [view, viewL_map]); (try omega)), ⟨by omega, ?_⟩, by omega⟩
      have := idxF_skip (n := 0) hkl hq
      simp only [Nat.zero_add] at this
      rw [hi, this]
  · have hke : l.drop k = [] := List.drop_eq_nil_of_le (by omega)
    rw [hi, hke]
    simp [Tryz.results48, RetOK, RetP, backA, upd_at, plainB, getP, isOwn, anyOwn, isP]
    simp [idxF]

def partAt1R (args : List AV) (r : AV) : Prop := ∃ t : List Int, t.length ≤ 1099511627776 ∧ predR [.pbox [ints t]] (fun a => decide (t = a)) args r
theorem partAt1_ctr : CtrOK Tryz.prog 49 (pureC partAt1R) := by
  refine ctr_pure' Tryz.func49 rfl rfl Tryz.ntmps49 ?_
  rintro _ _ ⟨t, ht, a, rfl, ha, rfl⟩
  refine ⟨by simp, fun κ hκ => ?_⟩
  have hbig := bigW_gt
  rw [argEnv_eq]
  simp only [envA]
  have hΓ := ctxOf_ok (P := Tryz.prog) (cx equal_ctr <| cx0)
  repeat' (first | exact hb.elim | refine wS fun K hK => ?_ | refine wB ?_ | refine uR hΓ ?_ | refine uD hΓ fun B hB => ?_ | ((repeat ((fail_if_success (refine hK _ ?_)); clear hK K)); refine hK _ ?_; clear hK K) | refine u1 ?_ | refine uC (fun hb => ?_) fun hb => ?_ | refine u2 (fun hc => ?_) fun hc => ?_ | refine wI ?_ | refine ex_idx (by omega) ?_ | exact True.intro | fail)
  (first | refine wA rfl _ (⟨_, _, rfl, ht, ha, rfl⟩) ?_ | refine dA rfl _ (⟨_, _, rfl, ht, ha, rfl⟩) ?_); simp (maxSteps := 2000000) only [go_sem]
  repeat' (first | exact hb.elim | refine wS fun K hK => ?_ | refine wB ?_ | refine uR hΓ ?_ | refine uD hΓ fun B hB => ?_ | ((repeat ((fail_if_success (refine hK _ ?_)); clear hK K)); refine hK _ ?_; clear hK K) | refine u1 ?_ | refine uC (fun hb => ?_) fun hb => ?_ | refine u2 (fun hc => ?_) fun hc => ?_ | refine wI ?_ | refine ex_idx (by omega) ?_ | exact True.intro | fail)
  simp [Tryz.results49, RetOK, RetP, backA, upd_at, plainB, getP, isOwn, anyOwn, isP]

def idxPartR (args : List AV) (r : AV) : Prop := ∃ t : List Int, t.length ≤ 1099511627776 ∧ idxR 49 [.pbox [ints t]] (fun a => decide (t = a)) args r
theorem idxPart_ctr : CtrOK Tryz.prog 48 (pureC idxPartR) := by
  have h : ∀ t : List Int, t.length ≤ 1099511627776 → CtrOK Tryz.prog 48 (pureC (idxR 49 [.pbox [ints t]] (fun a => decide (t = a)))) := fun t ht =>
    idx_gen _ _ _ rfl ⟨partAt1_ctr.1, fun args r args' ⟨h1, h2⟩ => partAt1_ctr.2 args r args' ⟨h1, t, ht, h2⟩⟩
  exact ⟨(h [] (by simp)).1, fun args r args' ⟨h1, t, ht, h2⟩ => (h t ht).2 args r args' ⟨h1, h2⟩⟩

def partAtR (args : List AV) (r : AV) : Prop := ∃ (l : LL) (t : List Int), args = [rows l, ints t] ∧ l.length ≤ 1099511627776 ∧ (∀ x ∈ l, x.length ≤ 1099511627776) ∧ t.length ≤ 1099511627776 ∧ r = .num .i64 (idxF (fun a => decide (t = a)) 0 l)
theorem partAt_ctr : CtrOK Tryz.prog 22 (pureC partAtR) := by
  refine ctr_pure' Tryz.func22 rfl rfl Tryz.ntmps22 ?_
  rintro _ _ ⟨l, t, rfl, hl, hx, ht, rfl⟩
  refine ⟨by simp, fun κ hκ => ?_⟩
  have hbig := bigW_gt
  rw [argEnv_eq]
  simp only [envA]
  have hΓ := ctxOf_ok (P := Tryz.prog) (cx idxPart_ctr <| cx0)
  repeat' (first | exact hb.elim | refine wS fun K hK => ?_ | refine wB ?_ | refine uR hΓ ?_ | refine uD hΓ fun B hB => ?_ | ((repeat ((fail_if_success (refine hK _ ?_)); clear hK K)); refine hK _ ?_; clear hK K) | refine u1 ?_ | refine uC (fun hb => ?_) fun hb => ?_ | refine u2 (fun hc => ?_) fun hc => ?_ | refine wI ?_ | refine ex_idx (by omega) ?_ | exact True.intro | fail)
  (first | refine wA rfl _ (⟨t, ht, l, rfl, hl, hx, rfl⟩) ?_ | refine dA rfl _ (⟨t, ht, l, rfl, hl, hx, rfl⟩) ?_); simp (maxSteps := 2000000) only [go_sem]
  repeat' (first | exact hb.elim | refine wS fun K hK => ?_ | refine wB ?_ | refine uR hΓ ?_ | refine uD hΓ fun B hB => ?_ | ((repeat ((fail_if_success (refine hK _ ?_)); clear hK K)); refine hK _ ?_; clear hK K) | refine u1 ?_ | refine uC (fun hb => ?_) fun hb => ?_ | refine u2 (fun hc => ?_) fun hc => ?_ | refine wI ?_ | refine ex_idx (by omega) ?_ | exact True.intro | fail)
  simp [Tryz.results22, RetOK, RetP, backA, upd_at, plainB, getP, isOwn, anyOwn, isP]

end Go.Proofs.YtehdfifncbokeaaGreat
