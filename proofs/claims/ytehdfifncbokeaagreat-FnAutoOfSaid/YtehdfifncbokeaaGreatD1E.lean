/- An expression as a tree, in the program: the expression's memory stays the caller's. -/
import Derived.Test.YtehdfifncbokeaaGreatGrpH
import Derived.Test.YtehdfifncbokeaaGreatEngMin
namespace Go.Proofs.YtehdfifncbokeaaGreat
set_option linter.unusedSimpArgs false
set_option linter.unusedVariables false
set_option maxRecDepth 8000
set_option maxHeartbeats 2000000
open Go Go.RowKit AV

def buildER (args : List AV) (r : AV) (args' : List AV) : Prop := ∃ x : Ex, args = [oints x.steps] ∧ x.wf ∧ x.steps.length ≤ 1099511627776 ∧ r = treeA x ∧ args' = [oints x.steps]
theorem buildE_ctr : CtrOK Tryz.prog 19 (effC buildER) := by
  refine ctr_eff' Tryz.func19 rfl rfl Tryz.ntmps19 ?_
  rintro _ _ _ ⟨x, rfl, hw, hl, rfl, rfl⟩
  refine ⟨_, rfl, by simp, by simp, fun κ hκ => ?_⟩
  have hbig := bigW_gt
  rw [argEnv_eq]
  simp only [envA]
  have hΓ := ctxOf_ok (P := Tryz.prog) (cx takes_ctr <| cx0)
  have hrun : runS x.steps [] = some [x] := runS_steps x hw []
  repeat' (first | exact hb.elim | refine wS fun K hK => ?_ | refine wB ?_ | refine uR hΓ ?_ | refine uD hΓ fun B hB => ?_ | ((repeat ((fail_if_success (refine hK _ ?_)); clear hK K)); refine hK _ ?_; clear hK K) | refine u1 ?_ | refine uC (fun hb => ?_) fun hb => ?_ | refine u2 (fun hc => ?_) fun hc => ?_ | refine wI ?_ | refine ex_idx (by omega) ?_ | exact True.intro | fail)
  refine CW.loop (ι := Nat × List Ex) (fun y => [(3, .own ((stk y.2).map treeA)), (0, oints x.steps), (8, alias 0 []), (9, I x.steps.length), (10, I (y.1 : Nat))]) (fun y => y.1 ≤ x.steps.length ∧ runS (x.steps.take y.1) [] = some y.2) (fun y => x.steps.length - y.1) (0, []) ?_ ?_
  · exact ⟨by (simp only [xe, xj, Nat.reduceEqDiff]; (try simp [view, viewL_map]); (try omega)); simp [stk], by simp, by simp [runS]⟩
  rintro ⟨k, st⟩ ⟨hk, hst⟩
  dsimp only at hk hst ⊢
  simp only [envOf]
  have hsl := (depthAt_le (e := x.steps) (k := k) ⟨st, hst, rfl⟩ hk)
  have hskl : (stk st).length = st.length := by simp [stk]
  refine CW.frzPost (N := fun e' => ∃ (n : Nat) (A : AV), getP (e' 3) [n] = some A ∧ isOwn A = true ∧ ∃ y : Nat × List Ex, LeL ((Wr.mod 3 [n] (view A)).app e') [(3, .own ((stk y.2).map treeA)), (0, oints x.steps), (8, alias 0 []), (9, I x.steps.length), (10, I (y.1 : Nat))] ∧ (y.1 ≤ x.steps.length ∧ runS (x.steps.take y.1) [] = some y.2) ∧ x.steps.length - y.1 < x.steps.length - k) ?_ ?_
  rotate_left
  · rintro e' ⟨n, A, h1, h2, h3⟩
    exact .inr ⟨3, [n], A, h1, h2, h3⟩
  by_cases hkl : k < x.steps.length
  case neg =>
    have hke : k = x.steps.length := by omega
    subst hke
    rw [List.take_length, hrun] at hst
    injection hst with hst
    subst hst
    have hs1 : (stk [x]).map treeA = [treeA x] := rfl
    rw [hs1]
    repeat' (first | refine wS fun K hK => ?_ | refine wB ?_ | ((first | refine wR hΓ ?_ | refine wD hΓ fun B hB => ?_); simp (maxSteps := 2000000) only [go_sem, treeA_eq]) | ((repeat ((fail_if_success (refine hK _ ?_)); clear hK K)); refine hK _ ?_; clear hK K) | (refine w1 ?_; simp only [xs, xi, Nat.reduceEqDiff, reduceCtorEq]) | (refine wC (fun hb => ?_) fun hb => ?_ <;> (try simp only [xb, reduceCtorEq] at hb)) | (refine w2 (fun hc => ?_) (fun hc => ?_) <;> (try simp only [xc] at hc) <;> (try simp only [go_sem, hc, treeA_eq]) <;> (try simp only [xb] at hc)) | refine wI ?_ | refine ex_idx (by omega) ?_ | fail)
    · omega
    · simp [Tryz.results19, RetOK, RetP, backA, upd_at, plainB, getP, isOwn, anyOwn, isP, treeA_eq]
  obtain ⟨st', hpu, hst'⟩ := runS_step hkl hst hrun
  obtain ⟨z, hz1, hz2, hz3, hz4⟩ := push_stk hpu
  have hcs : (((stk st).length : Nat) : Int) - ((takesN x.steps[k] : Nat) : Int) = ((st.length - takesN x.steps[k] : Nat) : Int) := by omega
  have htk := takesN_le x.steps[k]
  have hbw : st.length - takesN x.steps[k] < 1180591620717411303424 := by omega
  have hdr : allP (((stk st).map treeA).drop (st.length - takesN x.steps[k])) = true := by rw [← List.map_drop]; exact allP_trees _
  repeat' (first | exact hb.elim | refine wS fun K hK => ?_ | refine wB ?_ | refine uR hΓ ?_ | refine uD hΓ fun B hB => ?_ | ((repeat ((fail_if_success (refine hK _ ?_)); clear hK K)); refine hK _ ?_; clear hK K) | refine u1 ?_ | refine uC (fun hb => ?_) fun hb => ?_ | refine u2 (fun hc => ?_) fun hc => ?_ | refine wI ?_ | refine ex_idx (by omega) ?_ | exact True.intro | fail)
  · (first | refine wA rfl _ (⟨_, rfl, rfl⟩) ?_ | refine dA rfl _ (⟨_, rfl, rfl⟩) ?_); simp (maxSteps := 2000000) only [go_sem]
    repeat' (first | refine wS fun K hK => ?_ | refine wB ?_ | ((first | refine wR hΓ ?_ | refine wD hΓ fun B hB => ?_); simp (maxSteps := 2000000) only [go_sem, hcs, hdr]) | ((repeat ((fail_if_success (refine hK _ ?_)); clear hK K)); refine hK _ ?_; clear hK K) | (refine w1 ?_; simp only [xs, xi, Nat.reduceEqDiff, reduceCtorEq]) | (refine wC (fun hb => ?_) fun hb => ?_ <;> (try simp only [xb, reduceCtorEq] at hb)) | (refine w2 (fun hc => ?_) (fun hc => ?_) <;> (try simp only [xc] at hc) <;> (try simp only [go_sem, hc, hcs, hdr]) <;> (try simp only [xb] at hc)) | refine wI ?_ | refine ex_idx (by omega) ?_ | fail)
    have hvd : viewL (((stk st).map treeA).drop (st.length - takesN x.steps[k])) = ((stk st).map treeA).drop (st.length - takesN x.steps[k]) := by
      rw [← List.map_drop, viewL_map, List.map_map, view_trees]
    have hfin : (stk st').map treeA = ((stk st).map treeA).take (st.length - takesN x.steps[k]) ++ [.pbox [I x.steps[k], .sh (((stk st).map treeA).drop (st.length - takesN x.steps[k]))]] := by
      have h1 : stk st' = (stk st).take (st.length - takesN x.steps[k]) ++ [z] := by
        rw [hz1]
        unfold stk
        rw [List.take_reverse, show st.length - (st.length - takesN x.steps[k]) = takesN x.steps[k] by omega]
        simp
      rw [h1, List.map_append, List.map_take]
      simp only [List.map_cons, List.map_nil]
      rw [treeA_eq z, hz2, hz3, List.map_drop]
    have hlt : (((stk st).map treeA).take (st.length - takesN x.steps[k])).length = st.length - takesN x.steps[k] := by simp [hskl]
    generalize st.length - takesN x.steps[k] = n at *
    generalize hB : (AV.box [num IntKind.i64 x.steps[k], own (List.drop n ((stk st).map treeA))]) = B
    refine ⟨n, B, ?_, by rw [← hB]; rfl, (k + 1, st'), ?_, ⟨by dsimp only; omega, hst'⟩, by dsimp only; omega⟩
    · rw [List.getElem?_append_right (by omega), hlt, Nat.sub_self]
      rfl
    · have hvB : view B = .pbox [I x.steps[k], .sh (((stk st).map treeA).drop n)] := by rw [← hB]; simp only [view, viewL]; rw [hvd]
      rw [hvB, app_mod_pbox]
      have hset : (((stk st).map treeA).take n ++ [B]).set n (.pbox [I x.steps[k], .sh (((stk st).map treeA).drop n)]) = (stk st').map treeA := by
        rw [hfin, List.set_append_right _ _ (by omega), hlt, Nat.sub_self]
        rfl
      simp only [LeL, upd_at, if_true, if_false, Nat.reduceEqDiff, setP, kids, withKids, List.getD]
      rw [hset]
      exact ⟨.inl rfl, .inl trivial, .inl trivial, .inl trivial, .inl (by simp), trivial⟩
  · omega

end Go.Proofs.YtehdfifncbokeaaGreat
