/- An expression as a tree, in the program: the expression's memory stays the caller's. -/
import Derived.Test.YtkibemgdncncoaaGrpH
namespace Go.Proofs.Ytkibemgdncncoaa
set_option linter.unusedSimpArgs false
set_option linter.unusedVariables false
set_option maxRecDepth 8000
set_option maxHeartbeats 2000000
open Go Go.RowKit AV

attribute [local go_sem] wpOpsD_cons wpOpsD_nil KOpsD_app D_ret D_get D_peek D_need D_ex D_br_t D_br_f D_fail D_idx_map D_idx_zero D_idx_succ D_getP_nil D_getP_own D_getP_box tg wpOpsA_cons wpOpsA_nil KOps_app rdG rdO rdX rdMv rdTake rdBor rdBin binV rdUn rdConv rdPick rdLoad rdStore stW rdStoreA rdVal rdParts srcW rdField rdIndex rdLen rdBuildS rdBuild rdMakeS rdBd rdSlice rdExtract rdFieldV rdBox rdAlloc rdSrc rdDst rdApp rdArg rdArgs rdCallP rdCall rdSkip rdCallX rdCallE rdCallY rdCallT rdBin2 isNilEq rdNilEq bigW_sub bigW_le rdApp2 rdSrcO rdNil rdClear rdMakeFn isT_no isT_nil isT_cons takeC_eff takeC_tk effC_tk pureC_tk rdTake Option.isSome_none Bool.and_self rdGive toBox backW isE_no isE_nil isE_cons effC_eff pureC_eff effC_rel pureC_rel id takenL takesOf opT opTs partW srcs foldP fzW slotsDistinct cst in64 nat64 W_ret W_get W_peek W_need W_ex W_br_t W_br_f W_fail apps killIf_t killIf_f app_set_junk app_mod_junk app_set_num app_mod_num app_set_bool app_mod_bool app_set_sh app_mod_sh app_set_own app_mod_own app_set_box app_mod_box app_set_pbox app_mod_pbox app_set_pcell app_mod_pcell app_set_alias app_mod_alias app_set_valias app_mod_valias app_set_addr app_mod_addr app_set_fn app_mod_fn app_set_agg app_mod_agg app_set_win app_mod_win app_set_pin app_mod_pin app_set_omap app_mod_omap app_set_tup app_mod_tup upd_at kill_upd kill_nil killV isOwn anyOwn isP allP noSh allN one allOne head view viewL getP setP kids withKids blk viewL_map noSh_ints List.map_map thenA_normal thenA_normal' ne_eq reduceCtorEq not_false_eq_true not_true_eq_false true_and and_true and_false false_and if_true if_false Bool.false_eq_true Bool.true_eq_false Nat.reduceAdd Nat.reduceLT Nat.reduceLeDiff Nat.reduceEqDiff List.append_nil List.nil_append List.cons_append List.contains_nil List.contains_cons Nat.reduceBEq Bool.or_false Bool.or_true Bool.false_or Bool.true_or Bool.not_true Bool.not_false List.getElem?_toArray List.getElem?_cons_zero List.getElem?_cons_succ Option.bind_some Option.bind_none List.length_map List.length_cons List.length_nil List.map_cons List.map_nil List.dropLast List.getLast? List.getLast List.getD_cons_zero List.getD_cons_succ List.set_cons_zero List.set_cons_succ List.replicate List.filterMap_cons List.filterMap_nil List.foldl_cons List.foldl_nil List.nodup_cons List.nodup_nil List.not_mem_nil List.mem_cons or_false false_or Option.some.injEq AV.box.injEq AV.own.injEq AV.agg.injEq exists_eq_left' exists_eq_left exists_eq_right exists_eq exists_eq' exists_and_left Option.getD_some List.getElem?_map Option.map_eq_some_iff W_idx_map W_idx_zero W_idx_succ W_getP_nil W_getP_own W_getP_box List.any_cons List.all_cons List.all_nil List.any_nil Int.toNat_natCast Nat.cast_ofNat_Int Prod.mk.injEq and_self forall_eq forall_eq_or_imp implies_true forall_const Int.toNat_zero Int.toNat_one not_imp_self decide_true decide_false false_imp_iff cast_div cast_mod allN_oints allP_rows allP_ints view_I view_ints view_oo Bool.and_true Bool.true_and Bool.and_false Bool.false_and Option.isSome_some Int.natCast_nonneg Ty_aggT_3 Ty_szT_3 Ty_zT_3 Ty_inT_3 Ty_aggT_4 Ty_szT_4 Ty_zT_4 Ty_boT_4 Ty_aggT_22 Ty_szT_22 Ty_zT_22 Ty_slE_22 Ty_slOK_22 Ty_slZ_22 Ty_aggT_23 Ty_szT_23 Ty_zT_23 Ty_slE_23 Ty_slOK_23 Ty_slZ_23 Ty_aggT_35 Ty_szT_35 Ty_zT_35 Ty_bPl_35 Ty_stO_35_0 Ty_stO_35_1 Ty_aggT_39 Ty_szT_39 Ty_zT_39 Ty_bPl_39 Ty_stO_39_0 Ty_stO_39_1 Ty_aggT_59 Ty_szT_59 Ty_zT_59 Ty_aggT_88 Ty_szT_88 Ty_zT_88 Ty_slE_88 Ty_slOK_88 Ty_slZ_88 Ty_aggT_90 Ty_szT_90 Ty_zT_90 Ty_bPl_90 Ty_stO_90_0 Ty_stO_90_1

def buildER (args : List AV) (r : AV) (args' : List AV) : Prop := ∃ x : Ex, args = [oints x.steps] ∧ x.wf ∧ x.steps.length ≤ 1099511627776 ∧ r = treeA x ∧ args' = [oints x.steps]
theorem buildE_ctr : CtrOK Try.prog 65 (effC buildER) := by
  refine ctr_eff' Try.func65 rfl rfl Try.ntmps65 ?_
  rintro _ _ _ ⟨x, rfl, hw, hl, rfl, rfl⟩
  refine ⟨_, rfl, by simp, by simp, fun κ hκ => ?_⟩
  have hbig := bigW_gt
  rw [argEnv_eq]
  simp only [envA]
  have hΓ := ctxOf_ok (P := Try.prog) (L := [(106, pureC takesR)]) (by simp only [List.mem_cons, List.not_mem_nil, or_false, forall_eq_or_imp, forall_eq]; exact takes_ctr)
  have hrun : runS x.steps [] = some [x] := runS_steps x hw []
  repeat' (first | (refine CW.seqK fun K hK => ?_) | (refine CW.block ?_) | ((first | refine CW.reg hΓ (by rw [hκ]; rfl) ?_ | refine CW.drw hΓ Try_mixed (by rw [hκ]; rfl) (by kernel_rfl) (fun B hB => ?_)); simp (config := { maxSteps := 2000000 }) only [go_sem]) | ((repeat ((fail_if_success (refine hK _ ?_)); clear hK K)); refine hK _ ?_; clear hK K) | ((first | refine CW.skip ?_ | refine CW.exit ?_ | refine CW.ret ?_); simp only [thenA_normal, thenA_exit, thenA_ret, inBlockA_normal, inBlockA_exit, inBlockA_ret, if_true, if_false, Nat.reduceEqDiff, reduceCtorEq, retQ_ret, retQ_normal, retE_ret, retE_normal]) | (refine CW.cond (by simp only [upd_at, if_true, if_false, Nat.reduceEqDiff]; rfl) (fun hb => ?_) (fun hb => ?_) <;> (try simp only [decide_eq_true_eq, decide_eq_false_iff_not, Bool.not_eq_true', Bool.not_eq_false', reduceCtorEq] at hb)) | ((first | refine W_brs (fun hc => ?_) (fun hc => ?_) | refine D_brs (fun hc => ?_) (fun hc => ?_)) <;> (try simp only [Bool.not_eq_true, Bool.not_eq_false] at hc) <;> (try simp (config := { maxSteps := 2000000 }) only [go_sem, hc]) <;> (try simp only [decide_eq_true_eq, decide_eq_false_iff_not, Bool.not_eq_true', Bool.not_eq_false'] at hc)) | (refine And.intro (by omega) ?_) | (refine And.intro (by simp only [List.length_append, List.length_map, List.length_take, List.length_drop, List.length_cons, List.length_nil, List.length_replicate]; omega) ?_) | (refine ex_idx (by omega) ?_) | (refine And.intro (by rw [← hB]; kernel_rfl) ?_) | fail)
  refine CW.loop (ι := Nat × List Ex) (fun y => [(3, .own ((stk y.2).map treeA)), (0, oints x.steps), (8, alias 0 []), (9, I x.steps.length), (10, I (y.1 : Nat))]) (fun y => y.1 ≤ x.steps.length ∧ runS (x.steps.take y.1) [] = some y.2) (fun y => x.steps.length - y.1) (0, []) ?_ ?_
  · exact ⟨by (simp only [LeL, envOf, upd_at, if_true, if_false, Nat.reduceEqDiff, true_or, and_true, true_and, and_self]; (try simp [view, viewL_map]); (try omega)); simp [stk], by simp, by simp [runS]⟩
  rintro ⟨k, st⟩ ⟨hk, hst⟩
  dsimp only at hk hst ⊢
  simp only [envOf]
  have hsl := (depthAt_le (e := x.steps) (k := k) ⟨st, hst, rfl⟩ hk)
  have hskl : (stk st).length = st.length := by simp [stk]
  refine CW.frzPost (N := fun e' => ∃ (n : Nat) (A : AV), getP (e' 3) [n] = some A ∧ isOwn A = true ∧ ∃ y : Nat × List Ex, LeL ((Wr.mod 3 [n] (view A)).app e') [(3, .own ((stk y.2).map treeA)), (0, oints x.steps), (8, alias 0 []), (9, I x.steps.length), (10, I (y.1 : Nat))] ∧ (y.1 ≤ x.steps.length ∧ runS (x.steps.take y.1) [] = some y.2) ∧ x.steps.length - y.1 < x.steps.length - k) ?_ ?_
  rotate_left
  · rintro e' ⟨n, A, h1, h2, h3⟩
    exact .inr ⟨3, [n], A, h1, h2, h3⟩
  by_cases hkl : k < x.steps.length
  case neg =>
    have hke : k = x.steps.length := by omega
    subst hke
    rw [List.take_length, hrun] at hst
    injection hst with hst
    subst hst
    have hs1 : (stk [x]).map treeA = [treeA x] := rfl
    rw [hs1]
    repeat' (first | (refine CW.seqK fun K hK => ?_) | (refine CW.block ?_) | ((first | refine CW.reg hΓ (by rw [hκ]; rfl) ?_ | refine CW.drw hΓ Try_mixed (by rw [hκ]; rfl) (by kernel_rfl) (fun B hB => ?_)); simp (config := { maxSteps := 2000000 }) only [go_sem, treeA_eq]) | ((repeat ((fail_if_success (refine hK _ ?_)); clear hK K)); refine hK _ ?_; clear hK K) | ((first | refine CW.skip ?_ | refine CW.exit ?_ | refine CW.ret ?_); simp only [thenA_normal, thenA_exit, thenA_ret, inBlockA_normal, inBlockA_exit, inBlockA_ret, if_true, if_false, Nat.reduceEqDiff, reduceCtorEq, retQ_ret, retQ_normal, retE_ret, retE_normal]) | (refine CW.cond (by simp only [upd_at, if_true, if_false, Nat.reduceEqDiff]; rfl) (fun hb => ?_) (fun hb => ?_) <;> (try simp only [decide_eq_true_eq, decide_eq_false_iff_not, Bool.not_eq_true', Bool.not_eq_false', reduceCtorEq] at hb)) | ((first | refine W_brs (fun hc => ?_) (fun hc => ?_) | refine D_brs (fun hc => ?_) (fun hc => ?_)) <;> (try simp only [Bool.not_eq_true, Bool.not_eq_false] at hc) <;> (try simp (config := { maxSteps := 2000000 }) only [go_sem, hc, treeA_eq]) <;> (try simp only [decide_eq_true_eq, decide_eq_false_iff_not, Bool.not_eq_true', Bool.not_eq_false'] at hc)) | (refine And.intro (by omega) ?_) | (refine And.intro (by simp only [List.length_append, List.length_map, List.length_take, List.length_drop, List.length_cons, List.length_nil, List.length_replicate]; omega) ?_) | (refine ex_idx (by omega) ?_) | (refine And.intro (by rw [← hB]; kernel_rfl) ?_) | fail)
    · omega
    · simp [Try.results65, RetOK, RetP, backA, upd_at, plainB, getP, isOwn, anyOwn, isP, treeA_eq]
  obtain ⟨st', hpu, hst'⟩ := runS_step hkl hst hrun
  obtain ⟨z, hz1, hz2, hz3, hz4⟩ := push_stk hpu
  have hcs : (((stk st).length : Nat) : Int) - ((takesN x.steps[k] : Nat) : Int) = ((st.length - takesN x.steps[k] : Nat) : Int) := by omega
  have htk := takesN_le x.steps[k]
  have hbw : st.length - takesN x.steps[k] < 1180591620717411303424 := by omega
  have hdr : allP (((stk st).map treeA).drop (st.length - takesN x.steps[k])) = true := by rw [← List.map_drop]; exact allP_trees _
  repeat' (first | (refine CW.seqK fun K hK => ?_) | (refine CW.block ?_) | ((first | refine CW.reg hΓ (by rw [hκ]; rfl) ?_ | refine CW.drw hΓ Try_mixed (by rw [hκ]; rfl) (by kernel_rfl) (fun B hB => ?_)); simp (config := { maxSteps := 2000000 }) only [go_sem]) | ((repeat ((fail_if_success (refine hK _ ?_)); clear hK K)); refine hK _ ?_; clear hK K) | ((first | refine CW.skip ?_ | refine CW.exit ?_ | refine CW.ret ?_); simp only [thenA_normal, thenA_exit, thenA_ret, inBlockA_normal, inBlockA_exit, inBlockA_ret, if_true, if_false, Nat.reduceEqDiff, reduceCtorEq, retQ_ret, retQ_normal, retE_ret, retE_normal]) | (refine CW.cond (by simp only [upd_at, if_true, if_false, Nat.reduceEqDiff]; rfl) (fun hb => ?_) (fun hb => ?_) <;> (try simp only [decide_eq_true_eq, decide_eq_false_iff_not, Bool.not_eq_true', Bool.not_eq_false', reduceCtorEq] at hb)) | ((first | refine W_brs (fun hc => ?_) (fun hc => ?_) | refine D_brs (fun hc => ?_) (fun hc => ?_)) <;> (try simp only [Bool.not_eq_true, Bool.not_eq_false] at hc) <;> (try simp (config := { maxSteps := 2000000 }) only [go_sem, hc]) <;> (try simp only [decide_eq_true_eq, decide_eq_false_iff_not, Bool.not_eq_true', Bool.not_eq_false'] at hc)) | (refine And.intro (by omega) ?_) | (refine And.intro (by simp only [List.length_append, List.length_map, List.length_take, List.length_drop, List.length_cons, List.length_nil, List.length_replicate]; omega) ?_) | (refine ex_idx (by omega) ?_) | (refine And.intro (by rw [← hB]; kernel_rfl) ?_) | fail)
  · (first | refine W_askP rfl _ (⟨_, rfl, rfl⟩) ?_ | refine D_askP rfl _ (⟨_, rfl, rfl⟩) ?_); simp (config := { maxSteps := 2000000 }) only [go_sem]
    repeat' (first | (refine CW.seqK fun K hK => ?_) | (refine CW.block ?_) | ((first | refine CW.reg hΓ (by rw [hκ]; rfl) ?_ | refine CW.drw hΓ Try_mixed (by rw [hκ]; rfl) (by kernel_rfl) (fun B hB => ?_)); simp (config := { maxSteps := 2000000 }) only [go_sem, hcs, hdr]) | ((repeat ((fail_if_success (refine hK _ ?_)); clear hK K)); refine hK _ ?_; clear hK K) | ((first | refine CW.skip ?_ | refine CW.exit ?_ | refine CW.ret ?_); simp only [thenA_normal, thenA_exit, thenA_ret, inBlockA_normal, inBlockA_exit, inBlockA_ret, if_true, if_false, Nat.reduceEqDiff, reduceCtorEq, retQ_ret, retQ_normal, retE_ret, retE_normal]) | (refine CW.cond (by simp only [upd_at, if_true, if_false, Nat.reduceEqDiff]; rfl) (fun hb => ?_) (fun hb => ?_) <;> (try simp only [decide_eq_true_eq, decide_eq_false_iff_not, Bool.not_eq_true', Bool.not_eq_false', reduceCtorEq] at hb)) | ((first | refine W_brs (fun hc => ?_) (fun hc => ?_) | refine D_brs (fun hc => ?_) (fun hc => ?_)) <;> (try simp only [Bool.not_eq_true, Bool.not_eq_false] at hc) <;> (try simp (config := { maxSteps := 2000000 }) only [go_sem, hc, hcs, hdr]) <;> (try simp only [decide_eq_true_eq, decide_eq_false_iff_not, Bool.not_eq_true', Bool.not_eq_false'] at hc)) | (refine And.intro (by omega) ?_) | (refine And.intro (by simp only [List.length_append, List.length_map, List.length_take, List.length_drop, List.length_cons, List.length_nil, List.length_replicate]; omega) ?_) | (refine ex_idx (by omega) ?_) | (refine And.intro (by rw [← hB]; kernel_rfl) ?_) | fail)
    have hvd : viewL (((stk st).map treeA).drop (st.length - takesN x.steps[k])) = ((stk st).map treeA).drop (st.length - takesN x.steps[k]) := by
      rw [← List.map_drop, viewL_map, List.map_map, view_trees]
    have hfin : (stk st').map treeA = ((stk st).map treeA).take (st.length - takesN x.steps[k]) ++ [.pbox [I x.steps[k], .sh (((stk st).map treeA).drop (st.length - takesN x.steps[k]))]] := by
      have h1 : stk st' = (stk st).take (st.length - takesN x.steps[k]) ++ [z] := by
        rw [hz1]
        unfold stk
        rw [List.take_reverse, show st.length - (st.length - takesN x.steps[k]) = takesN x.steps[k] by omega]
        simp
      rw [h1, List.map_append, List.map_take]
      simp only [List.map_cons, List.map_nil]
      rw [treeA_eq z, hz2, hz3, List.map_drop]
    have hlt : (((stk st).map treeA).take (st.length - takesN x.steps[k])).length = st.length - takesN x.steps[k] := by simp [hskl]
    generalize st.length - takesN x.steps[k] = n at *
    generalize hB : (AV.box [num IntKind.i64 x.steps[k], own (List.drop n ((stk st).map treeA))]) = B
    refine ⟨n, B, ?_, by rw [← hB]; rfl, (k + 1, st'), ?_, ⟨by dsimp only; omega, hst'⟩, by dsimp only; omega⟩
    · rw [List.getElem?_append_right (by omega), hlt, Nat.sub_self]
      rfl
    · have hvB : view B = .pbox [I x.steps[k], .sh (((stk st).map treeA).drop n)] := by rw [← hB]; simp only [view, viewL]; rw [hvd]
      rw [hvB, app_mod_pbox]
      have hset : (((stk st).map treeA).take n ++ [B]).set n (.pbox [I x.steps[k], .sh (((stk st).map treeA).drop n)]) = (stk st').map treeA := by
        rw [hfin, List.set_append_right _ _ (by omega), hlt, Nat.sub_self]
        rfl
      simp only [LeL, upd_at, if_true, if_false, Nat.reduceEqDiff, setP, kids, withKids, List.getD]
      rw [hset]
      exact ⟨.inl rfl, .inl trivial, .inl trivial, .inl trivial, .inl (by simp), trivial⟩
  · omega


end Go.Proofs.Ytkibemgdncncoaa
