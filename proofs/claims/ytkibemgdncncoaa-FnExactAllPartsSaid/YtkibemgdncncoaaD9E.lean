/- All parts of an expression, in the program, each in memory of its own, walked by the engine. -/
import Derived.Test.YtkibemgdncncoaaD9
import Derived.Test.YtkibemgdncncoaaD1E
import Derived.Test.YtkibemgdncncoaaF3
namespace Go.Proofs.Ytkibemgdncncoaa
set_option linter.unusedSimpArgs false
set_option linter.unusedVariables false
set_option maxRecDepth 8000
set_option maxHeartbeats 2000000
open Go Go.RowKit AV

attribute [local go_sem] wpOpsD_cons wpOpsD_nil KOpsD_app D_ret D_get D_peek D_need D_ex D_br_t D_br_f D_fail D_idx_map D_idx_zero D_idx_succ D_getP_nil D_getP_own D_getP_box tg wpOpsA_cons wpOpsA_nil KOps_app rdG rdO rdX rdMv rdTake rdBor rdBin binV rdUn rdConv rdPick rdLoad rdStore stW rdStoreA rdVal rdParts srcW rdField rdIndex rdLen rdBuildS rdBuild rdMakeS rdBd rdSlice rdExtract rdFieldV rdBox rdAlloc rdSrc rdDst rdApp rdArg rdArgs rdCallP rdCall rdSkip rdCallX rdCallE rdCallY rdCallT rdBin2 isNilEq rdNilEq bigW_sub bigW_le rdApp2 rdSrcO rdNil rdClear rdMakeFn isT_no isT_nil isT_cons takeC_eff takeC_tk effC_tk pureC_tk rdTake Option.isSome_none Bool.and_self rdGive toBox backW isE_no isE_nil isE_cons effC_eff pureC_eff effC_rel pureC_rel id takenL takesOf opT opTs partW srcs foldP fzW slotsDistinct cst in64 nat64 W_ret W_get W_peek W_need W_ex W_br_t W_br_f W_fail apps killIf_t killIf_f app_set_junk app_mod_junk app_set_num app_mod_num app_set_bool app_mod_bool app_set_sh app_mod_sh app_set_own app_mod_own app_set_box app_mod_box app_set_pbox app_mod_pbox app_set_pcell app_mod_pcell app_set_alias app_mod_alias app_set_valias app_mod_valias app_set_addr app_mod_addr app_set_fn app_mod_fn app_set_agg app_mod_agg app_set_win app_mod_win app_set_pin app_mod_pin app_set_omap app_mod_omap app_set_tup app_mod_tup upd_at kill_upd kill_nil killV isOwn anyOwn isP allP noSh allN one allOne head view viewL getP setP kids withKids blk viewL_map noSh_ints List.map_map thenA_normal thenA_normal' ne_eq reduceCtorEq not_false_eq_true not_true_eq_false true_and and_true and_false false_and if_true if_false Bool.false_eq_true Bool.true_eq_false Nat.reduceAdd Nat.reduceLT Nat.reduceLeDiff Nat.reduceEqDiff List.append_nil List.nil_append List.cons_append List.contains_nil List.contains_cons Nat.reduceBEq Bool.or_false Bool.or_true Bool.false_or Bool.true_or Bool.not_true Bool.not_false List.getElem?_toArray List.getElem?_cons_zero List.getElem?_cons_succ Option.bind_some Option.bind_none List.length_map List.length_cons List.length_nil List.map_cons List.map_nil List.dropLast List.getLast? List.getLast List.getD_cons_zero List.getD_cons_succ List.set_cons_zero List.set_cons_succ List.replicate List.filterMap_cons List.filterMap_nil List.foldl_cons List.foldl_nil List.nodup_cons List.nodup_nil List.not_mem_nil List.mem_cons or_false false_or Option.some.injEq AV.box.injEq AV.own.injEq AV.agg.injEq exists_eq_left' exists_eq_left exists_eq_right exists_eq exists_eq' exists_and_left Option.getD_some List.getElem?_map Option.map_eq_some_iff W_idx_map W_idx_zero W_idx_succ W_getP_nil W_getP_own W_getP_box List.any_cons List.all_cons List.all_nil List.any_nil Int.toNat_natCast Nat.cast_ofNat_Int Prod.mk.injEq and_self forall_eq forall_eq_or_imp implies_true forall_const Int.toNat_zero Int.toNat_one not_imp_self decide_true decide_false false_imp_iff cast_div cast_mod allN_oints allP_rows allP_ints view_I view_ints view_oo Bool.and_true Bool.true_and Bool.and_false Bool.false_and Option.isSome_some Int.natCast_nonneg Ty_aggT_3 Ty_szT_3 Ty_zT_3 Ty_inT_3 Ty_aggT_4 Ty_szT_4 Ty_zT_4 Ty_boT_4 Ty_aggT_22 Ty_szT_22 Ty_zT_22 Ty_slE_22 Ty_slOK_22 Ty_slZ_22 Ty_aggT_23 Ty_szT_23 Ty_zT_23 Ty_slE_23 Ty_slOK_23 Ty_slZ_23 Ty_aggT_35 Ty_szT_35 Ty_zT_35 Ty_bPl_35 Ty_stO_35_0 Ty_stO_35_1 Ty_aggT_39 Ty_szT_39 Ty_zT_39 Ty_bPl_39 Ty_stO_39_0 Ty_stO_39_1 Ty_aggT_59 Ty_szT_59 Ty_zT_59 Ty_aggT_88 Ty_szT_88 Ty_zT_88 Ty_slE_88 Ty_slOK_88 Ty_slZ_88 Ty_aggT_90 Ty_szT_90 Ty_zT_90 Ty_bPl_90 Ty_stO_90_0 Ty_stO_90_1

def allOR (args : List AV) (r : AV) : Prop := ∃ x : Ex, args = [ints x.steps] ∧ x.wf ∧ x.steps.length ≤ 40 ∧ r = oorows (allL x.steps)
/-- The list of what is left, the first j of which are taken out. -/
def restL (ps : LL) (j : Nat) : List AV := List.replicate j .junk ++ (ps.drop j).map oints
theorem restL_zero (ps : LL) : AV.own (restL ps 0) = oorows ps := by simp [restL, oorows]
theorem restL_len (ps : LL) {j : Nat} (h : j ≤ ps.length) : (restL ps j).length = ps.length := by simp [restL]; omega
theorem restL_get (ps : LL) {j : Nat} (h : j < ps.length) : (restL ps j)[j]? = some (own (List.map I ps[j])) := by
  rw [restL, List.getElem?_append_right (by simp)]
  simp [h, oints]
theorem restL_set (ps : LL) {j : Nat} (h : j < ps.length) : (restL ps j).set j .junk = restL ps (j + 1) := by
  rw [restL, List.set_append_right _ _ (by simp), List.drop_eq_getElem_cons h, List.map_cons, List.length_replicate, Nat.sub_self, List.set_cons_zero, restL, List.replicate_succ', List.append_assoc]
  rfl

theorem allPartsO_ctr : CtrOK Try.prog 78 (pureC allOR) := by
  refine ctr_pure' Try.func78 rfl rfl Try.ntmps78 ?_
  rintro _ _ ⟨x, rfl, hw, hl, rfl⟩
  refine ⟨by simp, fun κ hκ => ?_⟩
  have hbig := bigW_gt
  rw [argEnv_eq]
  simp only [envA]
  have hΓ := ctxOf_ok (P := Try.prog) (L := [(125, pureC cloneR), (65, effC buildER), (66, pureC (tpartsR (4096))), (83, pureC partAtR)]) (by simp only [List.mem_cons, List.not_mem_nil, or_false, forall_eq_or_imp, forall_eq]; exact ⟨clone_ctr, buildE_ctr, tparts_ctr, partAt_ctr⟩)
  repeat' (first | (refine CW.seqK fun K hK => ?_) | (refine CW.block ?_) | ((first | refine CW.reg hΓ (by rw [hκ]; rfl) ?_ | refine CW.drw hΓ Try_mixed (by rw [hκ]; rfl) (by kernel_rfl) (fun B hB => ?_)); simp (config := { maxSteps := 2000000 }) only [go_sem]) | ((repeat ((fail_if_success (refine hK _ ?_)); clear hK K)); refine hK _ ?_; clear hK K) | ((first | refine CW.skip ?_ | refine CW.exit ?_ | refine CW.ret ?_); simp only [thenA_normal, thenA_exit, thenA_ret, inBlockA_normal, inBlockA_exit, inBlockA_ret, if_true, if_false, Nat.reduceEqDiff, reduceCtorEq, retQ_ret, retQ_normal, retE_ret, retE_normal]) | (refine CW.cond (by simp only [upd_at, if_true, if_false, Nat.reduceEqDiff]; rfl) (fun hb => ?_) (fun hb => ?_) <;> (try simp only [decide_eq_true_eq, decide_eq_false_iff_not, Bool.not_eq_true', Bool.not_eq_false', reduceCtorEq] at hb)) | ((first | refine W_brs (fun hc => ?_) (fun hc => ?_) | refine D_brs (fun hc => ?_) (fun hc => ?_)) <;> (try simp only [Bool.not_eq_true, Bool.not_eq_false] at hc) <;> (try simp (config := { maxSteps := 2000000 }) only [go_sem, hc]) <;> (try simp only [decide_eq_true_eq, decide_eq_false_iff_not, Bool.not_eq_true', Bool.not_eq_false'] at hc)) | (refine And.intro (by omega) ?_) | (refine And.intro (by simp only [List.length_append, List.length_map, List.length_take, List.length_drop, List.length_cons, List.length_nil, List.length_replicate]; omega) ?_) | (refine ex_idx (by omega) ?_) | (refine And.intro (by rw [← hB]; kernel_rfl) ?_) | fail)
  (first | refine W_askP rfl _ (⟨x.steps, rfl, steps_ne x, by omega, rfl⟩) ?_ | refine D_askP rfl _ (⟨x.steps, rfl, steps_ne x, by omega, rfl⟩) ?_); simp (config := { maxSteps := 2000000 }) only [go_sem]
  repeat' (first | (refine CW.seqK fun K hK => ?_) | (refine CW.block ?_) | ((first | refine CW.reg hΓ (by rw [hκ]; rfl) ?_ | refine CW.drw hΓ Try_mixed (by rw [hκ]; rfl) (by kernel_rfl) (fun B hB => ?_)); simp (config := { maxSteps := 2000000 }) only [go_sem]) | ((repeat ((fail_if_success (refine hK _ ?_)); clear hK K)); refine hK _ ?_; clear hK K) | ((first | refine CW.skip ?_ | refine CW.exit ?_ | refine CW.ret ?_); simp only [thenA_normal, thenA_exit, thenA_ret, inBlockA_normal, inBlockA_exit, inBlockA_ret, if_true, if_false, Nat.reduceEqDiff, reduceCtorEq, retQ_ret, retQ_normal, retE_ret, retE_normal]) | (refine CW.cond (by simp only [upd_at, if_true, if_false, Nat.reduceEqDiff]; rfl) (fun hb => ?_) (fun hb => ?_) <;> (try simp only [decide_eq_true_eq, decide_eq_false_iff_not, Bool.not_eq_true', Bool.not_eq_false', reduceCtorEq] at hb)) | ((first | refine W_brs (fun hc => ?_) (fun hc => ?_) | refine D_brs (fun hc => ?_) (fun hc => ?_)) <;> (try simp only [Bool.not_eq_true, Bool.not_eq_false] at hc) <;> (try simp (config := { maxSteps := 2000000 }) only [go_sem, hc]) <;> (try simp only [decide_eq_true_eq, decide_eq_false_iff_not, Bool.not_eq_true', Bool.not_eq_false'] at hc)) | (refine And.intro (by omega) ?_) | (refine And.intro (by simp only [List.length_append, List.length_map, List.length_take, List.length_drop, List.length_cons, List.length_nil, List.length_replicate]; omega) ?_) | (refine ex_idx (by omega) ?_) | (refine And.intro (by rw [← hB]; kernel_rfl) ?_) | fail)
  refine CW.loop (ι := Nat) (fun k => [(3, oorows (allTo x.steps k)), (4, I k)]) (fun k => k ≤ (allTo x.steps k).length) (fun k => 42 - k) 0 ?_ ?_
  · refine ⟨?_, by simp⟩
    (simp only [LeL, envOf, upd_at, if_true, if_false, Nat.reduceEqDiff, true_or, and_true, true_and, and_self]; (try simp [view, viewL_map]); (try omega))
    simp [allTo]
  rintro k hk
  simp only [envOf]
  have hnd := allTo_nodup x.steps k
  have hin := allTo_left hw k
  have hln := allTo_len hw k
  have hac := actsX_len x
  generalize hout : allTo x.steps k = out at *
  have hob := midL_bd hw hl hnd hin (hin _ (List.getElem_mem (l := out) (n := 0) (by rw [← hout]; have := (allTo_pre x.steps 0 k).length_le; simp [allTo] at this ⊢; omega))) 0 0
  rw [midL_zero, roundL] at hob
  by_cases hkl : k < out.length
  case neg =>
    have hfin : allL x.steps = out := by rw [← hout]; exact allL_eq hw (by rw [hout]; omega) (by omega)
    rw [hfin]
    repeat' (first | (refine CW.seqK fun K hK => ?_) | (refine CW.block ?_) | ((first | refine CW.reg hΓ (by rw [hκ]; rfl) ?_ | refine CW.drw hΓ Try_mixed (by rw [hκ]; rfl) (by kernel_rfl) (fun B hB => ?_)); simp (config := { maxSteps := 2000000 }) only [go_sem]) | ((repeat ((fail_if_success (refine hK _ ?_)); clear hK K)); refine hK _ ?_; clear hK K) | ((first | refine CW.skip ?_ | refine CW.exit ?_ | refine CW.ret ?_); simp only [thenA_normal, thenA_exit, thenA_ret, inBlockA_normal, inBlockA_exit, inBlockA_ret, if_true, if_false, Nat.reduceEqDiff, reduceCtorEq, retQ_ret, retQ_normal, retE_ret, retE_normal]) | (refine CW.cond (by simp only [upd_at, if_true, if_false, Nat.reduceEqDiff]; rfl) (fun hb => ?_) (fun hb => ?_) <;> (try simp only [decide_eq_true_eq, decide_eq_false_iff_not, Bool.not_eq_true', Bool.not_eq_false', reduceCtorEq] at hb)) | ((first | refine W_brs (fun hc => ?_) (fun hc => ?_) | refine D_brs (fun hc => ?_) (fun hc => ?_)) <;> (try simp only [Bool.not_eq_true, Bool.not_eq_false] at hc) <;> (try simp (config := { maxSteps := 2000000 }) only [go_sem, hc]) <;> (try simp only [decide_eq_true_eq, decide_eq_false_iff_not, Bool.not_eq_true', Bool.not_eq_false'] at hc)) | (refine And.intro (by omega) ?_) | (refine And.intro (by simp only [List.length_append, List.length_map, List.length_take, List.length_drop, List.length_cons, List.length_nil, List.length_replicate]; omega) ?_) | (refine ex_idx (by omega) ?_) | (refine And.intro (by rw [← hB]; kernel_rfl) ?_) | fail)
    · omega
    · simp [Try.results78, RetOK, RetP, backA, upd_at, plainB, getP, isOwn, anyOwn, isP]
      simp [view, viewL_map, view_ints]
      rw [hfin]
  have htl := hin _ (List.getElem_mem hkl)
  have hsucc : allTo x.steps (k + 1) = roundL out out[k] 12 := by rw [allTo_succ (by rw [hout]; exact hkl)]; simp only [hout]
  obtain ⟨p, hpw, hpt, _⟩ := id htl
  have hpl : p.steps.length ≤ 1601 := by
    have h3 := htl.len
    have h4 := Nat.mul_le_mul hl hl
    rw [hpt]; omega
  repeat' (first | (refine CW.seqK fun K hK => ?_) | (refine CW.block ?_) | ((first | refine CW.reg hΓ (by rw [hκ]; rfl) ?_ | refine CW.drw hΓ Try_mixed (by rw [hκ]; rfl) (by kernel_rfl) (fun B hB => ?_)); simp (config := { maxSteps := 2000000 }) only [go_sem]) | ((repeat ((fail_if_success (refine hK _ ?_)); clear hK K)); refine hK _ ?_; clear hK K) | ((first | refine CW.skip ?_ | refine CW.exit ?_ | refine CW.ret ?_); simp only [thenA_normal, thenA_exit, thenA_ret, inBlockA_normal, inBlockA_exit, inBlockA_ret, if_true, if_false, Nat.reduceEqDiff, reduceCtorEq, retQ_ret, retQ_normal, retE_ret, retE_normal]) | (refine CW.cond (by simp only [upd_at, if_true, if_false, Nat.reduceEqDiff]; rfl) (fun hb => ?_) (fun hb => ?_) <;> (try simp only [decide_eq_true_eq, decide_eq_false_iff_not, Bool.not_eq_true', Bool.not_eq_false', reduceCtorEq] at hb)) | ((first | refine W_brs (fun hc => ?_) (fun hc => ?_) | refine D_brs (fun hc => ?_) (fun hc => ?_)) <;> (try simp only [Bool.not_eq_true, Bool.not_eq_false] at hc) <;> (try simp (config := { maxSteps := 2000000 }) only [go_sem, hc]) <;> (try simp only [decide_eq_true_eq, decide_eq_false_iff_not, Bool.not_eq_true', Bool.not_eq_false'] at hc)) | (refine And.intro (by omega) ?_) | (refine And.intro (by simp only [List.length_append, List.length_map, List.length_take, List.length_drop, List.length_cons, List.length_nil, List.length_replicate]; omega) ?_) | (refine ex_idx (by omega) ?_) | (refine And.intro (by rw [← hB]; kernel_rfl) ?_) | fail)
  rotate_left
  · omega
  (first | refine W_askE rfl _ _ (⟨p, by rw [hpt], hpw, by omega, (treeA_eq p).symm, rfl⟩) ?_ | refine D_askE rfl _ _ (⟨p, by rw [hpt], hpw, by omega, (treeA_eq p).symm, rfl⟩) ?_); simp (config := { maxSteps := 2000000 }) only [go_sem]
  repeat' (first | (refine CW.seqK fun K hK => ?_) | (refine CW.block ?_) | ((first | refine CW.reg hΓ (by rw [hκ]; rfl) ?_ | refine CW.drw hΓ Try_mixed (by rw [hκ]; rfl) (by kernel_rfl) (fun B hB => ?_)); simp (config := { maxSteps := 2000000 }) only [go_sem, treeA_eq]) | ((repeat ((fail_if_success (refine hK _ ?_)); clear hK K)); refine hK _ ?_; clear hK K) | ((first | refine CW.skip ?_ | refine CW.exit ?_ | refine CW.ret ?_); simp only [thenA_normal, thenA_exit, thenA_ret, inBlockA_normal, inBlockA_exit, inBlockA_ret, if_true, if_false, Nat.reduceEqDiff, reduceCtorEq, retQ_ret, retQ_normal, retE_ret, retE_normal]) | (refine CW.cond (by simp only [upd_at, if_true, if_false, Nat.reduceEqDiff]; rfl) (fun hb => ?_) (fun hb => ?_) <;> (try simp only [decide_eq_true_eq, decide_eq_false_iff_not, Bool.not_eq_true', Bool.not_eq_false', reduceCtorEq] at hb)) | ((first | refine W_brs (fun hc => ?_) (fun hc => ?_) | refine D_brs (fun hc => ?_) (fun hc => ?_)) <;> (try simp only [Bool.not_eq_true, Bool.not_eq_false] at hc) <;> (try simp (config := { maxSteps := 2000000 }) only [go_sem, hc, treeA_eq]) <;> (try simp only [decide_eq_true_eq, decide_eq_false_iff_not, Bool.not_eq_true', Bool.not_eq_false'] at hc)) | (refine And.intro (by omega) ?_) | (refine And.intro (by simp only [List.length_append, List.length_map, List.length_take, List.length_drop, List.length_cons, List.length_nil, List.length_replicate]; omega) ?_) | (refine ex_idx (by omega) ?_) | (refine And.intro (by rw [← hB]; kernel_rfl) ?_) | fail)
  generalize ht : out[k] = t at *
  have hset : (out.map oints).set k (own (List.map I p.steps)) = out.map oints := by
    rw [show own (List.map I p.steps) = (out.map oints)[k]'(by simpa using hkl) by simp [oints, hpt, ht], List.set_getElem_self]
  refine CW.loop (ι := Nat) (fun a => [(3, oorows (midL out t (3 * a) 0)), (4, I k), (5, .pbox [I p.op, .sh (p.subs.map treeA)]), (24, I a)]) (fun a => a ≤ 4) (fun a => 4 - a) 0 ?_ ?_
  · refine ⟨?_, by omega⟩
    rw [midL_zero, roundL]
    (simp only [LeL, envOf, upd_at, if_true, if_false, Nat.reduceEqDiff, true_or, and_true, true_and, and_self]; (try simp [view, viewL_map]); (try omega))
    exact hset.symm
  rintro a ha
  simp only [envOf]
  repeat' (first | (refine CW.seqK fun K hK => ?_) | (refine CW.block ?_) | ((first | refine CW.reg hΓ (by rw [hκ]; rfl) ?_ | refine CW.drw hΓ Try_mixed (by rw [hκ]; rfl) (by kernel_rfl) (fun B hB => ?_)); simp (config := { maxSteps := 2000000 }) only [go_sem]) | ((repeat ((fail_if_success (refine hK _ ?_)); clear hK K)); refine hK _ ?_; clear hK K) | ((first | refine CW.skip ?_ | refine CW.exit ?_ | refine CW.ret ?_); simp only [thenA_normal, thenA_exit, thenA_ret, inBlockA_normal, inBlockA_exit, inBlockA_ret, if_true, if_false, Nat.reduceEqDiff, reduceCtorEq, retQ_ret, retQ_normal, retE_ret, retE_normal]) | (refine CW.cond (by simp only [upd_at, if_true, if_false, Nat.reduceEqDiff]; rfl) (fun hb => ?_) (fun hb => ?_) <;> (try simp only [decide_eq_true_eq, decide_eq_false_iff_not, Bool.not_eq_true', Bool.not_eq_false', reduceCtorEq] at hb)) | ((first | refine W_brs (fun hc => ?_) (fun hc => ?_) | refine D_brs (fun hc => ?_) (fun hc => ?_)) <;> (try simp only [Bool.not_eq_true, Bool.not_eq_false] at hc) <;> (try simp (config := { maxSteps := 2000000 }) only [go_sem, hc]) <;> (try simp only [decide_eq_true_eq, decide_eq_false_iff_not, Bool.not_eq_true', Bool.not_eq_false'] at hc)) | (refine And.intro (by omega) ?_) | (refine And.intro (by simp only [List.length_append, List.length_map, List.length_take, List.length_drop, List.length_cons, List.length_nil, List.length_replicate]; omega) ?_) | (refine ex_idx (by omega) ?_) | (refine And.intro (by rw [← hB]; kernel_rfl) ?_) | fail)
  rotate_left
  · have ha4 : a = 4 := by omega
    subst ha4
    have h12 : midL out t (3 * 4) 0 = allTo x.steps (k + 1) := by rw [midL_zero, hsucc]
    rw [h12]
    exact ⟨k + 1, by (simp only [LeL, envOf, upd_at, if_true, if_false, Nat.reduceEqDiff, true_or, and_true, true_and, and_self]; (try simp [view, viewL_map]); (try omega)), by rw [hsucc]; have := (roundL_prefix out t 12).length_le; omega, by omega⟩
  have ha3 : a < 4 := by omega
  refine CW.loop (ι := Nat) (fun c => [(3, oorows (midL out t (3 * a + c) 0)), (4, I k), (5, .pbox [I p.op, .sh (p.subs.map treeA)]), (6, I a), (24, I a), (7, I ((16 + c : Nat) : Int))]) (fun c => c ≤ 3) (fun c => 3 - c) 0 ?_ ?_
  · exact ⟨by (simp only [LeL, envOf, upd_at, if_true, if_false, Nat.reduceEqDiff, true_or, and_true, true_and, and_self]; (try simp [view, viewL_map]); (try omega)), by omega⟩
  rintro c hc
  simp only [envOf]
  repeat' (first | (refine CW.seqK fun K hK => ?_) | (refine CW.block ?_) | ((first | refine CW.reg hΓ (by rw [hκ]; rfl) ?_ | refine CW.drw hΓ Try_mixed (by rw [hκ]; rfl) (by kernel_rfl) (fun B hB => ?_)); simp (config := { maxSteps := 2000000 }) only [go_sem]) | ((repeat ((fail_if_success (refine hK _ ?_)); clear hK K)); refine hK _ ?_; clear hK K) | ((first | refine CW.skip ?_ | refine CW.exit ?_ | refine CW.ret ?_); simp only [thenA_normal, thenA_exit, thenA_ret, inBlockA_normal, inBlockA_exit, inBlockA_ret, if_true, if_false, Nat.reduceEqDiff, reduceCtorEq, retQ_ret, retQ_normal, retE_ret, retE_normal]) | (refine CW.cond (by simp only [upd_at, if_true, if_false, Nat.reduceEqDiff]; rfl) (fun hb => ?_) (fun hb => ?_) <;> (try simp only [decide_eq_true_eq, decide_eq_false_iff_not, Bool.not_eq_true', Bool.not_eq_false', reduceCtorEq] at hb)) | ((first | refine W_brs (fun hc => ?_) (fun hc => ?_) | refine D_brs (fun hc => ?_) (fun hc => ?_)) <;> (try simp only [Bool.not_eq_true, Bool.not_eq_false] at hc) <;> (try simp (config := { maxSteps := 2000000 }) only [go_sem, hc]) <;> (try simp only [decide_eq_true_eq, decide_eq_false_iff_not, Bool.not_eq_true', Bool.not_eq_false'] at hc)) | (refine And.intro (by omega) ?_) | (refine And.intro (by simp only [List.length_append, List.length_map, List.length_take, List.length_drop, List.length_cons, List.length_nil, List.length_replicate]; omega) ?_) | (refine ex_idx (by omega) ?_) | (refine And.intro (by rw [← hB]; kernel_rfl) ?_) | fail)
  rotate_left
  · have hc3 : c = 3 := by omega
    subst hc3
    exact ⟨a + 1, by rw [show 3 * a + 3 = 3 * (a + 1) by omega]; (simp only [LeL, envOf, upd_at, if_true, if_false, Nat.reduceEqDiff, true_or, and_true, true_and, and_self]; (try simp [view, viewL_map]); (try omega)), by omega, by omega⟩
  have hc2 : c < 3 := by omega
  have hm3 : (3 * a + c) / 3 = a := by omega
  have hmm : (3 * a + c) % 3 = c := by omega
  have hmid := fun j => midL_bd hw hl hnd hin htl (3 * a + c) j
  have hact : ((16 + c : Nat) : Int) = 16 + (c : Int) := by omega
  have hps0 : partsOfL ((3 * a + c) / 3) (16 + (((3 * a + c) % 3 : Nat) : Int)) t = partsL a ((16 + c : Nat) : Int) p := by rw [hm3, hmm, ← hpt, partsOfL_steps hpw, hact]
  have hpb : ∀ s ∈ partsL a ((16 + c : Nat) : Int) p, s.length ≤ 1601 := fun s hs => by
    have h3 := (htl.parts hw (atom := (3 * a + c) / 3) (act := 16 + (((3 * a + c) % 3 : Nat) : Int)) (by omega) (by rw [hps0]; exact hs)).len
    have h4 := Nat.mul_le_mul hl hl
    omega
  have hpc := partsL_count (atom := a) (act := ((16 + c : Nat) : Int)) (by omega) p
  have hpa := actsX_len p
  (first | refine W_askP rfl _ (⟨p, a, _, by rw [treeA_eq], hpw, by omega, ha3, by omega, by omega, rfl⟩) ?_ | refine D_askP rfl _ (⟨p, a, _, by rw [treeA_eq], hpw, by omega, ha3, by omega, by omega, rfl⟩) ?_); simp (config := { maxSteps := 2000000 }) only [go_sem]
  generalize hps : partsL a ((16 + c : Nat) : Int) p = ps at *
  have hmj : ∀ j, midL out t (3 * a + c) j = addNew (roundL out t (3 * a + c)) (ps.take j) := fun j => by rw [midL, hps0]
  have hend : midL out t (3 * a + c) ps.length = midL out t (3 * a + (c + 1)) 0 := by rw [hmj, List.take_length, midL_zero, ← Nat.add_assoc, roundL, hps0]
  repeat' (first | (refine CW.seqK fun K hK => ?_) | (refine CW.block ?_) | ((first | refine CW.reg hΓ (by rw [hκ]; rfl) ?_ | refine CW.drw hΓ Try_mixed (by rw [hκ]; rfl) (by kernel_rfl) (fun B hB => ?_)); simp (config := { maxSteps := 2000000 }) only [go_sem]) | ((repeat ((fail_if_success (refine hK _ ?_)); clear hK K)); refine hK _ ?_; clear hK K) | ((first | refine CW.skip ?_ | refine CW.exit ?_ | refine CW.ret ?_); simp only [thenA_normal, thenA_exit, thenA_ret, inBlockA_normal, inBlockA_exit, inBlockA_ret, if_true, if_false, Nat.reduceEqDiff, reduceCtorEq, retQ_ret, retQ_normal, retE_ret, retE_normal]) | (refine CW.cond (by simp only [upd_at, if_true, if_false, Nat.reduceEqDiff]; rfl) (fun hb => ?_) (fun hb => ?_) <;> (try simp only [decide_eq_true_eq, decide_eq_false_iff_not, Bool.not_eq_true', Bool.not_eq_false', reduceCtorEq] at hb)) | ((first | refine W_brs (fun hc => ?_) (fun hc => ?_) | refine D_brs (fun hc => ?_) (fun hc => ?_)) <;> (try simp only [Bool.not_eq_true, Bool.not_eq_false] at hc) <;> (try simp (config := { maxSteps := 2000000 }) only [go_sem, hc]) <;> (try simp only [decide_eq_true_eq, decide_eq_false_iff_not, Bool.not_eq_true', Bool.not_eq_false'] at hc)) | (refine And.intro (by omega) ?_) | (refine And.intro (by simp only [List.length_append, List.length_map, List.length_take, List.length_drop, List.length_cons, List.length_nil, List.length_replicate]; omega) ?_) | (refine ex_idx (by omega) ?_) | (refine And.intro (by rw [← hB]; kernel_rfl) ?_) | fail)
  refine CW.loop (ι := Nat) (fun j => [(3, oorows (midL out t (3 * a + c) j)), (4, I k), (5, .pbox [I p.op, .sh (p.subs.map treeA)]), (6, I a), (24, I a), (7, I ((16 + c : Nat) : Int)), (34, .own (restL ps j)), (35, I ps.length), (36, I j)]) (fun j => j ≤ ps.length) (fun j => ps.length - j) 0 ?_ ?_
  · refine ⟨?_, by omega⟩
    rw [restL_zero]
    (simp only [LeL, envOf, upd_at, if_true, if_false, Nat.reduceEqDiff, true_or, and_true, true_and, and_self]; (try simp [view, viewL_map]); (try omega))
  rintro j hj
  simp only [envOf]
  by_cases hjl : j < ps.length
  case neg =>
    have hje : j = ps.length := by omega
    subst hje
    repeat' (first | (refine CW.seqK fun K hK => ?_) | (refine CW.block ?_) | ((first | refine CW.reg hΓ (by rw [hκ]; rfl) ?_ | refine CW.drw hΓ Try_mixed (by rw [hκ]; rfl) (by kernel_rfl) (fun B hB => ?_)); simp (config := { maxSteps := 2000000 }) only [go_sem]) | ((repeat ((fail_if_success (refine hK _ ?_)); clear hK K)); refine hK _ ?_; clear hK K) | ((first | refine CW.skip ?_ | refine CW.exit ?_ | refine CW.ret ?_); simp only [thenA_normal, thenA_exit, thenA_ret, inBlockA_normal, inBlockA_exit, inBlockA_ret, if_true, if_false, Nat.reduceEqDiff, reduceCtorEq, retQ_ret, retQ_normal, retE_ret, retE_normal]) | (refine CW.cond (by simp only [upd_at, if_true, if_false, Nat.reduceEqDiff]; rfl) (fun hb => ?_) (fun hb => ?_) <;> (try simp only [decide_eq_true_eq, decide_eq_false_iff_not, Bool.not_eq_true', Bool.not_eq_false', reduceCtorEq] at hb)) | ((first | refine W_brs (fun hc => ?_) (fun hc => ?_) | refine D_brs (fun hc => ?_) (fun hc => ?_)) <;> (try simp only [Bool.not_eq_true, Bool.not_eq_false] at hc) <;> (try simp (config := { maxSteps := 2000000 }) only [go_sem, hc]) <;> (try simp only [decide_eq_true_eq, decide_eq_false_iff_not, Bool.not_eq_true', Bool.not_eq_false'] at hc)) | (refine And.intro (by omega) ?_) | (refine And.intro (by simp only [List.length_append, List.length_map, List.length_take, List.length_drop, List.length_cons, List.length_nil, List.length_replicate]; omega) ?_) | (refine ex_idx (by omega) ?_) | (refine And.intro (by rw [← hB]; kernel_rfl) ?_) | fail)
    · omega
    · refine ⟨c + 1, ?_, by omega, by omega⟩
      rw [hend]
      (simp only [LeL, envOf, upd_at, if_true, if_false, Nat.reduceEqDiff, true_or, and_true, true_and, and_self]; (try simp [view, viewL_map]); (try omega))
  have hstep : midL out t (3 * a + c) (j + 1) = add1 (midL out t (3 * a + c) j) ps[j] := by rw [hmj, hmj, addNew_take _ _ hjl]
  obtain ⟨hb1, hb2⟩ := hmid j
  have hb3 := hpb _ (List.getElem_mem hjl)
  have hrl := restL_len ps hj
  have hrg : ∀ h : j < (restL ps j).length, (restL ps j)[j] = own (List.map I ps[j]) := fun h => by have := restL_get ps hjl; rw [List.getElem?_eq_getElem h] at this; injection this
  have hrs := restL_set ps hjl
  repeat' (first | (refine CW.seqK fun K hK => ?_) | (refine CW.block ?_) | ((first | refine CW.reg hΓ (by rw [hκ]; rfl) ?_ | refine CW.drw hΓ Try_mixed (by rw [hκ]; rfl) (by kernel_rfl) (fun B hB => ?_)); simp (config := { maxSteps := 2000000 }) only [go_sem]) | ((repeat ((fail_if_success (refine hK _ ?_)); clear hK K)); refine hK _ ?_; clear hK K) | ((first | refine CW.skip ?_ | refine CW.exit ?_ | refine CW.ret ?_); simp only [thenA_normal, thenA_exit, thenA_ret, inBlockA_normal, inBlockA_exit, inBlockA_ret, if_true, if_false, Nat.reduceEqDiff, reduceCtorEq, retQ_ret, retQ_normal, retE_ret, retE_normal]) | (refine CW.cond (by simp only [upd_at, if_true, if_false, Nat.reduceEqDiff]; rfl) (fun hb => ?_) (fun hb => ?_) <;> (try simp only [decide_eq_true_eq, decide_eq_false_iff_not, Bool.not_eq_true', Bool.not_eq_false', reduceCtorEq] at hb)) | ((first | refine W_brs (fun hc => ?_) (fun hc => ?_) | refine D_brs (fun hc => ?_) (fun hc => ?_)) <;> (try simp only [Bool.not_eq_true, Bool.not_eq_false] at hc) <;> (try simp (config := { maxSteps := 2000000 }) only [go_sem, hc]) <;> (try simp only [decide_eq_true_eq, decide_eq_false_iff_not, Bool.not_eq_true', Bool.not_eq_false'] at hc)) | (refine And.intro (by omega) ?_) | (refine And.intro (by simp only [List.length_append, List.length_map, List.length_take, List.length_drop, List.length_cons, List.length_nil, List.length_replicate]; omega) ?_) | (refine ex_idx (by omega) ?_) | (refine And.intro (by rw [← hB]; kernel_rfl) ?_) | fail)
  rotate_left
  · omega
  simp (config := { maxSteps := 2000000 }) only [go_sem, hrg]
  repeat' (first | (refine CW.seqK fun K hK => ?_) | (refine CW.block ?_) | ((first | refine CW.reg hΓ (by rw [hκ]; rfl) ?_ | refine CW.drw hΓ Try_mixed (by rw [hκ]; rfl) (by kernel_rfl) (fun B hB => ?_)); simp (config := { maxSteps := 2000000 }) only [go_sem]) | ((repeat ((fail_if_success (refine hK _ ?_)); clear hK K)); refine hK _ ?_; clear hK K) | ((first | refine CW.skip ?_ | refine CW.exit ?_ | refine CW.ret ?_); simp only [thenA_normal, thenA_exit, thenA_ret, inBlockA_normal, inBlockA_exit, inBlockA_ret, if_true, if_false, Nat.reduceEqDiff, reduceCtorEq, retQ_ret, retQ_normal, retE_ret, retE_normal]) | (refine CW.cond (by simp only [upd_at, if_true, if_false, Nat.reduceEqDiff]; rfl) (fun hb => ?_) (fun hb => ?_) <;> (try simp only [decide_eq_true_eq, decide_eq_false_iff_not, Bool.not_eq_true', Bool.not_eq_false', reduceCtorEq] at hb)) | ((first | refine W_brs (fun hc => ?_) (fun hc => ?_) | refine D_brs (fun hc => ?_) (fun hc => ?_)) <;> (try simp only [Bool.not_eq_true, Bool.not_eq_false] at hc) <;> (try simp (config := { maxSteps := 2000000 }) only [go_sem, hc]) <;> (try simp only [decide_eq_true_eq, decide_eq_false_iff_not, Bool.not_eq_true', Bool.not_eq_false'] at hc)) | (refine And.intro (by omega) ?_) | (refine And.intro (by simp only [List.length_append, List.length_map, List.length_take, List.length_drop, List.length_cons, List.length_nil, List.length_replicate]; omega) ?_) | (refine ex_idx (by omega) ?_) | (refine And.intro (by rw [← hB]; kernel_rfl) ?_) | fail)
  (first | refine W_askP rfl _ (⟨midL out t (3 * a + c) j, ps[j], rfl, by omega, fun s hs => Nat.le_trans (hb2 s hs) (by omega), by omega, rfl⟩) ?_ | refine D_askP rfl _ (⟨midL out t (3 * a + c) j, ps[j], rfl, by omega, fun s hs => Nat.le_trans (hb2 s hs) (by omega), by omega, rfl⟩) ?_); simp (config := { maxSteps := 2000000 }) only [go_sem]
  repeat' (first | (refine CW.seqK fun K hK => ?_) | (refine CW.block ?_) | ((first | refine CW.reg hΓ (by rw [hκ]; rfl) ?_ | refine CW.drw hΓ Try_mixed (by rw [hκ]; rfl) (by kernel_rfl) (fun B hB => ?_)); simp (config := { maxSteps := 2000000 }) only [go_sem]) | ((repeat ((fail_if_success (refine hK _ ?_)); clear hK K)); refine hK _ ?_; clear hK K) | ((first | refine CW.skip ?_ | refine CW.exit ?_ | refine CW.ret ?_); simp only [thenA_normal, thenA_exit, thenA_ret, inBlockA_normal, inBlockA_exit, inBlockA_ret, if_true, if_false, Nat.reduceEqDiff, reduceCtorEq, retQ_ret, retQ_normal, retE_ret, retE_normal]) | (refine CW.cond (by simp only [upd_at, if_true, if_false, Nat.reduceEqDiff]; rfl) (fun hb => ?_) (fun hb => ?_) <;> (try simp only [decide_eq_true_eq, decide_eq_false_iff_not, Bool.not_eq_true', Bool.not_eq_false', reduceCtorEq] at hb)) | ((first | refine W_brs (fun hc => ?_) (fun hc => ?_) | refine D_brs (fun hc => ?_) (fun hc => ?_)) <;> (try simp only [Bool.not_eq_true, Bool.not_eq_false] at hc) <;> (try simp (config := { maxSteps := 2000000 }) only [go_sem, hc]) <;> (try simp only [decide_eq_true_eq, decide_eq_false_iff_not, Bool.not_eq_true', Bool.not_eq_false'] at hc)) | (refine And.intro (by omega) ?_) | (refine And.intro (by simp only [List.length_append, List.length_map, List.length_take, List.length_drop, List.length_cons, List.length_nil, List.length_replicate]; omega) ?_) | (refine ex_idx (by omega) ?_) | (refine And.intro (by rw [← hB]; kernel_rfl) ?_) | fail)
  · have hni : ¬ ps[j] ∈ midL out t (3 * a + c) j := idx_has.1 (by assumption)
    refine ⟨j + 1, ?_, by omega, by omega⟩
    rw [hstep, add1, if_neg hni]
    (simp only [LeL, envOf, upd_at, if_true, if_false, Nat.reduceEqDiff, true_or, and_true, true_and, and_self]; (try simp [view, viewL_map]); (try omega))
    exact hrs.symm
  · have hin2 : ps[j] ∈ midL out t (3 * a + c) j := by
      have hn : ¬ idxF (fun a => decide (ps[j] = a)) 0 (midL out t (3 * a + c) j) < 0 := by assumption
      rw [idx_has] at hn
      simpa using hn
    refine ⟨j + 1, ?_, by omega, by omega⟩
    rw [hstep, add1, if_pos hin2]
    (simp only [LeL, envOf, upd_at, if_true, if_false, Nat.reduceEqDiff, true_or, and_true, true_and, and_self]; (try simp [view, viewL_map]); (try omega))
    exact hrs.symm

def allPartsIR (args : List AV) (r : AV) : Prop := ∃ e : List Int, args = [ints e] ∧ e.length ≤ 1048576 ∧ r = oorows (allD e)
theorem implAllParts_ctr : CtrOK Try.prog 32 (pureC allPartsIR) := by
  refine ctr_pure' Try.func32 rfl rfl Try.ntmps32 ?_
  rintro _ _ ⟨e, rfl, hl, rfl⟩
  refine ⟨by simp, fun κ hκ => ?_⟩
  have hbig := bigW_gt
  rw [argEnv_eq]
  simp only [envA]
  have hΓ := ctxOf_ok (P := Try.prog) (L := [(50, pureC katValidR), (78, pureC allOR)]) (by simp only [List.mem_cons, List.not_mem_nil, or_false, forall_eq_or_imp, forall_eq]; exact ⟨implKatValid_ctr, allPartsO_ctr⟩)
  repeat' (first | (refine CW.seqK fun K hK => ?_) | (refine CW.block ?_) | ((first | refine CW.reg hΓ (by rw [hκ]; rfl) ?_ | refine CW.drw hΓ Try_mixed (by rw [hκ]; rfl) (by kernel_rfl) (fun B hB => ?_)); simp (config := { maxSteps := 2000000 }) only [go_sem]) | ((repeat ((fail_if_success (refine hK _ ?_)); clear hK K)); refine hK _ ?_; clear hK K) | ((first | refine CW.skip ?_ | refine CW.exit ?_ | refine CW.ret ?_); simp only [thenA_normal, thenA_exit, thenA_ret, inBlockA_normal, inBlockA_exit, inBlockA_ret, if_true, if_false, Nat.reduceEqDiff, reduceCtorEq, retQ_ret, retQ_normal, retE_ret, retE_normal]) | (refine CW.cond (by simp only [upd_at, if_true, if_false, Nat.reduceEqDiff]; rfl) (fun hb => ?_) (fun hb => ?_) <;> (try simp only [decide_eq_true_eq, decide_eq_false_iff_not, Bool.not_eq_true', Bool.not_eq_false', reduceCtorEq] at hb)) | ((first | refine W_brs (fun hc => ?_) (fun hc => ?_) | refine D_brs (fun hc => ?_) (fun hc => ?_)) <;> (try simp only [Bool.not_eq_true, Bool.not_eq_false] at hc) <;> (try simp (config := { maxSteps := 2000000 }) only [go_sem, hc]) <;> (try simp only [decide_eq_true_eq, decide_eq_false_iff_not, Bool.not_eq_true', Bool.not_eq_false'] at hc)) | (refine And.intro (by omega) ?_) | (refine And.intro (by simp only [List.length_append, List.length_map, List.length_take, List.length_drop, List.length_cons, List.length_nil, List.length_replicate]; omega) ?_) | (refine ex_idx (by omega) ?_) | (refine And.intro (by rw [← hB]; kernel_rfl) ?_) | fail)
  (first | refine W_askP rfl _ (⟨e, rfl, by omega, rfl⟩) ?_ | refine D_askP rfl _ (⟨e, rfl, by omega, rfl⟩) ?_); simp (config := { maxSteps := 2000000 }) only [go_sem]
  repeat' (first | (refine CW.seqK fun K hK => ?_) | (refine CW.block ?_) | ((first | refine CW.reg hΓ (by rw [hκ]; rfl) ?_ | refine CW.drw hΓ Try_mixed (by rw [hκ]; rfl) (by kernel_rfl) (fun B hB => ?_)); simp (config := { maxSteps := 2000000 }) only [go_sem]) | ((repeat ((fail_if_success (refine hK _ ?_)); clear hK K)); refine hK _ ?_; clear hK K) | ((first | refine CW.skip ?_ | refine CW.exit ?_ | refine CW.ret ?_); simp only [thenA_normal, thenA_exit, thenA_ret, inBlockA_normal, inBlockA_exit, inBlockA_ret, if_true, if_false, Nat.reduceEqDiff, reduceCtorEq, retQ_ret, retQ_normal, retE_ret, retE_normal]) | (refine CW.cond (by simp only [upd_at, if_true, if_false, Nat.reduceEqDiff]; rfl) (fun hb => ?_) (fun hb => ?_) <;> (try simp only [decide_eq_true_eq, decide_eq_false_iff_not, Bool.not_eq_true', Bool.not_eq_false', reduceCtorEq] at hb)) | ((first | refine W_brs (fun hc => ?_) (fun hc => ?_) | refine D_brs (fun hc => ?_) (fun hc => ?_)) <;> (try simp only [Bool.not_eq_true, Bool.not_eq_false] at hc) <;> (try simp (config := { maxSteps := 2000000 }) only [go_sem, hc]) <;> (try simp only [decide_eq_true_eq, decide_eq_false_iff_not, Bool.not_eq_true', Bool.not_eq_false'] at hc)) | (refine And.intro (by omega) ?_) | (refine And.intro (by simp only [List.length_append, List.length_map, List.length_take, List.length_drop, List.length_cons, List.length_nil, List.length_replicate]; omega) ?_) | (refine ex_idx (by omega) ?_) | (refine And.intro (by rw [← hB]; kernel_rfl) ?_) | fail)
  · have hk := ‹katB e = false›
    rw [allD_no hk]
    simp [Try.results32, RetOK, RetP, backA, upd_at, plainB, getP, isOwn, anyOwn, isP]
  · have hk := ‹katB e = true›
    obtain ⟨x, hw, rfl, h40⟩ := katB_tree hk
    (first | refine W_askP rfl _ (⟨x, rfl, hw, h40, rfl⟩) ?_ | refine D_askP rfl _ (⟨x, rfl, hw, h40, rfl⟩) ?_); simp (config := { maxSteps := 2000000 }) only [go_sem]
    repeat' (first | (refine CW.seqK fun K hK => ?_) | (refine CW.block ?_) | ((first | refine CW.reg hΓ (by rw [hκ]; rfl) ?_ | refine CW.drw hΓ Try_mixed (by rw [hκ]; rfl) (by kernel_rfl) (fun B hB => ?_)); simp (config := { maxSteps := 2000000 }) only [go_sem]) | ((repeat ((fail_if_success (refine hK _ ?_)); clear hK K)); refine hK _ ?_; clear hK K) | ((first | refine CW.skip ?_ | refine CW.exit ?_ | refine CW.ret ?_); simp only [thenA_normal, thenA_exit, thenA_ret, inBlockA_normal, inBlockA_exit, inBlockA_ret, if_true, if_false, Nat.reduceEqDiff, reduceCtorEq, retQ_ret, retQ_normal, retE_ret, retE_normal]) | (refine CW.cond (by simp only [upd_at, if_true, if_false, Nat.reduceEqDiff]; rfl) (fun hb => ?_) (fun hb => ?_) <;> (try simp only [decide_eq_true_eq, decide_eq_false_iff_not, Bool.not_eq_true', Bool.not_eq_false', reduceCtorEq] at hb)) | ((first | refine W_brs (fun hc => ?_) (fun hc => ?_) | refine D_brs (fun hc => ?_) (fun hc => ?_)) <;> (try simp only [Bool.not_eq_true, Bool.not_eq_false] at hc) <;> (try simp (config := { maxSteps := 2000000 }) only [go_sem, hc]) <;> (try simp only [decide_eq_true_eq, decide_eq_false_iff_not, Bool.not_eq_true', Bool.not_eq_false'] at hc)) | (refine And.intro (by omega) ?_) | (refine And.intro (by simp only [List.length_append, List.length_map, List.length_take, List.length_drop, List.length_cons, List.length_nil, List.length_replicate]; omega) ?_) | (refine ex_idx (by omega) ?_) | (refine And.intro (by rw [← hB]; kernel_rfl) ?_) | fail)
    rw [allD_yes hk]
    simp [Try.results32, RetOK, RetP, backA, upd_at, plainB, getP, isOwn, anyOwn, isP]

theorem allD_bd (e : List Int) : (allD e).length ≤ 1048576 ∧ ∀ x ∈ allD e, x.length ≤ 1048576 := by
  cases hk : katB e with
  | false => rw [allD_no hk]; simp
  | true =>
    obtain ⟨x, hw, rfl, h40⟩ := katB_tree hk
    obtain ⟨hfa, hln, hps0⟩ := allL_facts hw h40
    rw [allD_yes hk]
    exact ⟨by omega, fun t ht => by have := (hfa t ht).2; omega⟩

end Go.Proofs.Ytkibemgdncncoaa
