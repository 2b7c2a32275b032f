/- The reference's PartsOf, BeginsWith, TraceValid and AllParts, walked by the engine. -/
import Derived.Test.YtcpfflnhbcbmnaaGrpE
import Derived.Test.YtcpfflnhbcbmnaaGrpC
namespace Go.Proofs.Ytcpfflnhbcbmnaa
set_option linter.unusedSimpArgs false
set_option linter.unusedVariables false
set_option maxRecDepth 8000
set_option maxHeartbeats 2000000
open Go Go.RowKit AV

attribute [local go_sem] wpOpsD_cons wpOpsD_nil KOpsD_app D_ret D_get D_peek D_need D_ex D_br_t D_br_f D_fail D_idx_map D_idx_zero D_idx_succ D_getP_nil D_getP_own D_getP_box tg wpOpsA_cons wpOpsA_nil KOps_app rdG rdO rdX rdMv rdTake rdBor rdBin binV rdUn rdConv rdPick rdLoad rdStore stW rdStoreA rdVal rdParts srcW rdField rdIndex rdLen rdBuildS rdBuild rdMakeS rdBd rdSlice rdExtract rdFieldV rdBox rdAlloc rdSrc rdDst rdApp rdArg rdArgs rdCallP rdCall rdSkip rdCallX rdCallE rdCallY rdCallT rdBin2 isNilEq rdNilEq bigW_sub bigW_le rdApp2 rdSrcO rdNil rdClear rdMakeFn isT_no isT_nil isT_cons takeC_eff takeC_tk effC_tk pureC_tk rdTake Option.isSome_none Bool.and_self rdGive toBox backW isE_no isE_nil isE_cons effC_eff pureC_eff effC_rel pureC_rel id takenL takesOf opT opTs partW srcs foldP fzW slotsDistinct cst in64 nat64 W_ret W_get W_peek W_need W_ex W_br_t W_br_f W_fail apps killIf_t killIf_f app_set_junk app_mod_junk app_set_num app_mod_num app_set_bool app_mod_bool app_set_sh app_mod_sh app_set_own app_mod_own app_set_box app_mod_box app_set_pbox app_mod_pbox app_set_pcell app_mod_pcell app_set_alias app_mod_alias app_set_valias app_mod_valias app_set_addr app_mod_addr app_set_fn app_mod_fn app_set_agg app_mod_agg app_set_win app_mod_win app_set_pin app_mod_pin app_set_omap app_mod_omap app_set_pmap app_mod_pmap app_set_oiter app_mod_oiter rdLenM rdMapOf rdLook rdRange rdPMap rdEntry rdMapUpd rdUpdAt noIt app_set_tup app_mod_tup upd_at kill_upd kill_nil killV isOwn anyOwn isP allP noSh allN one allOne head view viewL getP setP kids withKids blk viewL_map noSh_ints List.map_map thenA_normal thenA_normal' ne_eq reduceCtorEq not_false_eq_true not_true_eq_false true_and and_true and_false false_and if_true if_false Bool.false_eq_true Bool.true_eq_false Nat.reduceAdd Nat.reduceLT Nat.reduceLeDiff Nat.reduceEqDiff List.append_nil List.nil_append List.cons_append List.contains_nil List.contains_cons Nat.reduceBEq Bool.or_false Bool.or_true Bool.false_or Bool.true_or Bool.not_true Bool.not_false List.getElem?_toArray List.getElem?_cons_zero List.getElem?_cons_succ Option.bind_some Option.bind_none List.length_map List.length_cons List.length_nil List.map_cons List.map_nil List.dropLast List.getLast? List.getLast List.getD_cons_zero List.getD_cons_succ List.set_cons_zero List.set_cons_succ List.replicate List.filterMap_cons List.filterMap_nil List.foldl_cons List.foldl_nil List.nodup_cons List.nodup_nil List.not_mem_nil List.mem_cons or_false false_or Option.some.injEq AV.box.injEq AV.own.injEq AV.agg.injEq exists_eq_left' exists_eq_left exists_eq_right exists_eq exists_eq' exists_and_left Option.getD_some List.getElem?_map Option.map_eq_some_iff W_idx_map W_idx_zero W_idx_succ W_getP_nil W_getP_own W_getP_box List.any_cons List.all_cons List.all_nil List.any_nil Int.toNat_natCast Nat.cast_ofNat_Int Prod.mk.injEq and_self forall_eq forall_eq_or_imp implies_true forall_const Int.toNat_zero Int.toNat_one not_imp_self decide_true decide_false false_imp_iff cast_div cast_mod allN_oints allP_rows allP_ints view_I view_ints view_oo Bool.and_true Bool.true_and Bool.and_false Bool.false_and Option.isSome_some Int.natCast_nonneg Ty_aggT_3 Ty_szT_3 Ty_zT_3 Ty_inT_3 Ty_kkT_3 Ty_zOf_3 Ty_aggT_4 Ty_szT_4 Ty_zT_4 Ty_boT_4 Ty_zOf_4 Ty_mpT_91 Ty_aggT_22 Ty_szT_22 Ty_zT_22 Ty_slE_22 Ty_slOK_22 Ty_slZ_22 Ty_mpT_22 Ty_aggT_30 Ty_szT_30 Ty_zT_30 Ty_slE_30 Ty_slOK_30 Ty_slZ_30 Ty_mpT_30 Ty_aggT_37 Ty_szT_37 Ty_zT_37 Ty_bPl_37 Ty_stO_37_0 Ty_stO_37_1 Ty_aggT_93 Ty_szT_93 Ty_zT_93 Ty_aggT_110 Ty_szT_110 Ty_zT_110 Ty_slE_110 Ty_slOK_110 Ty_slZ_110 Ty_mpT_110 Ty_aggT_112 Ty_szT_112 Ty_zT_112 Ty_bPl_112 Ty_stO_112_0 Ty_stO_112_1 Ty_aggT_5 Ty_szT_5 Ty_zT_5 Ty_inT_5 Ty_aggT_35 Ty_szT_35 Ty_zT_35 Ty_slE_35 Ty_slOK_35 Ty_slZ_35 Ty_mpT_35 Ty_aggT_103 Ty_szT_103 Ty_zT_103 Ty_bPl_103 Ty_stO_103_0 Ty_stO_103_1

def partsOfSR (args : List AV) (r : AV) : Prop := ∃ (e : List Int) (atom act : Int), args = [ints e, I atom, I act] ∧ e.length ≤ 1048576 ∧ r = rows (partsOfD e atom act)



def begInR (args : List AV) (r : AV) : Prop := ∃ (x : Ex) (atom : Nat), args = [ints x.steps, I atom] ∧ x.wf ∧ x.steps.length ≤ 4096 ∧ atom < 4 ∧ r = I ((begTo atom x.steps 3 : Nat) : Int)
theorem l4Begins_ctr : CtrOK Try.prog 109 (pureC begInR) := by
  refine ctr_pure' Try.func109 rfl rfl Try.ntmps109 ?_
  rintro _ _ ⟨x, atom, rfl, hw, hl, hat, rfl⟩
  refine ⟨by simp, fun κ hκ => ?_⟩
  have hbig := bigW_gt
  rw [argEnv_eq]
  simp only [envA]
  have hΓ := ctxOf_ok (P := Try.prog) (L := [(112, pureC (partsR (4096)))]) (by simp only [List.mem_cons, List.not_mem_nil, or_false, forall_eq_or_imp, forall_eq]; exact l4Parts_ctr)
  repeat' (first | (refine CW.seqK fun K hK => ?_) | (refine CW.block ?_) | ((first | refine CW.reg hΓ (by rw [hκ]; rfl) ?_ | refine CW.drw hΓ Try_mixed (by rw [hκ]; rfl) (by kernel_rfl) (fun B hB => ?_)); simp (config := { maxSteps := 2000000 }) only [go_sem]) | ((repeat ((fail_if_success (refine hK _ ?_)); clear hK K)); refine hK _ ?_; clear hK K) | ((first | refine CW.skip ?_ | refine CW.exit ?_ | refine CW.ret ?_); simp only [xs, if_true, if_false, Nat.reduceEqDiff, reduceCtorEq]) | (refine CW.cond (by simp only [upd_at, if_true, if_false, Nat.reduceEqDiff]; rfl) (fun hb => ?_) (fun hb => ?_) <;> (try simp only [xb, reduceCtorEq] at hb)) | ((first | refine W_brs (fun hc => ?_) (fun hc => ?_) | refine D_brs (fun hc => ?_) (fun hc => ?_)) <;> (try simp only [Bool.not_eq_true, Bool.not_eq_false] at hc) <;> (try simp (config := { maxSteps := 2000000 }) only [go_sem, hc]) <;> (try simp only [xb] at hc)) | (refine And.intro (by omega) ?_) | (refine And.intro (by simp only [xl]; omega) ?_) | (refine ex_idx (by omega) ?_) | (refine And.intro (by rw [← hB]; kernel_rfl) ?_) | fail)
  refine CW.loop (ι := Nat) (fun c => [(0, ints x.steps), (1, I atom), (5, I ((begTo atom x.steps c : Nat) : Int)), (6, I ((16 + c : Nat) : Int))]) (fun c => c ≤ 3) (fun c => 3 - c) 0 ?_ ?_
  · exact ⟨by (simp only [LeL, envOf, upd_at, if_true, if_false, Nat.reduceEqDiff, true_or, and_true, true_and, and_self]; (try simp [view, viewL_map]); (try omega)); simp [begTo, sumB], by omega⟩
  rintro c hc
  simp only [envOf]
  repeat' (first | (refine CW.seqK fun K hK => ?_) | (refine CW.block ?_) | ((first | refine CW.reg hΓ (by rw [hκ]; rfl) ?_ | refine CW.drw hΓ Try_mixed (by rw [hκ]; rfl) (by kernel_rfl) (fun B hB => ?_)); simp (config := { maxSteps := 2000000 }) only [go_sem]) | ((repeat ((fail_if_success (refine hK _ ?_)); clear hK K)); refine hK _ ?_; clear hK K) | ((first | refine CW.skip ?_ | refine CW.exit ?_ | refine CW.ret ?_); simp only [xs, if_true, if_false, Nat.reduceEqDiff, reduceCtorEq]) | (refine CW.cond (by simp only [upd_at, if_true, if_false, Nat.reduceEqDiff]; rfl) (fun hb => ?_) (fun hb => ?_) <;> (try simp only [xb, reduceCtorEq] at hb)) | ((first | refine W_brs (fun hc => ?_) (fun hc => ?_) | refine D_brs (fun hc => ?_) (fun hc => ?_)) <;> (try simp only [Bool.not_eq_true, Bool.not_eq_false] at hc) <;> (try simp (config := { maxSteps := 2000000 }) only [go_sem, hc]) <;> (try simp only [xb] at hc)) | (refine And.intro (by omega) ?_) | (refine And.intro (by simp only [xl]; omega) ?_) | (refine ex_idx (by omega) ?_) | (refine And.intro (by rw [← hB]; kernel_rfl) ?_) | fail)
  · have hc2 : c < 3 := by omega
    have e1 : ((16 + c : Nat) : Int) = 16 + (c : Int) := by omega
    have e2 : ((16 + c : Nat) : Int) - 16 = ((c : Nat) : Int) := by omega
    have hps : partsL atom ((16 + c : Nat) : Int) x = partsOfL atom (16 + (c : Int)) x.steps := by rw [partsOfL_steps hw, e1]
    have hb3 : begTo atom x.steps c < 2 ^ c := sumB_lt _ _
    have h8 : (2 : Nat) ^ c ≤ 4 := by rcases (by omega : c = 0 ∨ c = 1 ∨ c = 2) with rfl | rfl | rfl <;> decide
    obtain ⟨p, hp⟩ : ∃ p : Nat, p = 2 ^ c := ⟨_, rfl⟩
    have e3 : (1 : Int) * 2 ^ c = (p : Int) := by rw [hp]; simp
    rw [← hp] at h8 hb3
    have hsc : begTo atom x.steps (c + 1) = begTo atom x.steps c + (begP atom x.steps c).toNat * 2 ^ c := rfl
    (first | refine W_askP rfl _ (⟨x, atom, _, rfl, hw, by omega, hat, by omega, by omega, rfl⟩) ?_ | refine D_askP rfl _ (⟨x, atom, _, rfl, hw, by omega, hat, by omega, by omega, rfl⟩) ?_); simp (config := { maxSteps := 2000000 }) only [go_sem]
    repeat' (first | (refine CW.seqK fun K hK => ?_) | (refine CW.block ?_) | ((first | refine CW.reg hΓ (by rw [hκ]; rfl) ?_ | refine CW.drw hΓ Try_mixed (by rw [hκ]; rfl) (by kernel_rfl) (fun B hB => ?_)); simp (config := { maxSteps := 2000000 }) only [go_sem, hps, e2, e3]) | ((repeat ((fail_if_success (refine hK _ ?_)); clear hK K)); refine hK _ ?_; clear hK K) | ((first | refine CW.skip ?_ | refine CW.exit ?_ | refine CW.ret ?_); simp only [xs, if_true, if_false, Nat.reduceEqDiff, reduceCtorEq]) | (refine CW.cond (by simp only [upd_at, if_true, if_false, Nat.reduceEqDiff]; rfl) (fun hb => ?_) (fun hb => ?_) <;> (try simp only [xb, reduceCtorEq] at hb)) | ((first | refine W_brs (fun hc => ?_) (fun hc => ?_) | refine D_brs (fun hc => ?_) (fun hc => ?_)) <;> (try simp only [Bool.not_eq_true, Bool.not_eq_false] at hc) <;> (try simp (config := { maxSteps := 2000000 }) only [go_sem, hc, hps, e2, e3]) <;> (try simp only [xb] at hc)) | (refine And.intro (by omega) ?_) | (refine And.intro (by simp only [xl]; omega) ?_) | (refine ex_idx (by omega) ?_) | (refine And.intro (by rw [← hB]; kernel_rfl) ?_) | fail)
    · have hbp : begP atom x.steps c = true := by simp only [begP, ← hps, decide_eq_true_eq]; omega
      rw [hbp, ← hp] at hsc
      refine ⟨c + 1, ?_, by omega, by omega⟩
      rw [hsc]
      (simp only [LeL, envOf, upd_at, if_true, if_false, Nat.reduceEqDiff, true_or, and_true, true_and, and_self]; (try simp [view, viewL_map]); (try omega))
    · have hbp : begP atom x.steps c = false := by simp only [begP, ← hps, decide_eq_false_iff_not]; omega
      rw [hbp] at hsc
      refine ⟨c + 1, ?_, by omega, by omega⟩
      rw [hsc]
      (simp only [LeL, envOf, upd_at, if_true, if_false, Nat.reduceEqDiff, true_or, and_true, true_and, and_self]; (try simp [view, viewL_map]); (try omega))
  · have hc3 : c = 3 := by omega
    subst hc3
    simp [Try.results109, RetOK, RetP, backA, upd_at, plainB, getP, isOwn, anyOwn, isP]

def traceValidR (args : List AV) (r : AV) : Prop := ∃ t : List Int, args = [ints t] ∧ t.length ≤ 1099511627776 ∧ r = .bool (traceOKB t)
theorem specTraceValid_ctr : CtrOK Try.prog 46 (pureC traceValidR) := by
  refine ctr_pure' Try.func46 rfl rfl Try.ntmps46 ?_
  rintro _ _ ⟨t, rfl, hl, rfl⟩
  refine ⟨by simp, fun κ hκ => ?_⟩
  have hbig := bigW_gt
  rw [argEnv_eq]
  simp only [envA]
  have hΓ := ctxOf_ok (P := Try.prog) (L := [(81, pureC l1InR)]) (by simp only [List.mem_cons, List.not_mem_nil, or_false, forall_eq_or_imp, forall_eq]; exact l1In_ctr)
  repeat' (first | (refine CW.seqK fun K hK => ?_) | (refine CW.block ?_) | ((first | refine CW.reg hΓ (by rw [hκ]; rfl) ?_ | refine CW.drw hΓ Try_mixed (by rw [hκ]; rfl) (by kernel_rfl) (fun B hB => ?_)); simp (config := { maxSteps := 2000000 }) only [go_sem]) | ((repeat ((fail_if_success (refine hK _ ?_)); clear hK K)); refine hK _ ?_; clear hK K) | ((first | refine CW.skip ?_ | refine CW.exit ?_ | refine CW.ret ?_); simp only [xs, if_true, if_false, Nat.reduceEqDiff, reduceCtorEq]) | (refine CW.cond (by simp only [upd_at, if_true, if_false, Nat.reduceEqDiff]; rfl) (fun hb => ?_) (fun hb => ?_) <;> (try simp only [xb, reduceCtorEq] at hb)) | ((first | refine W_brs (fun hc => ?_) (fun hc => ?_) | refine D_brs (fun hc => ?_) (fun hc => ?_)) <;> (try simp only [Bool.not_eq_true, Bool.not_eq_false] at hc) <;> (try simp (config := { maxSteps := 2000000 }) only [go_sem, hc]) <;> (try simp only [xb] at hc)) | (refine And.intro (by omega) ?_) | (refine And.intro (by simp only [xl]; omega) ?_) | (refine ex_idx (by omega) ?_) | (refine And.intro (by rw [← hB]; kernel_rfl) ?_) | fail)
  refine CW.loop (ι := Nat) (fun k => [(0, ints t), (3, I k)]) (fun k => k ≤ t.length ∧ trTo t k) (fun k => t.length - k) 0 ?_ ?_
  · exact ⟨by (simp only [LeL, envOf, upd_at, if_true, if_false, Nat.reduceEqDiff, true_or, and_true, true_and, and_self]; (try simp [view, viewL_map]); (try omega)), by omega, trTo_zero t⟩
  rintro k ⟨hk, hr⟩
  simp only [envOf]
  have hnth : ∀ h : k < t.length, nth t k = t[k] := fun h => nth_getElem h
  repeat' (first | (refine CW.seqK fun K hK => ?_) | (refine CW.block ?_) | ((first | refine CW.reg hΓ (by rw [hκ]; rfl) ?_ | refine CW.drw hΓ Try_mixed (by rw [hκ]; rfl) (by kernel_rfl) (fun B hB => ?_)); simp (config := { maxSteps := 2000000 }) only [go_sem]) | ((repeat ((fail_if_success (refine hK _ ?_)); clear hK K)); refine hK _ ?_; clear hK K) | ((first | refine CW.skip ?_ | refine CW.exit ?_ | refine CW.ret ?_); simp only [xs, if_true, if_false, Nat.reduceEqDiff, reduceCtorEq]) | (refine CW.cond (by simp only [upd_at, if_true, if_false, Nat.reduceEqDiff]; rfl) (fun hb => ?_) (fun hb => ?_) <;> (try simp only [xb, reduceCtorEq] at hb)) | ((first | refine W_brs (fun hc => ?_) (fun hc => ?_) | refine D_brs (fun hc => ?_) (fun hc => ?_)) <;> (try simp only [Bool.not_eq_true, Bool.not_eq_false] at hc) <;> (try simp (config := { maxSteps := 2000000 }) only [go_sem, hc]) <;> (try simp only [xb] at hc)) | (refine And.intro (by omega) ?_) | (refine And.intro (by simp only [xl]; omega) ?_) | (refine ex_idx (by omega) ?_) | (refine And.intro (by rw [← hB]; kernel_rfl) ?_) | fail)
  · have hkl : k < t.length := by omega
    have hev : k % 2 = 0 := by omega
    (first | refine W_askP rfl _ (⟨_, _, _, rfl, rfl⟩) ?_ | refine D_askP rfl _ (⟨_, _, _, rfl, rfl⟩) ?_); simp (config := { maxSteps := 2000000 }) only [go_sem]
    repeat' (first | (refine CW.seqK fun K hK => ?_) | (refine CW.block ?_) | ((first | refine CW.reg hΓ (by rw [hκ]; rfl) ?_ | refine CW.drw hΓ Try_mixed (by rw [hκ]; rfl) (by kernel_rfl) (fun B hB => ?_)); simp (config := { maxSteps := 2000000 }) only [go_sem]) | ((repeat ((fail_if_success (refine hK _ ?_)); clear hK K)); refine hK _ ?_; clear hK K) | ((first | refine CW.skip ?_ | refine CW.exit ?_ | refine CW.ret ?_); simp only [xs, if_true, if_false, Nat.reduceEqDiff, reduceCtorEq]) | (refine CW.cond (by simp only [upd_at, if_true, if_false, Nat.reduceEqDiff]; rfl) (fun hb => ?_) (fun hb => ?_) <;> (try simp only [xb, reduceCtorEq] at hb)) | ((first | refine W_brs (fun hc => ?_) (fun hc => ?_) | refine D_brs (fun hc => ?_) (fun hc => ?_)) <;> (try simp only [Bool.not_eq_true, Bool.not_eq_false] at hc) <;> (try simp (config := { maxSteps := 2000000 }) only [go_sem, hc]) <;> (try simp only [xb] at hc)) | (refine And.intro (by omega) ?_) | (refine And.intro (by simp only [xl]; omega) ?_) | (refine ex_idx (by omega) ?_) | (refine And.intro (by rw [← hB]; kernel_rfl) ?_) | fail)
    · exfalso; omega
    · have ha : 0 ≤ t[k] ∧ t[k] ≤ 3 := by assumption
      refine ⟨k + 1, ?_, ⟨by omega, trTo_succ hr ⟨fun _ => by rw [hnth hkl]; exact ha, fun e => absurd hev (by omega)⟩⟩, by omega⟩
      (simp only [LeL, envOf, upd_at, if_true, if_false, Nat.reduceEqDiff, true_or, and_true, true_and, and_self]; (try simp [view, viewL_map]); (try omega))
    · have ha : ¬ (0 ≤ t[k] ∧ t[k] ≤ 3) := by assumption
      have hf : traceOKB t = false := traceOKB_false.2 fun h => ha (by rw [← hnth hkl]; exact (h.to k hkl).1 hev)
      rw [hf]
      simp [Try.results46, RetOK, RetP, backA, upd_at, plainB, getP, isOwn, anyOwn, isP]
  · have hkl : k < t.length := by omega
    have hod : k % 2 = 1 := by omega
    (first | refine W_askP rfl _ (⟨_, _, _, rfl, rfl⟩) ?_ | refine D_askP rfl _ (⟨_, _, _, rfl, rfl⟩) ?_); simp (config := { maxSteps := 2000000 }) only [go_sem]
    repeat' (first | (refine CW.seqK fun K hK => ?_) | (refine CW.block ?_) | ((first | refine CW.reg hΓ (by rw [hκ]; rfl) ?_ | refine CW.drw hΓ Try_mixed (by rw [hκ]; rfl) (by kernel_rfl) (fun B hB => ?_)); simp (config := { maxSteps := 2000000 }) only [go_sem]) | ((repeat ((fail_if_success (refine hK _ ?_)); clear hK K)); refine hK _ ?_; clear hK K) | ((first | refine CW.skip ?_ | refine CW.exit ?_ | refine CW.ret ?_); simp only [xs, if_true, if_false, Nat.reduceEqDiff, reduceCtorEq]) | (refine CW.cond (by simp only [upd_at, if_true, if_false, Nat.reduceEqDiff]; rfl) (fun hb => ?_) (fun hb => ?_) <;> (try simp only [xb, reduceCtorEq] at hb)) | ((first | refine W_brs (fun hc => ?_) (fun hc => ?_) | refine D_brs (fun hc => ?_) (fun hc => ?_)) <;> (try simp only [Bool.not_eq_true, Bool.not_eq_false] at hc) <;> (try simp (config := { maxSteps := 2000000 }) only [go_sem, hc]) <;> (try simp only [xb] at hc)) | (refine And.intro (by omega) ?_) | (refine And.intro (by simp only [xl]; omega) ?_) | (refine ex_idx (by omega) ?_) | (refine And.intro (by rw [← hB]; kernel_rfl) ?_) | fail)
    · have ha : ¬ (16 ≤ t[k] ∧ t[k] ≤ 18) := by assumption
      have hf : traceOKB t = false := traceOKB_false.2 fun h => ha (by rw [← hnth hkl]; exact (h.to k hkl).2 hod)
      rw [hf]
      simp [Try.results46, RetOK, RetP, backA, upd_at, plainB, getP, isOwn, anyOwn, isP]
    · have ha : 16 ≤ t[k] ∧ t[k] ≤ 18 := by assumption
      refine ⟨k + 1, ?_, ⟨by omega, trTo_succ hr ⟨fun e => absurd hod (by omega), fun _ => by rw [hnth hkl]; exact ha⟩⟩, by omega⟩
      (simp only [LeL, envOf, upd_at, if_true, if_false, Nat.reduceEqDiff, true_or, and_true, true_and, and_self]; (try simp [view, viewL_map]); (try omega))
  · exfalso; omega
  · have hke : k = t.length := by omega
    subst hke
    have hd : traceOKB t = decide ((t.length : Int) ≤ 41) := by
      rw [Bool.eq_iff_iff, traceOKB_true, decide_eq_true_eq]
      exact ⟨fun h => by have := h.len; omega, fun h => TraceOK.of (by omega) (by omega) hr⟩
    rw [hd]
    simp [Try.results46, RetOK, RetP, backA, upd_at, plainB, getP, isOwn, anyOwn, isP]
  · have hd : traceOKB t = false := traceOKB_false.2 fun h => by have := h.odd; omega
    rw [hd]
    simp [Try.results46, RetOK, RetP, backA, upd_at, plainB, getP, isOwn, anyOwn, isP]

def allPartsSR (args : List AV) (r : AV) : Prop := ∃ e : List Int, args = [ints e] ∧ e.length ≤ 1048576 ∧ r = rows (allD e)
theorem specAllParts_ctr : CtrOK Try.prog 110 (pureC allPartsSR) := by
  refine ctr_pure' Try.func110 rfl rfl Try.ntmps110 ?_
  rintro _ _ ⟨e, rfl, hl, rfl⟩
  refine ⟨by simp, fun κ hκ => ?_⟩
  have hbig := bigW_gt
  rw [argEnv_eq]
  simp only [envA]
  have hΓ := ctxOf_ok (P := Try.prog) (L := [(108, pureC katValidR), (133, pureC allR)]) (by simp only [List.mem_cons, List.not_mem_nil, or_false, forall_eq_or_imp, forall_eq]; exact ⟨specKatValid_ctr, l4All_ctr⟩)
  repeat' (first | (refine CW.seqK fun K hK => ?_) | (refine CW.block ?_) | ((first | refine CW.reg hΓ (by rw [hκ]; rfl) ?_ | refine CW.drw hΓ Try_mixed (by rw [hκ]; rfl) (by kernel_rfl) (fun B hB => ?_)); simp (config := { maxSteps := 2000000 }) only [go_sem]) | ((repeat ((fail_if_success (refine hK _ ?_)); clear hK K)); refine hK _ ?_; clear hK K) | ((first | refine CW.skip ?_ | refine CW.exit ?_ | refine CW.ret ?_); simp only [xs, if_true, if_false, Nat.reduceEqDiff, reduceCtorEq]) | (refine CW.cond (by simp only [upd_at, if_true, if_false, Nat.reduceEqDiff]; rfl) (fun hb => ?_) (fun hb => ?_) <;> (try simp only [xb, reduceCtorEq] at hb)) | ((first | refine W_brs (fun hc => ?_) (fun hc => ?_) | refine D_brs (fun hc => ?_) (fun hc => ?_)) <;> (try simp only [Bool.not_eq_true, Bool.not_eq_false] at hc) <;> (try simp (config := { maxSteps := 2000000 }) only [go_sem, hc]) <;> (try simp only [xb] at hc)) | (refine And.intro (by omega) ?_) | (refine And.intro (by simp only [xl]; omega) ?_) | (refine ex_idx (by omega) ?_) | (refine And.intro (by rw [← hB]; kernel_rfl) ?_) | fail)
  (first | refine W_askP rfl _ (⟨e, rfl, by omega, rfl⟩) ?_ | refine D_askP rfl _ (⟨e, rfl, by omega, rfl⟩) ?_); simp (config := { maxSteps := 2000000 }) only [go_sem]
  repeat' (first | (refine CW.seqK fun K hK => ?_) | (refine CW.block ?_) | ((first | refine CW.reg hΓ (by rw [hκ]; rfl) ?_ | refine CW.drw hΓ Try_mixed (by rw [hκ]; rfl) (by kernel_rfl) (fun B hB => ?_)); simp (config := { maxSteps := 2000000 }) only [go_sem]) | ((repeat ((fail_if_success (refine hK _ ?_)); clear hK K)); refine hK _ ?_; clear hK K) | ((first | refine CW.skip ?_ | refine CW.exit ?_ | refine CW.ret ?_); simp only [xs, if_true, if_false, Nat.reduceEqDiff, reduceCtorEq]) | (refine CW.cond (by simp only [upd_at, if_true, if_false, Nat.reduceEqDiff]; rfl) (fun hb => ?_) (fun hb => ?_) <;> (try simp only [xb, reduceCtorEq] at hb)) | ((first | refine W_brs (fun hc => ?_) (fun hc => ?_) | refine D_brs (fun hc => ?_) (fun hc => ?_)) <;> (try simp only [Bool.not_eq_true, Bool.not_eq_false] at hc) <;> (try simp (config := { maxSteps := 2000000 }) only [go_sem, hc]) <;> (try simp only [xb] at hc)) | (refine And.intro (by omega) ?_) | (refine And.intro (by simp only [xl]; omega) ?_) | (refine ex_idx (by omega) ?_) | (refine And.intro (by rw [← hB]; kernel_rfl) ?_) | fail)
  · have hk := ‹katB e = false›
    rw [show allD e = [] from if_neg (by simp [hk])]
    simp [Try.results110, RetOK, RetP, backA, upd_at, plainB, getP, isOwn, anyOwn, isP]
    simp [view, viewL]
  · have hk := ‹katB e = true›
    obtain ⟨x, hw, rfl, h40⟩ := katB_tree hk
    (first | refine W_askP rfl _ (⟨x, rfl, hw, h40, rfl⟩) ?_ | refine D_askP rfl _ (⟨x, rfl, hw, h40, rfl⟩) ?_); simp (config := { maxSteps := 2000000 }) only [go_sem]
    repeat' (first | (refine CW.seqK fun K hK => ?_) | (refine CW.block ?_) | ((first | refine CW.reg hΓ (by rw [hκ]; rfl) ?_ | refine CW.drw hΓ Try_mixed (by rw [hκ]; rfl) (by kernel_rfl) (fun B hB => ?_)); simp (config := { maxSteps := 2000000 }) only [go_sem]) | ((repeat ((fail_if_success (refine hK _ ?_)); clear hK K)); refine hK _ ?_; clear hK K) | ((first | refine CW.skip ?_ | refine CW.exit ?_ | refine CW.ret ?_); simp only [xs, if_true, if_false, Nat.reduceEqDiff, reduceCtorEq]) | (refine CW.cond (by simp only [upd_at, if_true, if_false, Nat.reduceEqDiff]; rfl) (fun hb => ?_) (fun hb => ?_) <;> (try simp only [xb, reduceCtorEq] at hb)) | ((first | refine W_brs (fun hc => ?_) (fun hc => ?_) | refine D_brs (fun hc => ?_) (fun hc => ?_)) <;> (try simp only [Bool.not_eq_true, Bool.not_eq_false] at hc) <;> (try simp (config := { maxSteps := 2000000 }) only [go_sem, hc]) <;> (try simp only [xb] at hc)) | (refine And.intro (by omega) ?_) | (refine And.intro (by simp only [xl]; omega) ?_) | (refine ex_idx (by omega) ?_) | (refine And.intro (by rw [← hB]; kernel_rfl) ?_) | fail)
    rw [show allD x.steps = allL x.steps from if_pos hk]
    simp [Try.results110, RetOK, RetP, backA, upd_at, plainB, getP, isOwn, anyOwn, isP]

def beginsR (args : List AV) (r : AV) : Prop := ∃ (e : List Int) (atom : Int), args = [ints e, I atom] ∧ e.length ≤ 1048576 ∧ r = I (begD e atom)
theorem specBeginsWith_ctr : CtrOK Try.prog 61 (pureC beginsR) := by
  refine ctr_pure' Try.func61 rfl rfl Try.ntmps61 ?_
  rintro _ _ ⟨e, atom, rfl, hl, rfl⟩
  refine ⟨by simp, fun κ hκ => ?_⟩
  have hbig := bigW_gt
  rw [argEnv_eq]
  simp only [envA]
  have hΓ := ctxOf_ok (P := Try.prog) (L := [(108, pureC katValidR), (81, pureC l1InR), (109, pureC begInR)]) (by simp only [List.mem_cons, List.not_mem_nil, or_false, forall_eq_or_imp, forall_eq]; exact ⟨specKatValid_ctr, l1In_ctr, l4Begins_ctr⟩)
  repeat' (first | (refine CW.seqK fun K hK => ?_) | (refine CW.block ?_) | ((first | refine CW.reg hΓ (by rw [hκ]; rfl) ?_ | refine CW.drw hΓ Try_mixed (by rw [hκ]; rfl) (by kernel_rfl) (fun B hB => ?_)); simp (config := { maxSteps := 2000000 }) only [go_sem]) | ((repeat ((fail_if_success (refine hK _ ?_)); clear hK K)); refine hK _ ?_; clear hK K) | ((first | refine CW.skip ?_ | refine CW.exit ?_ | refine CW.ret ?_); simp only [xs, if_true, if_false, Nat.reduceEqDiff, reduceCtorEq]) | (refine CW.cond (by simp only [upd_at, if_true, if_false, Nat.reduceEqDiff]; rfl) (fun hb => ?_) (fun hb => ?_) <;> (try simp only [xb, reduceCtorEq] at hb)) | ((first | refine W_brs (fun hc => ?_) (fun hc => ?_) | refine D_brs (fun hc => ?_) (fun hc => ?_)) <;> (try simp only [Bool.not_eq_true, Bool.not_eq_false] at hc) <;> (try simp (config := { maxSteps := 2000000 }) only [go_sem, hc]) <;> (try simp only [xb] at hc)) | (refine And.intro (by omega) ?_) | (refine And.intro (by simp only [xl]; omega) ?_) | (refine ex_idx (by omega) ?_) | (refine And.intro (by rw [← hB]; kernel_rfl) ?_) | fail)
  (first | refine W_askP rfl _ (⟨e, rfl, by omega, rfl⟩) ?_ | refine D_askP rfl _ (⟨e, rfl, by omega, rfl⟩) ?_); simp (config := { maxSteps := 2000000 }) only [go_sem]
  repeat' (first | (refine CW.seqK fun K hK => ?_) | (refine CW.block ?_) | ((first | refine CW.reg hΓ (by rw [hκ]; rfl) ?_ | refine CW.drw hΓ Try_mixed (by rw [hκ]; rfl) (by kernel_rfl) (fun B hB => ?_)); simp (config := { maxSteps := 2000000 }) only [go_sem]) | ((repeat ((fail_if_success (refine hK _ ?_)); clear hK K)); refine hK _ ?_; clear hK K) | ((first | refine CW.skip ?_ | refine CW.exit ?_ | refine CW.ret ?_); simp only [xs, if_true, if_false, Nat.reduceEqDiff, reduceCtorEq]) | (refine CW.cond (by simp only [upd_at, if_true, if_false, Nat.reduceEqDiff]; rfl) (fun hb => ?_) (fun hb => ?_) <;> (try simp only [xb, reduceCtorEq] at hb)) | ((first | refine W_brs (fun hc => ?_) (fun hc => ?_) | refine D_brs (fun hc => ?_) (fun hc => ?_)) <;> (try simp only [Bool.not_eq_true, Bool.not_eq_false] at hc) <;> (try simp (config := { maxSteps := 2000000 }) only [go_sem, hc]) <;> (try simp only [xb] at hc)) | (refine And.intro (by omega) ?_) | (refine And.intro (by simp only [xl]; omega) ?_) | (refine ex_idx (by omega) ?_) | (refine And.intro (by rw [← hB]; kernel_rfl) ?_) | fail)
  · (first | refine W_askP rfl _ (⟨atom, 0, 3, rfl, rfl⟩) ?_ | refine D_askP rfl _ (⟨atom, 0, 3, rfl, rfl⟩) ?_); simp (config := { maxSteps := 2000000 }) only [go_sem]
    repeat' (first | (refine CW.seqK fun K hK => ?_) | (refine CW.block ?_) | ((first | refine CW.reg hΓ (by rw [hκ]; rfl) ?_ | refine CW.drw hΓ Try_mixed (by rw [hκ]; rfl) (by kernel_rfl) (fun B hB => ?_)); simp (config := { maxSteps := 2000000 }) only [go_sem]) | ((repeat ((fail_if_success (refine hK _ ?_)); clear hK K)); refine hK _ ?_; clear hK K) | ((first | refine CW.skip ?_ | refine CW.exit ?_ | refine CW.ret ?_); simp only [xs, if_true, if_false, Nat.reduceEqDiff, reduceCtorEq]) | (refine CW.cond (by simp only [upd_at, if_true, if_false, Nat.reduceEqDiff]; rfl) (fun hb => ?_) (fun hb => ?_) <;> (try simp only [xb, reduceCtorEq] at hb)) | ((first | refine W_brs (fun hc => ?_) (fun hc => ?_) | refine D_brs (fun hc => ?_) (fun hc => ?_)) <;> (try simp only [Bool.not_eq_true, Bool.not_eq_false] at hc) <;> (try simp (config := { maxSteps := 2000000 }) only [go_sem, hc]) <;> (try simp only [xb] at hc)) | (refine And.intro (by omega) ?_) | (refine And.intro (by simp only [xl]; omega) ?_) | (refine ex_idx (by omega) ?_) | (refine And.intro (by rw [← hB]; kernel_rfl) ?_) | fail)
    · rw [show begD e atom = -1 from if_neg (fun h => absurd h.2 ‹¬ (0 ≤ atom ∧ atom ≤ 3)›)]
      simp [Try.results61, RetOK, RetP, backA, upd_at, plainB, getP, isOwn, anyOwn, isP]
    · have hk := ‹katB e = true›
      have ha := ‹0 ≤ atom ∧ atom ≤ 3›
      obtain ⟨x, hw, rfl, h40⟩ := katB_tree hk
      have hat : ((atom.toNat : Nat) : Int) = atom := by omega
      (first | refine W_askP rfl _ (⟨x, atom.toNat, by rw [hat], hw, by omega, by omega, rfl⟩) ?_ | refine D_askP rfl _ (⟨x, atom.toNat, by rw [hat], hw, by omega, by omega, rfl⟩) ?_); simp (config := { maxSteps := 2000000 }) only [go_sem]
      repeat' (first | (refine CW.seqK fun K hK => ?_) | (refine CW.block ?_) | ((first | refine CW.reg hΓ (by rw [hκ]; rfl) ?_ | refine CW.drw hΓ Try_mixed (by rw [hκ]; rfl) (by kernel_rfl) (fun B hB => ?_)); simp (config := { maxSteps := 2000000 }) only [go_sem]) | ((repeat ((fail_if_success (refine hK _ ?_)); clear hK K)); refine hK _ ?_; clear hK K) | ((first | refine CW.skip ?_ | refine CW.exit ?_ | refine CW.ret ?_); simp only [xs, if_true, if_false, Nat.reduceEqDiff, reduceCtorEq]) | (refine CW.cond (by simp only [upd_at, if_true, if_false, Nat.reduceEqDiff]; rfl) (fun hb => ?_) (fun hb => ?_) <;> (try simp only [xb, reduceCtorEq] at hb)) | ((first | refine W_brs (fun hc => ?_) (fun hc => ?_) | refine D_brs (fun hc => ?_) (fun hc => ?_)) <;> (try simp only [Bool.not_eq_true, Bool.not_eq_false] at hc) <;> (try simp (config := { maxSteps := 2000000 }) only [go_sem, hc]) <;> (try simp only [xb] at hc)) | (refine And.intro (by omega) ?_) | (refine And.intro (by simp only [xl]; omega) ?_) | (refine ex_idx (by omega) ?_) | (refine And.intro (by rw [← hB]; kernel_rfl) ?_) | fail)
      rw [show begD x.steps atom = (begTo atom.toNat x.steps 3 : Nat) from if_pos ⟨hk, ha⟩]
      simp [Try.results61, RetOK, RetP, backA, upd_at, plainB, getP, isOwn, anyOwn, isP]
  · rw [show begD e atom = -1 from if_neg (fun h => by have := ‹katB e = false›; simp [this] at h)]
    simp [Try.results61, RetOK, RetP, backA, upd_at, plainB, getP, isOwn, anyOwn, isP]

end Go.Proofs.Ytcpfflnhbcbmnaa
