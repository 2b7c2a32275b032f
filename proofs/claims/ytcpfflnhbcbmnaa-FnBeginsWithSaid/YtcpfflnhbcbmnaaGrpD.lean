/- Tests and sets: small functions, walked by the engine. -/
import Derived.Test.YtcpfflnhbcbmnaaTy
import Derived.Test.YtcpfflnhbcbmnaaGrpC
namespace Go.Proofs.Ytcpfflnhbcbmnaa
set_option linter.unusedSimpArgs false
set_option linter.unusedVariables false
set_option maxRecDepth 8000
set_option maxHeartbeats 2000000
open Go Go.RowKit AV

attribute [local go_sem] wpOpsD_cons wpOpsD_nil KOpsD_app D_ret D_get D_peek D_need D_ex D_br_t D_br_f D_fail D_idx_map D_idx_zero D_idx_succ D_getP_nil D_getP_own D_getP_box tg wpOpsA_cons wpOpsA_nil KOps_app rdG rdO rdX rdMv rdTake rdBor rdBin binV rdUn rdConv rdPick rdLoad rdStore stW rdStoreA rdVal rdParts srcW rdField rdIndex rdLen rdBuildS rdBuild rdMakeS rdBd rdSlice rdExtract rdFieldV rdBox rdAlloc rdSrc rdDst rdApp rdArg rdArgs rdCallP rdCall rdSkip rdCallX rdCallE rdCallY rdCallT rdBin2 isNilEq rdNilEq bigW_sub bigW_le rdApp2 rdSrcO rdNil rdClear rdMakeFn isT_no isT_nil isT_cons takeC_eff takeC_tk effC_tk pureC_tk rdTake Option.isSome_none Bool.and_self rdGive toBox backW isE_no isE_nil isE_cons effC_eff pureC_eff effC_rel pureC_rel id takenL takesOf opT opTs partW srcs foldP fzW slotsDistinct cst in64 nat64 W_ret W_get W_peek W_need W_ex W_br_t W_br_f W_fail apps killIf_t killIf_f app_set_junk app_mod_junk app_set_num app_mod_num app_set_bool app_mod_bool app_set_sh app_mod_sh app_set_own app_mod_own app_set_box app_mod_box app_set_pbox app_mod_pbox app_set_pcell app_mod_pcell app_set_alias app_mod_alias app_set_valias app_mod_valias app_set_addr app_mod_addr app_set_fn app_mod_fn app_set_agg app_mod_agg app_set_win app_mod_win app_set_pin app_mod_pin app_set_omap app_mod_omap app_set_pmap app_mod_pmap app_set_oiter app_mod_oiter rdLenM rdMapOf rdLook rdRange rdPMap rdEntry rdMapUpd rdUpdAt noIt app_set_tup app_mod_tup upd_at kill_upd kill_nil killV isOwn anyOwn isP allP noSh allN one allOne head view viewL getP setP kids withKids blk viewL_map noSh_ints List.map_map thenA_normal thenA_normal' ne_eq reduceCtorEq not_false_eq_true not_true_eq_false true_and and_true and_false false_and if_true if_false Bool.false_eq_true Bool.true_eq_false Nat.reduceAdd Nat.reduceLT Nat.reduceLeDiff Nat.reduceEqDiff List.append_nil List.nil_append List.cons_append List.contains_nil List.contains_cons Nat.reduceBEq Bool.or_false Bool.or_true Bool.false_or Bool.true_or Bool.not_true Bool.not_false List.getElem?_toArray List.getElem?_cons_zero List.getElem?_cons_succ Option.bind_some Option.bind_none List.length_map List.length_cons List.length_nil List.map_cons List.map_nil List.dropLast List.getLast? List.getLast List.getD_cons_zero List.getD_cons_succ List.set_cons_zero List.set_cons_succ List.replicate List.filterMap_cons List.filterMap_nil List.foldl_cons List.foldl_nil List.nodup_cons List.nodup_nil List.not_mem_nil List.mem_cons or_false false_or Option.some.injEq AV.box.injEq AV.own.injEq AV.agg.injEq exists_eq_left' exists_eq_left exists_eq_right exists_eq exists_eq' exists_and_left Option.getD_some List.getElem?_map Option.map_eq_some_iff W_idx_map W_idx_zero W_idx_succ W_getP_nil W_getP_own W_getP_box List.any_cons List.all_cons List.all_nil List.any_nil Int.toNat_natCast Nat.cast_ofNat_Int Prod.mk.injEq and_self forall_eq forall_eq_or_imp implies_true forall_const Int.toNat_zero Int.toNat_one not_imp_self decide_true decide_false false_imp_iff cast_div cast_mod allN_oints allP_rows allP_ints view_I view_ints view_oo Bool.and_true Bool.true_and Bool.and_false Bool.false_and Option.isSome_some Int.natCast_nonneg Ty_aggT_3 Ty_szT_3 Ty_zT_3 Ty_inT_3 Ty_kkT_3 Ty_zOf_3 Ty_aggT_4 Ty_szT_4 Ty_zT_4 Ty_boT_4 Ty_zOf_4 Ty_mpT_91 Ty_aggT_22 Ty_szT_22 Ty_zT_22 Ty_slE_22 Ty_slOK_22 Ty_slZ_22 Ty_mpT_22 Ty_aggT_30 Ty_szT_30 Ty_zT_30 Ty_slE_30 Ty_slOK_30 Ty_slZ_30 Ty_mpT_30 Ty_aggT_37 Ty_szT_37 Ty_zT_37 Ty_bPl_37 Ty_stO_37_0 Ty_stO_37_1 Ty_aggT_93 Ty_szT_93 Ty_zT_93 Ty_aggT_110 Ty_szT_110 Ty_zT_110 Ty_slE_110 Ty_slOK_110 Ty_slZ_110 Ty_mpT_110 Ty_aggT_112 Ty_szT_112 Ty_zT_112 Ty_bPl_112 Ty_stO_112_0 Ty_stO_112_1 Ty_aggT_5 Ty_szT_5 Ty_zT_5 Ty_inT_5 Ty_aggT_35 Ty_szT_35 Ty_zT_35 Ty_slE_35 Ty_slOK_35 Ty_slZ_35 Ty_mpT_35 Ty_aggT_103 Ty_szT_103 Ty_zT_103 Ty_bPl_103 Ty_stO_103_0 Ty_stO_103_1

def l1InR (args : List AV) (r : AV) : Prop := ∃ n lo hi : Int, args = [I n, I lo, I hi] ∧ r = .bool (decide (lo ≤ n ∧ n ≤ hi))

theorem l1In_ctr : CtrOK Try.prog 81 (pureC l1InR) := by
  refine ctr_pure' Try.func81 rfl rfl Try.ntmps81 ?_
  rintro _ _ ⟨n, lo, hi, rfl, rfl⟩
  refine ⟨by simp, fun κ hκ => ?_⟩
  have hbig := bigW_gt
  rw [argEnv_eq]
  simp only [envA]
  have hΓ := noCtx_ok Try.prog
  repeat' (first | (refine CW.seqK fun K hK => ?_) | (refine CW.block ?_) | ((first | refine CW.reg hΓ (by rw [hκ]; rfl) ?_ | refine CW.drw hΓ Try_mixed (by rw [hκ]; rfl) (by kernel_rfl) (fun B hB => ?_)); simp (config := { maxSteps := 2000000 }) only [go_sem]) | ((repeat ((fail_if_success (refine hK _ ?_)); clear hK K)); refine hK _ ?_; clear hK K) | ((first | refine CW.skip ?_ | refine CW.exit ?_ | refine CW.ret ?_); simp only [xs, if_true, if_false, Nat.reduceEqDiff, reduceCtorEq]) | (refine CW.cond (by simp only [upd_at, if_true, if_false, Nat.reduceEqDiff]; rfl) (fun hb => ?_) (fun hb => ?_) <;> (try simp only [xb, reduceCtorEq] at hb)) | ((first | refine W_brs (fun hc => ?_) (fun hc => ?_) | refine D_brs (fun hc => ?_) (fun hc => ?_)) <;> (try simp only [Bool.not_eq_true, Bool.not_eq_false] at hc) <;> (try simp (config := { maxSteps := 2000000 }) only [go_sem, hc]) <;> (try simp only [xb] at hc)) | (refine And.intro (by omega) ?_) | (refine And.intro (by simp only [xl]; omega) ?_) | (refine ex_idx (by omega) ?_) | (refine And.intro (by rw [← hB]; kernel_rfl) ?_) | fail)
  · simp [Try.results81, RetOK, upd_at, plainB, hc]
  · simp [Try.results81, RetOK, upd_at, plainB, hc]

def testValidR (args : List AV) (r : AV) : Prop := ∃ n : Int, args = [I n] ∧ r = .bool (decide (0 ≤ n ∧ n ≤ 15))

theorem specTestValid_ctr : CtrOK Try.prog 65 (pureC testValidR) := by
  refine ctr_pure' Try.func65 rfl rfl Try.ntmps65 ?_
  rintro _ _ ⟨n, rfl, rfl⟩
  refine ⟨by simp, fun κ hκ => ?_⟩
  have hbig := bigW_gt
  rw [argEnv_eq]
  simp only [envA]
  have hΓ := ctxOf_ok (P := Try.prog) (L := [(81, pureC l1InR)]) (by simp only [List.mem_cons, List.not_mem_nil, or_false, forall_eq_or_imp, forall_eq]; exact l1In_ctr)
  repeat' (first | (refine CW.seqK fun K hK => ?_) | (refine CW.block ?_) | ((first | refine CW.reg hΓ (by rw [hκ]; rfl) ?_ | refine CW.drw hΓ Try_mixed (by rw [hκ]; rfl) (by kernel_rfl) (fun B hB => ?_)); simp (config := { maxSteps := 2000000 }) only [go_sem]) | ((repeat ((fail_if_success (refine hK _ ?_)); clear hK K)); refine hK _ ?_; clear hK K) | ((first | refine CW.skip ?_ | refine CW.exit ?_ | refine CW.ret ?_); simp only [xs, if_true, if_false, Nat.reduceEqDiff, reduceCtorEq]) | (refine CW.cond (by simp only [upd_at, if_true, if_false, Nat.reduceEqDiff]; rfl) (fun hb => ?_) (fun hb => ?_) <;> (try simp only [xb, reduceCtorEq] at hb)) | ((first | refine W_brs (fun hc => ?_) (fun hc => ?_) | refine D_brs (fun hc => ?_) (fun hc => ?_)) <;> (try simp only [Bool.not_eq_true, Bool.not_eq_false] at hc) <;> (try simp (config := { maxSteps := 2000000 }) only [go_sem, hc]) <;> (try simp only [xb] at hc)) | (refine And.intro (by omega) ?_) | (refine And.intro (by simp only [xl]; omega) ?_) | (refine ex_idx (by omega) ?_) | (refine And.intro (by rw [← hB]; kernel_rfl) ?_) | fail)
  (first | refine W_askP rfl _ (⟨_, _, _, rfl, rfl⟩) ?_ | refine D_askP rfl _ (⟨_, _, _, rfl, rfl⟩) ?_); simp (config := { maxSteps := 2000000 }) only [go_sem]
  repeat' (first | (refine CW.seqK fun K hK => ?_) | (refine CW.block ?_) | ((first | refine CW.reg hΓ (by rw [hκ]; rfl) ?_ | refine CW.drw hΓ Try_mixed (by rw [hκ]; rfl) (by kernel_rfl) (fun B hB => ?_)); simp (config := { maxSteps := 2000000 }) only [go_sem]) | ((repeat ((fail_if_success (refine hK _ ?_)); clear hK K)); refine hK _ ?_; clear hK K) | ((first | refine CW.skip ?_ | refine CW.exit ?_ | refine CW.ret ?_); simp only [xs, if_true, if_false, Nat.reduceEqDiff, reduceCtorEq]) | (refine CW.cond (by simp only [upd_at, if_true, if_false, Nat.reduceEqDiff]; rfl) (fun hb => ?_) (fun hb => ?_) <;> (try simp only [xb, reduceCtorEq] at hb)) | ((first | refine W_brs (fun hc => ?_) (fun hc => ?_) | refine D_brs (fun hc => ?_) (fun hc => ?_)) <;> (try simp only [Bool.not_eq_true, Bool.not_eq_false] at hc) <;> (try simp (config := { maxSteps := 2000000 }) only [go_sem, hc]) <;> (try simp only [xb] at hc)) | (refine And.intro (by omega) ?_) | (refine And.intro (by simp only [xl]; omega) ?_) | (refine ex_idx (by omega) ?_) | (refine And.intro (by rw [← hB]; kernel_rfl) ?_) | fail)
  simp [Try.results65, RetOK, RetP, backA, upd_at, plainB, getP, isOwn, anyOwn, isP]

theorem implTestValid_ctr : CtrOK Try.prog 36 (pureC testValidR) := by
  refine ctr_pure' Try.func36 rfl rfl Try.ntmps36 ?_
  rintro _ _ ⟨n, rfl, rfl⟩
  refine ⟨by simp, fun κ hκ => ?_⟩
  have hbig := bigW_gt
  rw [argEnv_eq]
  simp only [envA]
  have hΓ := noCtx_ok Try.prog
  repeat' (first | (refine CW.seqK fun K hK => ?_) | (refine CW.block ?_) | ((first | refine CW.reg hΓ (by rw [hκ]; rfl) ?_ | refine CW.drw hΓ Try_mixed (by rw [hκ]; rfl) (by kernel_rfl) (fun B hB => ?_)); simp (config := { maxSteps := 2000000 }) only [go_sem]) | ((repeat ((fail_if_success (refine hK _ ?_)); clear hK K)); refine hK _ ?_; clear hK K) | ((first | refine CW.skip ?_ | refine CW.exit ?_ | refine CW.ret ?_); simp only [xs, if_true, if_false, Nat.reduceEqDiff, reduceCtorEq]) | (refine CW.cond (by simp only [upd_at, if_true, if_false, Nat.reduceEqDiff]; rfl) (fun hb => ?_) (fun hb => ?_) <;> (try simp only [xb, reduceCtorEq] at hb)) | ((first | refine W_brs (fun hc => ?_) (fun hc => ?_) | refine D_brs (fun hc => ?_) (fun hc => ?_)) <;> (try simp only [Bool.not_eq_true, Bool.not_eq_false] at hc) <;> (try simp (config := { maxSteps := 2000000 }) only [go_sem, hc]) <;> (try simp only [xb] at hc)) | (refine And.intro (by omega) ?_) | (refine And.intro (by simp only [xl]; omega) ?_) | (refine ex_idx (by omega) ?_) | (refine And.intro (by rw [← hB]; kernel_rfl) ?_) | fail)
  · simp [Try.results36, RetOK, upd_at, plainB, hc]
  · simp [Try.results36, RetOK, upd_at, plainB, hc]

def l1BitR (args : List AV) (r : AV) : Prop := ∃ s k : Nat, args = [I s, I k] ∧ k < 64 ∧ r = I (bitN s k)

theorem l1Bit_ctr : CtrOK Try.prog 69 (pureC l1BitR) := by
  refine ctr_pure' Try.func69 rfl rfl Try.ntmps69 ?_
  rintro _ _ ⟨s, k, rfl, hk, rfl⟩
  refine ⟨by simp, fun κ hκ => ?_⟩
  have hbig := bigW_gt
  rw [argEnv_eq]
  simp only [envA]
  have hΓ := noCtx_ok Try.prog
  have h0 : (0 : Int) ≤ (s : Int) / 2 ^ k := by rw [shr_nat]; exact Int.natCast_nonneg _
  have h1 : (s : Int) / 2 ^ k % 2 = (bitN s k : Int) := by rw [← bitN_eq, shr_nat]; rfl
  repeat' (first | (refine CW.seqK fun K hK => ?_) | (refine CW.block ?_) | ((first | refine CW.reg hΓ (by rw [hκ]; rfl) ?_ | refine CW.drw hΓ Try_mixed (by rw [hκ]; rfl) (by kernel_rfl) (fun B hB => ?_)); simp (config := { maxSteps := 2000000 }) only [go_sem]) | ((repeat ((fail_if_success (refine hK _ ?_)); clear hK K)); refine hK _ ?_; clear hK K) | ((first | refine CW.skip ?_ | refine CW.exit ?_ | refine CW.ret ?_); simp only [xs, if_true, if_false, Nat.reduceEqDiff, reduceCtorEq]) | (refine CW.cond (by simp only [upd_at, if_true, if_false, Nat.reduceEqDiff]; rfl) (fun hb => ?_) (fun hb => ?_) <;> (try simp only [xb, reduceCtorEq] at hb)) | ((first | refine W_brs (fun hc => ?_) (fun hc => ?_) | refine D_brs (fun hc => ?_) (fun hc => ?_)) <;> (try simp only [Bool.not_eq_true, Bool.not_eq_false] at hc) <;> (try simp (config := { maxSteps := 2000000 }) only [go_sem, hc]) <;> (try simp only [xb] at hc)) | (refine And.intro (by omega) ?_) | (refine And.intro (by simp only [xl]; omega) ?_) | (refine ex_idx (by omega) ?_) | (refine And.intro (by rw [← hB]; kernel_rfl) ?_) | fail)
  rw [h1]
  simp [Try.results69, RetOK, RetP, backA, upd_at, plainB, getP, isOwn, anyOwn, isP]

def l1BothR (args : List AV) (r : AV) : Prop := ∃ a b : Nat, args = [I a, I b] ∧ a < 1099511627776 ∧ b < 1099511627776 ∧ r = I ((a &&& b : Nat) : Int)

theorem l1Both_ctr : CtrOK Try.prog 66 (pureC l1BothR) := by
  refine ctr_pure' Try.func66 rfl rfl Try.ntmps66 ?_
  rintro _ _ ⟨a, b, rfl, ha, hb0, rfl⟩
  refine ⟨by simp, fun κ hκ => ?_⟩
  have hbig := bigW_gt
  rw [argEnv_eq]
  simp only [envA]
  have hΓ := ctxOf_ok (P := Try.prog) (L := [(69, pureC l1BitR)]) (by simp only [List.mem_cons, List.not_mem_nil, or_false, forall_eq_or_imp, forall_eq]; exact l1Bit_ctr)
  repeat' (first | (refine CW.seqK fun K hK => ?_) | (refine CW.block ?_) | ((first | refine CW.reg hΓ (by rw [hκ]; rfl) ?_ | refine CW.drw hΓ Try_mixed (by rw [hκ]; rfl) (by kernel_rfl) (fun B hB => ?_)); simp (config := { maxSteps := 2000000 }) only [go_sem]) | ((repeat ((fail_if_success (refine hK _ ?_)); clear hK K)); refine hK _ ?_; clear hK K) | ((first | refine CW.skip ?_ | refine CW.exit ?_ | refine CW.ret ?_); simp only [xs, if_true, if_false, Nat.reduceEqDiff, reduceCtorEq]) | (refine CW.cond (by simp only [upd_at, if_true, if_false, Nat.reduceEqDiff]; rfl) (fun hb => ?_) (fun hb => ?_) <;> (try simp only [xb, reduceCtorEq] at hb)) | ((first | refine W_brs (fun hc => ?_) (fun hc => ?_) | refine D_brs (fun hc => ?_) (fun hc => ?_)) <;> (try simp only [Bool.not_eq_true, Bool.not_eq_false] at hc) <;> (try simp (config := { maxSteps := 2000000 }) only [go_sem, hc]) <;> (try simp only [xb] at hc)) | (refine And.intro (by omega) ?_) | (refine And.intro (by simp only [xl]; omega) ?_) | (refine ex_idx (by omega) ?_) | (refine And.intro (by rw [← hB]; kernel_rfl) ?_) | fail)
  refine CW.loop (ι := Nat) (fun k => [(0, I a), (1, I b), (5, I ((lowN (a &&& b) k : Nat) : Int)), (6, I k)]) (fun k => k ≤ 40) (fun k => 41 - k) 0 ?_ ?_
  · refine ⟨by (simp only [LeL, envOf, upd_at, if_true, if_false, Nat.reduceEqDiff, true_or, and_true, true_and, and_self]; (try simp [view, viewL_map]); (try omega)); simp [lowN_zero], by omega⟩
  rintro k hk
  simp only [envOf]
  have hp : (1 : Int) ≤ 2 ^ k ∧ (2 : Int) ^ k ≤ 1099511627776 := pow_bd hk
  repeat' (first | (refine CW.seqK fun K hK => ?_) | (refine CW.block ?_) | ((first | refine CW.reg hΓ (by rw [hκ]; rfl) ?_ | refine CW.drw hΓ Try_mixed (by rw [hκ]; rfl) (by kernel_rfl) (fun B hB => ?_)); simp (config := { maxSteps := 2000000 }) only [go_sem]) | ((repeat ((fail_if_success (refine hK _ ?_)); clear hK K)); refine hK _ ?_; clear hK K) | ((first | refine CW.skip ?_ | refine CW.exit ?_ | refine CW.ret ?_); simp only [xs, if_true, if_false, Nat.reduceEqDiff, reduceCtorEq]) | (refine CW.cond (by simp only [upd_at, if_true, if_false, Nat.reduceEqDiff]; rfl) (fun hb => ?_) (fun hb => ?_) <;> (try simp only [xb, reduceCtorEq] at hb)) | ((first | refine W_brs (fun hc => ?_) (fun hc => ?_) | refine D_brs (fun hc => ?_) (fun hc => ?_)) <;> (try simp only [Bool.not_eq_true, Bool.not_eq_false] at hc) <;> (try simp (config := { maxSteps := 2000000 }) only [go_sem, hc]) <;> (try simp only [xb] at hc)) | (refine And.intro (by omega) ?_) | (refine And.intro (by simp only [xl]; omega) ?_) | (refine ex_idx (by omega) ?_) | (refine And.intro (by rw [← hB]; kernel_rfl) ?_) | fail)
  · (first | refine W_askP rfl _ (⟨_, _, rfl, by omega, rfl⟩) ?_ | refine D_askP rfl _ (⟨_, _, rfl, by omega, rfl⟩) ?_); simp (config := { maxSteps := 2000000 }) only [go_sem]
    (first | refine W_askP rfl _ (⟨_, _, rfl, by omega, rfl⟩) ?_ | refine D_askP rfl _ (⟨_, _, rfl, by omega, rfl⟩) ?_); simp (config := { maxSteps := 2000000 }) only [go_sem]
    have hm : (bitN a k : Int) * (bitN b k : Int) = ((bitN (a &&& b) k : Nat) : Int) := by rw [← bitN_and]; simp
    have hs := lowN_succ (a &&& b) k
    have hl := lowN_le (a &&& b) (k + 1)
    have hab : a &&& b ≤ a := Nat.and_le_left
    have hbt := bitN_le (a &&& b) k
    have hk1 : k + 1 ≤ 40 := by
      have h4 : (2 : Int) ^ k ≤ a := by omega
      have h5 := le_pow h4
      have h6 : 2 ^ k < 2 ^ 40 := by omega
      have := (Nat.pow_lt_pow_iff_right (by omega : 1 < 2)).1 h6
      omega
    rw [hm]
    have e : ((bitN (a &&& b) k : Nat) : Int) * 2 ^ k = ((bitN (a &&& b) k * 2 ^ k : Nat) : Int) := by simp
    rw [e]
    generalize bitN (a &&& b) k * 2 ^ k = B at hs
    repeat' (first | (refine CW.seqK fun K hK => ?_) | (refine CW.block ?_) | ((first | refine CW.reg hΓ (by rw [hκ]; rfl) ?_ | refine CW.drw hΓ Try_mixed (by rw [hκ]; rfl) (by kernel_rfl) (fun B hB => ?_)); simp (config := { maxSteps := 2000000 }) only [go_sem]) | ((repeat ((fail_if_success (refine hK _ ?_)); clear hK K)); refine hK _ ?_; clear hK K) | ((first | refine CW.skip ?_ | refine CW.exit ?_ | refine CW.ret ?_); simp only [xs, if_true, if_false, Nat.reduceEqDiff, reduceCtorEq]) | (refine CW.cond (by simp only [upd_at, if_true, if_false, Nat.reduceEqDiff]; rfl) (fun hb => ?_) (fun hb => ?_) <;> (try simp only [xb, reduceCtorEq] at hb)) | ((first | refine W_brs (fun hc => ?_) (fun hc => ?_) | refine D_brs (fun hc => ?_) (fun hc => ?_)) <;> (try simp only [Bool.not_eq_true, Bool.not_eq_false] at hc) <;> (try simp (config := { maxSteps := 2000000 }) only [go_sem, hc]) <;> (try simp only [xb] at hc)) | (refine And.intro (by omega) ?_) | (refine And.intro (by simp only [xl]; omega) ?_) | (refine ex_idx (by omega) ?_) | (refine And.intro (by rw [← hB]; kernel_rfl) ?_) | fail)
    exact ⟨k + 1, by (simp only [LeL, envOf, upd_at, if_true, if_false, Nat.reduceEqDiff, true_or, and_true, true_and, and_self]; (try simp [view, viewL_map]); (try omega)), by omega, by omega⟩
  · have : lowN (a &&& b) k = a &&& b := lowN_lt (Nat.lt_of_le_of_lt Nat.and_le_right (lt_pow (by omega)))
    rw [this]
    simp [Try.results66, RetOK, RetP, backA, upd_at, plainB, getP, isOwn, anyOwn, isP]
  · have : lowN (a &&& b) k = a &&& b := lowN_lt (Nat.lt_of_le_of_lt Nat.and_le_left (lt_pow (by omega)))
    rw [this]
    simp [Try.results66, RetOK, RetP, backA, upd_at, plainB, getP, isOwn, anyOwn, isP]


/- AutoValid of both, walked by the engine. -/


def autoValidR (args : List AV) (r : AV) : Prop := ∃ (E : List Int) (N : List (List Int)), args = [agg [ints E, rows N]] ∧ E.length ≤ 4611686018427387904 ∧ N.length ≤ 4611686018427387904 ∧ (∀ x ∈ N, x.length ≤ 4611686018427387904) ∧ r = .bool (autoOKB ⟨E, N⟩)

theorem nth_getElem {l : List Int} {k : Nat} (h : k < l.length) : nth l k = l[k] := by simp [nth, List.getD, h]
theorem nthL_getElem {l : List (List Int)} {k : Nat} (h : k < l.length) : nthL l k = l[k] := by simp [nthL, List.getD, h]

/-- What a valid automaton holds at state i. -/
def okRow (D : AutoD) (i : Nat) : Prop := (0 ≤ nth D.ends i ∧ nth D.ends i ≤ 15) ∧ (nthL D.next i).length = 12 ∧ ∀ j, j < 12 → 0 ≤ nth (nthL D.next i) j ∧ nth (nthL D.next i) j ≤ 2 ^ D.ends.length - 1
theorem okRow_of {D : AutoD} (h : AutoOK D) {i : Nat} (hi : i < D.ends.length) : okRow D i := ⟨h.ends i hi, h.rows i hi, h.sets i hi⟩
theorem okRow_all {D : AutoD} (h1 : 1 ≤ D.ends.length) (h2 : D.ends.length ≤ 10) (h3 : D.next.length = D.ends.length) (h : ∀ i, i < D.ends.length → okRow D i) : AutoOK D := ⟨h1, h2, h3, fun k hk => (h k hk).1, fun k hk => (h k hk).2.1, fun k hk => (h k hk).2.2⟩

theorem notOK {D : AutoD} (h : ¬ AutoOK D) : autoOKB D = false := autoOKB_false.2 h

theorem specAutoValid_ctr : CtrOK Try.prog 30 (pureC autoValidR) := by
  refine ctr_pure' Try.func30 rfl rfl Try.ntmps30 ?_
  rintro _ _ ⟨E, N, rfl, hE, hN, hr, rfl⟩
  refine ⟨by simp, fun κ hκ => ?_⟩
  have hbig := bigW_gt
  rw [argEnv_eq]
  simp only [envA]
  have hΓ := ctxOf_ok (P := Try.prog) (L := [(81, pureC l1InR), (65, pureC testValidR)]) (by simp only [List.mem_cons, List.not_mem_nil, or_false, forall_eq_or_imp, forall_eq]; exact ⟨l1In_ctr, specTestValid_ctr⟩)
  repeat' (first | (refine CW.seqK fun K hK => ?_) | (refine CW.block ?_) | ((first | refine CW.reg hΓ (by rw [hκ]; rfl) ?_ | refine CW.drw hΓ Try_mixed (by rw [hκ]; rfl) (by kernel_rfl) (fun B hB => ?_)); simp (config := { maxSteps := 2000000 }) only [go_sem]) | ((repeat ((fail_if_success (refine hK _ ?_)); clear hK K)); refine hK _ ?_; clear hK K) | ((first | refine CW.skip ?_ | refine CW.exit ?_ | refine CW.ret ?_); simp only [xs, if_true, if_false, Nat.reduceEqDiff, reduceCtorEq]) | (refine CW.cond (by simp only [upd_at, if_true, if_false, Nat.reduceEqDiff]; rfl) (fun hb => ?_) (fun hb => ?_) <;> (try simp only [xb, reduceCtorEq] at hb)) | ((first | refine W_brs (fun hc => ?_) (fun hc => ?_) | refine D_brs (fun hc => ?_) (fun hc => ?_)) <;> (try simp only [Bool.not_eq_true, Bool.not_eq_false] at hc) <;> (try simp (config := { maxSteps := 2000000 }) only [go_sem, hc]) <;> (try simp only [xb] at hc)) | (refine And.intro (by omega) ?_) | (refine And.intro (by simp only [xl]; omega) ?_) | (refine ex_idx (by omega) ?_) | (refine And.intro (by rw [← hB]; kernel_rfl) ?_) | fail)
  (first | refine W_askP rfl _ (⟨_, _, _, rfl, rfl⟩) ?_ | refine D_askP rfl _ (⟨_, _, _, rfl, rfl⟩) ?_); simp (config := { maxSteps := 2000000 }) only [go_sem]
  repeat' (first | (refine CW.seqK fun K hK => ?_) | (refine CW.block ?_) | ((first | refine CW.reg hΓ (by rw [hκ]; rfl) ?_ | refine CW.drw hΓ Try_mixed (by rw [hκ]; rfl) (by kernel_rfl) (fun B hB => ?_)); simp (config := { maxSteps := 2000000 }) only [go_sem]) | ((repeat ((fail_if_success (refine hK _ ?_)); clear hK K)); refine hK _ ?_; clear hK K) | ((first | refine CW.skip ?_ | refine CW.exit ?_ | refine CW.ret ?_); simp only [xs, if_true, if_false, Nat.reduceEqDiff, reduceCtorEq]) | (refine CW.cond (by simp only [upd_at, if_true, if_false, Nat.reduceEqDiff]; rfl) (fun hb => ?_) (fun hb => ?_) <;> (try simp only [xb, reduceCtorEq] at hb)) | ((first | refine W_brs (fun hc => ?_) (fun hc => ?_) | refine D_brs (fun hc => ?_) (fun hc => ?_)) <;> (try simp only [Bool.not_eq_true, Bool.not_eq_false] at hc) <;> (try simp (config := { maxSteps := 2000000 }) only [go_sem, hc]) <;> (try simp only [xb] at hc)) | (refine And.intro (by omega) ?_) | (refine And.intro (by simp only [xl]; omega) ?_) | (refine ex_idx (by omega) ?_) | (refine And.intro (by rw [← hB]; kernel_rfl) ?_) | fail)
  · have : autoOKB ⟨E, N⟩ = false := notOK fun h => by have := h.len; dsimp only at this; omega
    simp [Try.results30, RetOK, upd_at, plainB, this]
  rotate_left
  · have : autoOKB ⟨E, N⟩ = false := notOK fun h => by have h1 := h.lo; have h2 := h.hi; dsimp only at h1 h2; omega
    simp [Try.results30, RetOK, upd_at, plainB, this]
  have hn0 : N.length = E.length := by omega
  refine CW.loop (ι := Nat) (fun k => [(1, box [ints E, rows N]), (3, I E.length), (4, I k)]) (fun k => k ≤ E.length ∧ ∀ i, i < k → okRow ⟨E, N⟩ i) (fun k => E.length - k) 0 ?_ ?_
  · refine ⟨by (simp only [LeL, envOf, upd_at, if_true, if_false, Nat.reduceEqDiff, true_or, and_true, true_and, and_self]; (try simp [view, viewL_map]); (try omega)), by omega, fun i hi => by omega⟩
  rintro k ⟨hk, hok⟩
  simp only [envOf]
  repeat' (first | (refine CW.seqK fun K hK => ?_) | (refine CW.block ?_) | ((first | refine CW.reg hΓ (by rw [hκ]; rfl) ?_ | refine CW.drw hΓ Try_mixed (by rw [hκ]; rfl) (by kernel_rfl) (fun B hB => ?_)); simp (config := { maxSteps := 2000000 }) only [go_sem]) | ((repeat ((fail_if_success (refine hK _ ?_)); clear hK K)); refine hK _ ?_; clear hK K) | ((first | refine CW.skip ?_ | refine CW.exit ?_ | refine CW.ret ?_); simp only [xs, if_true, if_false, Nat.reduceEqDiff, reduceCtorEq]) | (refine CW.cond (by simp only [upd_at, if_true, if_false, Nat.reduceEqDiff]; rfl) (fun hb => ?_) (fun hb => ?_) <;> (try simp only [xb, reduceCtorEq] at hb)) | ((first | refine W_brs (fun hc => ?_) (fun hc => ?_) | refine D_brs (fun hc => ?_) (fun hc => ?_)) <;> (try simp only [Bool.not_eq_true, Bool.not_eq_false] at hc) <;> (try simp (config := { maxSteps := 2000000 }) only [go_sem, hc]) <;> (try simp only [xb] at hc)) | (refine And.intro (by omega) ?_) | (refine And.intro (by simp only [xl]; omega) ?_) | (refine ex_idx (by omega) ?_) | (refine And.intro (by rw [← hB]; kernel_rfl) ?_) | fail)
  (first | refine W_askP rfl _ (⟨_, rfl, rfl⟩) ?_ | refine D_askP rfl _ (⟨_, rfl, rfl⟩) ?_); simp (config := { maxSteps := 2000000 }) only [go_sem]
  repeat' (first | (refine CW.seqK fun K hK => ?_) | (refine CW.block ?_) | ((first | refine CW.reg hΓ (by rw [hκ]; rfl) ?_ | refine CW.drw hΓ Try_mixed (by rw [hκ]; rfl) (by kernel_rfl) (fun B hB => ?_)); simp (config := { maxSteps := 2000000 }) only [go_sem]) | ((repeat ((fail_if_success (refine hK _ ?_)); clear hK K)); refine hK _ ?_; clear hK K) | ((first | refine CW.skip ?_ | refine CW.exit ?_ | refine CW.ret ?_); simp only [xs, if_true, if_false, Nat.reduceEqDiff, reduceCtorEq]) | (refine CW.cond (by simp only [upd_at, if_true, if_false, Nat.reduceEqDiff]; rfl) (fun hb => ?_) (fun hb => ?_) <;> (try simp only [xb, reduceCtorEq] at hb)) | ((first | refine W_brs (fun hc => ?_) (fun hc => ?_) | refine D_brs (fun hc => ?_) (fun hc => ?_)) <;> (try simp only [Bool.not_eq_true, Bool.not_eq_false] at hc) <;> (try simp (config := { maxSteps := 2000000 }) only [go_sem, hc]) <;> (try simp only [xb] at hc)) | (refine And.intro (by omega) ?_) | (refine And.intro (by simp only [xl]; omega) ?_) | (refine ex_idx (by omega) ?_) | (refine And.intro (by rw [← hB]; kernel_rfl) ?_) | fail)
  · have : autoOKB ⟨E, N⟩ = false := notOK fun h => by
      have := h.rows k (by dsimp only; omega)
      rw [nthL_getElem (by dsimp only; omega)] at this
      dsimp only at this
      omega
    simp [Try.results30, RetOK, upd_at, plainB, this]
  rotate_left
  · have : autoOKB ⟨E, N⟩ = false := notOK fun h => by
      have := h.ends k (by dsimp only; omega)
      rw [nth_getElem (by dsimp only; omega)] at this
      exact hc this
    simp [Try.results30, RetOK, upd_at, plainB, this]
  · have : autoOKB ⟨E, N⟩ = true := autoOKB_true.2 (okRow_all (by dsimp only; omega) (by dsimp only; omega) hn0 fun i hi => hok i (by dsimp only at hi; omega))
    simp [Try.results30, RetOK, upd_at, plainB, this]
  have hkl : k < E.length := by omega
  have hrow : N[k].length = 12 := by omega
  have hp : (1 : Int) ≤ 2 ^ E.length ∧ (2 : Int) ^ E.length ≤ 1024 := pow_bd10 (by omega)
  refine CW.loop (ι := Nat) (fun j => [(1, box [ints E, rows N]), (3, I E.length), (4, I k), (5, I j)]) (fun j => j ≤ 12 ∧ ∀ i, i < j → 0 ≤ nth (nthL N k) i ∧ nth (nthL N k) i ≤ 2 ^ E.length - 1) (fun j => 12 - j) 0 ?_ ?_
  · refine ⟨by (simp only [LeL, envOf, upd_at, if_true, if_false, Nat.reduceEqDiff, true_or, and_true, true_and, and_self]; (try simp [view, viewL_map]); (try omega)), by omega, fun i hi => by omega⟩
  rintro j ⟨hj, hset⟩
  simp only [envOf]
  repeat' (first | (refine CW.seqK fun K hK => ?_) | (refine CW.block ?_) | ((first | refine CW.reg hΓ (by rw [hκ]; rfl) ?_ | refine CW.drw hΓ Try_mixed (by rw [hκ]; rfl) (by kernel_rfl) (fun B hB => ?_)); simp (config := { maxSteps := 2000000 }) only [go_sem]) | ((repeat ((fail_if_success (refine hK _ ?_)); clear hK K)); refine hK _ ?_; clear hK K) | ((first | refine CW.skip ?_ | refine CW.exit ?_ | refine CW.ret ?_); simp only [xs, if_true, if_false, Nat.reduceEqDiff, reduceCtorEq]) | (refine CW.cond (by simp only [upd_at, if_true, if_false, Nat.reduceEqDiff]; rfl) (fun hb => ?_) (fun hb => ?_) <;> (try simp only [xb, reduceCtorEq] at hb)) | ((first | refine W_brs (fun hc => ?_) (fun hc => ?_) | refine D_brs (fun hc => ?_) (fun hc => ?_)) <;> (try simp only [Bool.not_eq_true, Bool.not_eq_false] at hc) <;> (try simp (config := { maxSteps := 2000000 }) only [go_sem, hc]) <;> (try simp only [xb] at hc)) | (refine And.intro (by omega) ?_) | (refine And.intro (by simp only [xl]; omega) ?_) | (refine ex_idx (by omega) ?_) | (refine And.intro (by rw [← hB]; kernel_rfl) ?_) | fail)
  (first | refine W_askP rfl _ (⟨_, _, _, rfl, rfl⟩) ?_ | refine D_askP rfl _ (⟨_, _, _, rfl, rfl⟩) ?_); simp (config := { maxSteps := 2000000 }) only [go_sem]
  repeat' (first | (refine CW.seqK fun K hK => ?_) | (refine CW.block ?_) | ((first | refine CW.reg hΓ (by rw [hκ]; rfl) ?_ | refine CW.drw hΓ Try_mixed (by rw [hκ]; rfl) (by kernel_rfl) (fun B hB => ?_)); simp (config := { maxSteps := 2000000 }) only [go_sem]) | ((repeat ((fail_if_success (refine hK _ ?_)); clear hK K)); refine hK _ ?_; clear hK K) | ((first | refine CW.skip ?_ | refine CW.exit ?_ | refine CW.ret ?_); simp only [xs, if_true, if_false, Nat.reduceEqDiff, reduceCtorEq]) | (refine CW.cond (by simp only [upd_at, if_true, if_false, Nat.reduceEqDiff]; rfl) (fun hb => ?_) (fun hb => ?_) <;> (try simp only [xb, reduceCtorEq] at hb)) | ((first | refine W_brs (fun hc => ?_) (fun hc => ?_) | refine D_brs (fun hc => ?_) (fun hc => ?_)) <;> (try simp only [Bool.not_eq_true, Bool.not_eq_false] at hc) <;> (try simp (config := { maxSteps := 2000000 }) only [go_sem, hc]) <;> (try simp only [xb] at hc)) | (refine And.intro (by omega) ?_) | (refine And.intro (by simp only [xl]; omega) ?_) | (refine ex_idx (by omega) ?_) | (refine And.intro (by rw [← hB]; kernel_rfl) ?_) | fail)
  · have : autoOKB ⟨E, N⟩ = false := notOK fun h => by
      have := h.sets k (by dsimp only; omega) j (by omega)
      rw [nthL_getElem (by dsimp only; omega), nth_getElem (by dsimp only; omega)] at this
      dsimp only at this
      omega
    simp [Try.results30, RetOK, upd_at, plainB, this]
  · refine ⟨j + 1, by (simp only [LeL, envOf, upd_at, if_true, if_false, Nat.reduceEqDiff, true_or, and_true, true_and, and_self]; (try simp [view, viewL_map]); (try omega)), ⟨by omega, fun i hi => ?_⟩, by omega⟩
    by_cases hij : i < j
    · exact hset i hij
    · have : i = j := by omega
      subst this
      rw [nthL_getElem (by omega), nth_getElem (by omega)]
      omega
  · refine ⟨k + 1, by (simp only [LeL, envOf, upd_at, if_true, if_false, Nat.reduceEqDiff, true_or, and_true, true_and, and_self]; (try simp [view, viewL_map]); (try omega)), ⟨by omega, fun i hi => ?_⟩, by omega⟩
    by_cases hik : i < k
    · exact hok i hik
    · have : i = k := by omega
      subst this
      refine ⟨?_, ?_, fun j' hj' => hset j' (by omega)⟩
      · rw [nth_getElem (by dsimp only; omega)]; assumption
      · rw [nthL_getElem (by dsimp only; omega)]; exact hrow

theorem implAutoValid_ctr : CtrOK Try.prog 29 (pureC autoValidR) := by
  refine ctr_pure' Try.func29 rfl rfl Try.ntmps29 ?_
  rintro _ _ ⟨E, N, rfl, hE, hN, hr, rfl⟩
  refine ⟨by simp, fun κ hκ => ?_⟩
  have hbig := bigW_gt
  rw [argEnv_eq]
  simp only [envA]
  have hΓ := ctxOf_ok (P := Try.prog) (L := [(36, pureC testValidR)]) (by simp only [List.mem_cons, List.not_mem_nil, or_false, forall_eq_or_imp, forall_eq]; exact implTestValid_ctr)
  repeat' (first | (refine CW.seqK fun K hK => ?_) | (refine CW.block ?_) | ((first | refine CW.reg hΓ (by rw [hκ]; rfl) ?_ | refine CW.drw hΓ Try_mixed (by rw [hκ]; rfl) (by kernel_rfl) (fun B hB => ?_)); simp (config := { maxSteps := 2000000 }) only [go_sem]) | ((repeat ((fail_if_success (refine hK _ ?_)); clear hK K)); refine hK _ ?_; clear hK K) | ((first | refine CW.skip ?_ | refine CW.exit ?_ | refine CW.ret ?_); simp only [xs, if_true, if_false, Nat.reduceEqDiff, reduceCtorEq]) | (refine CW.cond (by simp only [upd_at, if_true, if_false, Nat.reduceEqDiff]; rfl) (fun hb => ?_) (fun hb => ?_) <;> (try simp only [xb, reduceCtorEq] at hb)) | ((first | refine W_brs (fun hc => ?_) (fun hc => ?_) | refine D_brs (fun hc => ?_) (fun hc => ?_)) <;> (try simp only [Bool.not_eq_true, Bool.not_eq_false] at hc) <;> (try simp (config := { maxSteps := 2000000 }) only [go_sem, hc]) <;> (try simp only [xb] at hc)) | (refine And.intro (by omega) ?_) | (refine And.intro (by simp only [xl]; omega) ?_) | (refine ex_idx (by omega) ?_) | (refine And.intro (by rw [← hB]; kernel_rfl) ?_) | fail)
  · have : autoOKB ⟨E, N⟩ = false := notOK fun h => by have := h.len; dsimp only at this; omega
    simp [Try.results29, RetOK, upd_at, plainB, this]
  rotate_left
  · have : autoOKB ⟨E, N⟩ = false := notOK fun h => by have h1 := h.lo; have h2 := h.hi; dsimp only at h1 h2; omega
    simp [Try.results29, RetOK, upd_at, plainB, this]
  · have : autoOKB ⟨E, N⟩ = false := notOK fun h => by have h1 := h.lo; have h2 := h.hi; dsimp only at h1 h2; omega
    simp [Try.results29, RetOK, upd_at, plainB, this]
  have hn0 : N.length = E.length := by omega
  refine CW.loop (ι := Nat) (fun k => [(1, box [ints E, rows N]), (3, I E.length), (23, I E.length), (24, I k)]) (fun k => k ≤ E.length ∧ ∀ i, i < k → okRow ⟨E, N⟩ i) (fun k => E.length - k) 0 ?_ ?_
  · refine ⟨by (simp only [LeL, envOf, upd_at, if_true, if_false, Nat.reduceEqDiff, true_or, and_true, true_and, and_self]; (try simp [view, viewL_map]); (try omega)), by omega, fun i hi => by omega⟩
  rintro k ⟨hk, hok⟩
  simp only [envOf]
  repeat' (first | (refine CW.seqK fun K hK => ?_) | (refine CW.block ?_) | ((first | refine CW.reg hΓ (by rw [hκ]; rfl) ?_ | refine CW.drw hΓ Try_mixed (by rw [hκ]; rfl) (by kernel_rfl) (fun B hB => ?_)); simp (config := { maxSteps := 2000000 }) only [go_sem]) | ((repeat ((fail_if_success (refine hK _ ?_)); clear hK K)); refine hK _ ?_; clear hK K) | ((first | refine CW.skip ?_ | refine CW.exit ?_ | refine CW.ret ?_); simp only [xs, if_true, if_false, Nat.reduceEqDiff, reduceCtorEq]) | (refine CW.cond (by simp only [upd_at, if_true, if_false, Nat.reduceEqDiff]; rfl) (fun hb => ?_) (fun hb => ?_) <;> (try simp only [xb, reduceCtorEq] at hb)) | ((first | refine W_brs (fun hc => ?_) (fun hc => ?_) | refine D_brs (fun hc => ?_) (fun hc => ?_)) <;> (try simp only [Bool.not_eq_true, Bool.not_eq_false] at hc) <;> (try simp (config := { maxSteps := 2000000 }) only [go_sem, hc]) <;> (try simp only [xb] at hc)) | (refine And.intro (by omega) ?_) | (refine And.intro (by simp only [xl]; omega) ?_) | (refine ex_idx (by omega) ?_) | (refine And.intro (by rw [← hB]; kernel_rfl) ?_) | fail)
  (first | refine W_askP rfl _ (⟨_, rfl, rfl⟩) ?_ | refine D_askP rfl _ (⟨_, rfl, rfl⟩) ?_); simp (config := { maxSteps := 2000000 }) only [go_sem]
  repeat' (first | (refine CW.seqK fun K hK => ?_) | (refine CW.block ?_) | ((first | refine CW.reg hΓ (by rw [hκ]; rfl) ?_ | refine CW.drw hΓ Try_mixed (by rw [hκ]; rfl) (by kernel_rfl) (fun B hB => ?_)); simp (config := { maxSteps := 2000000 }) only [go_sem]) | ((repeat ((fail_if_success (refine hK _ ?_)); clear hK K)); refine hK _ ?_; clear hK K) | ((first | refine CW.skip ?_ | refine CW.exit ?_ | refine CW.ret ?_); simp only [xs, if_true, if_false, Nat.reduceEqDiff, reduceCtorEq]) | (refine CW.cond (by simp only [upd_at, if_true, if_false, Nat.reduceEqDiff]; rfl) (fun hb => ?_) (fun hb => ?_) <;> (try simp only [xb, reduceCtorEq] at hb)) | ((first | refine W_brs (fun hc => ?_) (fun hc => ?_) | refine D_brs (fun hc => ?_) (fun hc => ?_)) <;> (try simp only [Bool.not_eq_true, Bool.not_eq_false] at hc) <;> (try simp (config := { maxSteps := 2000000 }) only [go_sem, hc]) <;> (try simp only [xb] at hc)) | (refine And.intro (by omega) ?_) | (refine And.intro (by simp only [xl]; omega) ?_) | (refine ex_idx (by omega) ?_) | (refine And.intro (by rw [← hB]; kernel_rfl) ?_) | fail)
  · have : autoOKB ⟨E, N⟩ = false := notOK fun h => by
      have := h.rows k (by dsimp only; omega)
      rw [nthL_getElem (by dsimp only; omega)] at this
      dsimp only at this
      omega
    simp [Try.results29, RetOK, upd_at, plainB, this]
  rotate_left
  · have : autoOKB ⟨E, N⟩ = false := notOK fun h => by
      have := h.ends k (by dsimp only; omega)
      rw [nth_getElem (by dsimp only; omega)] at this
      exact hc this
    simp [Try.results29, RetOK, upd_at, plainB, this]
  · have : autoOKB ⟨E, N⟩ = true := autoOKB_true.2 (okRow_all (by dsimp only; omega) (by dsimp only; omega) hn0 fun i hi => hok i (by dsimp only at hi; omega))
    simp [Try.results29, RetOK, upd_at, plainB, this]
  have hkl : k < E.length := by omega
  have hrow : N[k].length = 12 := by omega
  have hp : (1 : Int) ≤ 2 ^ E.length ∧ (2 : Int) ^ E.length ≤ 1024 := pow_bd10 (by omega)
  refine CW.loop (ι := Nat) (fun j => [(1, box [ints E, rows N]), (3, I E.length), (23, I E.length), (24, I k), (47, ints N[k]), (48, I N[k].length), (49, I j)]) (fun j => j ≤ 12 ∧ ∀ i, i < j → 0 ≤ nth (nthL N k) i ∧ nth (nthL N k) i ≤ 2 ^ E.length - 1) (fun j => 12 - j) 0 ?_ ?_
  · refine ⟨by (simp only [LeL, envOf, upd_at, if_true, if_false, Nat.reduceEqDiff, true_or, and_true, true_and, and_self]; (try simp [view, viewL_map]); (try omega)), by omega, fun i hi => by omega⟩
  rintro j ⟨hj, hset⟩
  simp only [envOf]
  repeat' (first | (refine CW.seqK fun K hK => ?_) | (refine CW.block ?_) | ((first | refine CW.reg hΓ (by rw [hκ]; rfl) ?_ | refine CW.drw hΓ Try_mixed (by rw [hκ]; rfl) (by kernel_rfl) (fun B hB => ?_)); simp (config := { maxSteps := 2000000 }) only [go_sem]) | ((repeat ((fail_if_success (refine hK _ ?_)); clear hK K)); refine hK _ ?_; clear hK K) | ((first | refine CW.skip ?_ | refine CW.exit ?_ | refine CW.ret ?_); simp only [xs, if_true, if_false, Nat.reduceEqDiff, reduceCtorEq]) | (refine CW.cond (by simp only [upd_at, if_true, if_false, Nat.reduceEqDiff]; rfl) (fun hb => ?_) (fun hb => ?_) <;> (try simp only [xb, reduceCtorEq] at hb)) | ((first | refine W_brs (fun hc => ?_) (fun hc => ?_) | refine D_brs (fun hc => ?_) (fun hc => ?_)) <;> (try simp only [Bool.not_eq_true, Bool.not_eq_false] at hc) <;> (try simp (config := { maxSteps := 2000000 }) only [go_sem, hc]) <;> (try simp only [xb] at hc)) | (refine And.intro (by omega) ?_) | (refine And.intro (by simp only [xl]; omega) ?_) | (refine ex_idx (by omega) ?_) | (refine And.intro (by rw [← hB]; kernel_rfl) ?_) | fail)
  · have : autoOKB ⟨E, N⟩ = false := notOK fun h => by
      have := h.sets k (by dsimp only; omega) j (by omega)
      rw [nthL_getElem (by dsimp only; omega), nth_getElem (by dsimp only; omega)] at this
      dsimp only at this
      omega
    simp [Try.results29, RetOK, upd_at, plainB, this]
  · refine ⟨j + 1, by (simp only [LeL, envOf, upd_at, if_true, if_false, Nat.reduceEqDiff, true_or, and_true, true_and, and_self]; (try simp [view, viewL_map]); (try omega)), ⟨by omega, fun i hi => ?_⟩, by omega⟩
    by_cases hij : i < j
    · exact hset i hij
    · have : i = j := by omega
      subst this
      rw [nthL_getElem (by omega), nth_getElem (by omega)]
      omega
  · have : autoOKB ⟨E, N⟩ = false := notOK fun h => by
      have := h.sets k (by dsimp only; omega) j (by omega)
      rw [nthL_getElem (by dsimp only; omega), nth_getElem (by dsimp only; omega)] at this
      dsimp only at this
      omega
    simp [Try.results29, RetOK, upd_at, plainB, this]
  · refine ⟨k + 1, by (simp only [LeL, envOf, upd_at, if_true, if_false, Nat.reduceEqDiff, true_or, and_true, true_and, and_self]; (try simp [view, viewL_map]); (try omega)), ⟨by omega, fun i hi => ?_⟩, by omega⟩
    by_cases hik : i < k
    · exact hok i hik
    · have : i = k := by omega
      subst this
      refine ⟨?_, ?_, fun j' hj' => hset j' (by omega)⟩
      · rw [nth_getElem (by dsimp only; omega)]; assumption
      · rw [nthL_getElem (by dsimp only; omega)]; exact hrow


/- Expressions: what is valid, the parts that the last step takes, lists compared, walked by the engine. -/


def takesR (args : List AV) (r : AV) : Prop := ∃ n : Int, args = [I n] ∧ r = I ((takesN n : Nat) : Int)

theorem l2Takes_ctr : CtrOK Try.prog 132 (pureC takesR) := by
  refine ctr_pure' Try.func132 rfl rfl Try.ntmps132 ?_
  rintro _ _ ⟨n, rfl, rfl⟩
  refine ⟨by simp, fun κ hκ => ?_⟩
  have hbig := bigW_gt
  rw [argEnv_eq]
  simp only [envA]
  have hΓ := noCtx_ok Try.prog
  repeat' (first | (refine CW.seqK fun K hK => ?_) | (refine CW.block ?_) | ((first | refine CW.reg hΓ (by rw [hκ]; rfl) ?_ | refine CW.drw hΓ Try_mixed (by rw [hκ]; rfl) (by kernel_rfl) (fun B hB => ?_)); simp (config := { maxSteps := 2000000 }) only [go_sem]) | ((repeat ((fail_if_success (refine hK _ ?_)); clear hK K)); refine hK _ ?_; clear hK K) | ((first | refine CW.skip ?_ | refine CW.exit ?_ | refine CW.ret ?_); simp only [xs, if_true, if_false, Nat.reduceEqDiff, reduceCtorEq]) | (refine CW.cond (by simp only [upd_at, if_true, if_false, Nat.reduceEqDiff]; rfl) (fun hb => ?_) (fun hb => ?_) <;> (try simp only [xb, reduceCtorEq] at hb)) | ((first | refine W_brs (fun hc => ?_) (fun hc => ?_) | refine D_brs (fun hc => ?_) (fun hc => ?_)) <;> (try simp only [Bool.not_eq_true, Bool.not_eq_false] at hc) <;> (try simp (config := { maxSteps := 2000000 }) only [go_sem, hc]) <;> (try simp only [xb] at hc)) | (refine And.intro (by omega) ?_) | (refine And.intro (by simp only [xl]; omega) ?_) | (refine ex_idx (by omega) ?_) | (refine And.intro (by rw [← hB]; kernel_rfl) ?_) | fail)
  all_goals (first | omega | (simp [Try.results132, RetOK, upd_at, plainB, takesN, *]; done) | (simp [upd_at, takesN, *]; done))

theorem takes_ctr : CtrOK Try.prog 118 (pureC takesR) := by
  refine ctr_pure' Try.func118 rfl rfl Try.ntmps118 ?_
  rintro _ _ ⟨n, rfl, rfl⟩
  refine ⟨by simp, fun κ hκ => ?_⟩
  have hbig := bigW_gt
  rw [argEnv_eq]
  simp only [envA]
  have hΓ := noCtx_ok Try.prog
  repeat' (first | (refine CW.seqK fun K hK => ?_) | (refine CW.block ?_) | ((first | refine CW.reg hΓ (by rw [hκ]; rfl) ?_ | refine CW.drw hΓ Try_mixed (by rw [hκ]; rfl) (by kernel_rfl) (fun B hB => ?_)); simp (config := { maxSteps := 2000000 }) only [go_sem]) | ((repeat ((fail_if_success (refine hK _ ?_)); clear hK K)); refine hK _ ?_; clear hK K) | ((first | refine CW.skip ?_ | refine CW.exit ?_ | refine CW.ret ?_); simp only [xs, if_true, if_false, Nat.reduceEqDiff, reduceCtorEq]) | (refine CW.cond (by simp only [upd_at, if_true, if_false, Nat.reduceEqDiff]; rfl) (fun hb => ?_) (fun hb => ?_) <;> (try simp only [xb, reduceCtorEq] at hb)) | ((first | refine W_brs (fun hc => ?_) (fun hc => ?_) | refine D_brs (fun hc => ?_) (fun hc => ?_)) <;> (try simp only [Bool.not_eq_true, Bool.not_eq_false] at hc) <;> (try simp (config := { maxSteps := 2000000 }) only [go_sem, hc]) <;> (try simp only [xb] at hc)) | (refine And.intro (by omega) ?_) | (refine And.intro (by simp only [xl]; omega) ?_) | (refine ex_idx (by omega) ?_) | (refine And.intro (by rw [← hB]; kernel_rfl) ?_) | fail)
  all_goals (first | omega | (simp [Try.results118, RetOK, upd_at, plainB, takesN, *]; done) | (simp [upd_at, takesN, *]; done))

theorem katB_bad {e : List Int} (h : ¬ (1 ≤ e.length ∧ e.length ≤ 40)) : katB e = false := katB_false.2 fun hk => by
  obtain ⟨x, _, rfl, h40⟩ := hk.ex
  have := x.steps_pos
  omega

def katValidR (args : List AV) (r : AV) : Prop := ∃ e : List Int, args = [ints e] ∧ e.length ≤ 1099511627776 ∧ r = .bool (katB e)

theorem specKatValid_ctr : CtrOK Try.prog 108 (pureC katValidR) := by
  refine ctr_pure' Try.func108 rfl rfl Try.ntmps108 ?_
  rintro _ _ ⟨e, rfl, hl, rfl⟩
  refine ⟨by simp, fun κ hκ => ?_⟩
  have hbig := bigW_gt
  rw [argEnv_eq]
  simp only [envA]
  have hΓ := ctxOf_ok (P := Try.prog) (L := [(81, pureC l1InR), (132, pureC takesR)]) (by simp only [List.mem_cons, List.not_mem_nil, or_false, forall_eq_or_imp, forall_eq]; exact ⟨l1In_ctr, l2Takes_ctr⟩)
  repeat' (first | (refine CW.seqK fun K hK => ?_) | (refine CW.block ?_) | ((first | refine CW.reg hΓ (by rw [hκ]; rfl) ?_ | refine CW.drw hΓ Try_mixed (by rw [hκ]; rfl) (by kernel_rfl) (fun B hB => ?_)); simp (config := { maxSteps := 2000000 }) only [go_sem]) | ((repeat ((fail_if_success (refine hK _ ?_)); clear hK K)); refine hK _ ?_; clear hK K) | ((first | refine CW.skip ?_ | refine CW.exit ?_ | refine CW.ret ?_); simp only [xs, if_true, if_false, Nat.reduceEqDiff, reduceCtorEq]) | (refine CW.cond (by simp only [upd_at, if_true, if_false, Nat.reduceEqDiff]; rfl) (fun hb => ?_) (fun hb => ?_) <;> (try simp only [xb, reduceCtorEq] at hb)) | ((first | refine W_brs (fun hc => ?_) (fun hc => ?_) | refine D_brs (fun hc => ?_) (fun hc => ?_)) <;> (try simp only [Bool.not_eq_true, Bool.not_eq_false] at hc) <;> (try simp (config := { maxSteps := 2000000 }) only [go_sem, hc]) <;> (try simp only [xb] at hc)) | (refine And.intro (by omega) ?_) | (refine And.intro (by simp only [xl]; omega) ?_) | (refine ex_idx (by omega) ?_) | (refine And.intro (by rw [← hB]; kernel_rfl) ?_) | fail)
  refine CW.loop (ι := Nat × Nat) (fun x => [(0, ints e), (3, I x.2), (4, I x.1)]) (fun x => x.1 ≤ e.length ∧ depthAt e x.1 x.2) (fun x => e.length - x.1) (0, 0) ?_ ?_
  · exact ⟨by (simp only [LeL, envOf, upd_at, if_true, if_false, Nat.reduceEqDiff, true_or, and_true, true_and, and_self]; (try simp [view, viewL_map]); (try omega)), by simp, depthAt_zero e⟩
  rintro ⟨k, d⟩ ⟨hk, hd⟩
  have hdk := depthAt_le hd hk
  dsimp only at hk hd hdk ⊢
  simp only [envOf]
  repeat' (first | (refine CW.seqK fun K hK => ?_) | (refine CW.block ?_) | ((first | refine CW.reg hΓ (by rw [hκ]; rfl) ?_ | refine CW.drw hΓ Try_mixed (by rw [hκ]; rfl) (by kernel_rfl) (fun B hB => ?_)); simp (config := { maxSteps := 2000000 }) only [go_sem]) | ((repeat ((fail_if_success (refine hK _ ?_)); clear hK K)); refine hK _ ?_; clear hK K) | ((first | refine CW.skip ?_ | refine CW.exit ?_ | refine CW.ret ?_); simp only [xs, if_true, if_false, Nat.reduceEqDiff, reduceCtorEq]) | (refine CW.cond (by simp only [upd_at, if_true, if_false, Nat.reduceEqDiff]; rfl) (fun hb => ?_) (fun hb => ?_) <;> (try simp only [xb, reduceCtorEq] at hb)) | ((first | refine W_brs (fun hc => ?_) (fun hc => ?_) | refine D_brs (fun hc => ?_) (fun hc => ?_)) <;> (try simp only [Bool.not_eq_true, Bool.not_eq_false] at hc) <;> (try simp (config := { maxSteps := 2000000 }) only [go_sem, hc]) <;> (try simp only [xb] at hc)) | (refine And.intro (by omega) ?_) | (refine And.intro (by simp only [xl]; omega) ?_) | (refine ex_idx (by omega) ?_) | (refine And.intro (by rw [← hB]; kernel_rfl) ?_) | fail)
  · have hkl : k < e.length := by omega
    have hnth : nth e k = e[k] := nth_getElem hkl
    have htk := takesN_le e[k]
    (first | refine W_askP rfl _ (⟨_, _, _, rfl, rfl⟩) ?_ | refine D_askP rfl _ (⟨_, _, _, rfl, rfl⟩) ?_); simp (config := { maxSteps := 2000000 }) only [go_sem]
    repeat' (first | (refine CW.seqK fun K hK => ?_) | (refine CW.block ?_) | ((first | refine CW.reg hΓ (by rw [hκ]; rfl) ?_ | refine CW.drw hΓ Try_mixed (by rw [hκ]; rfl) (by kernel_rfl) (fun B hB => ?_)); simp (config := { maxSteps := 2000000 }) only [go_sem]) | ((repeat ((fail_if_success (refine hK _ ?_)); clear hK K)); refine hK _ ?_; clear hK K) | ((first | refine CW.skip ?_ | refine CW.exit ?_ | refine CW.ret ?_); simp only [xs, if_true, if_false, Nat.reduceEqDiff, reduceCtorEq]) | (refine CW.cond (by simp only [upd_at, if_true, if_false, Nat.reduceEqDiff]; rfl) (fun hb => ?_) (fun hb => ?_) <;> (try simp only [xb, reduceCtorEq] at hb)) | ((first | refine W_brs (fun hc => ?_) (fun hc => ?_) | refine D_brs (fun hc => ?_) (fun hc => ?_)) <;> (try simp only [Bool.not_eq_true, Bool.not_eq_false] at hc) <;> (try simp (config := { maxSteps := 2000000 }) only [go_sem, hc]) <;> (try simp only [xb] at hc)) | (refine And.intro (by omega) ?_) | (refine And.intro (by simp only [xl]; omega) ?_) | (refine ex_idx (by omega) ?_) | (refine And.intro (by rw [← hB]; kernel_rfl) ?_) | fail)
    · (first | refine W_askP rfl _ (⟨_, rfl, rfl⟩) ?_ | refine D_askP rfl _ (⟨_, rfl, rfl⟩) ?_); simp (config := { maxSteps := 2000000 }) only [go_sem]
      repeat' (first | (refine CW.seqK fun K hK => ?_) | (refine CW.block ?_) | ((first | refine CW.reg hΓ (by rw [hκ]; rfl) ?_ | refine CW.drw hΓ Try_mixed (by rw [hκ]; rfl) (by kernel_rfl) (fun B hB => ?_)); simp (config := { maxSteps := 2000000 }) only [go_sem]) | ((repeat ((fail_if_success (refine hK _ ?_)); clear hK K)); refine hK _ ?_; clear hK K) | ((first | refine CW.skip ?_ | refine CW.exit ?_ | refine CW.ret ?_); simp only [xs, if_true, if_false, Nat.reduceEqDiff, reduceCtorEq]) | (refine CW.cond (by simp only [upd_at, if_true, if_false, Nat.reduceEqDiff]; rfl) (fun hb => ?_) (fun hb => ?_) <;> (try simp only [xb, reduceCtorEq] at hb)) | ((first | refine W_brs (fun hc => ?_) (fun hc => ?_) | refine D_brs (fun hc => ?_) (fun hc => ?_)) <;> (try simp only [Bool.not_eq_true, Bool.not_eq_false] at hc) <;> (try simp (config := { maxSteps := 2000000 }) only [go_sem, hc]) <;> (try simp only [xb] at hc)) | (refine And.intro (by omega) ?_) | (refine And.intro (by simp only [xl]; omega) ?_) | (refine ex_idx (by omega) ?_) | (refine And.intro (by rw [← hB]; kernel_rfl) ?_) | fail)
      · have hkb : katB e = false := katB_false.2 (depthAt_fail hd hkl (.inr (by rw [hnth]; omega)))
        simp [Try.results108, RetOK, RetP, backA, upd_at, plainB, getP, isOwn, anyOwn, isP, *]
      · (first | refine W_askP rfl _ (⟨_, rfl, rfl⟩) ?_ | refine D_askP rfl _ (⟨_, rfl, rfl⟩) ?_); simp (config := { maxSteps := 2000000 }) only [go_sem]
        repeat' (first | (refine CW.seqK fun K hK => ?_) | (refine CW.block ?_) | ((first | refine CW.reg hΓ (by rw [hκ]; rfl) ?_ | refine CW.drw hΓ Try_mixed (by rw [hκ]; rfl) (by kernel_rfl) (fun B hB => ?_)); simp (config := { maxSteps := 2000000 }) only [go_sem]) | ((repeat ((fail_if_success (refine hK _ ?_)); clear hK K)); refine hK _ ?_; clear hK K) | ((first | refine CW.skip ?_ | refine CW.exit ?_ | refine CW.ret ?_); simp only [xs, if_true, if_false, Nat.reduceEqDiff, reduceCtorEq]) | (refine CW.cond (by simp only [upd_at, if_true, if_false, Nat.reduceEqDiff]; rfl) (fun hb => ?_) (fun hb => ?_) <;> (try simp only [xb, reduceCtorEq] at hb)) | ((first | refine W_brs (fun hc => ?_) (fun hc => ?_) | refine D_brs (fun hc => ?_) (fun hc => ?_)) <;> (try simp only [Bool.not_eq_true, Bool.not_eq_false] at hc) <;> (try simp (config := { maxSteps := 2000000 }) only [go_sem, hc]) <;> (try simp only [xb] at hc)) | (refine And.intro (by omega) ?_) | (refine And.intro (by simp only [xl]; omega) ?_) | (refine ex_idx (by omega) ?_) | (refine And.intro (by rw [← hB]; kernel_rfl) ?_) | fail)
        have hst := depthAt_step hd hkl (by rw [hnth]; omega) (by rw [hnth]; omega) (by rw [hnth]; omega)
        rw [hnth] at hst
        refine ⟨(k + 1, d + 1 - takesN e[k]), ?_, ⟨by dsimp only; omega, hst⟩, by dsimp only; omega⟩
        (simp only [LeL, envOf, upd_at, if_true, if_false, Nat.reduceEqDiff, true_or, and_true, true_and, and_self]; (try simp [view, viewL_map]); (try omega))
    · have hkb : katB e = false := katB_false.2 (depthAt_fail hd hkl (.inl (by rw [hnth]; exact hc)))
      simp [Try.results108, RetOK, RetP, backA, upd_at, plainB, getP, isOwn, anyOwn, isP, *]
  · have hke : k = e.length := by omega
    subst hke
    (first | refine W_askP rfl _ (⟨_, _, _, rfl, rfl⟩) ?_ | refine D_askP rfl _ (⟨_, _, _, rfl, rfl⟩) ?_); simp (config := { maxSteps := 2000000 }) only [go_sem]
    repeat' (first | (refine CW.seqK fun K hK => ?_) | (refine CW.block ?_) | ((first | refine CW.reg hΓ (by rw [hκ]; rfl) ?_ | refine CW.drw hΓ Try_mixed (by rw [hκ]; rfl) (by kernel_rfl) (fun B hB => ?_)); simp (config := { maxSteps := 2000000 }) only [go_sem]) | ((repeat ((fail_if_success (refine hK _ ?_)); clear hK K)); refine hK _ ?_; clear hK K) | ((first | refine CW.skip ?_ | refine CW.exit ?_ | refine CW.ret ?_); simp only [xs, if_true, if_false, Nat.reduceEqDiff, reduceCtorEq]) | (refine CW.cond (by simp only [upd_at, if_true, if_false, Nat.reduceEqDiff]; rfl) (fun hb => ?_) (fun hb => ?_) <;> (try simp only [xb, reduceCtorEq] at hb)) | ((first | refine W_brs (fun hc => ?_) (fun hc => ?_) | refine D_brs (fun hc => ?_) (fun hc => ?_)) <;> (try simp only [Bool.not_eq_true, Bool.not_eq_false] at hc) <;> (try simp (config := { maxSteps := 2000000 }) only [go_sem, hc]) <;> (try simp only [xb] at hc)) | (refine And.intro (by omega) ?_) | (refine And.intro (by simp only [xl]; omega) ?_) | (refine ex_idx (by omega) ?_) | (refine And.intro (by rw [← hB]; kernel_rfl) ?_) | fail)
    · have hkb := depthAt_end hd (by omega)
      have hd1 : decide (d = 1) = decide ((d : Int) = 1) := by rw [Bool.eq_iff_iff, decide_eq_true_eq, decide_eq_true_eq]; omega
      rw [hkb, hd1]
      simp [Try.results108, RetOK, RetP, backA, upd_at, plainB, getP, isOwn, anyOwn, isP]
    · have hkb := katB_bad (e := e) (by omega)
      simp [Try.results108, RetOK, RetP, backA, upd_at, plainB, getP, isOwn, anyOwn, isP, *]

theorem implKatValid_ctr : CtrOK Try.prog 76 (pureC katValidR) := by
  refine ctr_pure' Try.func76 rfl rfl Try.ntmps76 ?_
  rintro _ _ ⟨e, rfl, hl, rfl⟩
  refine ⟨by simp, fun κ hκ => ?_⟩
  have hbig := bigW_gt
  rw [argEnv_eq]
  simp only [envA]
  have hΓ := ctxOf_ok (P := Try.prog) (L := [(118, pureC takesR)]) (by simp only [List.mem_cons, List.not_mem_nil, or_false, forall_eq_or_imp, forall_eq]; exact takes_ctr)
  repeat' (first | (refine CW.seqK fun K hK => ?_) | (refine CW.block ?_) | ((first | refine CW.reg hΓ (by rw [hκ]; rfl) ?_ | refine CW.drw hΓ Try_mixed (by rw [hκ]; rfl) (by kernel_rfl) (fun B hB => ?_)); simp (config := { maxSteps := 2000000 }) only [go_sem]) | ((repeat ((fail_if_success (refine hK _ ?_)); clear hK K)); refine hK _ ?_; clear hK K) | ((first | refine CW.skip ?_ | refine CW.exit ?_ | refine CW.ret ?_); simp only [xs, if_true, if_false, Nat.reduceEqDiff, reduceCtorEq]) | (refine CW.cond (by simp only [upd_at, if_true, if_false, Nat.reduceEqDiff]; rfl) (fun hb => ?_) (fun hb => ?_) <;> (try simp only [xb, reduceCtorEq] at hb)) | ((first | refine W_brs (fun hc => ?_) (fun hc => ?_) | refine D_brs (fun hc => ?_) (fun hc => ?_)) <;> (try simp only [Bool.not_eq_true, Bool.not_eq_false] at hc) <;> (try simp (config := { maxSteps := 2000000 }) only [go_sem, hc]) <;> (try simp only [xb] at hc)) | (refine And.intro (by omega) ?_) | (refine And.intro (by simp only [xl]; omega) ?_) | (refine ex_idx (by omega) ?_) | (refine And.intro (by rw [← hB]; kernel_rfl) ?_) | fail)
  · have hkb := katB_bad (e := e) (by omega)
    simp [Try.results76, RetOK, RetP, backA, upd_at, plainB, getP, isOwn, anyOwn, isP, *]
  · refine CW.loop (ι := Nat × Nat) (fun x => [(0, ints e), (3, I x.2), (14, ints e), (15, I e.length), (16, I x.1)]) (fun x => x.1 ≤ e.length ∧ depthAt e x.1 x.2) (fun x => e.length - x.1) (0, 0) ?_ ?_
    · exact ⟨by (simp only [LeL, envOf, upd_at, if_true, if_false, Nat.reduceEqDiff, true_or, and_true, true_and, and_self]; (try simp [view, viewL_map]); (try omega)), by simp, depthAt_zero e⟩
    rintro ⟨k, d⟩ ⟨hk, hd⟩
    have hdk := depthAt_le hd hk
    dsimp only at hk hd hdk ⊢
    simp only [envOf]
    repeat' (first | (refine CW.seqK fun K hK => ?_) | (refine CW.block ?_) | ((first | refine CW.reg hΓ (by rw [hκ]; rfl) ?_ | refine CW.drw hΓ Try_mixed (by rw [hκ]; rfl) (by kernel_rfl) (fun B hB => ?_)); simp (config := { maxSteps := 2000000 }) only [go_sem]) | ((repeat ((fail_if_success (refine hK _ ?_)); clear hK K)); refine hK _ ?_; clear hK K) | ((first | refine CW.skip ?_ | refine CW.exit ?_ | refine CW.ret ?_); simp only [xs, if_true, if_false, Nat.reduceEqDiff, reduceCtorEq]) | (refine CW.cond (by simp only [upd_at, if_true, if_false, Nat.reduceEqDiff]; rfl) (fun hb => ?_) (fun hb => ?_) <;> (try simp only [xb, reduceCtorEq] at hb)) | ((first | refine W_brs (fun hc => ?_) (fun hc => ?_) | refine D_brs (fun hc => ?_) (fun hc => ?_)) <;> (try simp only [Bool.not_eq_true, Bool.not_eq_false] at hc) <;> (try simp (config := { maxSteps := 2000000 }) only [go_sem, hc]) <;> (try simp only [xb] at hc)) | (refine And.intro (by omega) ?_) | (refine And.intro (by simp only [xl]; omega) ?_) | (refine ex_idx (by omega) ?_) | (refine And.intro (by rw [← hB]; kernel_rfl) ?_) | fail)
    · have hkl : k < e.length := by omega
      have hnth : nth e k = e[k] := nth_getElem hkl
      have htk := takesN_le e[k]
      (first | refine W_askP rfl _ (⟨_, rfl, rfl⟩) ?_ | refine D_askP rfl _ (⟨_, rfl, rfl⟩) ?_); simp (config := { maxSteps := 2000000 }) only [go_sem]
      repeat' (first | (refine CW.seqK fun K hK => ?_) | (refine CW.block ?_) | ((first | refine CW.reg hΓ (by rw [hκ]; rfl) ?_ | refine CW.drw hΓ Try_mixed (by rw [hκ]; rfl) (by kernel_rfl) (fun B hB => ?_)); simp (config := { maxSteps := 2000000 }) only [go_sem]) | ((repeat ((fail_if_success (refine hK _ ?_)); clear hK K)); refine hK _ ?_; clear hK K) | ((first | refine CW.skip ?_ | refine CW.exit ?_ | refine CW.ret ?_); simp only [xs, if_true, if_false, Nat.reduceEqDiff, reduceCtorEq]) | (refine CW.cond (by simp only [upd_at, if_true, if_false, Nat.reduceEqDiff]; rfl) (fun hb => ?_) (fun hb => ?_) <;> (try simp only [xb, reduceCtorEq] at hb)) | ((first | refine W_brs (fun hc => ?_) (fun hc => ?_) | refine D_brs (fun hc => ?_) (fun hc => ?_)) <;> (try simp only [Bool.not_eq_true, Bool.not_eq_false] at hc) <;> (try simp (config := { maxSteps := 2000000 }) only [go_sem, hc]) <;> (try simp only [xb] at hc)) | (refine And.intro (by omega) ?_) | (refine And.intro (by simp only [xl]; omega) ?_) | (refine ex_idx (by omega) ?_) | (refine And.intro (by rw [← hB]; kernel_rfl) ?_) | fail)
      · have hkb : katB e = false := katB_false.2 (depthAt_fail hd hkl (.inr (by rw [hnth]; omega)))
        simp [Try.results76, RetOK, RetP, backA, upd_at, plainB, getP, isOwn, anyOwn, isP, *]
      · (first | refine W_askP rfl _ (⟨_, rfl, rfl⟩) ?_ | refine D_askP rfl _ (⟨_, rfl, rfl⟩) ?_); simp (config := { maxSteps := 2000000 }) only [go_sem]
        repeat' (first | (refine CW.seqK fun K hK => ?_) | (refine CW.block ?_) | ((first | refine CW.reg hΓ (by rw [hκ]; rfl) ?_ | refine CW.drw hΓ Try_mixed (by rw [hκ]; rfl) (by kernel_rfl) (fun B hB => ?_)); simp (config := { maxSteps := 2000000 }) only [go_sem]) | ((repeat ((fail_if_success (refine hK _ ?_)); clear hK K)); refine hK _ ?_; clear hK K) | ((first | refine CW.skip ?_ | refine CW.exit ?_ | refine CW.ret ?_); simp only [xs, if_true, if_false, Nat.reduceEqDiff, reduceCtorEq]) | (refine CW.cond (by simp only [upd_at, if_true, if_false, Nat.reduceEqDiff]; rfl) (fun hb => ?_) (fun hb => ?_) <;> (try simp only [xb, reduceCtorEq] at hb)) | ((first | refine W_brs (fun hc => ?_) (fun hc => ?_) | refine D_brs (fun hc => ?_) (fun hc => ?_)) <;> (try simp only [Bool.not_eq_true, Bool.not_eq_false] at hc) <;> (try simp (config := { maxSteps := 2000000 }) only [go_sem, hc]) <;> (try simp only [xb] at hc)) | (refine And.intro (by omega) ?_) | (refine And.intro (by simp only [xl]; omega) ?_) | (refine ex_idx (by omega) ?_) | (refine And.intro (by rw [← hB]; kernel_rfl) ?_) | fail)
        have hst := depthAt_step hd hkl (by rw [hnth]; omega) (by rw [hnth]; omega) (by rw [hnth]; omega)
        rw [hnth] at hst
        refine ⟨(k + 1, d + 1 - takesN e[k]), ?_, ⟨by dsimp only; omega, hst⟩, by dsimp only; omega⟩
        (simp only [LeL, envOf, upd_at, if_true, if_false, Nat.reduceEqDiff, true_or, and_true, true_and, and_self]; (try simp [view, viewL_map]); (try omega))
    · have hkb : katB e = false := katB_false.2 (depthAt_fail hd (by omega) (.inl (by rw [nth_getElem (by omega)]; omega)))
      simp [Try.results76, RetOK, RetP, backA, upd_at, plainB, getP, isOwn, anyOwn, isP, *]
    · have hkb : katB e = false := katB_false.2 (depthAt_fail hd (by omega) (.inl (by rw [nth_getElem (by omega)]; omega)))
      simp [Try.results76, RetOK, RetP, backA, upd_at, plainB, getP, isOwn, anyOwn, isP, *]
    · have hke : k = e.length := by omega
      subst hke
      have hkb := depthAt_end hd (by omega)
      have hd1 : decide (d = 1) = decide ((d : Int) = 1) := by rw [Bool.eq_iff_iff, decide_eq_true_eq, decide_eq_true_eq]; omega
      rw [hkb, hd1]
      simp [Try.results76, RetOK, RetP, backA, upd_at, plainB, getP, isOwn, anyOwn, isP]
  · have hkb := katB_bad (e := e) (by omega)
    simp [Try.results76, RetOK, RetP, backA, upd_at, plainB, getP, isOwn, anyOwn, isP, *]


/- Small functions of expressions and lists, walked by the engine. -/


def isActR (args : List AV) (r : AV) : Prop := ∃ n : Int, args = [I n] ∧ r = .bool (decide (16 ≤ n ∧ n ≤ 18))
theorem isAct_ctr : CtrOK Try.prog 93 (pureC isActR) := by
  refine ctr_pure' Try.func93 rfl rfl Try.ntmps93 ?_
  rintro _ _ ⟨n, rfl, rfl⟩
  refine ⟨by simp, fun κ hκ => ?_⟩
  have hbig := bigW_gt
  rw [argEnv_eq]
  simp only [envA]
  have hΓ := noCtx_ok Try.prog
  repeat' (first | (refine CW.seqK fun K hK => ?_) | (refine CW.block ?_) | ((first | refine CW.reg hΓ (by rw [hκ]; rfl) ?_ | refine CW.drw hΓ Try_mixed (by rw [hκ]; rfl) (by kernel_rfl) (fun B hB => ?_)); simp (config := { maxSteps := 2000000 }) only [go_sem]) | ((repeat ((fail_if_success (refine hK _ ?_)); clear hK K)); refine hK _ ?_; clear hK K) | ((first | refine CW.skip ?_ | refine CW.exit ?_ | refine CW.ret ?_); simp only [xs, if_true, if_false, Nat.reduceEqDiff, reduceCtorEq]) | (refine CW.cond (by simp only [upd_at, if_true, if_false, Nat.reduceEqDiff]; rfl) (fun hb => ?_) (fun hb => ?_) <;> (try simp only [xb, reduceCtorEq] at hb)) | ((first | refine W_brs (fun hc => ?_) (fun hc => ?_) | refine D_brs (fun hc => ?_) (fun hc => ?_)) <;> (try simp only [Bool.not_eq_true, Bool.not_eq_false] at hc) <;> (try simp (config := { maxSteps := 2000000 }) only [go_sem, hc]) <;> (try simp only [xb] at hc)) | (refine And.intro (by omega) ?_) | (refine And.intro (by simp only [xl]; omega) ?_) | (refine ex_idx (by omega) ?_) | (refine And.intro (by rw [← hB]; kernel_rfl) ?_) | fail)
  · have : decide (16 ≤ n ∧ n ≤ 18) = decide (n ≤ 18) := by rw [Bool.eq_iff_iff, decide_eq_true_eq, decide_eq_true_eq]; omega
    rw [this]
    simp [Try.results93, RetOK, RetP, backA, upd_at, plainB, getP, isOwn, anyOwn, isP]
  · have : decide (16 ≤ n ∧ n ≤ 18) = false := by rw [decide_eq_false_iff_not]; omega
    rw [this]
    simp [Try.results93, RetOK, RetP, backA, upd_at, plainB, getP, isOwn, anyOwn, isP]
def isAtomR (args : List AV) (r : AV) : Prop := ∃ n : Int, args = [I n] ∧ r = .bool (decide (0 ≤ n ∧ n ≤ 3))
theorem isAtom_ctr : CtrOK Try.prog 92 (pureC isAtomR) := by
  refine ctr_pure' Try.func92 rfl rfl Try.ntmps92 ?_
  rintro _ _ ⟨n, rfl, rfl⟩
  refine ⟨by simp, fun κ hκ => ?_⟩
  have hbig := bigW_gt
  rw [argEnv_eq]
  simp only [envA]
  have hΓ := noCtx_ok Try.prog
  repeat' (first | (refine CW.seqK fun K hK => ?_) | (refine CW.block ?_) | ((first | refine CW.reg hΓ (by rw [hκ]; rfl) ?_ | refine CW.drw hΓ Try_mixed (by rw [hκ]; rfl) (by kernel_rfl) (fun B hB => ?_)); simp (config := { maxSteps := 2000000 }) only [go_sem]) | ((repeat ((fail_if_success (refine hK _ ?_)); clear hK K)); refine hK _ ?_; clear hK K) | ((first | refine CW.skip ?_ | refine CW.exit ?_ | refine CW.ret ?_); simp only [xs, if_true, if_false, Nat.reduceEqDiff, reduceCtorEq]) | (refine CW.cond (by simp only [upd_at, if_true, if_false, Nat.reduceEqDiff]; rfl) (fun hb => ?_) (fun hb => ?_) <;> (try simp only [xb, reduceCtorEq] at hb)) | ((first | refine W_brs (fun hc => ?_) (fun hc => ?_) | refine D_brs (fun hc => ?_) (fun hc => ?_)) <;> (try simp only [Bool.not_eq_true, Bool.not_eq_false] at hc) <;> (try simp (config := { maxSteps := 2000000 }) only [go_sem, hc]) <;> (try simp only [xb] at hc)) | (refine And.intro (by omega) ?_) | (refine And.intro (by simp only [xl]; omega) ?_) | (refine ex_idx (by omega) ?_) | (refine And.intro (by rw [← hB]; kernel_rfl) ?_) | fail)
  · have : decide (0 ≤ n ∧ n ≤ 3) = decide (n ≤ 3) := by rw [Bool.eq_iff_iff, decide_eq_true_eq, decide_eq_true_eq]; omega
    rw [this]
    simp [Try.results92, RetOK, RetP, backA, upd_at, plainB, getP, isOwn, anyOwn, isP]
  · have : decide (0 ≤ n ∧ n ≤ 3) = false := by rw [decide_eq_false_iff_not]; omega
    rw [this]
    simp [Try.results92, RetOK, RetP, backA, upd_at, plainB, getP, isOwn, anyOwn, isP]

theorem bitN_one {s k : Nat} : ((s / 2 ^ k &&& 1 : Nat) : Int) = (bitN s k : Int) := by rw [Nat.and_one_is_mod, bitN_eq]
def holdsR (args : List AV) (r : AV) : Prop := ∃ s k : Nat, args = [I s, I k] ∧ s < 1099511627776 ∧ k < 64 ∧ r = .bool (s.testBit k)
theorem holds_ctr : CtrOK Try.prog 71 (pureC holdsR) := by
  refine ctr_pure' Try.func71 rfl rfl Try.ntmps71 ?_
  rintro _ _ ⟨s, k, rfl, hs, hk, rfl⟩
  refine ⟨by simp, fun κ hκ => ?_⟩
  have hbig := bigW_gt
  rw [argEnv_eq]
  simp only [envA]
  have hΓ := noCtx_ok Try.prog
  have h0 := Nat.div_le_self s (2 ^ k)
  repeat' (first | (refine CW.seqK fun K hK => ?_) | (refine CW.block ?_) | ((first | refine CW.reg hΓ (by rw [hκ]; rfl) ?_ | refine CW.drw hΓ Try_mixed (by rw [hκ]; rfl) (by kernel_rfl) (fun B hB => ?_)); simp (config := { maxSteps := 2000000 }) only [go_sem, shr_nat]) | ((repeat ((fail_if_success (refine hK _ ?_)); clear hK K)); refine hK _ ?_; clear hK K) | ((first | refine CW.skip ?_ | refine CW.exit ?_ | refine CW.ret ?_); simp only [xs, if_true, if_false, Nat.reduceEqDiff, reduceCtorEq]) | (refine CW.cond (by simp only [upd_at, if_true, if_false, Nat.reduceEqDiff]; rfl) (fun hb => ?_) (fun hb => ?_) <;> (try simp only [xb, reduceCtorEq] at hb)) | ((first | refine W_brs (fun hc => ?_) (fun hc => ?_) | refine D_brs (fun hc => ?_) (fun hc => ?_)) <;> (try simp only [Bool.not_eq_true, Bool.not_eq_false] at hc) <;> (try simp (config := { maxSteps := 2000000 }) only [go_sem, hc, shr_nat]) <;> (try simp only [xb] at hc)) | (refine And.intro (by omega) ?_) | (refine And.intro (by simp only [xl]; omega) ?_) | (refine ex_idx (by omega) ?_) | (refine And.intro (by rw [← hB]; kernel_rfl) ?_) | fail)
  have : s.testBit k = decide ((bitN s k : Int) = 1) := by
    unfold bitN
    cases s.testBit k <;> rfl
  rw [this]
  simp [Try.results71, RetOK, upd_at, plainB, Nat.and_one_is_mod, bitN_eq]

def l1EitherR (args : List AV) (r : AV) : Prop := ∃ a b : Nat, args = [I a, I b] ∧ a < 1099511627776 ∧ b < 1099511627776 ∧ r = I ((a ||| b : Nat) : Int)
theorem l1Either_ctr : CtrOK Try.prog 68 (pureC l1EitherR) := by
  refine ctr_pure' Try.func68 rfl rfl Try.ntmps68 ?_
  rintro _ _ ⟨a, b, rfl, ha, hb0, rfl⟩
  refine ⟨by simp, fun κ hκ => ?_⟩
  have hbig := bigW_gt
  rw [argEnv_eq]
  simp only [envA]
  have hΓ := ctxOf_ok (P := Try.prog) (L := [(66, pureC l1BothR)]) (by simp only [List.mem_cons, List.not_mem_nil, or_false, forall_eq_or_imp, forall_eq]; exact l1Both_ctr)
  repeat' (first | (refine CW.seqK fun K hK => ?_) | (refine CW.block ?_) | ((first | refine CW.reg hΓ (by rw [hκ]; rfl) ?_ | refine CW.drw hΓ Try_mixed (by rw [hκ]; rfl) (by kernel_rfl) (fun B hB => ?_)); simp (config := { maxSteps := 2000000 }) only [go_sem]) | ((repeat ((fail_if_success (refine hK _ ?_)); clear hK K)); refine hK _ ?_; clear hK K) | ((first | refine CW.skip ?_ | refine CW.exit ?_ | refine CW.ret ?_); simp only [xs, if_true, if_false, Nat.reduceEqDiff, reduceCtorEq]) | (refine CW.cond (by simp only [upd_at, if_true, if_false, Nat.reduceEqDiff]; rfl) (fun hb => ?_) (fun hb => ?_) <;> (try simp only [xb, reduceCtorEq] at hb)) | ((first | refine W_brs (fun hc => ?_) (fun hc => ?_) | refine D_brs (fun hc => ?_) (fun hc => ?_)) <;> (try simp only [Bool.not_eq_true, Bool.not_eq_false] at hc) <;> (try simp (config := { maxSteps := 2000000 }) only [go_sem, hc]) <;> (try simp only [xb] at hc)) | (refine And.intro (by omega) ?_) | (refine And.intro (by simp only [xl]; omega) ?_) | (refine ex_idx (by omega) ?_) | (refine And.intro (by rw [← hB]; kernel_rfl) ?_) | fail)
  (first | refine W_askP rfl _ (⟨_, _, rfl, ha, hb0, rfl⟩) ?_ | refine D_askP rfl _ (⟨_, _, rfl, ha, hb0, rfl⟩) ?_); simp (config := { maxSteps := 2000000 }) only [go_sem]
  have h1 := or_add_and a b
  have h2 : a &&& b ≤ a := Nat.and_le_left
  repeat' (first | (refine CW.seqK fun K hK => ?_) | (refine CW.block ?_) | ((first | refine CW.reg hΓ (by rw [hκ]; rfl) ?_ | refine CW.drw hΓ Try_mixed (by rw [hκ]; rfl) (by kernel_rfl) (fun B hB => ?_)); simp (config := { maxSteps := 2000000 }) only [go_sem]) | ((repeat ((fail_if_success (refine hK _ ?_)); clear hK K)); refine hK _ ?_; clear hK K) | ((first | refine CW.skip ?_ | refine CW.exit ?_ | refine CW.ret ?_); simp only [xs, if_true, if_false, Nat.reduceEqDiff, reduceCtorEq]) | (refine CW.cond (by simp only [upd_at, if_true, if_false, Nat.reduceEqDiff]; rfl) (fun hb => ?_) (fun hb => ?_) <;> (try simp only [xb, reduceCtorEq] at hb)) | ((first | refine W_brs (fun hc => ?_) (fun hc => ?_) | refine D_brs (fun hc => ?_) (fun hc => ?_)) <;> (try simp only [Bool.not_eq_true, Bool.not_eq_false] at hc) <;> (try simp (config := { maxSteps := 2000000 }) only [go_sem, hc]) <;> (try simp only [xb] at hc)) | (refine And.intro (by omega) ?_) | (refine And.intro (by simp only [xl]; omega) ?_) | (refine ex_idx (by omega) ?_) | (refine And.intro (by rw [← hB]; kernel_rfl) ?_) | fail)
  have : (a : Int) + b - ((a &&& b : Nat) : Int) = ((a ||| b : Nat) : Int) := by omega
  rw [this]
  simp [Try.results68, RetOK, RetP, backA, upd_at, plainB, getP, isOwn, anyOwn, isP]

theorem lexLt_append : ∀ (p a b : List Int), lexLt (p ++ a) (p ++ b) = lexLt a b
  | [], _, _ => rfl
  | x :: p, a, b => by rw [List.cons_append, List.cons_append, lexLt_cons, if_pos rfl]; exact lexLt_append p a b
theorem lex_ne {a b : List Int} {k : Nat} (ha : k < a.length) (hb : k < b.length) (h : a.take k = b.take k) (hne : ¬ a[k] = b[k]) : lexLt a b = decide (a[k] < b[k]) ∧ a ≠ b := by
  refine ⟨?_, fun e => hne (by subst e; rfl)⟩
  have e1 := List.take_append_drop k a
  have e2 := List.take_append_drop k b
  rw [List.drop_eq_getElem_cons ha] at e1
  rw [List.drop_eq_getElem_cons hb] at e2
  have e3 : lexLt a b = lexLt (a.take k ++ a[k] :: a.drop (k + 1)) (a.take k ++ b[k] :: b.drop (k + 1)) := by rw [e1, h, e2]
  rw [e3, lexLt_append, lexLt_cons, if_neg hne]
theorem lex_end {a b : List Int} {k : Nat} (ha : k ≤ a.length) (hb : k ≤ b.length) (h : a.take k = b.take k) (he : k = a.length ∨ k = b.length) : lexLt a b = decide (a.length < b.length) ∧ (a = b ↔ a.length = b.length) := by
  have e1 := List.take_append_drop k a
  have e2 := List.take_append_drop k b
  have e3 : lexLt a b = lexLt (a.take k ++ a.drop k) (a.take k ++ b.drop k) := by rw [e1, h, e2]
  rw [lexLt_append] at e3
  have l1 : (a.drop k).length = a.length - k := List.length_drop
  have l2 : (b.drop k).length = b.length - k := List.length_drop
  refine ⟨?_, fun e => by rw [e], fun e => ?_⟩
  · rw [e3]
    cases hx : a.drop k with
    | nil =>
      rw [hx] at l1
      cases hy : b.drop k with
      | nil =>
        rw [hy] at l2
        simp only [List.length_nil] at l1 l2
        rw [lexLt_nil]; exact (decide_eq_false (by omega)).symm
      | cons y ys =>
        rw [hy] at l2
        simp only [List.length_nil, List.length_cons] at l1 l2
        exact (decide_eq_true (by omega)).symm
    | cons x xs =>
      rw [hx] at l1
      cases hy : b.drop k with
      | nil =>
        rw [hy] at l2
        simp only [List.length_nil, List.length_cons] at l1 l2
        rw [lexLt_nil]; exact (decide_eq_false (by omega)).symm
      | cons y ys =>
        rw [hy] at l2
        simp only [List.length_cons] at l1 l2
        omega
  · have h1 : a.take k = a := List.take_of_length_le (by omega)
    have h2 : b.take k = b := List.take_of_length_le (by omega)
    rw [h1, h2] at h; exact h
theorem lex_next {a b : List Int} {k : Nat} (ha : k < a.length) (hb : k < b.length) (h : a.take k = b.take k) (he : a[k] = b[k]) : a.take (k + 1) = b.take (k + 1) := take_succ_eq ha hb h he
theorem decide_cast {a b : Nat} : decide (a < b) = decide ((a : Int) < (b : Int)) := by rw [Bool.eq_iff_iff, decide_eq_true_eq, decide_eq_true_eq]; omega
theorem decide_castE {a b : Nat} : decide (a = b) = decide ((a : Int) = (b : Int)) := by rw [Bool.eq_iff_iff, decide_eq_true_eq, decide_eq_true_eq]; omega

def sameR (args : List AV) (r : AV) : Prop := ∃ a b : List Int, args = [ints a, ints b] ∧ a.length ≤ 1099511627776 ∧ b.length ≤ 1099511627776 ∧ r = .bool (decide (a = b))
theorem l1Same_ctr : CtrOK Try.prog 137 (pureC sameR) := by
  refine ctr_pure' Try.func137 rfl rfl Try.ntmps137 ?_
  rintro _ _ ⟨a, b, rfl, ha, hb0, rfl⟩
  refine ⟨by simp, fun κ hκ => ?_⟩
  have hbig := bigW_gt
  rw [argEnv_eq]
  simp only [envA]
  have hΓ := noCtx_ok Try.prog
  repeat' (first | (refine CW.seqK fun K hK => ?_) | (refine CW.block ?_) | ((first | refine CW.reg hΓ (by rw [hκ]; rfl) ?_ | refine CW.drw hΓ Try_mixed (by rw [hκ]; rfl) (by kernel_rfl) (fun B hB => ?_)); simp (config := { maxSteps := 2000000 }) only [go_sem]) | ((repeat ((fail_if_success (refine hK _ ?_)); clear hK K)); refine hK _ ?_; clear hK K) | ((first | refine CW.skip ?_ | refine CW.exit ?_ | refine CW.ret ?_); simp only [xs, if_true, if_false, Nat.reduceEqDiff, reduceCtorEq]) | (refine CW.cond (by simp only [upd_at, if_true, if_false, Nat.reduceEqDiff]; rfl) (fun hb => ?_) (fun hb => ?_) <;> (try simp only [xb, reduceCtorEq] at hb)) | ((first | refine W_brs (fun hc => ?_) (fun hc => ?_) | refine D_brs (fun hc => ?_) (fun hc => ?_)) <;> (try simp only [Bool.not_eq_true, Bool.not_eq_false] at hc) <;> (try simp (config := { maxSteps := 2000000 }) only [go_sem, hc]) <;> (try simp only [xb] at hc)) | (refine And.intro (by omega) ?_) | (refine And.intro (by simp only [xl]; omega) ?_) | (refine ex_idx (by omega) ?_) | (refine And.intro (by rw [← hB]; kernel_rfl) ?_) | fail)
  refine CW.loop (ι := Nat) (fun k => [(0, ints a), (1, ints b), (5, I k)]) (fun k => k ≤ a.length ∧ k ≤ b.length ∧ a.take k = b.take k) (fun k => a.length - k) 0 ?_ ?_
  · exact ⟨by (simp only [LeL, envOf, upd_at, if_true, if_false, Nat.reduceEqDiff, true_or, and_true, true_and, and_self]; (try simp [view, viewL_map]); (try omega)), by omega, by omega, by simp⟩
  rintro k ⟨hka, hkb, hab⟩
  simp only [envOf]
  repeat' (first | (refine CW.seqK fun K hK => ?_) | (refine CW.block ?_) | ((first | refine CW.reg hΓ (by rw [hκ]; rfl) ?_ | refine CW.drw hΓ Try_mixed (by rw [hκ]; rfl) (by kernel_rfl) (fun B hB => ?_)); simp (config := { maxSteps := 2000000 }) only [go_sem]) | ((repeat ((fail_if_success (refine hK _ ?_)); clear hK K)); refine hK _ ?_; clear hK K) | ((first | refine CW.skip ?_ | refine CW.exit ?_ | refine CW.ret ?_); simp only [xs, if_true, if_false, Nat.reduceEqDiff, reduceCtorEq]) | (refine CW.cond (by simp only [upd_at, if_true, if_false, Nat.reduceEqDiff]; rfl) (fun hb => ?_) (fun hb => ?_) <;> (try simp only [xb, reduceCtorEq] at hb)) | ((first | refine W_brs (fun hc => ?_) (fun hc => ?_) | refine D_brs (fun hc => ?_) (fun hc => ?_)) <;> (try simp only [Bool.not_eq_true, Bool.not_eq_false] at hc) <;> (try simp (config := { maxSteps := 2000000 }) only [go_sem, hc]) <;> (try simp only [xb] at hc)) | (refine And.intro (by omega) ?_) | (refine And.intro (by simp only [xl]; omega) ?_) | (refine ex_idx (by omega) ?_) | (refine And.intro (by rw [← hB]; kernel_rfl) ?_) | fail)
  · have hx := (lex_ne (by omega) (by omega) hab hb).2
    have h2 : decide (a = b) = false := decide_eq_false hx
    rw [h2]
    simp [Try.results137, RetOK, RetP, backA, upd_at, plainB, getP, isOwn, anyOwn, isP]
  · exact ⟨k + 1, by (simp only [LeL, envOf, upd_at, if_true, if_false, Nat.reduceEqDiff, true_or, and_true, true_and, and_self]; (try simp [view, viewL_map]); (try omega)), ⟨by omega, by omega, lex_next (by omega) (by omega) hab hb⟩, by omega⟩
  all_goals (
    have h2 : decide (a = b) = decide (a.length = b.length) := by rw [Bool.eq_iff_iff, decide_eq_true_eq, decide_eq_true_eq]; exact (lex_end hka hkb hab (by omega)).2
    rw [h2, decide_castE]
    simp [Try.results137, RetOK, RetP, backA, upd_at, plainB, getP, isOwn, anyOwn, isP])

def lessR (args : List AV) (r : AV) : Prop := ∃ a b : List Int, args = [ints a, ints b] ∧ a.length ≤ 1099511627776 ∧ b.length ≤ 1099511627776 ∧ r = .bool (lexLt a b)
theorem l1Less_ctr : CtrOK Try.prog 144 (pureC lessR) := by
  refine ctr_pure' Try.func144 rfl rfl Try.ntmps144 ?_
  rintro _ _ ⟨a, b, rfl, ha, hb0, rfl⟩
  refine ⟨by simp, fun κ hκ => ?_⟩
  have hbig := bigW_gt
  rw [argEnv_eq]
  simp only [envA]
  have hΓ := noCtx_ok Try.prog
  repeat' (first | (refine CW.seqK fun K hK => ?_) | (refine CW.block ?_) | ((first | refine CW.reg hΓ (by rw [hκ]; rfl) ?_ | refine CW.drw hΓ Try_mixed (by rw [hκ]; rfl) (by kernel_rfl) (fun B hB => ?_)); simp (config := { maxSteps := 2000000 }) only [go_sem]) | ((repeat ((fail_if_success (refine hK _ ?_)); clear hK K)); refine hK _ ?_; clear hK K) | ((first | refine CW.skip ?_ | refine CW.exit ?_ | refine CW.ret ?_); simp only [xs, if_true, if_false, Nat.reduceEqDiff, reduceCtorEq]) | (refine CW.cond (by simp only [upd_at, if_true, if_false, Nat.reduceEqDiff]; rfl) (fun hb => ?_) (fun hb => ?_) <;> (try simp only [xb, reduceCtorEq] at hb)) | ((first | refine W_brs (fun hc => ?_) (fun hc => ?_) | refine D_brs (fun hc => ?_) (fun hc => ?_)) <;> (try simp only [Bool.not_eq_true, Bool.not_eq_false] at hc) <;> (try simp (config := { maxSteps := 2000000 }) only [go_sem, hc]) <;> (try simp only [xb] at hc)) | (refine And.intro (by omega) ?_) | (refine And.intro (by simp only [xl]; omega) ?_) | (refine ex_idx (by omega) ?_) | (refine And.intro (by rw [← hB]; kernel_rfl) ?_) | fail)
  refine CW.loop (ι := Nat) (fun k => [(0, ints a), (1, ints b), (5, I k)]) (fun k => k ≤ a.length ∧ k ≤ b.length ∧ a.take k = b.take k) (fun k => a.length - k) 0 ?_ ?_
  · exact ⟨by (simp only [LeL, envOf, upd_at, if_true, if_false, Nat.reduceEqDiff, true_or, and_true, true_and, and_self]; (try simp [view, viewL_map]); (try omega)), by omega, by omega, by simp⟩
  rintro k ⟨hka, hkb, hab⟩
  simp only [envOf]
  repeat' (first | (refine CW.seqK fun K hK => ?_) | (refine CW.block ?_) | ((first | refine CW.reg hΓ (by rw [hκ]; rfl) ?_ | refine CW.drw hΓ Try_mixed (by rw [hκ]; rfl) (by kernel_rfl) (fun B hB => ?_)); simp (config := { maxSteps := 2000000 }) only [go_sem]) | ((repeat ((fail_if_success (refine hK _ ?_)); clear hK K)); refine hK _ ?_; clear hK K) | ((first | refine CW.skip ?_ | refine CW.exit ?_ | refine CW.ret ?_); simp only [xs, if_true, if_false, Nat.reduceEqDiff, reduceCtorEq]) | (refine CW.cond (by simp only [upd_at, if_true, if_false, Nat.reduceEqDiff]; rfl) (fun hb => ?_) (fun hb => ?_) <;> (try simp only [xb, reduceCtorEq] at hb)) | ((first | refine W_brs (fun hc => ?_) (fun hc => ?_) | refine D_brs (fun hc => ?_) (fun hc => ?_)) <;> (try simp only [Bool.not_eq_true, Bool.not_eq_false] at hc) <;> (try simp (config := { maxSteps := 2000000 }) only [go_sem, hc]) <;> (try simp only [xb] at hc)) | (refine And.intro (by omega) ?_) | (refine And.intro (by simp only [xl]; omega) ?_) | (refine ex_idx (by omega) ?_) | (refine And.intro (by rw [← hB]; kernel_rfl) ?_) | fail)
  · rw [(lex_ne (by omega) (by omega) hab hb).1]
    simp [Try.results144, RetOK, RetP, backA, upd_at, plainB, getP, isOwn, anyOwn, isP]
  · exact ⟨k + 1, by (simp only [LeL, envOf, upd_at, if_true, if_false, Nat.reduceEqDiff, true_or, and_true, true_and, and_self]; (try simp [view, viewL_map]); (try omega)), ⟨by omega, by omega, lex_next (by omega) (by omega) hab hb⟩, by omega⟩
  all_goals (
    rw [(lex_end hka hkb hab (by omega)).1, decide_cast]
    simp [Try.results144, RetOK, RetP, backA, upd_at, plainB, getP, isOwn, anyOwn, isP])

theorem equal_ctr : CtrOK Try.prog 141 (pureC sameR) := by
  refine ctr_pure' Try.func141 rfl rfl Try.ntmps141 ?_
  rintro _ _ ⟨a, b, rfl, ha, hb0, rfl⟩
  refine ⟨by simp, fun κ hκ => ?_⟩
  have hbig := bigW_gt
  rw [argEnv_eq]
  simp only [envA]
  have hΓ := noCtx_ok Try.prog
  repeat' (first | (refine CW.seqK fun K hK => ?_) | (refine CW.block ?_) | ((first | refine CW.reg hΓ (by rw [hκ]; rfl) ?_ | refine CW.drw hΓ Try_mixed (by rw [hκ]; rfl) (by kernel_rfl) (fun B hB => ?_)); simp (config := { maxSteps := 2000000 }) only [go_sem]) | ((repeat ((fail_if_success (refine hK _ ?_)); clear hK K)); refine hK _ ?_; clear hK K) | ((first | refine CW.skip ?_ | refine CW.exit ?_ | refine CW.ret ?_); simp only [xs, if_true, if_false, Nat.reduceEqDiff, reduceCtorEq]) | (refine CW.cond (by simp only [upd_at, if_true, if_false, Nat.reduceEqDiff]; rfl) (fun hb => ?_) (fun hb => ?_) <;> (try simp only [xb, reduceCtorEq] at hb)) | ((first | refine W_brs (fun hc => ?_) (fun hc => ?_) | refine D_brs (fun hc => ?_) (fun hc => ?_)) <;> (try simp only [Bool.not_eq_true, Bool.not_eq_false] at hc) <;> (try simp (config := { maxSteps := 2000000 }) only [go_sem, hc]) <;> (try simp only [xb] at hc)) | (refine And.intro (by omega) ?_) | (refine And.intro (by simp only [xl]; omega) ?_) | (refine ex_idx (by omega) ?_) | (refine And.intro (by rw [← hB]; kernel_rfl) ?_) | fail)
  · have h2 : decide (a = b) = false := decide_eq_false fun e => by subst e; omega
    rw [h2]
    simp [Try.results141, RetOK, RetP, backA, upd_at, plainB, getP, isOwn, anyOwn, isP]
  refine CW.loop (ι := Nat) (fun k => [(0, ints a), (1, ints b), (12, I a.length), (13, I k)]) (fun k => k ≤ a.length ∧ a.take k = b.take k) (fun k => a.length - k) 0 ?_ ?_
  · exact ⟨by (simp only [LeL, envOf, upd_at, if_true, if_false, Nat.reduceEqDiff, true_or, and_true, true_and, and_self]; (try simp [view, viewL_map]); (try omega)), by omega, by simp⟩
  rintro k ⟨hka, hab⟩
  simp only [envOf]
  repeat' (first | (refine CW.seqK fun K hK => ?_) | (refine CW.block ?_) | ((first | refine CW.reg hΓ (by rw [hκ]; rfl) ?_ | refine CW.drw hΓ Try_mixed (by rw [hκ]; rfl) (by kernel_rfl) (fun B hB => ?_)); simp (config := { maxSteps := 2000000 }) only [go_sem]) | ((repeat ((fail_if_success (refine hK _ ?_)); clear hK K)); refine hK _ ?_; clear hK K) | ((first | refine CW.skip ?_ | refine CW.exit ?_ | refine CW.ret ?_); simp only [xs, if_true, if_false, Nat.reduceEqDiff, reduceCtorEq]) | (refine CW.cond (by simp only [upd_at, if_true, if_false, Nat.reduceEqDiff]; rfl) (fun hb => ?_) (fun hb => ?_) <;> (try simp only [xb, reduceCtorEq] at hb)) | ((first | refine W_brs (fun hc => ?_) (fun hc => ?_) | refine D_brs (fun hc => ?_) (fun hc => ?_)) <;> (try simp only [Bool.not_eq_true, Bool.not_eq_false] at hc) <;> (try simp (config := { maxSteps := 2000000 }) only [go_sem, hc]) <;> (try simp only [xb] at hc)) | (refine And.intro (by omega) ?_) | (refine And.intro (by simp only [xl]; omega) ?_) | (refine ex_idx (by omega) ?_) | (refine And.intro (by rw [← hB]; kernel_rfl) ?_) | fail)
  · have hx := (lex_ne (by omega) (by omega) hab (by assumption)).2
    have h2 : decide (a = b) = false := decide_eq_false hx
    rw [h2]
    simp [Try.results141, RetOK, RetP, backA, upd_at, plainB, getP, isOwn, anyOwn, isP]
  · exact ⟨k + 1, by (simp only [LeL, envOf, upd_at, if_true, if_false, Nat.reduceEqDiff, true_or, and_true, true_and, and_self]; (try simp [view, viewL_map]); (try omega)), ⟨by omega, lex_next (by omega) (by omega) hab (by assumption)⟩, by omega⟩
  · have h2 : decide (a = b) = true := decide_eq_true ((lex_end (k := k) hka (by omega) hab (by omega)).2.2 (by omega))
    rw [h2]
    simp [Try.results141, RetOK, RetP, backA, upd_at, plainB, getP, isOwn, anyOwn, isP]

def cmpI (a b : Int) : Int := if a < b then -1 else if a = b then 0 else 1
def cmpR (args : List AV) (r : AV) : Prop := ∃ a b : Int, args = [I a, I b] ∧ r = I (cmpI a b)
def isNaNR (args : List AV) (r : AV) : Prop := ∃ a : Int, args = [I a] ∧ r = .bool false
theorem isNaN_ctr : CtrOK Try.prog 170 (pureC isNaNR) := by
  refine ctr_pure' Try.func170 rfl rfl Try.ntmps170 ?_
  rintro _ _ ⟨a, rfl, rfl⟩
  refine ⟨by simp, fun κ hκ => ?_⟩
  have hbig := bigW_gt
  rw [argEnv_eq]
  simp only [envA]
  have hΓ := noCtx_ok Try.prog
  repeat' (first | (refine CW.seqK fun K hK => ?_) | (refine CW.block ?_) | ((first | refine CW.reg hΓ (by rw [hκ]; rfl) ?_ | refine CW.drw hΓ Try_mixed (by rw [hκ]; rfl) (by kernel_rfl) (fun B hB => ?_)); simp (config := { maxSteps := 2000000 }) only [go_sem]) | ((repeat ((fail_if_success (refine hK _ ?_)); clear hK K)); refine hK _ ?_; clear hK K) | ((first | refine CW.skip ?_ | refine CW.exit ?_ | refine CW.ret ?_); simp only [xs, if_true, if_false, Nat.reduceEqDiff, reduceCtorEq]) | (refine CW.cond (by simp only [upd_at, if_true, if_false, Nat.reduceEqDiff]; rfl) (fun hb => ?_) (fun hb => ?_) <;> (try simp only [xb, reduceCtorEq] at hb)) | ((first | refine W_brs (fun hc => ?_) (fun hc => ?_) | refine D_brs (fun hc => ?_) (fun hc => ?_)) <;> (try simp only [Bool.not_eq_true, Bool.not_eq_false] at hc) <;> (try simp (config := { maxSteps := 2000000 }) only [go_sem, hc]) <;> (try simp only [xb] at hc)) | (refine And.intro (by omega) ?_) | (refine And.intro (by simp only [xl]; omega) ?_) | (refine ex_idx (by omega) ?_) | (refine And.intro (by rw [← hB]; kernel_rfl) ?_) | fail)
  simp [Try.results170, RetOK, RetP, backA, upd_at, plainB, getP, isOwn, anyOwn, isP]
theorem cmpCompare_ctr : CtrOK Try.prog 159 (pureC cmpR) := by
  refine ctr_pure' Try.func159 rfl rfl Try.ntmps159 ?_
  rintro _ _ ⟨a, b, rfl, rfl⟩
  refine ⟨by simp, fun κ hκ => ?_⟩
  have hbig := bigW_gt
  rw [argEnv_eq]
  simp only [envA]
  have hΓ := ctxOf_ok (P := Try.prog) (L := [(170, pureC isNaNR)]) (by simp only [List.mem_cons, List.not_mem_nil, or_false, forall_eq_or_imp, forall_eq]; exact isNaN_ctr)
  repeat' (first | (refine CW.seqK fun K hK => ?_) | (refine CW.block ?_) | ((first | refine CW.reg hΓ (by rw [hκ]; rfl) ?_ | refine CW.drw hΓ Try_mixed (by rw [hκ]; rfl) (by kernel_rfl) (fun B hB => ?_)); simp (config := { maxSteps := 2000000 }) only [go_sem]) | ((repeat ((fail_if_success (refine hK _ ?_)); clear hK K)); refine hK _ ?_; clear hK K) | ((first | refine CW.skip ?_ | refine CW.exit ?_ | refine CW.ret ?_); simp only [xs, if_true, if_false, Nat.reduceEqDiff, reduceCtorEq]) | (refine CW.cond (by simp only [upd_at, if_true, if_false, Nat.reduceEqDiff]; rfl) (fun hb => ?_) (fun hb => ?_) <;> (try simp only [xb, reduceCtorEq] at hb)) | ((first | refine W_brs (fun hc => ?_) (fun hc => ?_) | refine D_brs (fun hc => ?_) (fun hc => ?_)) <;> (try simp only [Bool.not_eq_true, Bool.not_eq_false] at hc) <;> (try simp (config := { maxSteps := 2000000 }) only [go_sem, hc]) <;> (try simp only [xb] at hc)) | (refine And.intro (by omega) ?_) | (refine And.intro (by simp only [xl]; omega) ?_) | (refine ex_idx (by omega) ?_) | (refine And.intro (by rw [← hB]; kernel_rfl) ?_) | fail)
  (first | refine W_askP rfl _ (⟨_, rfl, rfl⟩) ?_ | refine D_askP rfl _ (⟨_, rfl, rfl⟩) ?_); simp (config := { maxSteps := 2000000 }) only [go_sem]
  repeat' (first | (refine CW.seqK fun K hK => ?_) | (refine CW.block ?_) | ((first | refine CW.reg hΓ (by rw [hκ]; rfl) ?_ | refine CW.drw hΓ Try_mixed (by rw [hκ]; rfl) (by kernel_rfl) (fun B hB => ?_)); simp (config := { maxSteps := 2000000 }) only [go_sem]) | ((repeat ((fail_if_success (refine hK _ ?_)); clear hK K)); refine hK _ ?_; clear hK K) | ((first | refine CW.skip ?_ | refine CW.exit ?_ | refine CW.ret ?_); simp only [xs, if_true, if_false, Nat.reduceEqDiff, reduceCtorEq]) | (refine CW.cond (by simp only [upd_at, if_true, if_false, Nat.reduceEqDiff]; rfl) (fun hb => ?_) (fun hb => ?_) <;> (try simp only [xb, reduceCtorEq] at hb)) | ((first | refine W_brs (fun hc => ?_) (fun hc => ?_) | refine D_brs (fun hc => ?_) (fun hc => ?_)) <;> (try simp only [Bool.not_eq_true, Bool.not_eq_false] at hc) <;> (try simp (config := { maxSteps := 2000000 }) only [go_sem, hc]) <;> (try simp only [xb] at hc)) | (refine And.intro (by omega) ?_) | (refine And.intro (by simp only [xl]; omega) ?_) | (refine ex_idx (by omega) ?_) | (refine And.intro (by rw [← hB]; kernel_rfl) ?_) | fail)
  (first | refine W_askP rfl _ (⟨_, rfl, rfl⟩) ?_ | refine D_askP rfl _ (⟨_, rfl, rfl⟩) ?_); simp (config := { maxSteps := 2000000 }) only [go_sem]
  repeat' (first | (refine CW.seqK fun K hK => ?_) | (refine CW.block ?_) | ((first | refine CW.reg hΓ (by rw [hκ]; rfl) ?_ | refine CW.drw hΓ Try_mixed (by rw [hκ]; rfl) (by kernel_rfl) (fun B hB => ?_)); simp (config := { maxSteps := 2000000 }) only [go_sem]) | ((repeat ((fail_if_success (refine hK _ ?_)); clear hK K)); refine hK _ ?_; clear hK K) | ((first | refine CW.skip ?_ | refine CW.exit ?_ | refine CW.ret ?_); simp only [xs, if_true, if_false, Nat.reduceEqDiff, reduceCtorEq]) | (refine CW.cond (by simp only [upd_at, if_true, if_false, Nat.reduceEqDiff]; rfl) (fun hb => ?_) (fun hb => ?_) <;> (try simp only [xb, reduceCtorEq] at hb)) | ((first | refine W_brs (fun hc => ?_) (fun hc => ?_) | refine D_brs (fun hc => ?_) (fun hc => ?_)) <;> (try simp only [Bool.not_eq_true, Bool.not_eq_false] at hc) <;> (try simp (config := { maxSteps := 2000000 }) only [go_sem, hc]) <;> (try simp only [xb] at hc)) | (refine And.intro (by omega) ?_) | (refine And.intro (by simp only [xl]; omega) ?_) | (refine ex_idx (by omega) ?_) | (refine And.intro (by rw [← hB]; kernel_rfl) ?_) | fail)
  · have h2 : cmpI a b = -1 := by unfold cmpI; rw [if_pos (by assumption)]
    rw [h2]
    simp [Try.results159, RetOK, RetP, backA, upd_at, plainB, getP, isOwn, anyOwn, isP]
  · have h2 : cmpI a b = 1 := by unfold cmpI; rw [if_neg (by omega), if_neg (by omega)]
    rw [h2]
    simp [Try.results159, RetOK, RetP, backA, upd_at, plainB, getP, isOwn, anyOwn, isP]
  · have h2 : cmpI a b = 0 := by unfold cmpI; rw [if_neg (by omega), if_pos (by omega)]
    rw [h2]
    simp [Try.results159, RetOK, RetP, backA, upd_at, plainB, getP, isOwn, anyOwn, isP]

def cmpL (a b : List Int) : Int := if lexLt a b then -1 else if a = b then 0 else 1
def compareR (args : List AV) (r : AV) : Prop := ∃ a b : List Int, args = [ints a, ints b] ∧ a.length ≤ 1099511627776 ∧ b.length ≤ 1099511627776 ∧ r = I (cmpL a b)
theorem compare_ctr : CtrOK Try.prog 154 (pureC compareR) := by
  refine ctr_pure' Try.func154 rfl rfl Try.ntmps154 ?_
  rintro _ _ ⟨a, b, rfl, ha, hb0, rfl⟩
  refine ⟨by simp, fun κ hκ => ?_⟩
  have hbig := bigW_gt
  rw [argEnv_eq]
  simp only [envA]
  have hΓ := ctxOf_ok (P := Try.prog) (L := [(159, pureC cmpR)]) (by simp only [List.mem_cons, List.not_mem_nil, or_false, forall_eq_or_imp, forall_eq]; exact cmpCompare_ctr)
  repeat' (first | (refine CW.seqK fun K hK => ?_) | (refine CW.block ?_) | ((first | refine CW.reg hΓ (by rw [hκ]; rfl) ?_ | refine CW.drw hΓ Try_mixed (by rw [hκ]; rfl) (by kernel_rfl) (fun B hB => ?_)); simp (config := { maxSteps := 2000000 }) only [go_sem]) | ((repeat ((fail_if_success (refine hK _ ?_)); clear hK K)); refine hK _ ?_; clear hK K) | ((first | refine CW.skip ?_ | refine CW.exit ?_ | refine CW.ret ?_); simp only [xs, if_true, if_false, Nat.reduceEqDiff, reduceCtorEq]) | (refine CW.cond (by simp only [upd_at, if_true, if_false, Nat.reduceEqDiff]; rfl) (fun hb => ?_) (fun hb => ?_) <;> (try simp only [xb, reduceCtorEq] at hb)) | ((first | refine W_brs (fun hc => ?_) (fun hc => ?_) | refine D_brs (fun hc => ?_) (fun hc => ?_)) <;> (try simp only [Bool.not_eq_true, Bool.not_eq_false] at hc) <;> (try simp (config := { maxSteps := 2000000 }) only [go_sem, hc]) <;> (try simp only [xb] at hc)) | (refine And.intro (by omega) ?_) | (refine And.intro (by simp only [xl]; omega) ?_) | (refine ex_idx (by omega) ?_) | (refine And.intro (by rw [← hB]; kernel_rfl) ?_) | fail)
  refine CW.loop (ι := Nat) (fun k => [(0, ints a), (1, ints b), (9, ints a), (10, I a.length), (11, I k)]) (fun k => k ≤ a.length ∧ k ≤ b.length ∧ a.take k = b.take k) (fun k => a.length - k) 0 ?_ ?_
  · exact ⟨by (simp only [LeL, envOf, upd_at, if_true, if_false, Nat.reduceEqDiff, true_or, and_true, true_and, and_self]; (try simp [view, viewL_map]); (try omega)), by omega, by omega, by simp⟩
  rintro k ⟨hka, hkb, hab⟩
  simp only [envOf]
  repeat' (first | (refine CW.seqK fun K hK => ?_) | (refine CW.block ?_) | ((first | refine CW.reg hΓ (by rw [hκ]; rfl) ?_ | refine CW.drw hΓ Try_mixed (by rw [hκ]; rfl) (by kernel_rfl) (fun B hB => ?_)); simp (config := { maxSteps := 2000000 }) only [go_sem]) | ((repeat ((fail_if_success (refine hK _ ?_)); clear hK K)); refine hK _ ?_; clear hK K) | ((first | refine CW.skip ?_ | refine CW.exit ?_ | refine CW.ret ?_); simp only [xs, if_true, if_false, Nat.reduceEqDiff, reduceCtorEq]) | (refine CW.cond (by simp only [upd_at, if_true, if_false, Nat.reduceEqDiff]; rfl) (fun hb => ?_) (fun hb => ?_) <;> (try simp only [xb, reduceCtorEq] at hb)) | ((first | refine W_brs (fun hc => ?_) (fun hc => ?_) | refine D_brs (fun hc => ?_) (fun hc => ?_)) <;> (try simp only [Bool.not_eq_true, Bool.not_eq_false] at hc) <;> (try simp (config := { maxSteps := 2000000 }) only [go_sem, hc]) <;> (try simp only [xb] at hc)) | (refine And.intro (by omega) ?_) | (refine And.intro (by simp only [xl]; omega) ?_) | (refine ex_idx (by omega) ?_) | (refine And.intro (by rw [← hB]; kernel_rfl) ?_) | fail)
  · have h1 := lex_end hka hkb hab (.inr (by omega))
    have h2 : cmpL a b = 1 := by
      unfold cmpL
      rw [h1.1, decide_eq_false (by omega), if_neg (by simp), if_neg (fun e => by have := h1.2.1 e; omega)]
    rw [h2]
    simp [Try.results154, RetOK, RetP, backA, upd_at, plainB, getP, isOwn, anyOwn, isP]
  · (first | refine W_askP rfl _ (⟨_, _, rfl, rfl⟩) ?_ | refine D_askP rfl _ (⟨_, _, rfl, rfl⟩) ?_); simp (config := { maxSteps := 2000000 }) only [go_sem]
    repeat' (first | (refine CW.seqK fun K hK => ?_) | (refine CW.block ?_) | ((first | refine CW.reg hΓ (by rw [hκ]; rfl) ?_ | refine CW.drw hΓ Try_mixed (by rw [hκ]; rfl) (by kernel_rfl) (fun B hB => ?_)); simp (config := { maxSteps := 2000000 }) only [go_sem]) | ((repeat ((fail_if_success (refine hK _ ?_)); clear hK K)); refine hK _ ?_; clear hK K) | ((first | refine CW.skip ?_ | refine CW.exit ?_ | refine CW.ret ?_); simp only [xs, if_true, if_false, Nat.reduceEqDiff, reduceCtorEq]) | (refine CW.cond (by simp only [upd_at, if_true, if_false, Nat.reduceEqDiff]; rfl) (fun hb => ?_) (fun hb => ?_) <;> (try simp only [xb, reduceCtorEq] at hb)) | ((first | refine W_brs (fun hc => ?_) (fun hc => ?_) | refine D_brs (fun hc => ?_) (fun hc => ?_)) <;> (try simp only [Bool.not_eq_true, Bool.not_eq_false] at hc) <;> (try simp (config := { maxSteps := 2000000 }) only [go_sem, hc]) <;> (try simp only [xb] at hc)) | (refine And.intro (by omega) ?_) | (refine And.intro (by simp only [xl]; omega) ?_) | (refine ex_idx (by omega) ?_) | (refine And.intro (by rw [← hB]; kernel_rfl) ?_) | fail)
    · have hne : ¬ a[k] = b[k] := fun e => by
        have h3 : cmpI a[k] b[k] = 0 := by unfold cmpI; rw [if_neg (by omega), if_pos e]
        simp [h3] at hb
      have h1 := lex_ne (by omega) (by omega) hab hne
      have h2 : cmpL a b = cmpI a[k] b[k] := by
        unfold cmpL cmpI
        rw [h1.1, if_neg h1.2, if_neg hne]
        simp only [decide_eq_true_eq]
      rw [h2]
      simp [Try.results154, RetOK, RetP, backA, upd_at, plainB, getP, isOwn, anyOwn, isP]
    · have he : a[k] = b[k] := by
        unfold cmpI at hb
        split at hb
        · simp at hb
        · split at hb
          · assumption
          · simp at hb
      exact ⟨k + 1, by (simp only [LeL, envOf, upd_at, if_true, if_false, Nat.reduceEqDiff, true_or, and_true, true_and, and_self]; (try simp [view, viewL_map]); (try omega)), ⟨by omega, by omega, lex_next (by omega) (by omega) hab he⟩, by omega⟩
  · have h1 := lex_end hka hkb hab (.inl (by omega))
    have h2 : cmpL a b = -1 := by
      unfold cmpL
      rw [h1.1, decide_eq_true (by omega), if_pos rfl]
    rw [h2]
    simp [Try.results154, RetOK, RetP, backA, upd_at, plainB, getP, isOwn, anyOwn, isP]
  · have h1 := lex_end hka hkb hab (.inl (by omega))
    have h2 : cmpL a b = 0 := by
      unfold cmpL
      rw [h1.1, decide_eq_false (by omega), if_neg (by simp), if_pos (h1.2.2 (by omega))]
    rw [h2]
    simp [Try.results154, RetOK, RetP, backA, upd_at, plainB, getP, isOwn, anyOwn, isP]


end Go.Proofs.Ytcpfflnhbcbmnaa
