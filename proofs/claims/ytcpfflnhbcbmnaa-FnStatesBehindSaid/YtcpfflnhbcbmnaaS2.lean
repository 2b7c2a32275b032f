/- The laws' own helpers, walked by the engine. -/
import Derived.Test.YtcpfflnhbcbmnaaGrpD
import Derived.Test.YtcpfflnhbcbmnaaK0
namespace Go.Proofs.Ytcpfflnhbcbmnaa
set_option linter.unusedSimpArgs false
set_option linter.unusedVariables false
set_option maxRecDepth 8000
set_option maxHeartbeats 2000000
open Go Go.RowKit AV

attribute [local go_sem] wpOpsD_cons wpOpsD_nil KOpsD_app D_ret D_get D_peek D_need D_ex D_br_t D_br_f D_fail D_idx_map D_idx_zero D_idx_succ D_getP_nil D_getP_own D_getP_box tg wpOpsA_cons wpOpsA_nil KOps_app rdG rdO rdX rdMv rdTake rdBor rdBin binV rdUn rdConv rdPick rdLoad rdStore stW rdStoreA rdVal rdParts srcW rdField rdIndex rdLen rdBuildS rdBuild rdMakeS rdBd rdSlice rdExtract rdFieldV rdBox rdAlloc rdSrc rdDst rdApp rdArg rdArgs rdCallP rdCall rdSkip rdCallX rdCallE rdCallY rdCallT rdBin2 isNilEq rdNilEq bigW_sub bigW_le rdApp2 rdSrcO rdNil rdClear rdMakeFn isT_no isT_nil isT_cons takeC_eff takeC_tk effC_tk pureC_tk rdTake Option.isSome_none Bool.and_self rdGive toBox backW isE_no isE_nil isE_cons effC_eff pureC_eff effC_rel pureC_rel id takenL takesOf opT opTs partW srcs foldP fzW slotsDistinct cst in64 nat64 W_ret W_get W_peek W_need W_ex W_br_t W_br_f W_fail apps killIf_t killIf_f app_set_junk app_mod_junk app_set_num app_mod_num app_set_bool app_mod_bool app_set_sh app_mod_sh app_set_own app_mod_own app_set_box app_mod_box app_set_pbox app_mod_pbox app_set_pcell app_mod_pcell app_set_alias app_mod_alias app_set_valias app_mod_valias app_set_addr app_mod_addr app_set_fn app_mod_fn app_set_agg app_mod_agg app_set_win app_mod_win app_set_pin app_mod_pin app_set_omap app_mod_omap app_set_pmap app_mod_pmap app_set_oiter app_mod_oiter rdLenM rdMapOf rdLook rdRange rdPMap rdEntry rdMapUpd rdUpdAt noIt app_set_tup app_mod_tup upd_at kill_upd kill_nil killV isOwn anyOwn isP allP noSh allN one allOne head view viewL getP setP kids withKids blk viewL_map noSh_ints List.map_map thenA_normal thenA_normal' ne_eq reduceCtorEq not_false_eq_true not_true_eq_false true_and and_true and_false false_and if_true if_false Bool.false_eq_true Bool.true_eq_false Nat.reduceAdd Nat.reduceLT Nat.reduceLeDiff Nat.reduceEqDiff List.append_nil List.nil_append List.cons_append List.contains_nil List.contains_cons Nat.reduceBEq Bool.or_false Bool.or_true Bool.false_or Bool.true_or Bool.not_true Bool.not_false List.getElem?_toArray List.getElem?_cons_zero List.getElem?_cons_succ Option.bind_some Option.bind_none List.length_map List.length_cons List.length_nil List.map_cons List.map_nil List.dropLast List.getLast? List.getLast List.getD_cons_zero List.getD_cons_succ List.set_cons_zero List.set_cons_succ List.replicate List.filterMap_cons List.filterMap_nil List.foldl_cons List.foldl_nil List.nodup_cons List.nodup_nil List.not_mem_nil List.mem_cons or_false false_or Option.some.injEq AV.box.injEq AV.own.injEq AV.agg.injEq exists_eq_left' exists_eq_left exists_eq_right exists_eq exists_eq' exists_and_left Option.getD_some List.getElem?_map Option.map_eq_some_iff W_idx_map W_idx_zero W_idx_succ W_getP_nil W_getP_own W_getP_box List.any_cons List.all_cons List.all_nil List.any_nil Int.toNat_natCast Nat.cast_ofNat_Int Prod.mk.injEq and_self forall_eq forall_eq_or_imp implies_true forall_const Int.toNat_zero Int.toNat_one not_imp_self decide_true decide_false false_imp_iff cast_div cast_mod allN_oints allP_rows allP_ints view_I view_ints view_oo Bool.and_true Bool.true_and Bool.and_false Bool.false_and Option.isSome_some Int.natCast_nonneg Ty_aggT_3 Ty_szT_3 Ty_zT_3 Ty_inT_3 Ty_kkT_3 Ty_zOf_3 Ty_aggT_4 Ty_szT_4 Ty_zT_4 Ty_boT_4 Ty_zOf_4 Ty_mpT_91 Ty_aggT_22 Ty_szT_22 Ty_zT_22 Ty_slE_22 Ty_slOK_22 Ty_slZ_22 Ty_mpT_22 Ty_aggT_30 Ty_szT_30 Ty_zT_30 Ty_slE_30 Ty_slOK_30 Ty_slZ_30 Ty_mpT_30 Ty_aggT_37 Ty_szT_37 Ty_zT_37 Ty_bPl_37 Ty_stO_37_0 Ty_stO_37_1 Ty_aggT_93 Ty_szT_93 Ty_zT_93 Ty_aggT_110 Ty_szT_110 Ty_zT_110 Ty_slE_110 Ty_slOK_110 Ty_slZ_110 Ty_mpT_110 Ty_aggT_112 Ty_szT_112 Ty_zT_112 Ty_bPl_112 Ty_stO_112_0 Ty_stO_112_1 Ty_aggT_5 Ty_szT_5 Ty_zT_5 Ty_inT_5 Ty_aggT_35 Ty_szT_35 Ty_zT_35 Ty_slE_35 Ty_slOK_35 Ty_slZ_35 Ty_mpT_35 Ty_aggT_103 Ty_szT_103 Ty_zT_103 Ty_bPl_103 Ty_stO_103_0 Ty_stO_103_1

theorem sameInts_ctr : CtrOK Try.prog 98 (pureC sameR) := by
  refine ctr_pure' Try.func98 rfl rfl Try.ntmps98 ?_
  rintro _ _ ⟨a, b, rfl, ha, hb0, rfl⟩
  refine ⟨by simp, fun κ hκ => ?_⟩
  have hbig := bigW_gt
  rw [argEnv_eq]
  simp only [envA]
  have hΓ := noCtx_ok Try.prog
  repeat' (first | (refine CW.seqK fun K hK => ?_) | (refine CW.block ?_) | ((first | refine CW.reg hΓ (by rw [hκ]; rfl) ?_ | refine CW.drw hΓ Try_mixed (by rw [hκ]; rfl) (by kernel_rfl) (fun B hB => ?_)); simp (config := { maxSteps := 2000000 }) only [go_sem]) | ((repeat ((fail_if_success (refine hK _ ?_)); clear hK K)); refine hK _ ?_; clear hK K) | ((first | refine CW.skip ?_ | refine CW.exit ?_ | refine CW.ret ?_); simp only [xs, if_true, if_false, Nat.reduceEqDiff, reduceCtorEq]) | (refine CW.cond (by simp only [upd_at, if_true, if_false, Nat.reduceEqDiff]; rfl) (fun hb => ?_) (fun hb => ?_) <;> (try simp only [xb, reduceCtorEq] at hb)) | ((first | refine W_brs (fun hc => ?_) (fun hc => ?_) | refine D_brs (fun hc => ?_) (fun hc => ?_)) <;> (try simp only [Bool.not_eq_true, Bool.not_eq_false] at hc) <;> (try simp (config := { maxSteps := 2000000 }) only [go_sem, hc]) <;> (try simp only [xb] at hc)) | (refine And.intro (by omega) ?_) | (refine And.intro (by simp only [xl]; omega) ?_) | (refine ex_idx (by omega) ?_) | (refine And.intro (by rw [← hB]; kernel_rfl) ?_) | fail)
  · have h2 : decide (a = b) = false := decide_eq_false fun h => by subst h; omega
    rw [h2]
    simp [Try.results98, RetOK, RetP, backA, upd_at, plainB, getP, isOwn, anyOwn, isP]
  refine CW.loop (ι := Nat) (fun k => [(0, ints a), (1, ints b), (5, I k)]) (fun k => k ≤ a.length ∧ a.take k = b.take k) (fun k => a.length - k) 0 ?_ ?_
  · exact ⟨by (simp only [LeL, envOf, upd_at, if_true, if_false, Nat.reduceEqDiff, true_or, and_true, true_and, and_self]; (try simp [view, viewL_map]); (try omega)), by omega, by simp⟩
  rintro k ⟨hka, hab⟩
  simp only [envOf]
  repeat' (first | (refine CW.seqK fun K hK => ?_) | (refine CW.block ?_) | ((first | refine CW.reg hΓ (by rw [hκ]; rfl) ?_ | refine CW.drw hΓ Try_mixed (by rw [hκ]; rfl) (by kernel_rfl) (fun B hB => ?_)); simp (config := { maxSteps := 2000000 }) only [go_sem]) | ((repeat ((fail_if_success (refine hK _ ?_)); clear hK K)); refine hK _ ?_; clear hK K) | ((first | refine CW.skip ?_ | refine CW.exit ?_ | refine CW.ret ?_); simp only [xs, if_true, if_false, Nat.reduceEqDiff, reduceCtorEq]) | (refine CW.cond (by simp only [upd_at, if_true, if_false, Nat.reduceEqDiff]; rfl) (fun hb => ?_) (fun hb => ?_) <;> (try simp only [xb, reduceCtorEq] at hb)) | ((first | refine W_brs (fun hc => ?_) (fun hc => ?_) | refine D_brs (fun hc => ?_) (fun hc => ?_)) <;> (try simp only [Bool.not_eq_true, Bool.not_eq_false] at hc) <;> (try simp (config := { maxSteps := 2000000 }) only [go_sem, hc]) <;> (try simp only [xb] at hc)) | (refine And.intro (by omega) ?_) | (refine And.intro (by simp only [xl]; omega) ?_) | (refine ex_idx (by omega) ?_) | (refine And.intro (by rw [← hB]; kernel_rfl) ?_) | fail)
  · have hx := (lex_ne (by omega) (by omega) hab hb).2
    have h2 : decide (a = b) = false := decide_eq_false hx
    rw [h2]
    simp [Try.results98, RetOK, RetP, backA, upd_at, plainB, getP, isOwn, anyOwn, isP]
  · exact ⟨k + 1, by (simp only [LeL, envOf, upd_at, if_true, if_false, Nat.reduceEqDiff, true_or, and_true, true_and, and_self]; (try simp [view, viewL_map]); (try omega)), ⟨by omega, lex_next (by omega) (by omega) hab hb⟩, by omega⟩
  · have h2 : decide (a = b) = true := decide_eq_true ((lex_end hka (by omega) hab (by omega)).2.2 (by omega))
    rw [h2]
    simp [Try.results98, RetOK, RetP, backA, upd_at, plainB, getP, isOwn, anyOwn, isP]

def sameLR (args : List AV) (r : AV) : Prop := ∃ a b : List (List Int), args = [rows a, rows b] ∧ a.length ≤ 1099511627776 ∧ b.length ≤ 1099511627776 ∧ (∀ x ∈ a, x.length ≤ 1099511627776) ∧ (∀ x ∈ b, x.length ≤ 1099511627776) ∧ r = .bool (decide (a = b))
theorem sameLists_ctr : CtrOK Try.prog 99 (pureC sameLR) := by
  refine ctr_pure' Try.func99 rfl rfl Try.ntmps99 ?_
  rintro _ _ ⟨a, b, rfl, ha, hb0, hxa, hxb, rfl⟩
  refine ⟨by simp, fun κ hκ => ?_⟩
  have hbig := bigW_gt
  rw [argEnv_eq]
  simp only [envA]
  have hΓ := ctxOf_ok (P := Try.prog) (L := [(98, pureC sameR)]) (by simp only [List.mem_cons, List.not_mem_nil, or_false, forall_eq_or_imp, forall_eq]; exact sameInts_ctr)
  repeat' (first | (refine CW.seqK fun K hK => ?_) | (refine CW.block ?_) | ((first | refine CW.reg hΓ (by rw [hκ]; rfl) ?_ | refine CW.drw hΓ Try_mixed (by rw [hκ]; rfl) (by kernel_rfl) (fun B hB => ?_)); simp (config := { maxSteps := 2000000 }) only [go_sem]) | ((repeat ((fail_if_success (refine hK _ ?_)); clear hK K)); refine hK _ ?_; clear hK K) | ((first | refine CW.skip ?_ | refine CW.exit ?_ | refine CW.ret ?_); simp only [xs, if_true, if_false, Nat.reduceEqDiff, reduceCtorEq]) | (refine CW.cond (by simp only [upd_at, if_true, if_false, Nat.reduceEqDiff]; rfl) (fun hb => ?_) (fun hb => ?_) <;> (try simp only [xb, reduceCtorEq] at hb)) | ((first | refine W_brs (fun hc => ?_) (fun hc => ?_) | refine D_brs (fun hc => ?_) (fun hc => ?_)) <;> (try simp only [Bool.not_eq_true, Bool.not_eq_false] at hc) <;> (try simp (config := { maxSteps := 2000000 }) only [go_sem, hc]) <;> (try simp only [xb] at hc)) | (refine And.intro (by omega) ?_) | (refine And.intro (by simp only [xl]; omega) ?_) | (refine ex_idx (by omega) ?_) | (refine And.intro (by rw [← hB]; kernel_rfl) ?_) | fail)
  · have h2 : decide (a = b) = false := decide_eq_false fun h => by subst h; omega
    rw [h2]
    simp [Try.results99, RetOK, RetP, backA, upd_at, plainB, getP, isOwn, anyOwn, isP]
  refine CW.loop (ι := Nat) (fun k => [(0, rows a), (1, rows b), (5, I k)]) (fun k => k ≤ a.length ∧ a.take k = b.take k) (fun k => a.length - k) 0 ?_ ?_
  · exact ⟨by (simp only [LeL, envOf, upd_at, if_true, if_false, Nat.reduceEqDiff, true_or, and_true, true_and, and_self]; (try simp [view, viewL_map]); (try omega)), by omega, by simp⟩
  rintro k ⟨hka, hab⟩
  simp only [envOf]
  repeat' (first | (refine CW.seqK fun K hK => ?_) | (refine CW.block ?_) | ((first | refine CW.reg hΓ (by rw [hκ]; rfl) ?_ | refine CW.drw hΓ Try_mixed (by rw [hκ]; rfl) (by kernel_rfl) (fun B hB => ?_)); simp (config := { maxSteps := 2000000 }) only [go_sem]) | ((repeat ((fail_if_success (refine hK _ ?_)); clear hK K)); refine hK _ ?_; clear hK K) | ((first | refine CW.skip ?_ | refine CW.exit ?_ | refine CW.ret ?_); simp only [xs, if_true, if_false, Nat.reduceEqDiff, reduceCtorEq]) | (refine CW.cond (by simp only [upd_at, if_true, if_false, Nat.reduceEqDiff]; rfl) (fun hb => ?_) (fun hb => ?_) <;> (try simp only [xb, reduceCtorEq] at hb)) | ((first | refine W_brs (fun hc => ?_) (fun hc => ?_) | refine D_brs (fun hc => ?_) (fun hc => ?_)) <;> (try simp only [Bool.not_eq_true, Bool.not_eq_false] at hc) <;> (try simp (config := { maxSteps := 2000000 }) only [go_sem, hc]) <;> (try simp only [xb] at hc)) | (refine And.intro (by omega) ?_) | (refine And.intro (by simp only [xl]; omega) ?_) | (refine ex_idx (by omega) ?_) | (refine And.intro (by rw [← hB]; kernel_rfl) ?_) | fail)
  · have h1 : k < a.length := by omega
    have h2 : k < b.length := by omega
    (first | refine W_askP rfl _ (⟨_, _, rfl, hxa _ (List.getElem_mem h1), hxb _ (List.getElem_mem h2), rfl⟩) ?_ | refine D_askP rfl _ (⟨_, _, rfl, hxa _ (List.getElem_mem h1), hxb _ (List.getElem_mem h2), rfl⟩) ?_); simp (config := { maxSteps := 2000000 }) only [go_sem]
    repeat' (first | (refine CW.seqK fun K hK => ?_) | (refine CW.block ?_) | ((first | refine CW.reg hΓ (by rw [hκ]; rfl) ?_ | refine CW.drw hΓ Try_mixed (by rw [hκ]; rfl) (by kernel_rfl) (fun B hB => ?_)); simp (config := { maxSteps := 2000000 }) only [go_sem]) | ((repeat ((fail_if_success (refine hK _ ?_)); clear hK K)); refine hK _ ?_; clear hK K) | ((first | refine CW.skip ?_ | refine CW.exit ?_ | refine CW.ret ?_); simp only [xs, if_true, if_false, Nat.reduceEqDiff, reduceCtorEq]) | (refine CW.cond (by simp only [upd_at, if_true, if_false, Nat.reduceEqDiff]; rfl) (fun hb => ?_) (fun hb => ?_) <;> (try simp only [xb, reduceCtorEq] at hb)) | ((first | refine W_brs (fun hc => ?_) (fun hc => ?_) | refine D_brs (fun hc => ?_) (fun hc => ?_)) <;> (try simp only [Bool.not_eq_true, Bool.not_eq_false] at hc) <;> (try simp (config := { maxSteps := 2000000 }) only [go_sem, hc]) <;> (try simp only [xb] at hc)) | (refine And.intro (by omega) ?_) | (refine And.intro (by simp only [xl]; omega) ?_) | (refine ex_idx (by omega) ?_) | (refine And.intro (by rw [← hB]; kernel_rfl) ?_) | fail)
    · have h3 : decide (a = b) = false := decide_eq_false fun h => by subst h; exact absurd rfl ‹¬ _ = _›
      rw [h3]
      simp [Try.results99, RetOK, RetP, backA, upd_at, plainB, getP, isOwn, anyOwn, isP]
    · exact ⟨k + 1, by (simp only [LeL, envOf, upd_at, if_true, if_false, Nat.reduceEqDiff, true_or, and_true, true_and, and_self]; (try simp [view, viewL_map]); (try omega)), ⟨by omega, take_succ_eq h1 h2 hab ‹_›⟩, by omega⟩
  · have hk : k = a.length := by omega
    have h2 : decide (a = b) = true := decide_eq_true (by
      rw [List.take_of_length_le (by omega), List.take_of_length_le (by omega)] at hab
      exact hab)
    rw [h2]
    simp [Try.results99, RetOK, RetP, backA, upd_at, plainB, getP, isOwn, anyOwn, isP]

def sameAR (args : List AV) (r : AV) : Prop := ∃ D1 D2 : AutoD, args = [agg [ints D1.ends, rows D1.next], agg [ints D2.ends, rows D2.next]] ∧ smallE D1.ends D1.next ∧ smallE D2.ends D2.next ∧ r = .bool (decide (D1.ends = D2.ends) && decide (D1.next = D2.next))
theorem sameAuto_ctr : CtrOK Try.prog 50 (pureC sameAR) := by
  refine ctr_pure' Try.func50 rfl rfl Try.ntmps50 ?_
  rintro _ _ ⟨D1, D2, rfl, h1, h2, rfl⟩
  refine ⟨by simp, fun κ hκ => ?_⟩
  have hbig := bigW_gt
  rw [argEnv_eq]
  simp only [envA]
  have hΓ := ctxOf_ok (P := Try.prog) (L := [(98, pureC sameR), (99, pureC sameLR)]) (by simp only [List.mem_cons, List.not_mem_nil, or_false, forall_eq_or_imp, forall_eq]; exact ⟨sameInts_ctr, sameLists_ctr⟩)
  repeat' (first | (refine CW.seqK fun K hK => ?_) | (refine CW.block ?_) | ((first | refine CW.reg hΓ (by rw [hκ]; rfl) ?_ | refine CW.drw hΓ Try_mixed (by rw [hκ]; rfl) (by kernel_rfl) (fun B hB => ?_)); simp (config := { maxSteps := 2000000 }) only [go_sem]) | ((repeat ((fail_if_success (refine hK _ ?_)); clear hK K)); refine hK _ ?_; clear hK K) | ((first | refine CW.skip ?_ | refine CW.exit ?_ | refine CW.ret ?_); simp only [xs, if_true, if_false, Nat.reduceEqDiff, reduceCtorEq]) | (refine CW.cond (by simp only [upd_at, if_true, if_false, Nat.reduceEqDiff]; rfl) (fun hb => ?_) (fun hb => ?_) <;> (try simp only [xb, reduceCtorEq] at hb)) | ((first | refine W_brs (fun hc => ?_) (fun hc => ?_) | refine D_brs (fun hc => ?_) (fun hc => ?_)) <;> (try simp only [Bool.not_eq_true, Bool.not_eq_false] at hc) <;> (try simp (config := { maxSteps := 2000000 }) only [go_sem, hc]) <;> (try simp only [xb] at hc)) | (refine And.intro (by omega) ?_) | (refine And.intro (by simp only [xl]; omega) ?_) | (refine ex_idx (by omega) ?_) | (refine And.intro (by rw [← hB]; kernel_rfl) ?_) | fail)
  (first | refine W_askP rfl _ (⟨_, _, rfl, h1.1, h2.1, rfl⟩) ?_ | refine D_askP rfl _ (⟨_, _, rfl, h1.1, h2.1, rfl⟩) ?_); simp (config := { maxSteps := 2000000 }) only [go_sem]
  repeat' (first | (refine CW.seqK fun K hK => ?_) | (refine CW.block ?_) | ((first | refine CW.reg hΓ (by rw [hκ]; rfl) ?_ | refine CW.drw hΓ Try_mixed (by rw [hκ]; rfl) (by kernel_rfl) (fun B hB => ?_)); simp (config := { maxSteps := 2000000 }) only [go_sem]) | ((repeat ((fail_if_success (refine hK _ ?_)); clear hK K)); refine hK _ ?_; clear hK K) | ((first | refine CW.skip ?_ | refine CW.exit ?_ | refine CW.ret ?_); simp only [xs, if_true, if_false, Nat.reduceEqDiff, reduceCtorEq]) | (refine CW.cond (by simp only [upd_at, if_true, if_false, Nat.reduceEqDiff]; rfl) (fun hb => ?_) (fun hb => ?_) <;> (try simp only [xb, reduceCtorEq] at hb)) | ((first | refine W_brs (fun hc => ?_) (fun hc => ?_) | refine D_brs (fun hc => ?_) (fun hc => ?_)) <;> (try simp only [Bool.not_eq_true, Bool.not_eq_false] at hc) <;> (try simp (config := { maxSteps := 2000000 }) only [go_sem, hc]) <;> (try simp only [xb] at hc)) | (refine And.intro (by omega) ?_) | (refine And.intro (by simp only [xl]; omega) ?_) | (refine ex_idx (by omega) ?_) | (refine And.intro (by rw [← hB]; kernel_rfl) ?_) | fail)
  · (first | refine W_askP rfl _ (⟨_, _, rfl, h1.2.1, h2.2.1, h1.2.2, h2.2.2, rfl⟩) ?_ | refine D_askP rfl _ (⟨_, _, rfl, h1.2.1, h2.2.1, h1.2.2, h2.2.2, rfl⟩) ?_); simp (config := { maxSteps := 2000000 }) only [go_sem]
    repeat' (first | (refine CW.seqK fun K hK => ?_) | (refine CW.block ?_) | ((first | refine CW.reg hΓ (by rw [hκ]; rfl) ?_ | refine CW.drw hΓ Try_mixed (by rw [hκ]; rfl) (by kernel_rfl) (fun B hB => ?_)); simp (config := { maxSteps := 2000000 }) only [go_sem]) | ((repeat ((fail_if_success (refine hK _ ?_)); clear hK K)); refine hK _ ?_; clear hK K) | ((first | refine CW.skip ?_ | refine CW.exit ?_ | refine CW.ret ?_); simp only [xs, if_true, if_false, Nat.reduceEqDiff, reduceCtorEq]) | (refine CW.cond (by simp only [upd_at, if_true, if_false, Nat.reduceEqDiff]; rfl) (fun hb => ?_) (fun hb => ?_) <;> (try simp only [xb, reduceCtorEq] at hb)) | ((first | refine W_brs (fun hc => ?_) (fun hc => ?_) | refine D_brs (fun hc => ?_) (fun hc => ?_)) <;> (try simp only [Bool.not_eq_true, Bool.not_eq_false] at hc) <;> (try simp (config := { maxSteps := 2000000 }) only [go_sem, hc]) <;> (try simp only [xb] at hc)) | (refine And.intro (by omega) ?_) | (refine And.intro (by simp only [xl]; omega) ?_) | (refine ex_idx (by omega) ?_) | (refine And.intro (by rw [← hB]; kernel_rfl) ?_) | fail)
    rw [decide_eq_true ‹D1.ends = D2.ends›, Bool.true_and]
    simp [Try.results50, RetOK, RetP, backA, upd_at, plainB, getP, isOwn, anyOwn, isP]
  · rw [decide_eq_false ‹¬ D1.ends = D2.ends›, Bool.false_and]
    simp [Try.results50, RetOK, RetP, backA, upd_at, plainB, getP, isOwn, anyOwn, isP]

def bothLR (args : List AV) (r : AV) : Prop := ∃ a b : Nat, args = [I a, I b] ∧ a < 1099511627776 ∧ b < 1099511627776 ∧ r = I ((a &&& b : Nat) : Int)
theorem bothL_ctr : CtrOK Try.prog 35 (pureC bothLR) := by
  refine ctr_pure' Try.func35 rfl rfl Try.ntmps35 ?_
  rintro _ _ ⟨a, b, rfl, ha, hb0, rfl⟩
  refine ⟨by simp, fun κ hκ => ?_⟩
  have hbig := bigW_gt
  rw [argEnv_eq]
  simp only [envA]
  have hΓ := noCtx_ok Try.prog
  repeat' (first | (refine CW.seqK fun K hK => ?_) | (refine CW.block ?_) | ((first | refine CW.reg hΓ (by rw [hκ]; rfl) ?_ | refine CW.drw hΓ Try_mixed (by rw [hκ]; rfl) (by kernel_rfl) (fun B hB => ?_)); simp (config := { maxSteps := 2000000 }) only [go_sem]) | ((repeat ((fail_if_success (refine hK _ ?_)); clear hK K)); refine hK _ ?_; clear hK K) | ((first | refine CW.skip ?_ | refine CW.exit ?_ | refine CW.ret ?_); simp only [xs, if_true, if_false, Nat.reduceEqDiff, reduceCtorEq]) | (refine CW.cond (by simp only [upd_at, if_true, if_false, Nat.reduceEqDiff]; rfl) (fun hb => ?_) (fun hb => ?_) <;> (try simp only [xb, reduceCtorEq] at hb)) | ((first | refine W_brs (fun hc => ?_) (fun hc => ?_) | refine D_brs (fun hc => ?_) (fun hc => ?_)) <;> (try simp only [Bool.not_eq_true, Bool.not_eq_false] at hc) <;> (try simp (config := { maxSteps := 2000000 }) only [go_sem, hc]) <;> (try simp only [xb] at hc)) | (refine And.intro (by omega) ?_) | (refine And.intro (by simp only [xl]; omega) ?_) | (refine ex_idx (by omega) ?_) | (refine And.intro (by rw [← hB]; kernel_rfl) ?_) | fail)
  refine CW.loop (ι := Nat) (fun k => [(0, I a), (1, I b), (5, I ((lowN (a &&& b) k : Nat) : Int)), (6, I k)]) (fun k => k ≤ 40) (fun k => 40 - k) 0 ?_ ?_
  · refine ⟨by (simp only [LeL, envOf, upd_at, if_true, if_false, Nat.reduceEqDiff, true_or, and_true, true_and, and_self]; (try simp [view, viewL_map]); (try omega)); simp [lowN_zero], by omega⟩
  rintro k hk
  simp only [envOf]
  have hp : (1 : Int) ≤ 2 ^ k ∧ (2 : Int) ^ k ≤ 1099511627776 := pow_bd hk
  have h0a : (0 : Int) ≤ (a : Int) / 2 ^ k := by rw [shr_nat]; exact Int.natCast_nonneg _
  have h0b : (0 : Int) ≤ (b : Int) / 2 ^ k := by rw [shr_nat]; exact Int.natCast_nonneg _
  have h1a : (a : Int) / 2 ^ k % 2 = (bitN a k : Int) := by rw [← bitN_eq, shr_nat]; rfl
  have h1b : (b : Int) / 2 ^ k % 2 = (bitN b k : Int) := by rw [← bitN_eq, shr_nat]; rfl
  have hs := lowN_succ (a &&& b) k
  have hl := lowN_le (a &&& b) (k + 1)
  have hab : a &&& b ≤ a := Nat.and_le_left
  have hm := bitN_and a b k
  have hba := bitN_le a k
  have hbb := bitN_le b k
  have e : ((2 ^ k : Nat) : Int) = 2 ^ k := by simp
  obtain ⟨q, hq⟩ : ∃ q : Nat, q = 2 ^ k := ⟨_, rfl⟩
  rw [← hq] at hs e
  have e1 : (1 : Int) * 2 ^ k = (q : Int) := by rw [e, Int.one_mul]
  rw [← hm] at hs
  repeat' (first | (refine CW.seqK fun K hK => ?_) | (refine CW.block ?_) | ((first | refine CW.reg hΓ (by rw [hκ]; rfl) ?_ | refine CW.drw hΓ Try_mixed (by rw [hκ]; rfl) (by kernel_rfl) (fun B hB => ?_)); simp (config := { maxSteps := 2000000 }) only [go_sem, h1a, h1b, e1]) | ((repeat ((fail_if_success (refine hK _ ?_)); clear hK K)); refine hK _ ?_; clear hK K) | ((first | refine CW.skip ?_ | refine CW.exit ?_ | refine CW.ret ?_); simp only [xs, if_true, if_false, Nat.reduceEqDiff, reduceCtorEq]) | (refine CW.cond (by simp only [upd_at, if_true, if_false, Nat.reduceEqDiff]; rfl) (fun hb => ?_) (fun hb => ?_) <;> (try simp only [xb, reduceCtorEq] at hb)) | ((first | refine W_brs (fun hc => ?_) (fun hc => ?_) | refine D_brs (fun hc => ?_) (fun hc => ?_)) <;> (try simp only [Bool.not_eq_true, Bool.not_eq_false] at hc) <;> (try simp (config := { maxSteps := 2000000 }) only [go_sem, hc, h1a, h1b, e1]) <;> (try simp only [xb] at hc)) | (refine And.intro (by omega) ?_) | (refine And.intro (by simp only [xl]; omega) ?_) | (refine ex_idx (by omega) ?_) | (refine And.intro (by rw [← hB]; kernel_rfl) ?_) | fail)
  · have g1 : bitN a k = 1 := by omega
    have g2 : bitN b k = 1 := by omega
    rw [g1, g2] at hs
    refine ⟨k + 1, ?_, by omega, by omega⟩
    rw [hs]
    (simp only [LeL, envOf, upd_at, if_true, if_false, Nat.reduceEqDiff, true_or, and_true, true_and, and_self]; (try simp [view, viewL_map]); (try omega))
  · have g2 : bitN b k = 0 := by omega
    rw [g2, Nat.mul_zero, Nat.zero_mul, Nat.add_zero] at hs
    refine ⟨k + 1, ?_, by omega, by omega⟩
    rw [hs]
    (simp only [LeL, envOf, upd_at, if_true, if_false, Nat.reduceEqDiff, true_or, and_true, true_and, and_self]; (try simp [view, viewL_map]); (try omega))
  · have g2 : bitN a k = 0 := by omega
    rw [g2, Nat.zero_mul, Nat.zero_mul, Nat.add_zero] at hs
    refine ⟨k + 1, ?_, by omega, by omega⟩
    rw [hs]
    (simp only [LeL, envOf, upd_at, if_true, if_false, Nat.reduceEqDiff, true_or, and_true, true_and, and_self]; (try simp [view, viewL_map]); (try omega))
  · have hk40 : k = 40 := by omega
    subst hk40
    have : lowN (a &&& b) 40 = a &&& b := lowN_lt (by omega)
    rw [this]
    simp [Try.results35, RetOK, RetP, backA, upd_at, plainB, getP, isOwn, anyOwn, isP]

/-- How many of the first bits are 1. -/
def cntN (s : Nat) : Nat → Nat
  | 0 => 0
  | k + 1 => cntN s k + bitN s k
theorem cntN_le (s : Nat) : ∀ k, cntN s k ≤ k
  | 0 => Nat.le_refl _
  | k + 1 => by have := cntN_le s k; have := bitN_le s k; simp only [cntN]; omega

def bitsLR (args : List AV) (r : AV) : Prop := ∃ a : Nat, args = [I a] ∧ a < 1099511627776 ∧ r = I ((cntN a 40 : Nat) : Int)
theorem bitsL_ctr : CtrOK Try.prog 58 (pureC bitsLR) := by
  refine ctr_pure' Try.func58 rfl rfl Try.ntmps58 ?_
  rintro _ _ ⟨a, rfl, ha, rfl⟩
  refine ⟨by simp, fun κ hκ => ?_⟩
  have hbig := bigW_gt
  rw [argEnv_eq]
  simp only [envA]
  have hΓ := noCtx_ok Try.prog
  repeat' (first | (refine CW.seqK fun K hK => ?_) | (refine CW.block ?_) | ((first | refine CW.reg hΓ (by rw [hκ]; rfl) ?_ | refine CW.drw hΓ Try_mixed (by rw [hκ]; rfl) (by kernel_rfl) (fun B hB => ?_)); simp (config := { maxSteps := 2000000 }) only [go_sem]) | ((repeat ((fail_if_success (refine hK _ ?_)); clear hK K)); refine hK _ ?_; clear hK K) | ((first | refine CW.skip ?_ | refine CW.exit ?_ | refine CW.ret ?_); simp only [xs, if_true, if_false, Nat.reduceEqDiff, reduceCtorEq]) | (refine CW.cond (by simp only [upd_at, if_true, if_false, Nat.reduceEqDiff]; rfl) (fun hb => ?_) (fun hb => ?_) <;> (try simp only [xb, reduceCtorEq] at hb)) | ((first | refine W_brs (fun hc => ?_) (fun hc => ?_) | refine D_brs (fun hc => ?_) (fun hc => ?_)) <;> (try simp only [Bool.not_eq_true, Bool.not_eq_false] at hc) <;> (try simp (config := { maxSteps := 2000000 }) only [go_sem, hc]) <;> (try simp only [xb] at hc)) | (refine And.intro (by omega) ?_) | (refine And.intro (by simp only [xl]; omega) ?_) | (refine ex_idx (by omega) ?_) | (refine And.intro (by rw [← hB]; kernel_rfl) ?_) | fail)
  refine CW.loop (ι := Nat) (fun k => [(0, I a), (3, I ((cntN a k : Nat) : Int)), (4, I k)]) (fun k => k ≤ 40) (fun k => 40 - k) 0 ?_ ?_
  · refine ⟨by (simp only [LeL, envOf, upd_at, if_true, if_false, Nat.reduceEqDiff, true_or, and_true, true_and, and_self]; (try simp [view, viewL_map]); (try omega)); simp [cntN], by omega⟩
  rintro k hk
  simp only [envOf]
  have hp : (1 : Int) ≤ 2 ^ k ∧ (2 : Int) ^ k ≤ 1099511627776 := pow_bd hk
  have h0a : (0 : Int) ≤ (a : Int) / 2 ^ k := by rw [shr_nat]; exact Int.natCast_nonneg _
  have h1a : (a : Int) / 2 ^ k % 2 = (bitN a k : Int) := by rw [← bitN_eq, shr_nat]; rfl
  have hs : cntN a (k + 1) = cntN a k + bitN a k := rfl
  have hcl := cntN_le a k
  have hba := bitN_le a k
  repeat' (first | (refine CW.seqK fun K hK => ?_) | (refine CW.block ?_) | ((first | refine CW.reg hΓ (by rw [hκ]; rfl) ?_ | refine CW.drw hΓ Try_mixed (by rw [hκ]; rfl) (by kernel_rfl) (fun B hB => ?_)); simp (config := { maxSteps := 2000000 }) only [go_sem, h1a]) | ((repeat ((fail_if_success (refine hK _ ?_)); clear hK K)); refine hK _ ?_; clear hK K) | ((first | refine CW.skip ?_ | refine CW.exit ?_ | refine CW.ret ?_); simp only [xs, if_true, if_false, Nat.reduceEqDiff, reduceCtorEq]) | (refine CW.cond (by simp only [upd_at, if_true, if_false, Nat.reduceEqDiff]; rfl) (fun hb => ?_) (fun hb => ?_) <;> (try simp only [xb, reduceCtorEq] at hb)) | ((first | refine W_brs (fun hc => ?_) (fun hc => ?_) | refine D_brs (fun hc => ?_) (fun hc => ?_)) <;> (try simp only [Bool.not_eq_true, Bool.not_eq_false] at hc) <;> (try simp (config := { maxSteps := 2000000 }) only [go_sem, hc, h1a]) <;> (try simp only [xb] at hc)) | (refine And.intro (by omega) ?_) | (refine And.intro (by simp only [xl]; omega) ?_) | (refine ex_idx (by omega) ?_) | (refine And.intro (by rw [← hB]; kernel_rfl) ?_) | fail)
  · have g1 : bitN a k = 1 := by omega
    rw [g1] at hs
    refine ⟨k + 1, ?_, by omega, by omega⟩
    rw [hs]
    (simp only [LeL, envOf, upd_at, if_true, if_false, Nat.reduceEqDiff, true_or, and_true, true_and, and_self]; (try simp [view, viewL_map]); (try omega))
  · have g1 : bitN a k = 0 := by omega
    rw [g1, Nat.add_zero] at hs
    refine ⟨k + 1, ?_, by omega, by omega⟩
    rw [hs]
    (simp only [LeL, envOf, upd_at, if_true, if_false, Nat.reduceEqDiff, true_or, and_true, true_and, and_self]; (try simp [view, viewL_map]); (try omega))
  · have hk40 : k = 40 := by omega
    subst hk40
    simp [Try.results58, RetOK, RetP, backA, upd_at, plainB, getP, isOwn, anyOwn, isP]

def hasIR (args : List AV) (r : AV) : Prop := ∃ (l : List Int) (n : Int), args = [ints l, I n] ∧ l.length ≤ 1099511627776 ∧ r = .bool (decide (n ∈ l))
theorem hasInt_ctr : CtrOK Try.prog 63 (pureC hasIR) := by
  refine ctr_pure' Try.func63 rfl rfl Try.ntmps63 ?_
  rintro _ _ ⟨l, n, rfl, hl, rfl⟩
  refine ⟨by simp, fun κ hκ => ?_⟩
  have hbig := bigW_gt
  rw [argEnv_eq]
  simp only [envA]
  have hΓ := noCtx_ok Try.prog
  repeat' (first | (refine CW.seqK fun K hK => ?_) | (refine CW.block ?_) | ((first | refine CW.reg hΓ (by rw [hκ]; rfl) ?_ | refine CW.drw hΓ Try_mixed (by rw [hκ]; rfl) (by kernel_rfl) (fun B hB => ?_)); simp (config := { maxSteps := 2000000 }) only [go_sem]) | ((repeat ((fail_if_success (refine hK _ ?_)); clear hK K)); refine hK _ ?_; clear hK K) | ((first | refine CW.skip ?_ | refine CW.exit ?_ | refine CW.ret ?_); simp only [xs, if_true, if_false, Nat.reduceEqDiff, reduceCtorEq]) | (refine CW.cond (by simp only [upd_at, if_true, if_false, Nat.reduceEqDiff]; rfl) (fun hb => ?_) (fun hb => ?_) <;> (try simp only [xb, reduceCtorEq] at hb)) | ((first | refine W_brs (fun hc => ?_) (fun hc => ?_) | refine D_brs (fun hc => ?_) (fun hc => ?_)) <;> (try simp only [Bool.not_eq_true, Bool.not_eq_false] at hc) <;> (try simp (config := { maxSteps := 2000000 }) only [go_sem, hc]) <;> (try simp only [xb] at hc)) | (refine And.intro (by omega) ?_) | (refine And.intro (by simp only [xl]; omega) ?_) | (refine ex_idx (by omega) ?_) | (refine And.intro (by rw [← hB]; kernel_rfl) ?_) | fail)
  refine CW.loop (ι := Nat) (fun k => [(0, ints l), (1, I n), (5, I k)]) (fun k => k ≤ l.length ∧ n ∉ l.take k) (fun k => l.length - k) 0 ?_ ?_
  · exact ⟨by (simp only [LeL, envOf, upd_at, if_true, if_false, Nat.reduceEqDiff, true_or, and_true, true_and, and_self]; (try simp [view, viewL_map]); (try omega)), by omega, by simp⟩
  rintro k ⟨hk, hnk⟩
  simp only [envOf]
  repeat' (first | (refine CW.seqK fun K hK => ?_) | (refine CW.block ?_) | ((first | refine CW.reg hΓ (by rw [hκ]; rfl) ?_ | refine CW.drw hΓ Try_mixed (by rw [hκ]; rfl) (by kernel_rfl) (fun B hB => ?_)); simp (config := { maxSteps := 2000000 }) only [go_sem]) | ((repeat ((fail_if_success (refine hK _ ?_)); clear hK K)); refine hK _ ?_; clear hK K) | ((first | refine CW.skip ?_ | refine CW.exit ?_ | refine CW.ret ?_); simp only [xs, if_true, if_false, Nat.reduceEqDiff, reduceCtorEq]) | (refine CW.cond (by simp only [upd_at, if_true, if_false, Nat.reduceEqDiff]; rfl) (fun hb => ?_) (fun hb => ?_) <;> (try simp only [xb, reduceCtorEq] at hb)) | ((first | refine W_brs (fun hc => ?_) (fun hc => ?_) | refine D_brs (fun hc => ?_) (fun hc => ?_)) <;> (try simp only [Bool.not_eq_true, Bool.not_eq_false] at hc) <;> (try simp (config := { maxSteps := 2000000 }) only [go_sem, hc]) <;> (try simp only [xb] at hc)) | (refine And.intro (by omega) ?_) | (refine And.intro (by simp only [xl]; omega) ?_) | (refine ex_idx (by omega) ?_) | (refine And.intro (by rw [← hB]; kernel_rfl) ?_) | fail)
  · have h2 : decide (n ∈ l) = true := decide_eq_true (by rw [← ‹_ = n›]; exact List.getElem_mem _)
    rw [h2]
    simp [Try.results63, RetOK, RetP, backA, upd_at, plainB, getP, isOwn, anyOwn, isP]
  · refine ⟨k + 1, by (simp only [LeL, envOf, upd_at, if_true, if_false, Nat.reduceEqDiff, true_or, and_true, true_and, and_self]; (try simp [view, viewL_map]); (try omega)), ⟨by omega, ?_⟩, by omega⟩
    rw [List.take_succ_eq_append_getElem (show k < l.length by omega), List.mem_append, List.mem_singleton]
    rintro (h | h)
    · exact hnk h
    · exact ‹¬ _ = n› h.symm
  · have : l.take k = l := List.take_of_length_le (by omega)
    rw [this] at hnk
    have h2 : decide (n ∈ l) = false := decide_eq_false hnk
    rw [h2]
    simp [Try.results63, RetOK, RetP, backA, upd_at, plainB, getP, isOwn, anyOwn, isP]

end Go.Proofs.Ytcpfflnhbcbmnaa
