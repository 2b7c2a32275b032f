/- The reference's TraceBy, walked by the engine. -/
import Derived.Test.YtkibemgdncncoaaF1
namespace Go.Proofs.Ytkibemgdncncoaa
set_option linter.unusedSimpArgs false
set_option linter.unusedVariables false
set_option maxRecDepth 8000
set_option maxHeartbeats 2000000
open Go Go.RowKit AV

attribute [local go_sem] wpOpsD_cons wpOpsD_nil KOpsD_app D_ret D_get D_peek D_need D_ex D_br_t D_br_f D_fail D_idx_map D_idx_zero D_idx_succ D_getP_nil D_getP_own D_getP_box tg wpOpsA_cons wpOpsA_nil KOps_app rdG rdO rdX rdMv rdTake rdBor rdBin binV rdUn rdConv rdPick rdLoad rdStore stW rdStoreA rdVal rdParts srcW rdField rdIndex rdLen rdBuildS rdBuild rdMakeS rdBd rdSlice rdExtract rdFieldV rdBox rdAlloc rdSrc rdDst rdApp rdArg rdArgs rdCallP rdCall rdSkip rdCallX rdCallE rdCallY rdCallT rdBin2 isNilEq rdNilEq bigW_sub bigW_le rdApp2 rdSrcO rdNil rdClear rdMakeFn isT_no isT_nil isT_cons takeC_eff takeC_tk effC_tk pureC_tk rdTake Option.isSome_none Bool.and_self rdGive toBox backW isE_no isE_nil isE_cons effC_eff pureC_eff effC_rel pureC_rel id takenL takesOf opT opTs partW srcs foldP fzW slotsDistinct cst in64 nat64 W_ret W_get W_peek W_need W_ex W_br_t W_br_f W_fail apps killIf_t killIf_f app_set_junk app_mod_junk app_set_num app_mod_num app_set_bool app_mod_bool app_set_sh app_mod_sh app_set_own app_mod_own app_set_box app_mod_box app_set_pbox app_mod_pbox app_set_pcell app_mod_pcell app_set_alias app_mod_alias app_set_valias app_mod_valias app_set_addr app_mod_addr app_set_fn app_mod_fn app_set_agg app_mod_agg app_set_win app_mod_win app_set_pin app_mod_pin app_set_omap app_mod_omap app_set_tup app_mod_tup upd_at kill_upd kill_nil killV isOwn anyOwn isP allP noSh allN one allOne head view viewL getP setP kids withKids blk viewL_map noSh_ints List.map_map thenA_normal thenA_normal' ne_eq reduceCtorEq not_false_eq_true not_true_eq_false true_and and_true and_false false_and if_true if_false Bool.false_eq_true Bool.true_eq_false Nat.reduceAdd Nat.reduceLT Nat.reduceLeDiff Nat.reduceEqDiff List.append_nil List.nil_append List.cons_append List.contains_nil List.contains_cons Nat.reduceBEq Bool.or_false Bool.or_true Bool.false_or Bool.true_or Bool.not_true Bool.not_false List.getElem?_toArray List.getElem?_cons_zero List.getElem?_cons_succ Option.bind_some Option.bind_none List.length_map List.length_cons List.length_nil List.map_cons List.map_nil List.dropLast List.getLast? List.getLast List.getD_cons_zero List.getD_cons_succ List.set_cons_zero List.set_cons_succ List.replicate List.filterMap_cons List.filterMap_nil List.foldl_cons List.foldl_nil List.nodup_cons List.nodup_nil List.not_mem_nil List.mem_cons or_false false_or Option.some.injEq AV.box.injEq AV.own.injEq AV.agg.injEq exists_eq_left' exists_eq_left exists_eq_right exists_eq exists_eq' exists_and_left Option.getD_some List.getElem?_map Option.map_eq_some_iff W_idx_map W_idx_zero W_idx_succ W_getP_nil W_getP_own W_getP_box List.any_cons List.all_cons List.all_nil List.any_nil Int.toNat_natCast Nat.cast_ofNat_Int Prod.mk.injEq and_self forall_eq forall_eq_or_imp implies_true forall_const Int.toNat_zero Int.toNat_one not_imp_self decide_true decide_false false_imp_iff cast_div cast_mod allN_oints allP_rows allP_ints view_I view_ints view_oo Bool.and_true Bool.true_and Bool.and_false Bool.false_and Option.isSome_some Int.natCast_nonneg Ty_aggT_3 Ty_szT_3 Ty_zT_3 Ty_inT_3 Ty_aggT_4 Ty_szT_4 Ty_zT_4 Ty_boT_4 Ty_aggT_22 Ty_szT_22 Ty_zT_22 Ty_slE_22 Ty_slOK_22 Ty_slZ_22 Ty_aggT_23 Ty_szT_23 Ty_zT_23 Ty_slE_23 Ty_slOK_23 Ty_slZ_23 Ty_aggT_35 Ty_szT_35 Ty_zT_35 Ty_bPl_35 Ty_stO_35_0 Ty_stO_35_1 Ty_aggT_39 Ty_szT_39 Ty_zT_39 Ty_bPl_39 Ty_stO_39_0 Ty_stO_39_1 Ty_aggT_59 Ty_szT_59 Ty_zT_59 Ty_aggT_88 Ty_szT_88 Ty_zT_88 Ty_slE_88 Ty_slOK_88 Ty_slZ_88 Ty_aggT_90 Ty_szT_90 Ty_zT_90 Ty_bPl_90 Ty_stO_90_0 Ty_stO_90_1

def traceByR (args : List AV) (r : AV) : Prop := ∃ e t : List Int, args = [ints e, ints t] ∧ e.length ≤ 1048576 ∧ t.length ≤ 1048576 ∧ r = .bool (trbB e t)

theorem ordL_nil : ordL [] = [] := rfl
/-- What is left of one of the parts: few and short. -/
theorem stepF_bd {x : Ex} (hw : x.wf) (hl : x.steps.length ≤ 40) {s : LL} (hs : ∀ t ∈ s, InLeft x t) (hn : s.length ≤ 41) {atom : Nat} {act : Int} (h16 : 16 ≤ act) (j : Nat) : ((s.take j).flatMap (partsOfL atom act)).length ≤ 32841 ∧ ∀ t ∈ (s.take j).flatMap (partsOfL atom act), t.length ≤ 1601 := by
  have hin : ∀ t ∈ s.take j, InLeft x t := fun t ht => hs t (List.mem_of_mem_take ht)
  refine ⟨?_, fun t ht => (flat_left hw hin h16 t ht).short hl⟩
  have h1 : ((s.take j).flatMap (partsOfL atom act)).length ≤ (s.take j).length * 801 := flatMap_len fun t ht => by
    obtain ⟨p, hp, hps, _⟩ := (hin t ht).tree
    have hsh := (hin t ht).short hl
    rw [← hps, partsOfL_steps hp]
    have h2 := partsL_count (atom := atom) h16 p
    have h3 := actsX_len p
    rw [hps] at h3
    omega
  have h2 : (s.take j).length ≤ 41 := by rw [List.length_take]; omega
  have h3 := Nat.mul_le_mul_right 801 h2
  omega

theorem specTraceBy_ctr : CtrOK Try.prog 25 (pureC traceByR) := by
  refine ctr_pure' Try.func25 rfl rfl Try.ntmps25 ?_
  rintro _ _ ⟨e, t, rfl, hl, htl, rfl⟩
  refine ⟨by simp, fun κ hκ => ?_⟩
  have hbig := bigW_gt
  rw [argEnv_eq]
  simp only [envA]
  have hΓ := ctxOf_ok (P := Try.prog) (L := [(60, pureC katValidR), (68, pureC traceValidR), (62, pureC (partsR (4096))), (69, pureC addR), (71, pureC (endsR (1048576))), (70, pureC l1BitR)]) (by simp only [List.mem_cons, List.not_mem_nil, or_false, forall_eq_or_imp, forall_eq]; exact ⟨specKatValid_ctr, specTraceValid_ctr, l4Parts_ctr, l3Add_ctr, l4Ends_ctr, l1Bit_ctr⟩)
  repeat' (first | (refine CW.seqK fun K hK => ?_) | (refine CW.block ?_) | ((first | refine CW.reg hΓ (by rw [hκ]; rfl) ?_ | refine CW.drw hΓ Try_mixed (by rw [hκ]; rfl) (by kernel_rfl) (fun B hB => ?_)); simp (config := { maxSteps := 2000000 }) only [go_sem]) | ((repeat ((fail_if_success (refine hK _ ?_)); clear hK K)); refine hK _ ?_; clear hK K) | ((first | refine CW.skip ?_ | refine CW.exit ?_ | refine CW.ret ?_); simp only [thenA_normal, thenA_exit, thenA_ret, inBlockA_normal, inBlockA_exit, inBlockA_ret, if_true, if_false, Nat.reduceEqDiff, reduceCtorEq, retQ_ret, retQ_normal, retE_ret, retE_normal]) | (refine CW.cond (by simp only [upd_at, if_true, if_false, Nat.reduceEqDiff]; rfl) (fun hb => ?_) (fun hb => ?_) <;> (try simp only [decide_eq_true_eq, decide_eq_false_iff_not, Bool.not_eq_true', Bool.not_eq_false', reduceCtorEq] at hb)) | ((first | refine W_brs (fun hc => ?_) (fun hc => ?_) | refine D_brs (fun hc => ?_) (fun hc => ?_)) <;> (try simp only [Bool.not_eq_true, Bool.not_eq_false] at hc) <;> (try simp (config := { maxSteps := 2000000 }) only [go_sem, hc]) <;> (try simp only [decide_eq_true_eq, decide_eq_false_iff_not, Bool.not_eq_true', Bool.not_eq_false'] at hc)) | (refine And.intro (by omega) ?_) | (refine And.intro (by simp only [List.length_append, List.length_map, List.length_take, List.length_drop, List.length_cons, List.length_nil, List.length_replicate]; omega) ?_) | (refine ex_idx (by omega) ?_) | (refine And.intro (by rw [← hB]; kernel_rfl) ?_) | fail)
  (first | refine W_askP rfl _ (⟨e, rfl, by omega, rfl⟩) ?_ | refine D_askP rfl _ (⟨e, rfl, by omega, rfl⟩) ?_); simp (config := { maxSteps := 2000000 }) only [go_sem]
  repeat' (first | (refine CW.seqK fun K hK => ?_) | (refine CW.block ?_) | ((first | refine CW.reg hΓ (by rw [hκ]; rfl) ?_ | refine CW.drw hΓ Try_mixed (by rw [hκ]; rfl) (by kernel_rfl) (fun B hB => ?_)); simp (config := { maxSteps := 2000000 }) only [go_sem]) | ((repeat ((fail_if_success (refine hK _ ?_)); clear hK K)); refine hK _ ?_; clear hK K) | ((first | refine CW.skip ?_ | refine CW.exit ?_ | refine CW.ret ?_); simp only [thenA_normal, thenA_exit, thenA_ret, inBlockA_normal, inBlockA_exit, inBlockA_ret, if_true, if_false, Nat.reduceEqDiff, reduceCtorEq, retQ_ret, retQ_normal, retE_ret, retE_normal]) | (refine CW.cond (by simp only [upd_at, if_true, if_false, Nat.reduceEqDiff]; rfl) (fun hb => ?_) (fun hb => ?_) <;> (try simp only [decide_eq_true_eq, decide_eq_false_iff_not, Bool.not_eq_true', Bool.not_eq_false', reduceCtorEq] at hb)) | ((first | refine W_brs (fun hc => ?_) (fun hc => ?_) | refine D_brs (fun hc => ?_) (fun hc => ?_)) <;> (try simp only [Bool.not_eq_true, Bool.not_eq_false] at hc) <;> (try simp (config := { maxSteps := 2000000 }) only [go_sem, hc]) <;> (try simp only [decide_eq_true_eq, decide_eq_false_iff_not, Bool.not_eq_true', Bool.not_eq_false'] at hc)) | (refine And.intro (by omega) ?_) | (refine And.intro (by simp only [List.length_append, List.length_map, List.length_take, List.length_drop, List.length_cons, List.length_nil, List.length_replicate]; omega) ?_) | (refine ex_idx (by omega) ?_) | (refine And.intro (by rw [← hB]; kernel_rfl) ?_) | fail)
  rotate_left
  · have hkb := ‹katB e = false›
    have hf : trbB e t = false := trbB_false.2 fun h => by simp [hkb] at h
    rw [hf]
    simp [Try.results25, RetOK, RetP, backA, upd_at, plainB, getP, isOwn, anyOwn, isP]
  (first | refine W_askP rfl _ (⟨t, rfl, by omega, rfl⟩) ?_ | refine D_askP rfl _ (⟨t, rfl, by omega, rfl⟩) ?_); simp (config := { maxSteps := 2000000 }) only [go_sem]
  repeat' (first | (refine CW.seqK fun K hK => ?_) | (refine CW.block ?_) | ((first | refine CW.reg hΓ (by rw [hκ]; rfl) ?_ | refine CW.drw hΓ Try_mixed (by rw [hκ]; rfl) (by kernel_rfl) (fun B hB => ?_)); simp (config := { maxSteps := 2000000 }) only [go_sem]) | ((repeat ((fail_if_success (refine hK _ ?_)); clear hK K)); refine hK _ ?_; clear hK K) | ((first | refine CW.skip ?_ | refine CW.exit ?_ | refine CW.ret ?_); simp only [thenA_normal, thenA_exit, thenA_ret, inBlockA_normal, inBlockA_exit, inBlockA_ret, if_true, if_false, Nat.reduceEqDiff, reduceCtorEq, retQ_ret, retQ_normal, retE_ret, retE_normal]) | (refine CW.cond (by simp only [upd_at, if_true, if_false, Nat.reduceEqDiff]; rfl) (fun hb => ?_) (fun hb => ?_) <;> (try simp only [decide_eq_true_eq, decide_eq_false_iff_not, Bool.not_eq_true', Bool.not_eq_false', reduceCtorEq] at hb)) | ((first | refine W_brs (fun hc => ?_) (fun hc => ?_) | refine D_brs (fun hc => ?_) (fun hc => ?_)) <;> (try simp only [Bool.not_eq_true, Bool.not_eq_false] at hc) <;> (try simp (config := { maxSteps := 2000000 }) only [go_sem, hc]) <;> (try simp only [decide_eq_true_eq, decide_eq_false_iff_not, Bool.not_eq_true', Bool.not_eq_false'] at hc)) | (refine And.intro (by omega) ?_) | (refine And.intro (by simp only [List.length_append, List.length_map, List.length_take, List.length_drop, List.length_cons, List.length_nil, List.length_replicate]; omega) ?_) | (refine ex_idx (by omega) ?_) | (refine And.intro (by rw [← hB]; kernel_rfl) ?_) | fail)
  · have hkb := ‹traceOKB t = false›
    have hf : trbB e t = false := trbB_false.2 fun h => traceOKB_false.1 hkb h.2.1
    rw [hf]
    simp [Try.results25, RetOK, RetP, backA, upd_at, plainB, getP, isOwn, anyOwn, isP]
  have hkb := ‹katB e = true›
  have htr := traceOKB_true.1 ‹traceOKB t = true›
  obtain ⟨x, hw, rfl, h40⟩ := katB_tree hkb
  have hodd := htr.odd
  have h41 := htr.len
  refine CW.loop (ι := Nat) (fun k => [(0, ints x.steps), (1, ints t), (5, rows (setTo x.steps t k)), (6, I ((2 * k : Nat) : Int))]) (fun k => 2 * k ≤ t.length) (fun k => t.length - 2 * k) 0 ?_ ?_
  · exact ⟨by (simp only [LeL, envOf, upd_at, if_true, if_false, Nat.reduceEqDiff, true_or, and_true, true_and, and_self]; (try simp [view, viewL_map]); (try omega)); simp [setTo], by omega⟩
  rintro k hk
  simp only [envOf]
  obtain ⟨hS1, hS2⟩ := setTo_left hw htr k hk
  have hS3 := setTo_len hw htr hk
  have hacx := actsX_len x
  generalize hS : setTo x.steps t k = S at *
  have e20 : ((2 * k : Nat) : Int) + 1 = ((2 * k + 1 : Nat) : Int) := by omega
  repeat' (first | (refine CW.seqK fun K hK => ?_) | (refine CW.block ?_) | ((first | refine CW.reg hΓ (by rw [hκ]; rfl) ?_ | refine CW.drw hΓ Try_mixed (by rw [hκ]; rfl) (by kernel_rfl) (fun B hB => ?_)); simp (config := { maxSteps := 2000000 }) only [go_sem, e20]) | ((repeat ((fail_if_success (refine hK _ ?_)); clear hK K)); refine hK _ ?_; clear hK K) | ((first | refine CW.skip ?_ | refine CW.exit ?_ | refine CW.ret ?_); simp only [thenA_normal, thenA_exit, thenA_ret, inBlockA_normal, inBlockA_exit, inBlockA_ret, if_true, if_false, Nat.reduceEqDiff, reduceCtorEq, retQ_ret, retQ_normal, retE_ret, retE_normal]) | (refine CW.cond (by simp only [upd_at, if_true, if_false, Nat.reduceEqDiff]; rfl) (fun hb => ?_) (fun hb => ?_) <;> (try simp only [decide_eq_true_eq, decide_eq_false_iff_not, Bool.not_eq_true', Bool.not_eq_false', reduceCtorEq] at hb)) | ((first | refine W_brs (fun hc => ?_) (fun hc => ?_) | refine D_brs (fun hc => ?_) (fun hc => ?_)) <;> (try simp only [Bool.not_eq_true, Bool.not_eq_false] at hc) <;> (try simp (config := { maxSteps := 2000000 }) only [go_sem, hc, e20]) <;> (try simp only [decide_eq_true_eq, decide_eq_false_iff_not, Bool.not_eq_true', Bool.not_eq_false'] at hc)) | (refine And.intro (by omega) ?_) | (refine And.intro (by simp only [List.length_append, List.length_map, List.length_take, List.length_drop, List.length_cons, List.length_nil, List.length_replicate]; omega) ?_) | (refine ex_idx (by omega) ?_) | (refine And.intro (by rw [← hB]; kernel_rfl) ?_) | fail)
  · have hkl : 2 * k + 1 < t.length := by omega
    have hat := htr.atoms k (by omega)
    have hac := htr.acts k hkl
    have hn0 : nth t (2 * k) = t[2 * k] := nth_getElem (by omega)
    have hn1 : nth t (2 * k + 1) = t[2 * k + 1] := nth_getElem hkl
    have hSs : setTo x.steps t (k + 1) = ordL (S.flatMap (partsOfL (nth t (2 * k)).toNat (nth t (2 * k + 1)))) := by rw [setTo, hS]; rfl
    have hbd := fun j => stepF_bd hw h40 hS1 (by omega) (atom := (nth t (2 * k)).toNat) hac.1 j
    generalize hF : partsOfL (nth t (2 * k)).toNat (nth t (2 * k + 1)) = F at *
    refine CW.loop (ι := Nat) (fun j => [(0, ints x.steps), (1, ints t), (5, rows S), (6, I ((2 * k : Nat) : Int)), (7, rows (ordL ((S.take j).flatMap F))), (8, I j)]) (fun j => j ≤ S.length) (fun j => S.length - j) 0 ?_ ?_
    · exact ⟨by (simp only [LeL, envOf, upd_at, if_true, if_false, Nat.reduceEqDiff, true_or, and_true, true_and, and_self]; (try simp [view, viewL_map]); (try omega)); simp [ordL_nil], by omega⟩
    rintro j hj
    simp only [envOf]
    repeat' (first | (refine CW.seqK fun K hK => ?_) | (refine CW.block ?_) | ((first | refine CW.reg hΓ (by rw [hκ]; rfl) ?_ | refine CW.drw hΓ Try_mixed (by rw [hκ]; rfl) (by kernel_rfl) (fun B hB => ?_)); simp (config := { maxSteps := 2000000 }) only [go_sem, e20]) | ((repeat ((fail_if_success (refine hK _ ?_)); clear hK K)); refine hK _ ?_; clear hK K) | ((first | refine CW.skip ?_ | refine CW.exit ?_ | refine CW.ret ?_); simp only [thenA_normal, thenA_exit, thenA_ret, inBlockA_normal, inBlockA_exit, inBlockA_ret, if_true, if_false, Nat.reduceEqDiff, reduceCtorEq, retQ_ret, retQ_normal, retE_ret, retE_normal]) | (refine CW.cond (by simp only [upd_at, if_true, if_false, Nat.reduceEqDiff]; rfl) (fun hb => ?_) (fun hb => ?_) <;> (try simp only [decide_eq_true_eq, decide_eq_false_iff_not, Bool.not_eq_true', Bool.not_eq_false', reduceCtorEq] at hb)) | ((first | refine W_brs (fun hc => ?_) (fun hc => ?_) | refine D_brs (fun hc => ?_) (fun hc => ?_)) <;> (try simp only [Bool.not_eq_true, Bool.not_eq_false] at hc) <;> (try simp (config := { maxSteps := 2000000 }) only [go_sem, hc, e20]) <;> (try simp only [decide_eq_true_eq, decide_eq_false_iff_not, Bool.not_eq_true', Bool.not_eq_false'] at hc)) | (refine And.intro (by omega) ?_) | (refine And.intro (by simp only [List.length_append, List.length_map, List.length_take, List.length_drop, List.length_cons, List.length_nil, List.length_replicate]; omega) ?_) | (refine ex_idx (by omega) ?_) | (refine And.intro (by rw [← hB]; kernel_rfl) ?_) | fail)
    · have hjl : j < S.length := by omega
      obtain ⟨p, hpw, hps, hpe⟩ := (hS1 _ (List.getElem_mem hjl)).tree
      have hsh := (hS1 _ (List.getElem_mem hjl)).short h40
      have h0 : (((nth t (2 * k)).toNat : Nat) : Int) = t[2 * k] := by rw [← hn0]; omega
      have hbj := hbd j
      have hbj1 := hbd (j + 1)
      have hst : (S.take (j + 1)).flatMap F = (S.take j).flatMap F ++ F S[j] := flatMap_take hjl
      have hFj : partsL (nth t (2 * k)).toNat (nth t (2 * k + 1)) p = F S[j] := by rw [← hF, ← hps, partsOfL_steps hpw]
      (first | refine W_askP rfl _ (⟨p, (nth t (2 * k)).toNat, nth t (2 * k + 1), by rw [h0, hn1, hps], hpw, by rw [hps]; omega, by omega, hac.1, hac.2, rfl⟩) ?_ | refine D_askP rfl _ (⟨p, (nth t (2 * k)).toNat, nth t (2 * k + 1), by rw [h0, hn1, hps], hpw, by rw [hps]; omega, by omega, hac.1, hac.2, rfl⟩) ?_); simp (config := { maxSteps := 2000000 }) only [go_sem]
      generalize hps' : partsL (nth t (2 * k)).toNat (nth t (2 * k + 1)) p = ps at *
      subst hFj
      rw [hst] at hbj1
      have hFl : (F S[j]).length ≤ 32841 := by have := hbj1.1; rw [List.length_append] at this; omega
      repeat' (first | (refine CW.seqK fun K hK => ?_) | (refine CW.block ?_) | ((first | refine CW.reg hΓ (by rw [hκ]; rfl) ?_ | refine CW.drw hΓ Try_mixed (by rw [hκ]; rfl) (by kernel_rfl) (fun B hB => ?_)); simp (config := { maxSteps := 2000000 }) only [go_sem, e20]) | ((repeat ((fail_if_success (refine hK _ ?_)); clear hK K)); refine hK _ ?_; clear hK K) | ((first | refine CW.skip ?_ | refine CW.exit ?_ | refine CW.ret ?_); simp only [thenA_normal, thenA_exit, thenA_ret, inBlockA_normal, inBlockA_exit, inBlockA_ret, if_true, if_false, Nat.reduceEqDiff, reduceCtorEq, retQ_ret, retQ_normal, retE_ret, retE_normal]) | (refine CW.cond (by simp only [upd_at, if_true, if_false, Nat.reduceEqDiff]; rfl) (fun hb => ?_) (fun hb => ?_) <;> (try simp only [decide_eq_true_eq, decide_eq_false_iff_not, Bool.not_eq_true', Bool.not_eq_false', reduceCtorEq] at hb)) | ((first | refine W_brs (fun hc => ?_) (fun hc => ?_) | refine D_brs (fun hc => ?_) (fun hc => ?_)) <;> (try simp only [Bool.not_eq_true, Bool.not_eq_false] at hc) <;> (try simp (config := { maxSteps := 2000000 }) only [go_sem, hc, e20]) <;> (try simp only [decide_eq_true_eq, decide_eq_false_iff_not, Bool.not_eq_true', Bool.not_eq_false'] at hc)) | (refine And.intro (by omega) ?_) | (refine And.intro (by simp only [List.length_append, List.length_map, List.length_take, List.length_drop, List.length_cons, List.length_nil, List.length_replicate]; omega) ?_) | (refine ex_idx (by omega) ?_) | (refine And.intro (by rw [← hB]; kernel_rfl) ?_) | fail)
      refine CW.loop (ι := Nat) (fun i => [(0, ints x.steps), (1, ints t), (5, rows S), (6, I ((2 * k : Nat) : Int)), (7, rows (addsL (ordL ((S.take j).flatMap F)) ((F S[j]).take i))), (8, I j), (9, rows (F S[j])), (10, I i)]) (fun i => i ≤ (F S[j]).length) (fun i => (F S[j]).length - i) 0 ?_ ?_
      · exact ⟨by (simp only [LeL, envOf, upd_at, if_true, if_false, Nat.reduceEqDiff, true_or, and_true, true_and, and_self]; (try simp [view, viewL_map]); (try omega)); simp [addsL_nil], by omega⟩
      rintro i hi
      simp only [envOf]
      repeat' (first | (refine CW.seqK fun K hK => ?_) | (refine CW.block ?_) | ((first | refine CW.reg hΓ (by rw [hκ]; rfl) ?_ | refine CW.drw hΓ Try_mixed (by rw [hκ]; rfl) (by kernel_rfl) (fun B hB => ?_)); simp (config := { maxSteps := 2000000 }) only [go_sem, e20]) | ((repeat ((fail_if_success (refine hK _ ?_)); clear hK K)); refine hK _ ?_; clear hK K) | ((first | refine CW.skip ?_ | refine CW.exit ?_ | refine CW.ret ?_); simp only [thenA_normal, thenA_exit, thenA_ret, inBlockA_normal, inBlockA_exit, inBlockA_ret, if_true, if_false, Nat.reduceEqDiff, reduceCtorEq, retQ_ret, retQ_normal, retE_ret, retE_normal]) | (refine CW.cond (by simp only [upd_at, if_true, if_false, Nat.reduceEqDiff]; rfl) (fun hb => ?_) (fun hb => ?_) <;> (try simp only [decide_eq_true_eq, decide_eq_false_iff_not, Bool.not_eq_true', Bool.not_eq_false', reduceCtorEq] at hb)) | ((first | refine W_brs (fun hc => ?_) (fun hc => ?_) | refine D_brs (fun hc => ?_) (fun hc => ?_)) <;> (try simp only [Bool.not_eq_true, Bool.not_eq_false] at hc) <;> (try simp (config := { maxSteps := 2000000 }) only [go_sem, hc, e20]) <;> (try simp only [decide_eq_true_eq, decide_eq_false_iff_not, Bool.not_eq_true', Bool.not_eq_false'] at hc)) | (refine And.intro (by omega) ?_) | (refine And.intro (by simp only [List.length_append, List.length_map, List.length_take, List.length_drop, List.length_cons, List.length_nil, List.length_replicate]; omega) ?_) | (refine ex_idx (by omega) ?_) | (refine And.intro (by rw [← hB]; kernel_rfl) ?_) | fail)
      · have hil : i < (F S[j]).length := by omega
        have hlen2 : (addsL (ordL ((S.take j).flatMap F)) ((F S[j]).take i)).length ≤ 1048576 := by
          have h1 := addsL_length ((F S[j]).take i) (ordL ((S.take j).flatMap F))
          have h2 := ordL_length ((S.take j).flatMap F)
          have h3 : ((F S[j]).take i).length ≤ (F S[j]).length := by rw [List.length_take]; omega
          have h4 := hbj1.1
          rw [List.length_append] at h4
          omega
        have hel2 : ∀ s ∈ addsL (ordL ((S.take j).flatMap F)) ((F S[j]).take i), s.length ≤ 1099511627776 := fun s hs => by
          rw [mem_addsL, mem_ordL] at hs
          have h9 := hbj1.2 s (by rw [List.mem_append]; exact hs.imp id List.mem_of_mem_take)
          exact Nat.le_trans h9 (by omega)
        have hel3 : (F S[j])[i].length ≤ 1601 := hbj1.2 _ (by rw [List.mem_append]; exact .inr (List.getElem_mem hil))
        (first | refine W_askP rfl _ (⟨_, _, rfl, hlen2, hel2, by omega, rfl⟩) ?_ | refine D_askP rfl _ (⟨_, _, rfl, hlen2, hel2, by omega, rfl⟩) ?_); simp (config := { maxSteps := 2000000 }) only [go_sem]
        repeat' (first | (refine CW.seqK fun K hK => ?_) | (refine CW.block ?_) | ((first | refine CW.reg hΓ (by rw [hκ]; rfl) ?_ | refine CW.drw hΓ Try_mixed (by rw [hκ]; rfl) (by kernel_rfl) (fun B hB => ?_)); simp (config := { maxSteps := 2000000 }) only [go_sem, e20]) | ((repeat ((fail_if_success (refine hK _ ?_)); clear hK K)); refine hK _ ?_; clear hK K) | ((first | refine CW.skip ?_ | refine CW.exit ?_ | refine CW.ret ?_); simp only [thenA_normal, thenA_exit, thenA_ret, inBlockA_normal, inBlockA_exit, inBlockA_ret, if_true, if_false, Nat.reduceEqDiff, reduceCtorEq, retQ_ret, retQ_normal, retE_ret, retE_normal]) | (refine CW.cond (by simp only [upd_at, if_true, if_false, Nat.reduceEqDiff]; rfl) (fun hb => ?_) (fun hb => ?_) <;> (try simp only [decide_eq_true_eq, decide_eq_false_iff_not, Bool.not_eq_true', Bool.not_eq_false', reduceCtorEq] at hb)) | ((first | refine W_brs (fun hc => ?_) (fun hc => ?_) | refine D_brs (fun hc => ?_) (fun hc => ?_)) <;> (try simp only [Bool.not_eq_true, Bool.not_eq_false] at hc) <;> (try simp (config := { maxSteps := 2000000 }) only [go_sem, hc, e20]) <;> (try simp only [decide_eq_true_eq, decide_eq_false_iff_not, Bool.not_eq_true', Bool.not_eq_false'] at hc)) | (refine And.intro (by omega) ?_) | (refine And.intro (by simp only [List.length_append, List.length_map, List.length_take, List.length_drop, List.length_cons, List.length_nil, List.length_replicate]; omega) ?_) | (refine ex_idx (by omega) ?_) | (refine And.intro (by rw [← hB]; kernel_rfl) ?_) | fail)
        refine ⟨i + 1, ?_, by omega, by omega⟩
        rw [addsL_take _ _ hil]
        (simp only [LeL, envOf, upd_at, if_true, if_false, Nat.reduceEqDiff, true_or, and_true, true_and, and_self]; (try simp [view, viewL_map]); (try omega))
      · have hie : i = (F S[j]).length := by omega
        subst hie
        refine ⟨j + 1, ?_, by omega, by omega⟩
        rw [hst, ← addsL_ord, List.take_length]
        (simp only [LeL, envOf, upd_at, if_true, if_false, Nat.reduceEqDiff, true_or, and_true, true_and, and_self]; (try simp [view, viewL_map]); (try omega))
    · have hje : j = S.length := by omega
      subst hje
      refine ⟨k + 1, ?_, by omega, by omega⟩
      rw [hSs, List.take_length]
      (simp only [LeL, envOf, upd_at, if_true, if_false, Nat.reduceEqDiff, true_or, and_true, true_and, and_self]; (try simp [view, viewL_map]); (try omega))
  · have hke : k = t.length / 2 := by omega
    have hlast := htr.atoms (t.length / 2) (by omega)
    have e21 : 2 * (t.length / 2) = t.length - 1 := by omega
    have e22 : ((t.length : Nat) : Int) - 1 = ((t.length - 1 : Nat) : Int) := by omega
    rw [e21] at hlast
    have hnl : nth t (t.length - 1) = t[t.length - 1] := nth_getElem (by omega)
    have hend : trbB x.steps t = true ↔ ∃ p ∈ S, (endX (exOf p)).testBit (nth t (t.length - 1)).toNat = true := by
      rw [trbB_true, ← hke, hS]
      exact ⟨fun h => h.2.2, fun h => ⟨hkb, htr, h⟩⟩
    refine CW.loop (ι := Nat) (fun j => [(1, ints t), (5, rows S), (11, I j)]) (fun j => j ≤ S.length ∧ ∀ p ∈ S.take j, ¬ (endX (exOf p)).testBit (nth t (t.length - 1)).toNat = true) (fun j => S.length - j) 0 ?_ ?_
    · exact ⟨by (simp only [LeL, envOf, upd_at, if_true, if_false, Nat.reduceEqDiff, true_or, and_true, true_and, and_self]; (try simp [view, viewL_map]); (try omega)), by simp⟩
    rintro j ⟨hj, hno⟩
    simp only [envOf]
    repeat' (first | (refine CW.seqK fun K hK => ?_) | (refine CW.block ?_) | ((first | refine CW.reg hΓ (by rw [hκ]; rfl) ?_ | refine CW.drw hΓ Try_mixed (by rw [hκ]; rfl) (by kernel_rfl) (fun B hB => ?_)); simp (config := { maxSteps := 2000000 }) only [go_sem, e22]) | ((repeat ((fail_if_success (refine hK _ ?_)); clear hK K)); refine hK _ ?_; clear hK K) | ((first | refine CW.skip ?_ | refine CW.exit ?_ | refine CW.ret ?_); simp only [thenA_normal, thenA_exit, thenA_ret, inBlockA_normal, inBlockA_exit, inBlockA_ret, if_true, if_false, Nat.reduceEqDiff, reduceCtorEq, retQ_ret, retQ_normal, retE_ret, retE_normal]) | (refine CW.cond (by simp only [upd_at, if_true, if_false, Nat.reduceEqDiff]; rfl) (fun hb => ?_) (fun hb => ?_) <;> (try simp only [decide_eq_true_eq, decide_eq_false_iff_not, Bool.not_eq_true', Bool.not_eq_false', reduceCtorEq] at hb)) | ((first | refine W_brs (fun hc => ?_) (fun hc => ?_) | refine D_brs (fun hc => ?_) (fun hc => ?_)) <;> (try simp only [Bool.not_eq_true, Bool.not_eq_false] at hc) <;> (try simp (config := { maxSteps := 2000000 }) only [go_sem, hc, e22]) <;> (try simp only [decide_eq_true_eq, decide_eq_false_iff_not, Bool.not_eq_true', Bool.not_eq_false'] at hc)) | (refine And.intro (by omega) ?_) | (refine And.intro (by simp only [List.length_append, List.length_map, List.length_take, List.length_drop, List.length_cons, List.length_nil, List.length_replicate]; omega) ?_) | (refine ex_idx (by omega) ?_) | (refine And.intro (by rw [← hB]; kernel_rfl) ?_) | fail)
    · have hjl : j < S.length := by omega
      obtain ⟨p, hpw, hps, hpe⟩ := (hS1 _ (List.getElem_mem hjl)).tree
      have hsh := (hS1 _ (List.getElem_mem hjl)).short h40
      have h0 : (((nth t (t.length - 1)).toNat : Nat) : Int) = t[t.length - 1] := by rw [← hnl]; omega
      (first | refine W_askP rfl _ (⟨p, by rw [hps], hpw, by rw [hps]; omega, rfl⟩) ?_ | refine D_askP rfl _ (⟨p, by rw [hps], hpw, by rw [hps]; omega, rfl⟩) ?_); simp (config := { maxSteps := 2000000 }) only [go_sem]
      repeat' (first | (refine CW.seqK fun K hK => ?_) | (refine CW.block ?_) | ((first | refine CW.reg hΓ (by rw [hκ]; rfl) ?_ | refine CW.drw hΓ Try_mixed (by rw [hκ]; rfl) (by kernel_rfl) (fun B hB => ?_)); simp (config := { maxSteps := 2000000 }) only [go_sem, e22]) | ((repeat ((fail_if_success (refine hK _ ?_)); clear hK K)); refine hK _ ?_; clear hK K) | ((first | refine CW.skip ?_ | refine CW.exit ?_ | refine CW.ret ?_); simp only [thenA_normal, thenA_exit, thenA_ret, inBlockA_normal, inBlockA_exit, inBlockA_ret, if_true, if_false, Nat.reduceEqDiff, reduceCtorEq, retQ_ret, retQ_normal, retE_ret, retE_normal]) | (refine CW.cond (by simp only [upd_at, if_true, if_false, Nat.reduceEqDiff]; rfl) (fun hb => ?_) (fun hb => ?_) <;> (try simp only [decide_eq_true_eq, decide_eq_false_iff_not, Bool.not_eq_true', Bool.not_eq_false', reduceCtorEq] at hb)) | ((first | refine W_brs (fun hc => ?_) (fun hc => ?_) | refine D_brs (fun hc => ?_) (fun hc => ?_)) <;> (try simp only [Bool.not_eq_true, Bool.not_eq_false] at hc) <;> (try simp (config := { maxSteps := 2000000 }) only [go_sem, hc, e22]) <;> (try simp only [decide_eq_true_eq, decide_eq_false_iff_not, Bool.not_eq_true', Bool.not_eq_false'] at hc)) | (refine And.intro (by omega) ?_) | (refine And.intro (by simp only [List.length_append, List.length_map, List.length_take, List.length_drop, List.length_cons, List.length_nil, List.length_replicate]; omega) ?_) | (refine ex_idx (by omega) ?_) | (refine And.intro (by rw [← hB]; kernel_rfl) ?_) | fail)
      (first | refine W_askP rfl _ (⟨endX p, (nth t (t.length - 1)).toNat, by simp only [show ((t.length : Int) - 1).toNat = t.length - 1 by omega]; rw [h0], by have := endX_lt hpw; omega, rfl⟩) ?_ | refine D_askP rfl _ (⟨endX p, (nth t (t.length - 1)).toNat, by simp only [show ((t.length : Int) - 1).toNat = t.length - 1 by omega]; rw [h0], by have := endX_lt hpw; omega, rfl⟩) ?_); simp (config := { maxSteps := 2000000 }) only [go_sem]
      repeat' (first | (refine CW.seqK fun K hK => ?_) | (refine CW.block ?_) | ((first | refine CW.reg hΓ (by rw [hκ]; rfl) ?_ | refine CW.drw hΓ Try_mixed (by rw [hκ]; rfl) (by kernel_rfl) (fun B hB => ?_)); simp (config := { maxSteps := 2000000 }) only [go_sem, e22]) | ((repeat ((fail_if_success (refine hK _ ?_)); clear hK K)); refine hK _ ?_; clear hK K) | ((first | refine CW.skip ?_ | refine CW.exit ?_ | refine CW.ret ?_); simp only [thenA_normal, thenA_exit, thenA_ret, inBlockA_normal, inBlockA_exit, inBlockA_ret, if_true, if_false, Nat.reduceEqDiff, reduceCtorEq, retQ_ret, retQ_normal, retE_ret, retE_normal]) | (refine CW.cond (by simp only [upd_at, if_true, if_false, Nat.reduceEqDiff]; rfl) (fun hb => ?_) (fun hb => ?_) <;> (try simp only [decide_eq_true_eq, decide_eq_false_iff_not, Bool.not_eq_true', Bool.not_eq_false', reduceCtorEq] at hb)) | ((first | refine W_brs (fun hc => ?_) (fun hc => ?_) | refine D_brs (fun hc => ?_) (fun hc => ?_)) <;> (try simp only [Bool.not_eq_true, Bool.not_eq_false] at hc) <;> (try simp (config := { maxSteps := 2000000 }) only [go_sem, hc, e22]) <;> (try simp only [decide_eq_true_eq, decide_eq_false_iff_not, Bool.not_eq_true', Bool.not_eq_false'] at hc)) | (refine And.intro (by omega) ?_) | (refine And.intro (by simp only [List.length_append, List.length_map, List.length_take, List.length_drop, List.length_cons, List.length_nil, List.length_replicate]; omega) ?_) | (refine ex_idx (by omega) ?_) | (refine And.intro (by rw [← hB]; kernel_rfl) ?_) | fail)
      · have ht : trbB x.steps t = true := hend.2 ⟨S[j], List.getElem_mem hjl, by
          rw [hpe]
          cases hbt : (endX p).testBit (nth t (t.length - 1)).toNat with
          | true => rfl
          | false => have h1 := bitN_f hbt; omega⟩
        rw [ht]
        simp [Try.results25, RetOK, RetP, backA, upd_at, plainB, getP, isOwn, anyOwn, isP]
      · refine ⟨j + 1, ?_, ⟨by omega, fun q hq => ?_⟩, by omega⟩
        · (simp only [LeL, envOf, upd_at, if_true, if_false, Nat.reduceEqDiff, true_or, and_true, true_and, and_self]; (try simp [view, viewL_map]); (try omega))
        · rw [List.take_succ_eq_append_getElem hjl, List.mem_append] at hq
          rcases hq with hq | hq
          · exact hno q hq
          · simp only [List.mem_cons, List.not_mem_nil, or_false] at hq
            rw [hq, hpe]
            intro hbt
            have h1 := bitN_t hbt
            omega
    · have hje : j = S.length := by omega
      subst hje
      rw [List.take_length] at hno
      have hf : trbB x.steps t = false := by
        cases hb : trbB x.steps t with
        | false => rfl
        | true =>
          obtain ⟨q, hq, h⟩ := hend.1 hb
          exact absurd h (hno q hq)
      rw [hf]
      simp [Try.results25, RetOK, RetP, backA, upd_at, plainB, getP, isOwn, anyOwn, isP]

end Go.Proofs.Ytkibemgdncncoaa
