/- The reference's draw of an expression, walked by the engine. -/
import Derived.Test.YtcpfflnhbcbmnaaR2
import Derived.Test.YtcpfflnhbcbmnaaGrpE
namespace Go.Proofs.Ytcpfflnhbcbmnaa
set_option linter.unusedSimpArgs false
set_option linter.unusedVariables false
set_option maxRecDepth 8000
set_option maxHeartbeats 2000000
open Go Go.RowKit AV

attribute [local go_sem] wpOpsD_cons wpOpsD_nil KOpsD_app D_ret D_get D_peek D_need D_ex D_br_t D_br_f D_fail D_idx_map D_idx_zero D_idx_succ D_getP_nil D_getP_own D_getP_box tg wpOpsA_cons wpOpsA_nil KOps_app rdG rdO rdX rdMv rdTake rdBor rdBin binV rdUn rdConv rdPick rdLoad rdStore stW rdStoreA rdVal rdParts srcW rdField rdIndex rdLen rdBuildS rdBuild rdMakeS rdBd rdSlice rdExtract rdFieldV rdBox rdAlloc rdSrc rdDst rdApp rdArg rdArgs rdCallP rdCall rdSkip rdCallX rdCallE rdCallY rdCallT rdBin2 isNilEq rdNilEq bigW_sub bigW_le rdApp2 rdSrcO rdNil rdClear rdMakeFn isT_no isT_nil isT_cons takeC_eff takeC_tk effC_tk pureC_tk rdTake Option.isSome_none Bool.and_self rdGive toBox backW isE_no isE_nil isE_cons effC_eff pureC_eff effC_rel pureC_rel id takenL takesOf opT opTs partW srcs foldP fzW slotsDistinct cst in64 nat64 W_ret W_get W_peek W_need W_ex W_br_t W_br_f W_fail apps killIf_t killIf_f app_set_junk app_mod_junk app_set_num app_mod_num app_set_bool app_mod_bool app_set_sh app_mod_sh app_set_own app_mod_own app_set_box app_mod_box app_set_pbox app_mod_pbox app_set_pcell app_mod_pcell app_set_alias app_mod_alias app_set_valias app_mod_valias app_set_addr app_mod_addr app_set_fn app_mod_fn app_set_agg app_mod_agg app_set_win app_mod_win app_set_pin app_mod_pin app_set_omap app_mod_omap app_set_pmap app_mod_pmap app_set_oiter app_mod_oiter rdLenM rdMapOf rdLook rdRange rdPMap rdEntry rdMapUpd rdUpdAt noIt app_set_tup app_mod_tup upd_at kill_upd kill_nil killV isOwn anyOwn isP allP noSh allN one allOne head view viewL getP setP kids withKids blk viewL_map noSh_ints List.map_map thenA_normal thenA_normal' ne_eq reduceCtorEq not_false_eq_true not_true_eq_false true_and and_true and_false false_and if_true if_false Bool.false_eq_true Bool.true_eq_false Nat.reduceAdd Nat.reduceLT Nat.reduceLeDiff Nat.reduceEqDiff List.append_nil List.nil_append List.cons_append List.contains_nil List.contains_cons Nat.reduceBEq Bool.or_false Bool.or_true Bool.false_or Bool.true_or Bool.not_true Bool.not_false List.getElem?_toArray List.getElem?_cons_zero List.getElem?_cons_succ Option.bind_some Option.bind_none List.length_map List.length_cons List.length_nil List.map_cons List.map_nil List.dropLast List.getLast? List.getLast List.getD_cons_zero List.getD_cons_succ List.set_cons_zero List.set_cons_succ List.replicate List.filterMap_cons List.filterMap_nil List.foldl_cons List.foldl_nil List.nodup_cons List.nodup_nil List.not_mem_nil List.mem_cons or_false false_or Option.some.injEq AV.box.injEq AV.own.injEq AV.agg.injEq exists_eq_left' exists_eq_left exists_eq_right exists_eq exists_eq' exists_and_left Option.getD_some List.getElem?_map Option.map_eq_some_iff W_idx_map W_idx_zero W_idx_succ W_getP_nil W_getP_own W_getP_box List.any_cons List.all_cons List.all_nil List.any_nil Int.toNat_natCast Nat.cast_ofNat_Int Prod.mk.injEq and_self forall_eq forall_eq_or_imp implies_true forall_const Int.toNat_zero Int.toNat_one not_imp_self decide_true decide_false false_imp_iff cast_div cast_mod allN_oints allP_rows allP_ints view_I view_ints view_oo Bool.and_true Bool.true_and Bool.and_false Bool.false_and Option.isSome_some Int.natCast_nonneg Ty_aggT_3 Ty_szT_3 Ty_zT_3 Ty_inT_3 Ty_kkT_3 Ty_zOf_3 Ty_aggT_4 Ty_szT_4 Ty_zT_4 Ty_boT_4 Ty_zOf_4 Ty_mpT_91 Ty_aggT_22 Ty_szT_22 Ty_zT_22 Ty_slE_22 Ty_slOK_22 Ty_slZ_22 Ty_mpT_22 Ty_aggT_30 Ty_szT_30 Ty_zT_30 Ty_slE_30 Ty_slOK_30 Ty_slZ_30 Ty_mpT_30 Ty_aggT_37 Ty_szT_37 Ty_zT_37 Ty_bPl_37 Ty_stO_37_0 Ty_stO_37_1 Ty_aggT_93 Ty_szT_93 Ty_zT_93 Ty_aggT_110 Ty_szT_110 Ty_zT_110 Ty_slE_110 Ty_slOK_110 Ty_slZ_110 Ty_mpT_110 Ty_aggT_112 Ty_szT_112 Ty_zT_112 Ty_bPl_112 Ty_stO_112_0 Ty_stO_112_1 Ty_aggT_5 Ty_szT_5 Ty_zT_5 Ty_inT_5 Ty_aggT_35 Ty_szT_35 Ty_zT_35 Ty_slE_35 Ty_slOK_35 Ty_slZ_35 Ty_mpT_35 Ty_aggT_103 Ty_szT_103 Ty_zT_103 Ty_bPl_103 Ty_stO_103_0 Ty_stO_103_1
attribute [local go_sem] List.nil_prefix

def katR (args : List AV) (r : AV) (args' : List AV) : Prop := ∃ (bs : List Nat) (p parts n : Nat), args = [rdr bs p, I (parts : Int), I (n : Int)] ∧ CodeOK bs ∧ p < 1099510000000 ∧ parts ≤ 1000 ∧ n < 1099511627776 ∧ r = oints (katX bs p parts n).1 ∧ args' = [rdr bs (katX bs p parts n).2]
theorem kat_ctr : CtrOK Try.prog 124 (effC katR) := by
  refine ctr_lend' Try.func124 rfl rfl Try.ntmps124 ?_
  rintro _ _ _ ⟨bs, p, parts, n, rfl, hcd, hp, hpa, hn, rfl, rfl⟩
  refine ⟨_, rfl, by simp, by simp, fun κ hκ => ?_⟩
  have hbig := bigW_gt
  rw [argEnv_eq]
  simp only [envA]
  have hΓ := ctxOf_ok (P := Try.prog) (L := [(90, effC pickR), (121, effC oddR), (146, effC leafR), (142, pureC joinR)]) (by simp only [List.mem_cons, List.not_mem_nil, or_false, forall_eq_or_imp, forall_eq]; exact ⟨pick_ctr, odd_ctr, leaf_ctr, l2Join_ctr⟩)
  have l1 := leafX_p bs p
  have l2 := leafX_len bs p
  obtain ⟨⟨ob, p1⟩, ho0⟩ : ∃ o, leafX bs p = o := ⟨_, rfl⟩
  rw [ho0] at l1 l2
  dsimp only at l1 l2
  have hk := pickX_lt (bs := bs) (p := p1) (n := parts + 1) (by omega)
  obtain ⟨k0, hk0⟩ : ∃ k, pickX bs p1 (parts + 1) = k := ⟨_, rfl⟩
  rw [hk0] at hk
  have s1 := katLoop_p bs k0 ob (p1 + 1)
  have s2 := katLoop_len bs k0 ob (p1 + 1) (by omega)
  obtain ⟨⟨S, p2⟩, hs0⟩ : ∃ o, katLoop bs k0 ob (p1 + 1) = o := ⟨_, rfl⟩
  rw [hs0] at s1 s2
  dsimp only at s1 s2
  have o1 := oddX_p bs p2 n
  obtain ⟨⟨oo, p3⟩, hoo⟩ : ∃ o, oddX bs p2 n = o := ⟨_, rfl⟩
  rw [hoo] at o1
  dsimp only at o1
  have hK0 : katX bs p parts n = if oo then
      (if pickX bs p3 5 = 0 then ([], p3 + 1)
      else if pickX bs p3 5 = 1 then (S ++ [16], p3 + 1)
      else if pickX bs p3 5 = 2 then ([20] ++ S, p3 + 1)
      else if pickX bs p3 5 = 3 then (S ++ [if pickX bs (p3 + 1) 2 = 0 then -1 else 22], p3 + 2)
      else (S ++ List.replicate (41 - S.length) 21, p3 + 1)) else (S, p3) := by
    unfold katX; dsimp only; rw [ho0]; dsimp only; rw [hk0, hs0]; dsimp only; rw [hoo]
  repeat' (first | (refine CW.seqK fun K hK => ?_) | (refine CW.block ?_) | ((first | refine CW.reg hΓ (by rw [hκ]; rfl) ?_ | refine CW.drw hΓ Try_mixed (by rw [hκ]; rfl) (by kernel_rfl) (fun B hB => ?_)); simp (config := { maxSteps := 2000000 }) only [go_sem]) | ((repeat ((fail_if_success (refine hK _ ?_)); clear hK K)); refine hK _ ?_; clear hK K) | ((first | refine CW.skip ?_ | refine CW.exit ?_ | refine CW.ret ?_); simp only [xs, if_true, if_false, Nat.reduceEqDiff, reduceCtorEq, retL_ret, retL_normal]) | (refine CW.cond (by simp only [upd_at, if_true, if_false, Nat.reduceEqDiff]; rfl) (fun hb => ?_) (fun hb => ?_) <;> (try simp only [xb, reduceCtorEq] at hb)) | ((first | refine W_brs (fun hc => ?_) (fun hc => ?_) | refine D_brs (fun hc => ?_) (fun hc => ?_)) <;> (try simp only [Bool.not_eq_true, Bool.not_eq_false] at hc) <;> (try simp (config := { maxSteps := 2000000 }) only [go_sem, hc]) <;> (try simp only [xb] at hc)) | (refine And.intro (by omega) ?_) | (refine And.intro (by simp only [xl]; omega) ?_) | (refine ex_idx (by omega) ?_) | (refine And.intro (by rw [← hB]; kernel_rfl) ?_) | fail)
  (first | refine W_askE rfl _ _ (⟨bs, p, rfl, hcd, by omega, rfl, rfl⟩) ?_ | refine D_askE rfl _ _ (⟨bs, p, rfl, hcd, by omega, rfl, rfl⟩) ?_); simp (config := { maxSteps := 2000000 }) only [go_sem]
  rw [ho0]
  dsimp only
  repeat' (first | (refine CW.seqK fun K hK => ?_) | (refine CW.block ?_) | ((first | refine CW.reg hΓ (by rw [hκ]; rfl) ?_ | refine CW.drw hΓ Try_mixed (by rw [hκ]; rfl) (by kernel_rfl) (fun B hB => ?_)); simp (config := { maxSteps := 2000000 }) only [go_sem]) | ((repeat ((fail_if_success (refine hK _ ?_)); clear hK K)); refine hK _ ?_; clear hK K) | ((first | refine CW.skip ?_ | refine CW.exit ?_ | refine CW.ret ?_); simp only [xs, if_true, if_false, Nat.reduceEqDiff, reduceCtorEq, retL_ret, retL_normal]) | (refine CW.cond (by simp only [upd_at, if_true, if_false, Nat.reduceEqDiff]; rfl) (fun hb => ?_) (fun hb => ?_) <;> (try simp only [xb, reduceCtorEq] at hb)) | ((first | refine W_brs (fun hc => ?_) (fun hc => ?_) | refine D_brs (fun hc => ?_) (fun hc => ?_)) <;> (try simp only [Bool.not_eq_true, Bool.not_eq_false] at hc) <;> (try simp (config := { maxSteps := 2000000 }) only [go_sem, hc]) <;> (try simp only [xb] at hc)) | (refine And.intro (by omega) ?_) | (refine And.intro (by simp only [xl]; omega) ?_) | (refine ex_idx (by omega) ?_) | (refine And.intro (by rw [← hB]; kernel_rfl) ?_) | fail)
  (first | refine W_askE rfl _ _ (⟨bs, p1, parts + 1, rfl, hcd, by omega, by omega, rfl, rfl⟩) ?_ | refine D_askE rfl _ _ (⟨bs, p1, parts + 1, rfl, hcd, by omega, by omega, rfl, rfl⟩) ?_); simp (config := { maxSteps := 2000000 }) only [go_sem]
  rw [hk0]
  repeat' (first | (refine CW.seqK fun K hK => ?_) | (refine CW.block ?_) | ((first | refine CW.reg hΓ (by rw [hκ]; rfl) ?_ | refine CW.drw hΓ Try_mixed (by rw [hκ]; rfl) (by kernel_rfl) (fun B hB => ?_)); simp (config := { maxSteps := 2000000 }) only [go_sem]) | ((repeat ((fail_if_success (refine hK _ ?_)); clear hK K)); refine hK _ ?_; clear hK K) | ((first | refine CW.skip ?_ | refine CW.exit ?_ | refine CW.ret ?_); simp only [xs, if_true, if_false, Nat.reduceEqDiff, reduceCtorEq, retL_ret, retL_normal]) | (refine CW.cond (by simp only [upd_at, if_true, if_false, Nat.reduceEqDiff]; rfl) (fun hb => ?_) (fun hb => ?_) <;> (try simp only [xb, reduceCtorEq] at hb)) | ((first | refine W_brs (fun hc => ?_) (fun hc => ?_) | refine D_brs (fun hc => ?_) (fun hc => ?_)) <;> (try simp only [Bool.not_eq_true, Bool.not_eq_false] at hc) <;> (try simp (config := { maxSteps := 2000000 }) only [go_sem, hc]) <;> (try simp only [xb] at hc)) | (refine And.intro (by omega) ?_) | (refine And.intro (by simp only [xl]; omega) ?_) | (refine ex_idx (by omega) ?_) | (refine And.intro (by rw [← hB]; kernel_rfl) ?_) | fail)
  refine CW.loop (ι := Nat × List Int × Nat) (fun x => [(0, rdr bs x.2.2), (1, I (parts : Int)), (2, I (n : Int)), (7, oints x.2.1), (8, I (x.1 : Int))]) (fun x => katLoop bs x.1 x.2.1 x.2.2 = (S, p2) ∧ x.2.1.length ≤ 39 ∧ x.2.2 + 6 * x.1 ≤ p1 + 1 + 6 * k0) (fun x => x.1) (k0, ob, p1 + 1) ?_ ?_
  · exact ⟨by (simp only [LeL, envOf, upd_at, if_true, if_false, Nat.reduceEqDiff, true_or, and_true, true_and, and_self]; (try simp [view, viewL_map]); (try omega)), hs0, by dsimp only; omega, by dsimp only; omega⟩
  rintro ⟨k, out, q⟩ ⟨hkl, hlen, hq⟩
  dsimp only at hkl hlen hq
  simp only [envOf]
  repeat' (first | (refine CW.seqK fun K hK => ?_) | (refine CW.block ?_) | ((first | refine CW.reg hΓ (by rw [hκ]; rfl) ?_ | refine CW.drw hΓ Try_mixed (by rw [hκ]; rfl) (by kernel_rfl) (fun B hB => ?_)); simp (config := { maxSteps := 2000000 }) only [go_sem]) | ((repeat ((fail_if_success (refine hK _ ?_)); clear hK K)); refine hK _ ?_; clear hK K) | ((first | refine CW.skip ?_ | refine CW.exit ?_ | refine CW.ret ?_); simp only [xs, if_true, if_false, Nat.reduceEqDiff, reduceCtorEq, retL_ret, retL_normal]) | (refine CW.cond (by simp only [upd_at, if_true, if_false, Nat.reduceEqDiff]; rfl) (fun hb => ?_) (fun hb => ?_) <;> (try simp only [xb, reduceCtorEq] at hb)) | ((first | refine W_brs (fun hc => ?_) (fun hc => ?_) | refine D_brs (fun hc => ?_) (fun hc => ?_)) <;> (try simp only [Bool.not_eq_true, Bool.not_eq_false] at hc) <;> (try simp (config := { maxSteps := 2000000 }) only [go_sem, hc]) <;> (try simp only [xb] at hc)) | (refine And.intro (by omega) ?_) | (refine And.intro (by simp only [xl]; omega) ?_) | (refine ex_idx (by omega) ?_) | (refine And.intro (by rw [← hB]; kernel_rfl) ?_) | fail)
  · have e1 : (k : Int) - 1 = ((k - 1 : Nat) : Int) := by omega
    have hst : katLoop bs (k - 1) (katStep bs out q).1 (katStep bs out q).2 = (S, p2) := by
      obtain ⟨k, rfl⟩ : ∃ k', k = k' + 1 := ⟨k - 1, by omega⟩
      rw [katLoop, if_pos (by omega)] at hkl
      exact hkl
    have t1 := katStep_p bs out q
    have t2 := katStep_len bs out q
    have lp := leafX_p bs (q + 1)
    have ll := leafX_len bs (q + 1)
    obtain ⟨⟨lf, q2⟩, hlf⟩ : ∃ o, leafX bs (q + 1) = o := ⟨_, rfl⟩
    have hS : katStep bs out q = if pickX bs q 6 = 0 then (out ++ [21], q + 1) else if pickX bs q 6 = 1 then (lf ++ out ++ [19], q2) else if pickX bs q 6 = 2 then (lf ++ out ++ [20], q2) else if pickX bs q 6 = 3 then (out ++ lf ++ [20], q2) else (out ++ lf ++ [19], q2) := by
      unfold katStep; rw [hlf]
    rw [hlf] at lp ll
    dsimp only at lp ll
    obtain ⟨c, hc6⟩ : ∃ c, pickX bs q 6 = c := ⟨_, rfl⟩
    rw [hc6] at hS
    (first | refine W_askE rfl _ _ (⟨bs, q, 6, rfl, hcd, by omega, by omega, rfl, rfl⟩) ?_ | refine D_askE rfl _ _ (⟨bs, q, 6, rfl, hcd, by omega, by omega, rfl, rfl⟩) ?_); simp (config := { maxSteps := 2000000 }) only [go_sem]
    rw [hc6]
    repeat' (first | (refine CW.seqK fun K hK => ?_) | (refine CW.block ?_) | ((first | refine CW.reg hΓ (by rw [hκ]; rfl) ?_ | refine CW.drw hΓ Try_mixed (by rw [hκ]; rfl) (by kernel_rfl) (fun B hB => ?_)); simp (config := { maxSteps := 2000000 }) only [go_sem, e1]) | ((repeat ((fail_if_success (refine hK _ ?_)); clear hK K)); refine hK _ ?_; clear hK K) | ((first | refine CW.skip ?_ | refine CW.exit ?_ | refine CW.ret ?_); simp only [xs, if_true, if_false, Nat.reduceEqDiff, reduceCtorEq, retL_ret, retL_normal]) | (refine CW.cond (by simp only [upd_at, if_true, if_false, Nat.reduceEqDiff]; rfl) (fun hb => ?_) (fun hb => ?_) <;> (try simp only [xb, reduceCtorEq] at hb)) | ((first | refine W_brs (fun hc => ?_) (fun hc => ?_) | refine D_brs (fun hc => ?_) (fun hc => ?_)) <;> (try simp only [Bool.not_eq_true, Bool.not_eq_false] at hc) <;> (try simp (config := { maxSteps := 2000000 }) only [go_sem, hc, e1]) <;> (try simp only [xb] at hc)) | (refine And.intro (by omega) ?_) | (refine And.intro (by simp only [xl]; omega) ?_) | (refine ex_idx (by omega) ?_) | (refine And.intro (by rw [← hB]; kernel_rfl) ?_) | fail)
    · rw [if_pos (by omega)] at hS
      rw [hS] at hst t1 t2
      dsimp only at hst t1 t2
      exact ⟨(k - 1, out ++ [21], q + 1), by (simp only [LeL, envOf, upd_at, if_true, if_false, Nat.reduceEqDiff, true_or, and_true, true_and, and_self]; (try simp [view, viewL_map]); (try omega)), ⟨hst, by dsimp only; omega, by dsimp only; omega⟩, by dsimp only; omega⟩
    · rw [if_neg (by omega), if_pos (by omega)] at hS
      rw [hS] at hst t1 t2
      dsimp only at hst t1 t2
      (first | refine W_askE rfl _ _ (⟨bs, q + 1, rfl, hcd, by omega, rfl, rfl⟩) ?_ | refine D_askE rfl _ _ (⟨bs, q + 1, rfl, hcd, by omega, rfl, rfl⟩) ?_); simp (config := { maxSteps := 2000000 }) only [go_sem]
      rw [hlf]
      dsimp only
      repeat' (first | (refine CW.seqK fun K hK => ?_) | (refine CW.block ?_) | ((first | refine CW.reg hΓ (by rw [hκ]; rfl) ?_ | refine CW.drw hΓ Try_mixed (by rw [hκ]; rfl) (by kernel_rfl) (fun B hB => ?_)); simp (config := { maxSteps := 2000000 }) only [go_sem]) | ((repeat ((fail_if_success (refine hK _ ?_)); clear hK K)); refine hK _ ?_; clear hK K) | ((first | refine CW.skip ?_ | refine CW.exit ?_ | refine CW.ret ?_); simp only [xs, if_true, if_false, Nat.reduceEqDiff, reduceCtorEq, retL_ret, retL_normal]) | (refine CW.cond (by simp only [upd_at, if_true, if_false, Nat.reduceEqDiff]; rfl) (fun hb => ?_) (fun hb => ?_) <;> (try simp only [xb, reduceCtorEq] at hb)) | ((first | refine W_brs (fun hc => ?_) (fun hc => ?_) | refine D_brs (fun hc => ?_) (fun hc => ?_)) <;> (try simp only [Bool.not_eq_true, Bool.not_eq_false] at hc) <;> (try simp (config := { maxSteps := 2000000 }) only [go_sem, hc]) <;> (try simp only [xb] at hc)) | (refine And.intro (by omega) ?_) | (refine And.intro (by simp only [xl]; omega) ?_) | (refine ex_idx (by omega) ?_) | (refine And.intro (by rw [← hB]; kernel_rfl) ?_) | fail)
      (first | refine W_askP rfl _ (⟨lf, out, 19, rfl, by omega, by omega, rfl⟩) ?_ | refine D_askP rfl _ (⟨lf, out, 19, rfl, by omega, by omega, rfl⟩) ?_); simp (config := { maxSteps := 2000000 }) only [go_sem]
      repeat' (first | (refine CW.seqK fun K hK => ?_) | (refine CW.block ?_) | ((first | refine CW.reg hΓ (by rw [hκ]; rfl) ?_ | refine CW.drw hΓ Try_mixed (by rw [hκ]; rfl) (by kernel_rfl) (fun B hB => ?_)); simp (config := { maxSteps := 2000000 }) only [go_sem, e1]) | ((repeat ((fail_if_success (refine hK _ ?_)); clear hK K)); refine hK _ ?_; clear hK K) | ((first | refine CW.skip ?_ | refine CW.exit ?_ | refine CW.ret ?_); simp only [xs, if_true, if_false, Nat.reduceEqDiff, reduceCtorEq, retL_ret, retL_normal]) | (refine CW.cond (by simp only [upd_at, if_true, if_false, Nat.reduceEqDiff]; rfl) (fun hb => ?_) (fun hb => ?_) <;> (try simp only [xb, reduceCtorEq] at hb)) | ((first | refine W_brs (fun hc => ?_) (fun hc => ?_) | refine D_brs (fun hc => ?_) (fun hc => ?_)) <;> (try simp only [Bool.not_eq_true, Bool.not_eq_false] at hc) <;> (try simp (config := { maxSteps := 2000000 }) only [go_sem, hc, e1]) <;> (try simp only [xb] at hc)) | (refine And.intro (by omega) ?_) | (refine And.intro (by simp only [xl]; omega) ?_) | (refine ex_idx (by omega) ?_) | (refine And.intro (by rw [← hB]; kernel_rfl) ?_) | fail)
      exact ⟨(k - 1, lf ++ out ++ [19], q2), by (simp only [LeL, envOf, upd_at, if_true, if_false, Nat.reduceEqDiff, true_or, and_true, true_and, and_self]; (try simp [view, viewL_map]); (try omega)), ⟨hst, by dsimp only; omega, by dsimp only; omega⟩, by dsimp only; omega⟩
    · rw [if_neg (by omega), if_neg (by omega), if_pos (by omega)] at hS
      rw [hS] at hst t1 t2
      dsimp only at hst t1 t2
      (first | refine W_askE rfl _ _ (⟨bs, q + 1, rfl, hcd, by omega, rfl, rfl⟩) ?_ | refine D_askE rfl _ _ (⟨bs, q + 1, rfl, hcd, by omega, rfl, rfl⟩) ?_); simp (config := { maxSteps := 2000000 }) only [go_sem]
      rw [hlf]
      dsimp only
      repeat' (first | (refine CW.seqK fun K hK => ?_) | (refine CW.block ?_) | ((first | refine CW.reg hΓ (by rw [hκ]; rfl) ?_ | refine CW.drw hΓ Try_mixed (by rw [hκ]; rfl) (by kernel_rfl) (fun B hB => ?_)); simp (config := { maxSteps := 2000000 }) only [go_sem]) | ((repeat ((fail_if_success (refine hK _ ?_)); clear hK K)); refine hK _ ?_; clear hK K) | ((first | refine CW.skip ?_ | refine CW.exit ?_ | refine CW.ret ?_); simp only [xs, if_true, if_false, Nat.reduceEqDiff, reduceCtorEq, retL_ret, retL_normal]) | (refine CW.cond (by simp only [upd_at, if_true, if_false, Nat.reduceEqDiff]; rfl) (fun hb => ?_) (fun hb => ?_) <;> (try simp only [xb, reduceCtorEq] at hb)) | ((first | refine W_brs (fun hc => ?_) (fun hc => ?_) | refine D_brs (fun hc => ?_) (fun hc => ?_)) <;> (try simp only [Bool.not_eq_true, Bool.not_eq_false] at hc) <;> (try simp (config := { maxSteps := 2000000 }) only [go_sem, hc]) <;> (try simp only [xb] at hc)) | (refine And.intro (by omega) ?_) | (refine And.intro (by simp only [xl]; omega) ?_) | (refine ex_idx (by omega) ?_) | (refine And.intro (by rw [← hB]; kernel_rfl) ?_) | fail)
      (first | refine W_askP rfl _ (⟨lf, out, 20, rfl, by omega, by omega, rfl⟩) ?_ | refine D_askP rfl _ (⟨lf, out, 20, rfl, by omega, by omega, rfl⟩) ?_); simp (config := { maxSteps := 2000000 }) only [go_sem]
      repeat' (first | (refine CW.seqK fun K hK => ?_) | (refine CW.block ?_) | ((first | refine CW.reg hΓ (by rw [hκ]; rfl) ?_ | refine CW.drw hΓ Try_mixed (by rw [hκ]; rfl) (by kernel_rfl) (fun B hB => ?_)); simp (config := { maxSteps := 2000000 }) only [go_sem, e1]) | ((repeat ((fail_if_success (refine hK _ ?_)); clear hK K)); refine hK _ ?_; clear hK K) | ((first | refine CW.skip ?_ | refine CW.exit ?_ | refine CW.ret ?_); simp only [xs, if_true, if_false, Nat.reduceEqDiff, reduceCtorEq, retL_ret, retL_normal]) | (refine CW.cond (by simp only [upd_at, if_true, if_false, Nat.reduceEqDiff]; rfl) (fun hb => ?_) (fun hb => ?_) <;> (try simp only [xb, reduceCtorEq] at hb)) | ((first | refine W_brs (fun hc => ?_) (fun hc => ?_) | refine D_brs (fun hc => ?_) (fun hc => ?_)) <;> (try simp only [Bool.not_eq_true, Bool.not_eq_false] at hc) <;> (try simp (config := { maxSteps := 2000000 }) only [go_sem, hc, e1]) <;> (try simp only [xb] at hc)) | (refine And.intro (by omega) ?_) | (refine And.intro (by simp only [xl]; omega) ?_) | (refine ex_idx (by omega) ?_) | (refine And.intro (by rw [← hB]; kernel_rfl) ?_) | fail)
      exact ⟨(k - 1, lf ++ out ++ [20], q2), by (simp only [LeL, envOf, upd_at, if_true, if_false, Nat.reduceEqDiff, true_or, and_true, true_and, and_self]; (try simp [view, viewL_map]); (try omega)), ⟨hst, by dsimp only; omega, by dsimp only; omega⟩, by dsimp only; omega⟩
    · rw [if_neg (by omega), if_neg (by omega), if_neg (by omega), if_pos (by omega)] at hS
      rw [hS] at hst t1 t2
      dsimp only at hst t1 t2
      (first | refine W_askE rfl _ _ (⟨bs, q + 1, rfl, hcd, by omega, rfl, rfl⟩) ?_ | refine D_askE rfl _ _ (⟨bs, q + 1, rfl, hcd, by omega, rfl, rfl⟩) ?_); simp (config := { maxSteps := 2000000 }) only [go_sem]
      rw [hlf]
      dsimp only
      repeat' (first | (refine CW.seqK fun K hK => ?_) | (refine CW.block ?_) | ((first | refine CW.reg hΓ (by rw [hκ]; rfl) ?_ | refine CW.drw hΓ Try_mixed (by rw [hκ]; rfl) (by kernel_rfl) (fun B hB => ?_)); simp (config := { maxSteps := 2000000 }) only [go_sem]) | ((repeat ((fail_if_success (refine hK _ ?_)); clear hK K)); refine hK _ ?_; clear hK K) | ((first | refine CW.skip ?_ | refine CW.exit ?_ | refine CW.ret ?_); simp only [xs, if_true, if_false, Nat.reduceEqDiff, reduceCtorEq, retL_ret, retL_normal]) | (refine CW.cond (by simp only [upd_at, if_true, if_false, Nat.reduceEqDiff]; rfl) (fun hb => ?_) (fun hb => ?_) <;> (try simp only [xb, reduceCtorEq] at hb)) | ((first | refine W_brs (fun hc => ?_) (fun hc => ?_) | refine D_brs (fun hc => ?_) (fun hc => ?_)) <;> (try simp only [Bool.not_eq_true, Bool.not_eq_false] at hc) <;> (try simp (config := { maxSteps := 2000000 }) only [go_sem, hc]) <;> (try simp only [xb] at hc)) | (refine And.intro (by omega) ?_) | (refine And.intro (by simp only [xl]; omega) ?_) | (refine ex_idx (by omega) ?_) | (refine And.intro (by rw [← hB]; kernel_rfl) ?_) | fail)
      (first | refine W_askP rfl _ (⟨out, lf, 20, rfl, by omega, by omega, rfl⟩) ?_ | refine D_askP rfl _ (⟨out, lf, 20, rfl, by omega, by omega, rfl⟩) ?_); simp (config := { maxSteps := 2000000 }) only [go_sem]
      repeat' (first | (refine CW.seqK fun K hK => ?_) | (refine CW.block ?_) | ((first | refine CW.reg hΓ (by rw [hκ]; rfl) ?_ | refine CW.drw hΓ Try_mixed (by rw [hκ]; rfl) (by kernel_rfl) (fun B hB => ?_)); simp (config := { maxSteps := 2000000 }) only [go_sem, e1]) | ((repeat ((fail_if_success (refine hK _ ?_)); clear hK K)); refine hK _ ?_; clear hK K) | ((first | refine CW.skip ?_ | refine CW.exit ?_ | refine CW.ret ?_); simp only [xs, if_true, if_false, Nat.reduceEqDiff, reduceCtorEq, retL_ret, retL_normal]) | (refine CW.cond (by simp only [upd_at, if_true, if_false, Nat.reduceEqDiff]; rfl) (fun hb => ?_) (fun hb => ?_) <;> (try simp only [xb, reduceCtorEq] at hb)) | ((first | refine W_brs (fun hc => ?_) (fun hc => ?_) | refine D_brs (fun hc => ?_) (fun hc => ?_)) <;> (try simp only [Bool.not_eq_true, Bool.not_eq_false] at hc) <;> (try simp (config := { maxSteps := 2000000 }) only [go_sem, hc, e1]) <;> (try simp only [xb] at hc)) | (refine And.intro (by omega) ?_) | (refine And.intro (by simp only [xl]; omega) ?_) | (refine ex_idx (by omega) ?_) | (refine And.intro (by rw [← hB]; kernel_rfl) ?_) | fail)
      exact ⟨(k - 1, out ++ lf ++ [20], q2), by (simp only [LeL, envOf, upd_at, if_true, if_false, Nat.reduceEqDiff, true_or, and_true, true_and, and_self]; (try simp [view, viewL_map]); (try omega)), ⟨hst, by dsimp only; omega, by dsimp only; omega⟩, by dsimp only; omega⟩
    · rw [if_neg (by omega), if_neg (by omega), if_neg (by omega), if_neg (by omega)] at hS
      rw [hS] at hst t1 t2
      dsimp only at hst t1 t2
      (first | refine W_askE rfl _ _ (⟨bs, q + 1, rfl, hcd, by omega, rfl, rfl⟩) ?_ | refine D_askE rfl _ _ (⟨bs, q + 1, rfl, hcd, by omega, rfl, rfl⟩) ?_); simp (config := { maxSteps := 2000000 }) only [go_sem]
      rw [hlf]
      dsimp only
      repeat' (first | (refine CW.seqK fun K hK => ?_) | (refine CW.block ?_) | ((first | refine CW.reg hΓ (by rw [hκ]; rfl) ?_ | refine CW.drw hΓ Try_mixed (by rw [hκ]; rfl) (by kernel_rfl) (fun B hB => ?_)); simp (config := { maxSteps := 2000000 }) only [go_sem]) | ((repeat ((fail_if_success (refine hK _ ?_)); clear hK K)); refine hK _ ?_; clear hK K) | ((first | refine CW.skip ?_ | refine CW.exit ?_ | refine CW.ret ?_); simp only [xs, if_true, if_false, Nat.reduceEqDiff, reduceCtorEq, retL_ret, retL_normal]) | (refine CW.cond (by simp only [upd_at, if_true, if_false, Nat.reduceEqDiff]; rfl) (fun hb => ?_) (fun hb => ?_) <;> (try simp only [xb, reduceCtorEq] at hb)) | ((first | refine W_brs (fun hc => ?_) (fun hc => ?_) | refine D_brs (fun hc => ?_) (fun hc => ?_)) <;> (try simp only [Bool.not_eq_true, Bool.not_eq_false] at hc) <;> (try simp (config := { maxSteps := 2000000 }) only [go_sem, hc]) <;> (try simp only [xb] at hc)) | (refine And.intro (by omega) ?_) | (refine And.intro (by simp only [xl]; omega) ?_) | (refine ex_idx (by omega) ?_) | (refine And.intro (by rw [← hB]; kernel_rfl) ?_) | fail)
      (first | refine W_askP rfl _ (⟨out, lf, 19, rfl, by omega, by omega, rfl⟩) ?_ | refine D_askP rfl _ (⟨out, lf, 19, rfl, by omega, by omega, rfl⟩) ?_); simp (config := { maxSteps := 2000000 }) only [go_sem]
      repeat' (first | (refine CW.seqK fun K hK => ?_) | (refine CW.block ?_) | ((first | refine CW.reg hΓ (by rw [hκ]; rfl) ?_ | refine CW.drw hΓ Try_mixed (by rw [hκ]; rfl) (by kernel_rfl) (fun B hB => ?_)); simp (config := { maxSteps := 2000000 }) only [go_sem, e1]) | ((repeat ((fail_if_success (refine hK _ ?_)); clear hK K)); refine hK _ ?_; clear hK K) | ((first | refine CW.skip ?_ | refine CW.exit ?_ | refine CW.ret ?_); simp only [xs, if_true, if_false, Nat.reduceEqDiff, reduceCtorEq, retL_ret, retL_normal]) | (refine CW.cond (by simp only [upd_at, if_true, if_false, Nat.reduceEqDiff]; rfl) (fun hb => ?_) (fun hb => ?_) <;> (try simp only [xb, reduceCtorEq] at hb)) | ((first | refine W_brs (fun hc => ?_) (fun hc => ?_) | refine D_brs (fun hc => ?_) (fun hc => ?_)) <;> (try simp only [Bool.not_eq_true, Bool.not_eq_false] at hc) <;> (try simp (config := { maxSteps := 2000000 }) only [go_sem, hc, e1]) <;> (try simp only [xb] at hc)) | (refine And.intro (by omega) ?_) | (refine And.intro (by simp only [xl]; omega) ?_) | (refine ex_idx (by omega) ?_) | (refine And.intro (by rw [← hB]; kernel_rfl) ?_) | fail)
      exact ⟨(k - 1, out ++ lf ++ [19], q2), by (simp only [LeL, envOf, upd_at, if_true, if_false, Nat.reduceEqDiff, true_or, and_true, true_and, and_self]; (try simp [view, viewL_map]); (try omega)), ⟨hst, by dsimp only; omega, by dsimp only; omega⟩, by dsimp only; omega⟩
  all_goals
    have hfin : out = S ∧ q = p2 := by
      cases k with
      | zero => simpa [katLoop] using hkl
      | succ k => first | (exfalso; omega) | (rw [katLoop, if_neg (by omega)] at hkl; simpa using hkl)
    obtain ⟨rfl, rfl⟩ := hfin
    (first | refine W_askE rfl _ _ (⟨bs, q, n, rfl, hcd, by omega, hn, rfl, rfl⟩) ?_ | refine D_askE rfl _ _ (⟨bs, q, n, rfl, hcd, by omega, hn, rfl, rfl⟩) ?_); simp (config := { maxSteps := 2000000 }) only [go_sem]
    rw [hoo]
    dsimp only
    cases oo
    · repeat' (first | (refine CW.seqK fun K hK => ?_) | (refine CW.block ?_) | ((first | refine CW.reg hΓ (by rw [hκ]; rfl) ?_ | refine CW.drw hΓ Try_mixed (by rw [hκ]; rfl) (by kernel_rfl) (fun B hB => ?_)); simp (config := { maxSteps := 2000000 }) only [go_sem]) | ((repeat ((fail_if_success (refine hK _ ?_)); clear hK K)); refine hK _ ?_; clear hK K) | ((first | refine CW.skip ?_ | refine CW.exit ?_ | refine CW.ret ?_); simp only [xs, if_true, if_false, Nat.reduceEqDiff, reduceCtorEq, retL_ret, retL_normal]) | (refine CW.cond (by simp only [upd_at, if_true, if_false, Nat.reduceEqDiff]; rfl) (fun hb => ?_) (fun hb => ?_) <;> (try simp only [xb, reduceCtorEq] at hb)) | ((first | refine W_brs (fun hc => ?_) (fun hc => ?_) | refine D_brs (fun hc => ?_) (fun hc => ?_)) <;> (try simp only [Bool.not_eq_true, Bool.not_eq_false] at hc) <;> (try simp (config := { maxSteps := 2000000 }) only [go_sem, hc]) <;> (try simp only [xb] at hc)) | (refine And.intro (by omega) ?_) | (refine And.intro (by simp only [xl]; omega) ?_) | (refine ex_idx (by omega) ?_) | (refine And.intro (by rw [← hB]; kernel_rfl) ?_) | fail)
      rw [if_neg (by decide)] at hK0
      rw [hK0]
      simp [Try.results124, RetL, upd_at, plainB, isOwn, anyOwn]
    · repeat' (first | (refine CW.seqK fun K hK => ?_) | (refine CW.block ?_) | ((first | refine CW.reg hΓ (by rw [hκ]; rfl) ?_ | refine CW.drw hΓ Try_mixed (by rw [hκ]; rfl) (by kernel_rfl) (fun B hB => ?_)); simp (config := { maxSteps := 2000000 }) only [go_sem]) | ((repeat ((fail_if_success (refine hK _ ?_)); clear hK K)); refine hK _ ?_; clear hK K) | ((first | refine CW.skip ?_ | refine CW.exit ?_ | refine CW.ret ?_); simp only [xs, if_true, if_false, Nat.reduceEqDiff, reduceCtorEq, retL_ret, retL_normal]) | (refine CW.cond (by simp only [upd_at, if_true, if_false, Nat.reduceEqDiff]; rfl) (fun hb => ?_) (fun hb => ?_) <;> (try simp only [xb, reduceCtorEq] at hb)) | ((first | refine W_brs (fun hc => ?_) (fun hc => ?_) | refine D_brs (fun hc => ?_) (fun hc => ?_)) <;> (try simp only [Bool.not_eq_true, Bool.not_eq_false] at hc) <;> (try simp (config := { maxSteps := 2000000 }) only [go_sem, hc]) <;> (try simp only [xb] at hc)) | (refine And.intro (by omega) ?_) | (refine And.intro (by simp only [xl]; omega) ?_) | (refine ex_idx (by omega) ?_) | (refine And.intro (by rw [← hB]; kernel_rfl) ?_) | fail)
      rw [if_pos rfl] at hK0
      have hk5 := pickX_lt (bs := bs) (p := p3) (n := 5) (by decide)
      obtain ⟨c, hc5⟩ : ∃ c, pickX bs p3 5 = c := ⟨_, rfl⟩
      rw [hc5] at hK0 hk5
      (first | refine W_askE rfl _ _ (⟨bs, p3, 5, rfl, hcd, by omega, by omega, rfl, rfl⟩) ?_ | refine D_askE rfl _ _ (⟨bs, p3, 5, rfl, hcd, by omega, by omega, rfl, rfl⟩) ?_); simp (config := { maxSteps := 2000000 }) only [go_sem]
      rw [hc5]
      repeat' (first | (refine CW.seqK fun K hK => ?_) | (refine CW.block ?_) | ((first | refine CW.reg hΓ (by rw [hκ]; rfl) ?_ | refine CW.drw hΓ Try_mixed (by rw [hκ]; rfl) (by kernel_rfl) (fun B hB => ?_)); simp (config := { maxSteps := 2000000 }) only [go_sem]) | ((repeat ((fail_if_success (refine hK _ ?_)); clear hK K)); refine hK _ ?_; clear hK K) | ((first | refine CW.skip ?_ | refine CW.exit ?_ | refine CW.ret ?_); simp only [xs, if_true, if_false, Nat.reduceEqDiff, reduceCtorEq, retL_ret, retL_normal]) | (refine CW.cond (by simp only [upd_at, if_true, if_false, Nat.reduceEqDiff]; rfl) (fun hb => ?_) (fun hb => ?_) <;> (try simp only [xb, reduceCtorEq] at hb)) | ((first | refine W_brs (fun hc => ?_) (fun hc => ?_) | refine D_brs (fun hc => ?_) (fun hc => ?_)) <;> (try simp only [Bool.not_eq_true, Bool.not_eq_false] at hc) <;> (try simp (config := { maxSteps := 2000000 }) only [go_sem, hc]) <;> (try simp only [xb] at hc)) | (refine And.intro (by omega) ?_) | (refine And.intro (by simp only [xl]; omega) ?_) | (refine ex_idx (by omega) ?_) | (refine And.intro (by rw [← hB]; kernel_rfl) ?_) | fail)
      · rw [hK0, if_pos (by omega)]
        simp [Try.results124, RetL, upd_at, plainB, isOwn, anyOwn]
      · rw [hK0, if_neg (by omega), if_pos (by omega)]
        simp [Try.results124, RetL, upd_at, plainB, isOwn, anyOwn]
      · rw [hK0, if_neg (by omega), if_neg (by omega), if_pos (by omega)]
        simp [Try.results124, RetL, upd_at, plainB, isOwn, anyOwn]
      · rw [if_neg (by omega), if_neg (by omega), if_neg (by omega), if_pos (by omega)] at hK0
        have hk2 := pickX_lt (bs := bs) (p := p3 + 1) (n := 2) (by decide)
        (first | refine W_askE rfl _ _ (⟨bs, p3 + 1, 2, rfl, hcd, by omega, by omega, rfl, rfl⟩) ?_ | refine D_askE rfl _ _ (⟨bs, p3 + 1, 2, rfl, hcd, by omega, by omega, rfl, rfl⟩) ?_); simp (config := { maxSteps := 2000000 }) only [go_sem]
        obtain ⟨L, hL⟩ : ∃ L : List Int, ([-1, 22] : List Int) = L := ⟨_, rfl⟩
        have hL8 : L.length = 2 := by rw [← hL]; rfl
        have hLm : [num .i64 (-1), num .i64 22] = L.map I := by rw [← hL]; rfl
        rw [hLm]
        simp (config := { maxSteps := 2000000 }) only [go_sem]
        repeat' (first | (refine CW.seqK fun K hK => ?_) | (refine CW.block ?_) | ((first | refine CW.reg hΓ (by rw [hκ]; rfl) ?_ | refine CW.drw hΓ Try_mixed (by rw [hκ]; rfl) (by kernel_rfl) (fun B hB => ?_)); simp (config := { maxSteps := 2000000 }) only [go_sem]) | ((repeat ((fail_if_success (refine hK _ ?_)); clear hK K)); refine hK _ ?_; clear hK K) | ((first | refine CW.skip ?_ | refine CW.exit ?_ | refine CW.ret ?_); simp only [xs, if_true, if_false, Nat.reduceEqDiff, reduceCtorEq, retL_ret, retL_normal]) | (refine CW.cond (by simp only [upd_at, if_true, if_false, Nat.reduceEqDiff]; rfl) (fun hb => ?_) (fun hb => ?_) <;> (try simp only [xb, reduceCtorEq] at hb)) | ((first | refine W_brs (fun hc => ?_) (fun hc => ?_) | refine D_brs (fun hc => ?_) (fun hc => ?_)) <;> (try simp only [Bool.not_eq_true, Bool.not_eq_false] at hc) <;> (try simp (config := { maxSteps := 2000000 }) only [go_sem, hc]) <;> (try simp only [xb] at hc)) | (refine And.intro (by omega) ?_) | (refine And.intro (by simp only [xl]; omega) ?_) | (refine ex_idx (by omega) ?_) | (refine And.intro (by rw [← hB]; kernel_rfl) ?_) | fail)
        have h5 : ∀ k (h : k < L.length), L[k] = if k = 0 then -1 else 22 := by
          intro k h
          subst hL
          have : k = 0 ∨ k = 1 := by simp at h; omega
          rcases this with rfl | rfl <;> rfl
        rw [h5, hK0]
        simp [Try.results124, RetL, upd_at, plainB, isOwn, anyOwn]
        all_goals omega
      · rw [if_neg (by omega), if_neg (by omega), if_neg (by omega), if_neg (by omega)] at hK0
        refine CW.loop (ι := List Int) (fun X => [(0, rdr bs (p3 + 1)), (7, oints X)]) (fun X => X = out ++ List.replicate (X.length - out.length) 21 ∧ out.length ≤ X.length ∧ X.length ≤ 41) (fun X => 41 - X.length) out ?_ ?_
        · exact ⟨by (simp only [LeL, envOf, upd_at, if_true, if_false, Nat.reduceEqDiff, true_or, and_true, true_and, and_self]; (try simp [view, viewL_map]); (try omega)), by simp, Nat.le_refl _, by omega⟩
        rintro X ⟨hX, hX1, hX2⟩
        simp only [envOf]
        repeat' (first | (refine CW.seqK fun K hK => ?_) | (refine CW.block ?_) | ((first | refine CW.reg hΓ (by rw [hκ]; rfl) ?_ | refine CW.drw hΓ Try_mixed (by rw [hκ]; rfl) (by kernel_rfl) (fun B hB => ?_)); simp (config := { maxSteps := 2000000 }) only [go_sem]) | ((repeat ((fail_if_success (refine hK _ ?_)); clear hK K)); refine hK _ ?_; clear hK K) | ((first | refine CW.skip ?_ | refine CW.exit ?_ | refine CW.ret ?_); simp only [xs, if_true, if_false, Nat.reduceEqDiff, reduceCtorEq, retL_ret, retL_normal]) | (refine CW.cond (by simp only [upd_at, if_true, if_false, Nat.reduceEqDiff]; rfl) (fun hb => ?_) (fun hb => ?_) <;> (try simp only [xb, reduceCtorEq] at hb)) | ((first | refine W_brs (fun hc => ?_) (fun hc => ?_) | refine D_brs (fun hc => ?_) (fun hc => ?_)) <;> (try simp only [Bool.not_eq_true, Bool.not_eq_false] at hc) <;> (try simp (config := { maxSteps := 2000000 }) only [go_sem, hc]) <;> (try simp only [xb] at hc)) | (refine And.intro (by omega) ?_) | (refine And.intro (by simp only [xl]; omega) ?_) | (refine ex_idx (by omega) ?_) | (refine And.intro (by rw [← hB]; kernel_rfl) ?_) | fail)
        · refine ⟨X ++ [21], by (simp only [LeL, envOf, upd_at, if_true, if_false, Nat.reduceEqDiff, true_or, and_true, true_and, and_self]; (try simp [view, viewL_map]); (try omega)), ⟨?_, by simp; omega, by simp; omega⟩, by simp; omega⟩
          have h9 : (X ++ [21]).length - out.length = (X.length - out.length) + 1 := by simp; omega
          rw [h9, List.replicate_succ', ← List.append_assoc, ← hX]
        · have h9 : X = out ++ List.replicate (41 - out.length) 21 := by
            have : X.length = 41 := by omega
            rw [this] at hX; exact hX
          rw [hK0, ← h9]
          simp [Try.results124, RetL, upd_at, plainB, isOwn, anyOwn]
  
end Go.Proofs.Ytcpfflnhbcbmnaa
