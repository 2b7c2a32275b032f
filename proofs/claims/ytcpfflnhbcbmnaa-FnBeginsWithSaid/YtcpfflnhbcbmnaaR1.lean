/- The reference's draws: pick, odd, walked by the engine. -/
import Derived.Test.YtcpfflnhbcbmnaaTy
import Derived.Test.YtcpfflnhbcbmnaaGrpJ
import Derived.Test.YtcpfflnhbcbmnaaGrpL
namespace Go.Proofs.Ytcpfflnhbcbmnaa
set_option linter.unusedSimpArgs false
set_option linter.unusedVariables false
set_option maxRecDepth 8000
set_option maxHeartbeats 2000000
open Go Go.RowKit AV

attribute [local go_sem] wpOpsD_cons wpOpsD_nil KOpsD_app D_ret D_get D_peek D_need D_ex D_br_t D_br_f D_fail D_idx_map D_idx_zero D_idx_succ D_getP_nil D_getP_own D_getP_box tg wpOpsA_cons wpOpsA_nil KOps_app rdG rdO rdX rdMv rdTake rdBor rdBin binV rdUn rdConv rdPick rdLoad rdStore stW rdStoreA rdVal rdParts srcW rdField rdIndex rdLen rdBuildS rdBuild rdMakeS rdBd rdSlice rdExtract rdFieldV rdBox rdAlloc rdSrc rdDst rdApp rdArg rdArgs rdCallP rdCall rdSkip rdCallX rdCallE rdCallY rdCallT rdBin2 isNilEq rdNilEq bigW_sub bigW_le rdApp2 rdSrcO rdNil rdClear rdMakeFn isT_no isT_nil isT_cons takeC_eff takeC_tk effC_tk pureC_tk rdTake Option.isSome_none Bool.and_self rdGive toBox backW isE_no isE_nil isE_cons effC_eff pureC_eff effC_rel pureC_rel id takenL takesOf opT opTs partW srcs foldP fzW slotsDistinct cst in64 nat64 W_ret W_get W_peek W_need W_ex W_br_t W_br_f W_fail apps killIf_t killIf_f app_set_junk app_mod_junk app_set_num app_mod_num app_set_bool app_mod_bool app_set_sh app_mod_sh app_set_own app_mod_own app_set_box app_mod_box app_set_pbox app_mod_pbox app_set_pcell app_mod_pcell app_set_alias app_mod_alias app_set_valias app_mod_valias app_set_addr app_mod_addr app_set_fn app_mod_fn app_set_agg app_mod_agg app_set_win app_mod_win app_set_pin app_mod_pin app_set_omap app_mod_omap app_set_pmap app_mod_pmap app_set_oiter app_mod_oiter rdLenM rdMapOf rdLook rdRange rdPMap rdEntry rdMapUpd rdUpdAt noIt app_set_tup app_mod_tup upd_at kill_upd kill_nil killV isOwn anyOwn isP allP noSh allN one allOne head view viewL getP setP kids withKids blk viewL_map noSh_ints List.map_map thenA_normal thenA_normal' ne_eq reduceCtorEq not_false_eq_true not_true_eq_false true_and and_true and_false false_and if_true if_false Bool.false_eq_true Bool.true_eq_false Nat.reduceAdd Nat.reduceLT Nat.reduceLeDiff Nat.reduceEqDiff List.append_nil List.nil_append List.cons_append List.contains_nil List.contains_cons Nat.reduceBEq Bool.or_false Bool.or_true Bool.false_or Bool.true_or Bool.not_true Bool.not_false List.getElem?_toArray List.getElem?_cons_zero List.getElem?_cons_succ Option.bind_some Option.bind_none List.length_map List.length_cons List.length_nil List.map_cons List.map_nil List.dropLast List.getLast? List.getLast List.getD_cons_zero List.getD_cons_succ List.set_cons_zero List.set_cons_succ List.replicate List.filterMap_cons List.filterMap_nil List.foldl_cons List.foldl_nil List.nodup_cons List.nodup_nil List.not_mem_nil List.mem_cons or_false false_or Option.some.injEq AV.box.injEq AV.own.injEq AV.agg.injEq exists_eq_left' exists_eq_left exists_eq_right exists_eq exists_eq' exists_and_left Option.getD_some List.getElem?_map Option.map_eq_some_iff W_idx_map W_idx_zero W_idx_succ W_getP_nil W_getP_own W_getP_box List.any_cons List.all_cons List.all_nil List.any_nil Int.toNat_natCast Nat.cast_ofNat_Int Prod.mk.injEq and_self forall_eq forall_eq_or_imp implies_true forall_const Int.toNat_zero Int.toNat_one not_imp_self decide_true decide_false false_imp_iff cast_div cast_mod allN_oints allP_rows allP_ints view_I view_ints view_oo Bool.and_true Bool.true_and Bool.and_false Bool.false_and Option.isSome_some Int.natCast_nonneg Ty_aggT_3 Ty_szT_3 Ty_zT_3 Ty_inT_3 Ty_kkT_3 Ty_zOf_3 Ty_aggT_4 Ty_szT_4 Ty_zT_4 Ty_boT_4 Ty_zOf_4 Ty_mpT_91 Ty_aggT_22 Ty_szT_22 Ty_zT_22 Ty_slE_22 Ty_slOK_22 Ty_slZ_22 Ty_mpT_22 Ty_aggT_30 Ty_szT_30 Ty_zT_30 Ty_slE_30 Ty_slOK_30 Ty_slZ_30 Ty_mpT_30 Ty_aggT_37 Ty_szT_37 Ty_zT_37 Ty_bPl_37 Ty_stO_37_0 Ty_stO_37_1 Ty_aggT_93 Ty_szT_93 Ty_zT_93 Ty_aggT_110 Ty_szT_110 Ty_zT_110 Ty_slE_110 Ty_slOK_110 Ty_slZ_110 Ty_mpT_110 Ty_aggT_112 Ty_szT_112 Ty_zT_112 Ty_bPl_112 Ty_stO_112_0 Ty_stO_112_1 Ty_aggT_5 Ty_szT_5 Ty_zT_5 Ty_inT_5 Ty_aggT_35 Ty_szT_35 Ty_zT_35 Ty_slE_35 Ty_slOK_35 Ty_slZ_35 Ty_mpT_35 Ty_aggT_103 Ty_szT_103 Ty_zT_103 Ty_bPl_103 Ty_stO_103_0 Ty_stO_103_1

/-- A code as a settled list of bytes. -/
abbrev byts (bs : List Nat) : AV := .sh (bs.map fun b : Nat => AV.num .u8 (b : Int))
/-- A reader of a code, at a place. -/
abbrev rdr (bs : List Nat) (p : Nat) : AV := .box [byts bs, I (p : Int)]

def pickR (args : List AV) (r : AV) (args' : List AV) : Prop := ∃ (bs : List Nat) (p n : Nat), args = [rdr bs p, I (n : Int)] ∧ CodeOK bs ∧ p < 1099511627776 ∧ n < 1099511627776 ∧ r = I (pickX bs p n : Int) ∧ args' = [rdr bs (p + 1)]
theorem pick_ctr : CtrOK Try.prog 90 (effC pickR) := by
  refine ctr_lend' Try.func90 rfl rfl Try.ntmps90 ?_
  rintro _ _ _ ⟨bs, p, n, rfl, hc, hp, hn, rfl, rfl⟩
  refine ⟨_, rfl, by simp, by simp, fun κ hκ => ?_⟩
  have hbig := bigW_gt
  rw [argEnv_eq]
  simp only [envA]
  have hΓ := noCtx_ok Try.prog
  obtain ⟨hl, hb256⟩ := hc
  have e7 : (p : Int) * 7 + 3 = ((p * 7 + 3 : Nat) : Int) := by omega
  repeat' (first | (refine CW.seqK fun K hK => ?_) | (refine CW.block ?_) | ((first | refine CW.reg hΓ (by rw [hκ]; rfl) ?_ | refine CW.drw hΓ Try_mixed (by rw [hκ]; rfl) (by kernel_rfl) (fun B hB => ?_)); simp (config := { maxSteps := 2000000 }) only [go_sem, List.nil_prefix, Int.add_sub_cancel, e7]) | ((repeat ((fail_if_success (refine hK _ ?_)); clear hK K)); refine hK _ ?_; clear hK K) | ((first | refine CW.skip ?_ | refine CW.exit ?_ | refine CW.ret ?_); simp only [xs, if_true, if_false, Nat.reduceEqDiff, reduceCtorEq, retL_ret, retL_normal]) | (refine CW.cond (by simp only [upd_at, if_true, if_false, Nat.reduceEqDiff]; rfl) (fun hb => ?_) (fun hb => ?_) <;> (try simp only [xb, reduceCtorEq] at hb)) | ((first | refine W_brs (fun hc => ?_) (fun hc => ?_) | refine D_brs (fun hc => ?_) (fun hc => ?_)) <;> (try simp only [Bool.not_eq_true, Bool.not_eq_false] at hc) <;> (try simp (config := { maxSteps := 2000000 }) only [go_sem, hc, List.nil_prefix, Int.add_sub_cancel, e7]) <;> (try simp only [xb] at hc)) | (refine And.intro (by omega) ?_) | (refine And.intro (by simp only [xl]; omega) ?_) | (refine ex_idx (by omega) ?_) | (refine And.intro (by rw [← hB]; kernel_rfl) ?_) | fail)
  · have hx : pickX bs p n = 0 := if_pos (.inr (by omega))
    rw [hx]
    simp [Try.results90, RetL, upd_at, plainB, isOwn, anyOwn]
  · have h1 : p < bs.length := by omega
    have h2 := hb256 _ (List.getElem_mem h1)
    refine ⟨⟨by kernel_rfl, by omega⟩, by omega, ?_⟩
    repeat' (first | (refine CW.seqK fun K hK => ?_) | (refine CW.block ?_) | ((first | refine CW.reg hΓ (by rw [hκ]; rfl) ?_ | refine CW.drw hΓ Try_mixed (by rw [hκ]; rfl) (by kernel_rfl) (fun B hB => ?_)); simp (config := { maxSteps := 2000000 }) only [go_sem]) | ((repeat ((fail_if_success (refine hK _ ?_)); clear hK K)); refine hK _ ?_; clear hK K) | ((first | refine CW.skip ?_ | refine CW.exit ?_ | refine CW.ret ?_); simp only [xs, if_true, if_false, Nat.reduceEqDiff, reduceCtorEq, retL_ret, retL_normal]) | (refine CW.cond (by simp only [upd_at, if_true, if_false, Nat.reduceEqDiff]; rfl) (fun hb => ?_) (fun hb => ?_) <;> (try simp only [xb, reduceCtorEq] at hb)) | ((first | refine W_brs (fun hc => ?_) (fun hc => ?_) | refine D_brs (fun hc => ?_) (fun hc => ?_)) <;> (try simp only [Bool.not_eq_true, Bool.not_eq_false] at hc) <;> (try simp (config := { maxSteps := 2000000 }) only [go_sem, hc]) <;> (try simp only [xb] at hc)) | (refine And.intro (by omega) ?_) | (refine And.intro (by simp only [xl]; omega) ?_) | (refine ex_idx (by omega) ?_) | (refine And.intro (by rw [← hB]; kernel_rfl) ?_) | fail)
    have hx : pickX bs p n = bs[p] % n := by
      unfold pickX
      rw [if_neg (by omega), if_pos h1]
      simp [h1]
    rw [hx]
    simp [Try.results90, RetL, upd_at, plainB, isOwn, anyOwn]
  · have h0 : 0 < bs.length := by omega
    have h1 : p % bs.length < bs.length := Nat.mod_lt _ h0
    have h2 : (p * 7 + 3) % bs.length < bs.length := Nat.mod_lt _ h0
    have h3 := hb256 _ (List.getElem_mem h1)
    have h4 := hb256 _ (List.getElem_mem h2)
    have h5 : p / bs.length ≤ p := Nat.div_le_self _ _
    have h6 := List.getElem?_eq_getElem h1
    have h7 := List.getElem?_eq_getElem h2
    generalize bs[p % bs.length] = a at h3 h6
    generalize bs[(p * 7 + 3) % bs.length] = c at h4 h7
    have hx : pickX bs p n = ((a * 131 + c * 1117 + p * 29 + p / bs.length * 53) ^^^ (a * 131 + c * 1117 + p * 29 + p / bs.length * 53) / 64) % n := by
      unfold pickX
      rw [if_neg (by omega), if_neg (by omega)]
      simp only [List.getD, h6, h7, Option.getD_some]
    generalize p / bs.length = q at h5 hx ⊢
    obtain ⟨X, hX0⟩ : ∃ X : Nat, a * 131 + c * 1117 + p * 29 + q * 53 = X := ⟨_, rfl⟩
    rw [hX0] at hx
    have hX : (a : Int) * 131 + (c : Int) * 1117 + (p : Int) * 29 + (q : Int) * 53 = (X : Int) := by omega
    have e64 : (X : Int) / 64 = ((X / 64 : Nat) : Int) := by omega
    refine ⟨a, h6, ⟨by kernel_rfl, by omega⟩, by omega, by omega, by omega, by omega, c, h7, ⟨by kernel_rfl, by omega⟩, by omega, by omega, by omega, by omega, ⟨by omega, by omega⟩, by omega, by omega, ?_⟩
    rw [hX]
    repeat' (first | (refine CW.seqK fun K hK => ?_) | (refine CW.block ?_) | ((first | refine CW.reg hΓ (by rw [hκ]; rfl) ?_ | refine CW.drw hΓ Try_mixed (by rw [hκ]; rfl) (by kernel_rfl) (fun B hB => ?_)); simp (config := { maxSteps := 2000000 }) only [go_sem, e64]) | ((repeat ((fail_if_success (refine hK _ ?_)); clear hK K)); refine hK _ ?_; clear hK K) | ((first | refine CW.skip ?_ | refine CW.exit ?_ | refine CW.ret ?_); simp only [xs, if_true, if_false, Nat.reduceEqDiff, reduceCtorEq, retL_ret, retL_normal]) | (refine CW.cond (by simp only [upd_at, if_true, if_false, Nat.reduceEqDiff]; rfl) (fun hb => ?_) (fun hb => ?_) <;> (try simp only [xb, reduceCtorEq] at hb)) | ((first | refine W_brs (fun hc => ?_) (fun hc => ?_) | refine D_brs (fun hc => ?_) (fun hc => ?_)) <;> (try simp only [Bool.not_eq_true, Bool.not_eq_false] at hc) <;> (try simp (config := { maxSteps := 2000000 }) only [go_sem, hc, e64]) <;> (try simp only [xb] at hc)) | (refine And.intro (by omega) ?_) | (refine And.intro (by simp only [xl]; omega) ?_) | (refine ex_idx (by omega) ?_) | (refine And.intro (by rw [← hB]; kernel_rfl) ?_) | fail)
    rw [hx]
    simp [Try.results90, RetL, upd_at, plainB, isOwn, anyOwn]
  · have hx : pickX bs p n = 0 := if_pos (.inl (by omega))
    rw [hx]
    simp [Try.results90, RetL, upd_at, plainB, isOwn, anyOwn]

end Go.Proofs.Ytcpfflnhbcbmnaa
