/- The program's AutoOf, walked by the engine. -/
import Derived.Test.YtkibemgdncncoaaF4
import Derived.Test.YtkibemgdncncoaaD9
import Derived.Test.YtkibemgdncncoaaG1
namespace Go.Proofs.Ytkibemgdncncoaa
set_option linter.unusedSimpArgs false
set_option linter.unusedVariables false
set_option maxRecDepth 8000
set_option maxHeartbeats 2000000
open Go Go.RowKit AV

attribute [local go_sem] wpOpsD_cons wpOpsD_nil KOpsD_app D_ret D_get D_peek D_need D_ex D_br_t D_br_f D_fail D_idx_map D_idx_zero D_idx_succ D_getP_nil D_getP_own D_getP_box tg wpOpsA_cons wpOpsA_nil KOps_app rdG rdO rdX rdMv rdTake rdBor rdBin binV rdUn rdConv rdPick rdLoad rdStore stW rdStoreA rdVal rdParts srcW rdField rdIndex rdLen rdBuildS rdBuild rdMakeS rdBd rdSlice rdExtract rdFieldV rdBox rdAlloc rdSrc rdDst rdApp rdArg rdArgs rdCallP rdCall rdSkip rdCallX rdCallE rdCallY rdCallT rdBin2 isNilEq rdNilEq bigW_sub bigW_le rdApp2 rdSrcO rdNil rdClear rdMakeFn isT_no isT_nil isT_cons takeC_eff takeC_tk effC_tk pureC_tk rdTake Option.isSome_none Bool.and_self rdGive toBox backW isE_no isE_nil isE_cons effC_eff pureC_eff effC_rel pureC_rel id takenL takesOf opT opTs partW srcs foldP fzW slotsDistinct cst in64 nat64 W_ret W_get W_peek W_need W_ex W_br_t W_br_f W_fail apps killIf_t killIf_f app_set_junk app_mod_junk app_set_num app_mod_num app_set_bool app_mod_bool app_set_sh app_mod_sh app_set_own app_mod_own app_set_box app_mod_box app_set_pbox app_mod_pbox app_set_pcell app_mod_pcell app_set_alias app_mod_alias app_set_valias app_mod_valias app_set_addr app_mod_addr app_set_fn app_mod_fn app_set_agg app_mod_agg app_set_win app_mod_win app_set_pin app_mod_pin app_set_omap app_mod_omap app_set_tup app_mod_tup upd_at kill_upd kill_nil killV isOwn anyOwn isP allP noSh allN one allOne head view viewL getP setP kids withKids blk viewL_map noSh_ints List.map_map thenA_normal thenA_normal' ne_eq reduceCtorEq not_false_eq_true not_true_eq_false true_and and_true and_false false_and if_true if_false Bool.false_eq_true Bool.true_eq_false Nat.reduceAdd Nat.reduceLT Nat.reduceLeDiff Nat.reduceEqDiff List.append_nil List.nil_append List.cons_append List.contains_nil List.contains_cons Nat.reduceBEq Bool.or_false Bool.or_true Bool.false_or Bool.true_or Bool.not_true Bool.not_false List.getElem?_toArray List.getElem?_cons_zero List.getElem?_cons_succ Option.bind_some Option.bind_none List.length_map List.length_cons List.length_nil List.map_cons List.map_nil List.dropLast List.getLast? List.getLast List.getD_cons_zero List.getD_cons_succ List.set_cons_zero List.set_cons_succ List.replicate List.filterMap_cons List.filterMap_nil List.foldl_cons List.foldl_nil List.nodup_cons List.nodup_nil List.not_mem_nil List.mem_cons or_false false_or Option.some.injEq AV.box.injEq AV.own.injEq AV.agg.injEq exists_eq_left' exists_eq_left exists_eq_right exists_eq exists_eq' exists_and_left Option.getD_some List.getElem?_map Option.map_eq_some_iff W_idx_map W_idx_zero W_idx_succ W_getP_nil W_getP_own W_getP_box List.any_cons List.all_cons List.all_nil List.any_nil Int.toNat_natCast Nat.cast_ofNat_Int Prod.mk.injEq and_self forall_eq forall_eq_or_imp implies_true forall_const Int.toNat_zero Int.toNat_one not_imp_self decide_true decide_false false_imp_iff cast_div cast_mod allN_oints allP_rows allP_ints view_I view_ints view_oo Bool.and_true Bool.true_and Bool.and_false Bool.false_and Option.isSome_some Int.natCast_nonneg Ty_aggT_3 Ty_szT_3 Ty_zT_3 Ty_inT_3 Ty_aggT_4 Ty_szT_4 Ty_zT_4 Ty_boT_4 Ty_aggT_22 Ty_szT_22 Ty_zT_22 Ty_slE_22 Ty_slOK_22 Ty_slZ_22 Ty_aggT_23 Ty_szT_23 Ty_zT_23 Ty_slE_23 Ty_slOK_23 Ty_slZ_23 Ty_aggT_35 Ty_szT_35 Ty_zT_35 Ty_bPl_35 Ty_stO_35_0 Ty_stO_35_1 Ty_aggT_39 Ty_szT_39 Ty_zT_39 Ty_bPl_39 Ty_stO_39_0 Ty_stO_39_1 Ty_aggT_59 Ty_szT_59 Ty_zT_59 Ty_aggT_88 Ty_szT_88 Ty_zT_88 Ty_slE_88 Ty_slOK_88 Ty_slZ_88 Ty_aggT_90 Ty_szT_90 Ty_zT_90 Ty_bPl_90 Ty_stO_90_0 Ty_stO_90_1

def moveR (args : List AV) (r : AV) : Prop := ∃ a c : Nat, args = [I a, I ((16 + c : Nat) : Int)] ∧ a ≤ 3 ∧ c ≤ 2 ∧ r = I ((3 * a + c : Nat) : Int)
theorem move_ctr : CtrOK Try.prog 82 (pureC moveR) := by
  refine ctr_pure' Try.func82 rfl rfl Try.ntmps82 ?_
  rintro _ _ ⟨a, c, rfl, ha, hc, rfl⟩
  refine ⟨by simp, fun κ hκ => ?_⟩
  have hbig := bigW_gt
  rw [argEnv_eq]
  simp only [envA]
  have hΓ := noCtx_ok Try.prog
  repeat' (first | (refine CW.seqK fun K hK => ?_) | (refine CW.block ?_) | ((first | refine CW.reg hΓ (by rw [hκ]; rfl) ?_ | refine CW.drw hΓ Try_mixed (by rw [hκ]; rfl) (by kernel_rfl) (fun B hB => ?_)); simp (config := { maxSteps := 2000000 }) only [go_sem]) | ((repeat ((fail_if_success (refine hK _ ?_)); clear hK K)); refine hK _ ?_; clear hK K) | ((first | refine CW.skip ?_ | refine CW.exit ?_ | refine CW.ret ?_); simp only [thenA_normal, thenA_exit, thenA_ret, inBlockA_normal, inBlockA_exit, inBlockA_ret, if_true, if_false, Nat.reduceEqDiff, reduceCtorEq, retQ_ret, retQ_normal, retE_ret, retE_normal]) | (refine CW.cond (by simp only [upd_at, if_true, if_false, Nat.reduceEqDiff]; rfl) (fun hb => ?_) (fun hb => ?_) <;> (try simp only [decide_eq_true_eq, decide_eq_false_iff_not, Bool.not_eq_true', Bool.not_eq_false', reduceCtorEq] at hb)) | ((first | refine W_brs (fun hc => ?_) (fun hc => ?_) | refine D_brs (fun hc => ?_) (fun hc => ?_)) <;> (try simp only [Bool.not_eq_true, Bool.not_eq_false] at hc) <;> (try simp (config := { maxSteps := 2000000 }) only [go_sem, hc]) <;> (try simp only [decide_eq_true_eq, decide_eq_false_iff_not, Bool.not_eq_true', Bool.not_eq_false'] at hc)) | (refine And.intro (by omega) ?_) | (refine And.intro (by simp only [List.length_append, List.length_map, List.length_take, List.length_drop, List.length_cons, List.length_nil, List.length_replicate]; omega) ?_) | (refine ex_idx (by omega) ?_) | (refine And.intro (by rw [← hB]; kernel_rfl) ?_) | fail)
  rw [show ((3 * a + c : Nat) : Int) = 3 * (a : Int) + ((16 + c : Nat) : Int) - 16 by omega]
  simp [Try.results82, RetOK, RetP, backA, upd_at, plainB, getP, isOwn, anyOwn, isP]

theorem idxF_idxOf (q : List Int) : ∀ (l : LL) (n : Nat), q ∈ l → idxF (fun a => decide (q = a)) n l = ((n + l.idxOf q : Nat) : Int)
  | [], _, h => by simp at h
  | x :: l, n, h => by
    by_cases e : q = x
    · subst e; simp [idxF]
    · have hm : q ∈ l := by simpa [e] using h
      have hne : ¬ x = q := fun h => e h.symm
      have hb : (x == q) = false := by simpa using hne
      rw [idxF, if_neg (by simpa using e), idxF_idxOf q l (n + 1) hm, List.idxOf_cons, hb]
      simp only [cond_false]
      omega

/-- The row within a move: the moves ahead are through. -/
def rowP (l : LL) (t : List Int) (m i : Nat) : List Int := rowM l t m ++ ((plcTo l (leftM t m) i : Nat) : Int) :: List.replicate (11 - m) 0
def rowZ (l : LL) (t : List Int) (m : Nat) : List Int := rowM l t m ++ List.replicate (12 - m) 0
theorem rowZ_P {l : LL} {t : List Int} {m : Nat} (h : m < 12) : rowZ l t m = rowP l t m 0 := by
  rw [rowZ, rowP, show 12 - m = (11 - m) + 1 by omega, List.replicate_succ]; rfl
theorem rowP_Z {l : LL} {t : List Int} {m : Nat} (hn : l.Nodup) (hs : ∀ s ∈ leftM t m, s ∈ l) : rowP l t m (leftM t m).length = rowZ l t (m + 1) := by
  rw [rowP, rowZ, plcTo_full hn hs, rowM_succ, show 12 - (m + 1) = 11 - m by omega, List.append_assoc]; rfl
theorem rowP_len {l : LL} {t : List Int} {m i : Nat} (h : m < 12) : (rowP l t m i).length = 12 := by
  simp [rowP, rowM_len]; omega
theorem rowP_get {l : LL} {t : List Int} {m i : Nat} (h : m < (rowP l t m i).length) : (rowP l t m i)[m] = ((plcTo l (leftM t m) i : Nat) : Int) := by
  have h1 := rowM_len l t m
  simp only [rowP]
  rw [List.getElem_append_right (by omega)]
  simp [h1]
theorem rowP_set {l : LL} {t : List Int} {m i : Nat} : rowP l t m (i + 1) = (rowP l t m i).set m (((plcTo l (leftM t m) i ||| 2 ^ (l.idxOf ((leftM t m).getD i [])) : Nat) : Nat) : Int) := by
  have h1 := rowM_len l t m
  rw [rowP, rowP, List.set_append_right _ _ (by omega), h1, Nat.sub_self, List.set_cons_zero, plcTo]

theorem implAutoOf_ctr : CtrOK Try.prog 34 (pureC autoOfR) := by
  refine ctr_pure' Try.func34 rfl rfl Try.ntmps34 ?_
  rintro _ _ ⟨e, rfl, hl, rfl⟩
  refine ⟨by simp, fun κ hκ => ?_⟩
  have hbig := bigW_gt
  rw [argEnv_eq]
  simp only [envA]
  have hΓ := ctxOf_ok (P := Try.prog) (L := [(50, pureC katValidR), (78, pureC allR), (65, pureC buildR), (66, pureC (tpartsR (4096))), (77, pureC endsIR), (82, pureC moveR), (83, pureC partAtR)]) (by simp only [List.mem_cons, List.not_mem_nil, or_false, forall_eq_or_imp, forall_eq]; exact ⟨implKatValid_ctr, allParts_ctr, build_ctr, tparts_ctr, ends_ctr, move_ctr, partAt_ctr⟩)
  repeat' (first | (refine CW.seqK fun K hK => ?_) | (refine CW.block ?_) | ((first | refine CW.reg hΓ (by rw [hκ]; rfl) ?_ | refine CW.drw hΓ Try_mixed (by rw [hκ]; rfl) (by kernel_rfl) (fun B hB => ?_)); simp (config := { maxSteps := 2000000 }) only [go_sem]) | ((repeat ((fail_if_success (refine hK _ ?_)); clear hK K)); refine hK _ ?_; clear hK K) | ((first | refine CW.skip ?_ | refine CW.exit ?_ | refine CW.ret ?_); simp only [thenA_normal, thenA_exit, thenA_ret, inBlockA_normal, inBlockA_exit, inBlockA_ret, if_true, if_false, Nat.reduceEqDiff, reduceCtorEq, retQ_ret, retQ_normal, retE_ret, retE_normal]) | (refine CW.cond (by simp only [upd_at, if_true, if_false, Nat.reduceEqDiff]; rfl) (fun hb => ?_) (fun hb => ?_) <;> (try simp only [decide_eq_true_eq, decide_eq_false_iff_not, Bool.not_eq_true', Bool.not_eq_false', reduceCtorEq] at hb)) | ((first | refine W_brs (fun hc => ?_) (fun hc => ?_) | refine D_brs (fun hc => ?_) (fun hc => ?_)) <;> (try simp only [Bool.not_eq_true, Bool.not_eq_false] at hc) <;> (try simp (config := { maxSteps := 2000000 }) only [go_sem, hc]) <;> (try simp only [decide_eq_true_eq, decide_eq_false_iff_not, Bool.not_eq_true', Bool.not_eq_false'] at hc)) | (refine And.intro (by omega) ?_) | (refine And.intro (by simp only [List.length_append, List.length_map, List.length_take, List.length_drop, List.length_cons, List.length_nil, List.length_replicate]; omega) ?_) | (refine ex_idx (by omega) ?_) | (refine And.intro (by rw [← hB]; kernel_rfl) ?_) | fail)
  (first | refine W_askP rfl _ (⟨e, rfl, by omega, rfl⟩) ?_ | refine D_askP rfl _ (⟨e, rfl, by omega, rfl⟩) ?_); simp (config := { maxSteps := 2000000 }) only [go_sem]
  repeat' (first | (refine CW.seqK fun K hK => ?_) | (refine CW.block ?_) | ((first | refine CW.reg hΓ (by rw [hκ]; rfl) ?_ | refine CW.drw hΓ Try_mixed (by rw [hκ]; rfl) (by kernel_rfl) (fun B hB => ?_)); simp (config := { maxSteps := 2000000 }) only [go_sem]) | ((repeat ((fail_if_success (refine hK _ ?_)); clear hK K)); refine hK _ ?_; clear hK K) | ((first | refine CW.skip ?_ | refine CW.exit ?_ | refine CW.ret ?_); simp only [thenA_normal, thenA_exit, thenA_ret, inBlockA_normal, inBlockA_exit, inBlockA_ret, if_true, if_false, Nat.reduceEqDiff, reduceCtorEq, retQ_ret, retQ_normal, retE_ret, retE_normal]) | (refine CW.cond (by simp only [upd_at, if_true, if_false, Nat.reduceEqDiff]; rfl) (fun hb => ?_) (fun hb => ?_) <;> (try simp only [decide_eq_true_eq, decide_eq_false_iff_not, Bool.not_eq_true', Bool.not_eq_false', reduceCtorEq] at hb)) | ((first | refine W_brs (fun hc => ?_) (fun hc => ?_) | refine D_brs (fun hc => ?_) (fun hc => ?_)) <;> (try simp only [Bool.not_eq_true, Bool.not_eq_false] at hc) <;> (try simp (config := { maxSteps := 2000000 }) only [go_sem, hc]) <;> (try simp only [decide_eq_true_eq, decide_eq_false_iff_not, Bool.not_eq_true', Bool.not_eq_false'] at hc)) | (refine And.intro (by omega) ?_) | (refine And.intro (by simp only [List.length_append, List.length_map, List.length_take, List.length_drop, List.length_cons, List.length_nil, List.length_replicate]; omega) ?_) | (refine ex_idx (by omega) ?_) | (refine And.intro (by rw [← hB]; kernel_rfl) ?_) | fail)
  · have hkb := ‹katB e = false›
    rw [autD_no (e := e) (by simp [hkb])]
    (rw [Try.results34]; exact retOK_box Ty_aggT_35 Ty_szT_35 (by simp [upd_at]))
  have hkb := ‹katB e = true›
  obtain ⟨x, hw, rfl, h40⟩ := katB_tree hkb
  obtain ⟨hfa, hln, hps0⟩ := allL_facts hw h40
  have hnd := allL_nodup x.steps
  have hcl : ∀ t ∈ allL x.steps, ∀ m, m < 12 → ∀ s ∈ leftM t m, s ∈ allL x.steps := fun t ht m hm s hs => allL_closed hw h40 ht hm hs
  have hno : 10 < (allL x.steps).length → autD x.steps = ⟨[], []⟩ := fun h => autD_no (by omega)
  have hyes : (allL x.steps).length ≤ 10 → autD x.steps = ⟨endsM (allL x.steps), (allL x.steps).map fun t => rowM (allL x.steps) t 12⟩ := fun h => autD_yes hkb h
  (first | refine W_askP rfl _ (⟨x, rfl, hw, h40, rfl⟩) ?_ | refine D_askP rfl _ (⟨x, rfl, hw, h40, rfl⟩) ?_); simp (config := { maxSteps := 2000000 }) only [go_sem]
  generalize hA : allL x.steps = A at *
  repeat' (first | (refine CW.seqK fun K hK => ?_) | (refine CW.block ?_) | ((first | refine CW.reg hΓ (by rw [hκ]; rfl) ?_ | refine CW.drw hΓ Try_mixed (by rw [hκ]; rfl) (by kernel_rfl) (fun B hB => ?_)); simp (config := { maxSteps := 2000000 }) only [go_sem]) | ((repeat ((fail_if_success (refine hK _ ?_)); clear hK K)); refine hK _ ?_; clear hK K) | ((first | refine CW.skip ?_ | refine CW.exit ?_ | refine CW.ret ?_); simp only [thenA_normal, thenA_exit, thenA_ret, inBlockA_normal, inBlockA_exit, inBlockA_ret, if_true, if_false, Nat.reduceEqDiff, reduceCtorEq, retQ_ret, retQ_normal, retE_ret, retE_normal]) | (refine CW.cond (by simp only [upd_at, if_true, if_false, Nat.reduceEqDiff]; rfl) (fun hb => ?_) (fun hb => ?_) <;> (try simp only [decide_eq_true_eq, decide_eq_false_iff_not, Bool.not_eq_true', Bool.not_eq_false', reduceCtorEq] at hb)) | ((first | refine W_brs (fun hc => ?_) (fun hc => ?_) | refine D_brs (fun hc => ?_) (fun hc => ?_)) <;> (try simp only [Bool.not_eq_true, Bool.not_eq_false] at hc) <;> (try simp (config := { maxSteps := 2000000 }) only [go_sem, hc]) <;> (try simp only [decide_eq_true_eq, decide_eq_false_iff_not, Bool.not_eq_true', Bool.not_eq_false'] at hc)) | (refine And.intro (by omega) ?_) | (refine And.intro (by simp only [List.length_append, List.length_map, List.length_take, List.length_drop, List.length_cons, List.length_nil, List.length_replicate]; omega) ?_) | (refine ex_idx (by omega) ?_) | (refine And.intro (by rw [← hB]; kernel_rfl) ?_) | fail)
  · rw [hno (by omega)]
    (rw [Try.results34]; exact retOK_box Ty_aggT_35 Ty_szT_35 (by simp [upd_at]))
  have h10 : A.length ≤ 10 := by omega
  refine CW.loop (ι := Nat) (fun k => [(2, box [own [], own []]), (3, rows A), (4, box [oints (endsM (A.take k)), oorows ((A.take k).map fun t => rowM A t 12)]), (23, rows A), (24, I A.length), (25, I k)]) (fun k => k ≤ A.length) (fun k => A.length - k) 0 ?_ ?_
  · exact ⟨by ((simp only [LeL, envOf, upd_at, if_true, if_false, Nat.reduceEqDiff, true_or, and_true, true_and, and_self]; (try simp [view, viewL_map]); (try omega)); simp [endsM]), by omega⟩
  rintro k hk
  simp only [envOf]
  repeat' (first | (refine CW.seqK fun K hK => ?_) | (refine CW.block ?_) | ((first | refine CW.reg hΓ (by rw [hκ]; rfl) ?_ | refine CW.drw hΓ Try_mixed (by rw [hκ]; rfl) (by kernel_rfl) (fun B hB => ?_)); simp (config := { maxSteps := 2000000 }) only [go_sem]) | ((repeat ((fail_if_success (refine hK _ ?_)); clear hK K)); refine hK _ ?_; clear hK K) | ((first | refine CW.skip ?_ | refine CW.exit ?_ | refine CW.ret ?_); simp only [thenA_normal, thenA_exit, thenA_ret, inBlockA_normal, inBlockA_exit, inBlockA_ret, if_true, if_false, Nat.reduceEqDiff, reduceCtorEq, retQ_ret, retQ_normal, retE_ret, retE_normal]) | (refine CW.cond (by simp only [upd_at, if_true, if_false, Nat.reduceEqDiff]; rfl) (fun hb => ?_) (fun hb => ?_) <;> (try simp only [decide_eq_true_eq, decide_eq_false_iff_not, Bool.not_eq_true', Bool.not_eq_false', reduceCtorEq] at hb)) | ((first | refine W_brs (fun hc => ?_) (fun hc => ?_) | refine D_brs (fun hc => ?_) (fun hc => ?_)) <;> (try simp only [Bool.not_eq_true, Bool.not_eq_false] at hc) <;> (try simp (config := { maxSteps := 2000000 }) only [go_sem, hc]) <;> (try simp only [decide_eq_true_eq, decide_eq_false_iff_not, Bool.not_eq_true', Bool.not_eq_false'] at hc)) | (refine And.intro (by omega) ?_) | (refine And.intro (by simp only [List.length_append, List.length_map, List.length_take, List.length_drop, List.length_cons, List.length_nil, List.length_replicate]; omega) ?_) | (refine ex_idx (by omega) ?_) | (refine And.intro (by rw [← hB]; kernel_rfl) ?_) | fail)
  rotate_left
  · have hke : k = A.length := by omega
    subst hke
    rw [List.take_length, hyes h10]
    (rw [Try.results34]; exact retOK_box Ty_aggT_35 Ty_szT_35 (by simp [upd_at]))
  have hkl : k < A.length := by omega
  obtain ⟨hin, hsh⟩ := hfa _ (List.getElem_mem hkl)
  obtain ⟨p, hpw, hps, hpe⟩ := hin.tree
  have h16 := endX_lt hpw
  have hel : (endsM (A.take k)).length = k := by simp [endsM]; omega
  have hrl : ((A.take k).map fun t => rowM A t 12).length = k := by simp; omega
  have hclk := hcl _ (List.getElem_mem hkl)
  (first | refine W_askP rfl _ (⟨p, by rw [hps], hpw, by rw [hps]; omega, (treeA_eq p).symm⟩) ?_ | refine D_askP rfl _ (⟨p, by rw [hps], hpw, by rw [hps]; omega, (treeA_eq p).symm⟩) ?_); simp (config := { maxSteps := 2000000 }) only [go_sem]
  repeat' (first | (refine CW.seqK fun K hK => ?_) | (refine CW.block ?_) | ((first | refine CW.reg hΓ (by rw [hκ]; rfl) ?_ | refine CW.drw hΓ Try_mixed (by rw [hκ]; rfl) (by kernel_rfl) (fun B hB => ?_)); simp (config := { maxSteps := 2000000 }) only [go_sem]) | ((repeat ((fail_if_success (refine hK _ ?_)); clear hK K)); refine hK _ ?_; clear hK K) | ((first | refine CW.skip ?_ | refine CW.exit ?_ | refine CW.ret ?_); simp only [thenA_normal, thenA_exit, thenA_ret, inBlockA_normal, inBlockA_exit, inBlockA_ret, if_true, if_false, Nat.reduceEqDiff, reduceCtorEq, retQ_ret, retQ_normal, retE_ret, retE_normal]) | (refine CW.cond (by simp only [upd_at, if_true, if_false, Nat.reduceEqDiff]; rfl) (fun hb => ?_) (fun hb => ?_) <;> (try simp only [decide_eq_true_eq, decide_eq_false_iff_not, Bool.not_eq_true', Bool.not_eq_false', reduceCtorEq] at hb)) | ((first | refine W_brs (fun hc => ?_) (fun hc => ?_) | refine D_brs (fun hc => ?_) (fun hc => ?_)) <;> (try simp only [Bool.not_eq_true, Bool.not_eq_false] at hc) <;> (try simp (config := { maxSteps := 2000000 }) only [go_sem, hc]) <;> (try simp only [decide_eq_true_eq, decide_eq_false_iff_not, Bool.not_eq_true', Bool.not_eq_false'] at hc)) | (refine And.intro (by omega) ?_) | (refine And.intro (by simp only [List.length_append, List.length_map, List.length_take, List.length_drop, List.length_cons, List.length_nil, List.length_replicate]; omega) ?_) | (refine ex_idx (by omega) ?_) | (refine And.intro (by rw [← hB]; kernel_rfl) ?_) | fail)
  refine CW.loop (ι := Nat) (fun a => [(2, box [own [], own []]), (3, rows A), (4, box [oints (endsM (A.take k)), oorows ((A.take k).map fun t => rowM A t 12)]), (6, ints p.steps), (7, .pbox [I p.op, .sh (p.subs.map treeA)]), (8, oints (rowZ A A[k] (3 * a))), (23, rows A), (24, I A.length), (25, I k), (32, I a)]) (fun a => a ≤ 4) (fun a => 4 - a) 0 ?_ ?_
  · refine ⟨by rw [hps]; ((simp only [LeL, envOf, upd_at, if_true, if_false, Nat.reduceEqDiff, true_or, and_true, true_and, and_self]; (try simp [view, viewL_map]); (try omega)); simp [rowZ, rowM]), by omega⟩
  rintro a ha
  simp only [envOf]
  repeat' (first | (refine CW.seqK fun K hK => ?_) | (refine CW.block ?_) | ((first | refine CW.reg hΓ (by rw [hκ]; rfl) ?_ | refine CW.drw hΓ Try_mixed (by rw [hκ]; rfl) (by kernel_rfl) (fun B hB => ?_)); simp (config := { maxSteps := 2000000 }) only [go_sem]) | ((repeat ((fail_if_success (refine hK _ ?_)); clear hK K)); refine hK _ ?_; clear hK K) | ((first | refine CW.skip ?_ | refine CW.exit ?_ | refine CW.ret ?_); simp only [thenA_normal, thenA_exit, thenA_ret, inBlockA_normal, inBlockA_exit, inBlockA_ret, if_true, if_false, Nat.reduceEqDiff, reduceCtorEq, retQ_ret, retQ_normal, retE_ret, retE_normal]) | (refine CW.cond (by simp only [upd_at, if_true, if_false, Nat.reduceEqDiff]; rfl) (fun hb => ?_) (fun hb => ?_) <;> (try simp only [decide_eq_true_eq, decide_eq_false_iff_not, Bool.not_eq_true', Bool.not_eq_false', reduceCtorEq] at hb)) | ((first | refine W_brs (fun hc => ?_) (fun hc => ?_) | refine D_brs (fun hc => ?_) (fun hc => ?_)) <;> (try simp only [Bool.not_eq_true, Bool.not_eq_false] at hc) <;> (try simp (config := { maxSteps := 2000000 }) only [go_sem, hc]) <;> (try simp only [decide_eq_true_eq, decide_eq_false_iff_not, Bool.not_eq_true', Bool.not_eq_false'] at hc)) | (refine And.intro (by omega) ?_) | (refine And.intro (by simp only [List.length_append, List.length_map, List.length_take, List.length_drop, List.length_cons, List.length_nil, List.length_replicate]; omega) ?_) | (refine ex_idx (by omega) ?_) | (refine And.intro (by rw [← hB]; kernel_rfl) ?_) | fail)
  rotate_left
  · have ha4 : a = 4 := by omega
    subst ha4
    have hz : rowZ A A[k] (3 * 4) = rowM A A[k] 12 := by simp [rowZ]
    rw [hz]
    (first | refine W_askP rfl _ (⟨p, rfl, hpw, by rw [hps]; omega, rfl⟩) ?_ | refine D_askP rfl _ (⟨p, rfl, hpw, by rw [hps]; omega, rfl⟩) ?_); simp (config := { maxSteps := 2000000 }) only [go_sem]
    repeat' (first | (refine CW.seqK fun K hK => ?_) | (refine CW.block ?_) | ((first | refine CW.reg hΓ (by rw [hκ]; rfl) ?_ | refine CW.drw hΓ Try_mixed (by rw [hκ]; rfl) (by kernel_rfl) (fun B hB => ?_)); simp (config := { maxSteps := 2000000 }) only [go_sem]) | ((repeat ((fail_if_success (refine hK _ ?_)); clear hK K)); refine hK _ ?_; clear hK K) | ((first | refine CW.skip ?_ | refine CW.exit ?_ | refine CW.ret ?_); simp only [thenA_normal, thenA_exit, thenA_ret, inBlockA_normal, inBlockA_exit, inBlockA_ret, if_true, if_false, Nat.reduceEqDiff, reduceCtorEq, retQ_ret, retQ_normal, retE_ret, retE_normal]) | (refine CW.cond (by simp only [upd_at, if_true, if_false, Nat.reduceEqDiff]; rfl) (fun hb => ?_) (fun hb => ?_) <;> (try simp only [decide_eq_true_eq, decide_eq_false_iff_not, Bool.not_eq_true', Bool.not_eq_false', reduceCtorEq] at hb)) | ((first | refine W_brs (fun hc => ?_) (fun hc => ?_) | refine D_brs (fun hc => ?_) (fun hc => ?_)) <;> (try simp only [Bool.not_eq_true, Bool.not_eq_false] at hc) <;> (try simp (config := { maxSteps := 2000000 }) only [go_sem, hc]) <;> (try simp only [decide_eq_true_eq, decide_eq_false_iff_not, Bool.not_eq_true', Bool.not_eq_false'] at hc)) | (refine And.intro (by omega) ?_) | (refine And.intro (by simp only [List.length_append, List.length_map, List.length_take, List.length_drop, List.length_cons, List.length_nil, List.length_replicate]; omega) ?_) | (refine ex_idx (by omega) ?_) | (refine And.intro (by rw [← hB]; kernel_rfl) ?_) | fail)
    refine ⟨k + 1, ?_, by omega, by omega⟩
    rw [endsM_take hkl, rows_take hkl, hpe]
    (simp only [LeL, envOf, upd_at, if_true, if_false, Nat.reduceEqDiff, true_or, and_true, true_and, and_self]; (try simp [view, viewL_map]); (try omega))
  refine CW.loop (ι := Nat) (fun c => [(2, box [own [], own []]), (3, rows A), (4, box [oints (endsM (A.take k)), oorows ((A.take k).map fun t => rowM A t 12)]), (6, ints p.steps), (7, .pbox [I p.op, .sh (p.subs.map treeA)]), (8, oints (rowZ A A[k] (3 * a + c))), (9, I a), (10, I ((16 + c : Nat) : Int)), (23, rows A), (24, I A.length), (25, I k), (32, I a)]) (fun c => c ≤ 3) (fun c => 3 - c) 0 ?_ ?_
  · exact ⟨by (simp only [LeL, envOf, upd_at, if_true, if_false, Nat.reduceEqDiff, true_or, and_true, true_and, and_self]; (try simp [view, viewL_map]); (try omega)), by omega⟩
  rintro c hc
  simp only [envOf]
  repeat' (first | (refine CW.seqK fun K hK => ?_) | (refine CW.block ?_) | ((first | refine CW.reg hΓ (by rw [hκ]; rfl) ?_ | refine CW.drw hΓ Try_mixed (by rw [hκ]; rfl) (by kernel_rfl) (fun B hB => ?_)); simp (config := { maxSteps := 2000000 }) only [go_sem]) | ((repeat ((fail_if_success (refine hK _ ?_)); clear hK K)); refine hK _ ?_; clear hK K) | ((first | refine CW.skip ?_ | refine CW.exit ?_ | refine CW.ret ?_); simp only [thenA_normal, thenA_exit, thenA_ret, inBlockA_normal, inBlockA_exit, inBlockA_ret, if_true, if_false, Nat.reduceEqDiff, reduceCtorEq, retQ_ret, retQ_normal, retE_ret, retE_normal]) | (refine CW.cond (by simp only [upd_at, if_true, if_false, Nat.reduceEqDiff]; rfl) (fun hb => ?_) (fun hb => ?_) <;> (try simp only [decide_eq_true_eq, decide_eq_false_iff_not, Bool.not_eq_true', Bool.not_eq_false', reduceCtorEq] at hb)) | ((first | refine W_brs (fun hc => ?_) (fun hc => ?_) | refine D_brs (fun hc => ?_) (fun hc => ?_)) <;> (try simp only [Bool.not_eq_true, Bool.not_eq_false] at hc) <;> (try simp (config := { maxSteps := 2000000 }) only [go_sem, hc]) <;> (try simp only [decide_eq_true_eq, decide_eq_false_iff_not, Bool.not_eq_true', Bool.not_eq_false'] at hc)) | (refine And.intro (by omega) ?_) | (refine And.intro (by simp only [List.length_append, List.length_map, List.length_take, List.length_drop, List.length_cons, List.length_nil, List.length_replicate]; omega) ?_) | (refine ex_idx (by omega) ?_) | (refine And.intro (by rw [← hB]; kernel_rfl) ?_) | fail)
  rotate_left
  · have hc3 : c = 3 := by omega
    subst hc3
    exact ⟨a + 1, by rw [show 3 * a + 3 = 3 * (a + 1) by omega]; (simp only [LeL, envOf, upd_at, if_true, if_false, Nat.reduceEqDiff, true_or, and_true, true_and, and_self]; (try simp [view, viewL_map]); (try omega)), by omega, by omega⟩
  have hc2 : c < 3 := by omega
  have hac : ((16 + c : Nat) : Int) = 16 + (c : Int) := by omega
  have hpo : partsL a ((16 + c : Nat) : Int) p = leftM A[k] (3 * a + c) := by
    rw [leftM, ← hps, partsOfL_steps hpw, show (3 * a + c) / 3 = a by omega, show (3 * a + c) % 3 = c by omega, hac]
  have hbd := partsL_bd (x := p) (by rw [hps]; omega) hpw (atom := a) (act := ((16 + c : Nat) : Int)) (by omega)
  have hsub := hclk (3 * a + c) (by omega)
  have hPZ := rowP_Z (t := A[k]) (m := 3 * a + c) hnd hsub
  have hZP := rowZ_P (l := A) (t := A[k]) (m := 3 * a + c) (by omega)
  have hPl := fun i => rowP_len (l := A) (t := A[k]) (m := 3 * a + c) (i := i) (by omega)
  have hPg := fun i => rowP_get (l := A) (t := A[k]) (m := 3 * a + c) (i := i)
  have hPs := fun i => rowP_set (l := A) (t := A[k]) (m := 3 * a + c) (i := i)
  have hlt := plcTo_lt hsub
  (first | refine W_askP rfl _ (⟨p, a, _, by rw [treeA_eq], hpw, by rw [hps]; omega, by omega, by omega, by omega, rfl⟩) ?_ | refine D_askP rfl _ (⟨p, a, _, by rw [treeA_eq], hpw, by rw [hps]; omega, by omega, by omega, by omega, rfl⟩) ?_); simp (config := { maxSteps := 2000000 }) only [go_sem]
  rw [hpo] at hbd ⊢
  rw [hZP]
  generalize hP : rowP A A[k] (3 * a + c) = P at *
  generalize hL : leftM A[k] (3 * a + c) = L at *
  repeat' (first | (refine CW.seqK fun K hK => ?_) | (refine CW.block ?_) | ((first | refine CW.reg hΓ (by rw [hκ]; rfl) ?_ | refine CW.drw hΓ Try_mixed (by rw [hκ]; rfl) (by kernel_rfl) (fun B hB => ?_)); simp (config := { maxSteps := 2000000 }) only [go_sem]) | ((repeat ((fail_if_success (refine hK _ ?_)); clear hK K)); refine hK _ ?_; clear hK K) | ((first | refine CW.skip ?_ | refine CW.exit ?_ | refine CW.ret ?_); simp only [thenA_normal, thenA_exit, thenA_ret, inBlockA_normal, inBlockA_exit, inBlockA_ret, if_true, if_false, Nat.reduceEqDiff, reduceCtorEq, retQ_ret, retQ_normal, retE_ret, retE_normal]) | (refine CW.cond (by simp only [upd_at, if_true, if_false, Nat.reduceEqDiff]; rfl) (fun hb => ?_) (fun hb => ?_) <;> (try simp only [decide_eq_true_eq, decide_eq_false_iff_not, Bool.not_eq_true', Bool.not_eq_false', reduceCtorEq] at hb)) | ((first | refine W_brs (fun hc => ?_) (fun hc => ?_) | refine D_brs (fun hc => ?_) (fun hc => ?_)) <;> (try simp only [Bool.not_eq_true, Bool.not_eq_false] at hc) <;> (try simp (config := { maxSteps := 2000000 }) only [go_sem, hc]) <;> (try simp only [decide_eq_true_eq, decide_eq_false_iff_not, Bool.not_eq_true', Bool.not_eq_false'] at hc)) | (refine And.intro (by omega) ?_) | (refine And.intro (by simp only [List.length_append, List.length_map, List.length_take, List.length_drop, List.length_cons, List.length_nil, List.length_replicate]; omega) ?_) | (refine ex_idx (by omega) ?_) | (refine And.intro (by rw [← hB]; kernel_rfl) ?_) | fail)
  refine CW.loop (ι := Nat) (fun i => [(2, box [own [], own []]), (3, rows A), (4, box [oints (endsM (A.take k)), oorows ((A.take k).map fun t => rowM A t 12)]), (6, ints p.steps), (7, .pbox [I p.op, .sh (p.subs.map treeA)]), (8, oints (P i)), (9, I a), (10, I ((16 + c : Nat) : Int)), (23, rows A), (24, I A.length), (25, I k), (32, I a), (42, rows L), (43, I L.length), (44, I i)]) (fun i => i ≤ L.length) (fun i => L.length - i) 0 ?_ ?_
  · exact ⟨by (simp only [LeL, envOf, upd_at, if_true, if_false, Nat.reduceEqDiff, true_or, and_true, true_and, and_self]; (try simp [view, viewL_map]); (try omega)), by omega⟩
  rintro i hi
  simp only [envOf]
  repeat' (first | (refine CW.seqK fun K hK => ?_) | (refine CW.block ?_) | ((first | refine CW.reg hΓ (by rw [hκ]; rfl) ?_ | refine CW.drw hΓ Try_mixed (by rw [hκ]; rfl) (by kernel_rfl) (fun B hB => ?_)); simp (config := { maxSteps := 2000000 }) only [go_sem]) | ((repeat ((fail_if_success (refine hK _ ?_)); clear hK K)); refine hK _ ?_; clear hK K) | ((first | refine CW.skip ?_ | refine CW.exit ?_ | refine CW.ret ?_); simp only [thenA_normal, thenA_exit, thenA_ret, inBlockA_normal, inBlockA_exit, inBlockA_ret, if_true, if_false, Nat.reduceEqDiff, reduceCtorEq, retQ_ret, retQ_normal, retE_ret, retE_normal]) | (refine CW.cond (by simp only [upd_at, if_true, if_false, Nat.reduceEqDiff]; rfl) (fun hb => ?_) (fun hb => ?_) <;> (try simp only [decide_eq_true_eq, decide_eq_false_iff_not, Bool.not_eq_true', Bool.not_eq_false', reduceCtorEq] at hb)) | ((first | refine W_brs (fun hc => ?_) (fun hc => ?_) | refine D_brs (fun hc => ?_) (fun hc => ?_)) <;> (try simp only [Bool.not_eq_true, Bool.not_eq_false] at hc) <;> (try simp (config := { maxSteps := 2000000 }) only [go_sem, hc]) <;> (try simp only [decide_eq_true_eq, decide_eq_false_iff_not, Bool.not_eq_true', Bool.not_eq_false'] at hc)) | (refine And.intro (by omega) ?_) | (refine And.intro (by simp only [List.length_append, List.length_map, List.length_take, List.length_drop, List.length_cons, List.length_nil, List.length_replicate]; omega) ?_) | (refine ex_idx (by omega) ?_) | (refine And.intro (by rw [← hB]; kernel_rfl) ?_) | fail)
  rotate_left
  · have hie : i = L.length := by omega
    subst hie
    refine ⟨c + 1, ?_, by omega, by omega⟩
    rw [show rowZ A A[k] (3 * a + (c + 1)) = P L.length from hPZ.symm]
    (simp only [LeL, envOf, upd_at, if_true, if_false, Nat.reduceEqDiff, true_or, and_true, true_and, and_self]; (try simp [view, viewL_map]); (try omega))
  have hil : i < L.length := by omega
  have hgd : L.getD i [] = L[i] := by simp [List.getD, hil]
  have hmem := hsub _ (List.getElem_mem hil)
  have hix : A.idxOf L[i] < A.length := List.idxOf_lt_length_iff.2 hmem
  have hidx := idxF_idxOf L[i] A 0 hmem
  rw [Nat.zero_add] at hidx
  have hpi := hlt i (by omega)
  have hpow : 2 ^ A.length ≤ 2 ^ 10 := Nat.pow_le_pow_right (by omega) h10
  have hpow2 : 2 ^ A.idxOf L[i] < 2 ^ A.length := Nat.pow_lt_pow_right (by omega) hix
  have hsti := hPs i
  rw [hgd] at hsti
  have hLi := (hfa _ hmem).2
  have hPli := hPl i
  have hPgi : ∀ h : 3 * a + c < (P i).length, (P i)[3 * a + c] = ((plcTo A L i : Nat) : Int) := hPg i
  generalize hj : A.idxOf L[i] = j at *
  obtain ⟨q, hq⟩ : ∃ q : Nat, q = 2 ^ j := ⟨_, rfl⟩
  have e5 : (1 : Int) * 2 ^ j = (q : Int) := by rw [hq]; simp
  rw [← hq] at hpow2 hsti
  (first | refine W_askP rfl _ (⟨a, c, rfl, by omega, by omega, rfl⟩) ?_ | refine D_askP rfl _ (⟨a, c, rfl, by omega, by omega, rfl⟩) ?_); simp (config := { maxSteps := 2000000 }) only [go_sem]
  repeat' (first | (refine CW.seqK fun K hK => ?_) | (refine CW.block ?_) | ((first | refine CW.reg hΓ (by rw [hκ]; rfl) ?_ | refine CW.drw hΓ Try_mixed (by rw [hκ]; rfl) (by kernel_rfl) (fun B hB => ?_)); simp (config := { maxSteps := 2000000 }) only [go_sem, hPgi, e5]) | ((repeat ((fail_if_success (refine hK _ ?_)); clear hK K)); refine hK _ ?_; clear hK K) | ((first | refine CW.skip ?_ | refine CW.exit ?_ | refine CW.ret ?_); simp only [thenA_normal, thenA_exit, thenA_ret, inBlockA_normal, inBlockA_exit, inBlockA_ret, if_true, if_false, Nat.reduceEqDiff, reduceCtorEq, retQ_ret, retQ_normal, retE_ret, retE_normal]) | (refine CW.cond (by simp only [upd_at, if_true, if_false, Nat.reduceEqDiff]; rfl) (fun hb => ?_) (fun hb => ?_) <;> (try simp only [decide_eq_true_eq, decide_eq_false_iff_not, Bool.not_eq_true', Bool.not_eq_false', reduceCtorEq] at hb)) | ((first | refine W_brs (fun hc => ?_) (fun hc => ?_) | refine D_brs (fun hc => ?_) (fun hc => ?_)) <;> (try simp only [Bool.not_eq_true, Bool.not_eq_false] at hc) <;> (try simp (config := { maxSteps := 2000000 }) only [go_sem, hc, hPgi, e5]) <;> (try simp only [decide_eq_true_eq, decide_eq_false_iff_not, Bool.not_eq_true', Bool.not_eq_false'] at hc)) | (refine And.intro (by omega) ?_) | (refine And.intro (by simp only [List.length_append, List.length_map, List.length_take, List.length_drop, List.length_cons, List.length_nil, List.length_replicate]; omega) ?_) | (refine ex_idx (by omega) ?_) | (refine And.intro (by rw [← hB]; kernel_rfl) ?_) | fail)
  (first | refine W_askP rfl _ (⟨A, L[i], rfl, by omega, fun s hs => Nat.le_trans (hfa s hs).2 (by omega), by omega, rfl⟩) ?_ | refine D_askP rfl _ (⟨A, L[i], rfl, by omega, fun s hs => Nat.le_trans (hfa s hs).2 (by omega), by omega, rfl⟩) ?_); simp (config := { maxSteps := 2000000 }) only [go_sem]
  simp only [hPgi, hidx, e5, Int.toNat_natCast]
  repeat' (first | (refine CW.seqK fun K hK => ?_) | (refine CW.block ?_) | ((first | refine CW.reg hΓ (by rw [hκ]; rfl) ?_ | refine CW.drw hΓ Try_mixed (by rw [hκ]; rfl) (by kernel_rfl) (fun B hB => ?_)); simp (config := { maxSteps := 2000000 }) only [go_sem]) | ((repeat ((fail_if_success (refine hK _ ?_)); clear hK K)); refine hK _ ?_; clear hK K) | ((first | refine CW.skip ?_ | refine CW.exit ?_ | refine CW.ret ?_); simp only [thenA_normal, thenA_exit, thenA_ret, inBlockA_normal, inBlockA_exit, inBlockA_ret, if_true, if_false, Nat.reduceEqDiff, reduceCtorEq, retQ_ret, retQ_normal, retE_ret, retE_normal]) | (refine CW.cond (by simp only [upd_at, if_true, if_false, Nat.reduceEqDiff]; rfl) (fun hb => ?_) (fun hb => ?_) <;> (try simp only [decide_eq_true_eq, decide_eq_false_iff_not, Bool.not_eq_true', Bool.not_eq_false', reduceCtorEq] at hb)) | ((first | refine W_brs (fun hc => ?_) (fun hc => ?_) | refine D_brs (fun hc => ?_) (fun hc => ?_)) <;> (try simp only [Bool.not_eq_true, Bool.not_eq_false] at hc) <;> (try simp (config := { maxSteps := 2000000 }) only [go_sem, hc]) <;> (try simp only [decide_eq_true_eq, decide_eq_false_iff_not, Bool.not_eq_true', Bool.not_eq_false'] at hc)) | (refine And.intro (by omega) ?_) | (refine And.intro (by simp only [List.length_append, List.length_map, List.length_take, List.length_drop, List.length_cons, List.length_nil, List.length_replicate]; omega) ?_) | (refine ex_idx (by omega) ?_) | (refine And.intro (by rw [← hB]; kernel_rfl) ?_) | fail)
  refine ⟨i + 1, ?_, by omega, by omega⟩
  rw [hsti]
  simp only [LeL, envOf, upd_at, if_true, if_false, Nat.reduceEqDiff, true_or, and_true, true_and, and_self, Int.toNat_natCast, List.map_set]
  exact ⟨.inl (by simp [oints, List.map_set]), .inl (by simp)⟩

end Go.Proofs.Ytkibemgdncncoaa
