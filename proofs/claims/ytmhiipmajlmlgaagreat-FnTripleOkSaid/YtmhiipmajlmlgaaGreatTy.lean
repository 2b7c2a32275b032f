/- Facts of the types. -/
import Derived.Test.YtmhiipmajlmlgaaGreatGrpJ
import Derived.Test.YtmhiipmajlmlgaaGreatProg
namespace Go.Proofs.YtmhiipmajlmlgaaGreat
set_option linter.unusedSimpArgs false
set_option linter.unusedVariables false
set_option maxRecDepth 8000
set_option maxHeartbeats 2000000
open Go Go.RowKit AV

theorem Tryz_mixed : Tryz.prog.follows .mixedOrders = true := by kernel_rfl

theorem xb : (∀ (p : Prop) [Decidable p], (decide p = true) = p) ∧ (∀ (p : Prop) [Decidable p], (decide p = false) = ¬ p) ∧ (∀ b : Bool, ((!b) = true) = (b = false)) ∧ (∀ b : Bool, ((!b) = false) = (b = true)) := ⟨by simp, by simp, by simp, by simp⟩
theorem xl : (∀ (α : Type) (l m : List α), (l ++ m).length = l.length + m.length) ∧ (∀ (α β : Type) (f : α → β) (l : List α), (l.map f).length = l.length) ∧ (∀ (α : Type) (k : Nat) (l : List α), (l.take k).length = min k l.length) ∧ (∀ (α : Type) (k : Nat) (l : List α), (l.drop k).length = l.length - k) ∧ (∀ (α : Type) (a : α) (l : List α), (a :: l).length = l.length + 1) ∧ (∀ α : Type, ([] : List α).length = 0) ∧ (∀ (α : Type) (n : Nat) (a : α), (List.replicate n a).length = n) :=
  ⟨fun _ _ _ => List.length_append, fun _ _ _ _ => List.length_map .., fun _ _ _ => List.length_take, fun _ _ _ => List.length_drop, fun _ _ _ => rfl, fun _ => rfl, fun _ _ _ => List.length_replicate⟩
theorem xs : (∀ (N : Env → Prop) (Q : QA) (e : Env), thenA N Q .normal e = N e) ∧ (∀ (N : Env → Prop) (Q : QA) (i : Nat) (e : Env), thenA N Q (.exit i) e = Q (.exit i) e) ∧ (∀ (N : Env → Prop) (Q : QA) (e : Env), thenA N Q .ret e = Q .ret e) ∧ (∀ (i : Nat) (Q : QA) (e : Env), inBlockA i Q .normal e = Q .normal e) ∧ (∀ (i j : Nat) (Q : QA) (e : Env), inBlockA i Q (.exit j) e = if j = i then Q .normal e else Q (.exit j) e) ∧ (∀ (i : Nat) (Q : QA) (e : Env), inBlockA i Q .ret e = Q .ret e) ∧ (∀ (P : Program) (rs : List ResultVar) (r : AV) (e : Env), retQ P rs r .ret e = RetOK P rs e r) ∧ (∀ (P : Program) (rs : List ResultVar) (r : AV) (e : Env), retQ P rs r .normal e = RetOK P rs e r) ∧ (∀ (rs : List ResultVar) (r A : AV) (e : Env), retE rs r A .ret e = (RetP rs e r ∧ backA e A)) ∧ (∀ (rs : List ResultVar) (r A : AV) (e : Env), retE rs r A .normal e = (RetP rs e r ∧ backA e A)) :=
  ⟨fun _ _ _ => rfl, fun _ _ _ _ => rfl, fun _ _ _ => rfl, fun _ _ _ => rfl, fun _ _ _ _ => rfl, fun _ _ _ => rfl, fun _ _ _ _ => rfl, fun _ _ _ _ => rfl, fun _ _ _ _ => rfl, fun _ _ _ _ => rfl⟩

theorem Ty_aggT_3 : aggT Tryz.prog 3 = some false := by kernel_rfl
theorem Ty_szT_3 : szT Tryz.prog 3 = some 1 := by kernel_rfl
theorem Ty_zT_3 : zT Tryz.prog 3 = some [.num .i64 0] := by kernel_rfl
theorem Ty_inT_3 : inT Tryz.prog 3 = some .i64 := by kernel_rfl
theorem Ty_kkT_3 : kkT Tryz.prog 3 = 1 := by kernel_rfl
theorem Ty_zOf_3 : zOf Tryz.prog 3 = .num .i64 0 := by kernel_rfl
theorem Ty_aggT_4 : aggT Tryz.prog 4 = some false := by kernel_rfl
theorem Ty_szT_4 : szT Tryz.prog 4 = some 1 := by kernel_rfl
theorem Ty_zT_4 : zT Tryz.prog 4 = some [.bool false] := by kernel_rfl
theorem Ty_boT_4 : boT Tryz.prog 4 = true := by kernel_rfl
theorem Ty_zOf_4 : zOf Tryz.prog 4 = .bool false := by kernel_rfl
theorem Ty_mpT_68 : mpT Tryz.prog 68 = some (70, 4) := by kernel_rfl
theorem Ty_mpT_97 : mpT Tryz.prog 97 = some (99, 4) := by kernel_rfl
theorem Ty_mpT_88 : mpT Tryz.prog 88 = some (114, 4) := by kernel_rfl
theorem Ty_aggT_114 : aggT Tryz.prog 114 = some true := by kernel_rfl
theorem Ty_szT_114 : szT Tryz.prog 114 = some 3 := by kernel_rfl
theorem Ty_zT_114 : zT Tryz.prog 114 = some [.junk, .num .i64 0, .num .i64 0] := by kernel_rfl
theorem Ty_bPl_114 : bPl Tryz.prog 114 = some [(0, 1), (1, 1), (2, 1)] := by kernel_rfl
theorem Ty_nestT_114 : nestT Tryz.prog 114 = false := by kernel_rfl
theorem Ty_stO_114_0 : stO Tryz.prog 114 0 = some 0 := by kernel_rfl
theorem Ty_stO_114_1 : stO Tryz.prog 114 1 = some 1 := by kernel_rfl
theorem Ty_stO_114_2 : stO Tryz.prog 114 2 = some 2 := by kernel_rfl
theorem Ty_kkT_114 : kkT Tryz.prog 114 = 3 := by kernel_rfl
theorem Ty_aggT_90 : aggT Tryz.prog 90 = some true := by kernel_rfl
theorem Ty_szT_90 : szT Tryz.prog 90 = some 2 := by kernel_rfl
theorem Ty_zT_90 : zT Tryz.prog 90 = some [.own [], .junk] := by kernel_rfl
theorem Ty_bPl_90 : bPl Tryz.prog 90 = some [(0, 1), (1, 1)] := by kernel_rfl
theorem Ty_nestT_90 : nestT Tryz.prog 90 = false := by kernel_rfl
theorem Ty_stO_90_0 : stO Tryz.prog 90 0 = some 0 := by kernel_rfl
theorem Ty_stO_90_1 : stO Tryz.prog 90 1 = some 1 := by kernel_rfl
theorem Ty_aggT_70 : aggT Tryz.prog 70 = some true := by kernel_rfl
theorem Ty_szT_70 : szT Tryz.prog 70 = some 2 := by kernel_rfl
theorem Ty_zT_70 : zT Tryz.prog 70 = some [.num .i64 0, .num .i64 0] := by kernel_rfl
theorem Ty_bPl_70 : bPl Tryz.prog 70 = some [(0, 1), (1, 1)] := by kernel_rfl
theorem Ty_nestT_70 : nestT Tryz.prog 70 = false := by kernel_rfl
theorem Ty_stO_70_0 : stO Tryz.prog 70 0 = some 0 := by kernel_rfl
theorem Ty_stO_70_1 : stO Tryz.prog 70 1 = some 1 := by kernel_rfl
theorem Ty_kkT_70 : kkT Tryz.prog 70 = 2 := by kernel_rfl
theorem Ty_aggT_99 : aggT Tryz.prog 99 = some true := by kernel_rfl
theorem Ty_szT_99 : szT Tryz.prog 99 = some 2 := by kernel_rfl
theorem Ty_zT_99 : zT Tryz.prog 99 = some [.num .i64 0, .num .i64 0] := by kernel_rfl
theorem Ty_bPl_99 : bPl Tryz.prog 99 = some [(0, 1), (1, 1)] := by kernel_rfl
theorem Ty_nestT_99 : nestT Tryz.prog 99 = false := by kernel_rfl
theorem Ty_stO_99_0 : stO Tryz.prog 99 0 = some 0 := by kernel_rfl
theorem Ty_stO_99_1 : stO Tryz.prog 99 1 = some 1 := by kernel_rfl
theorem Ty_kkT_99 : kkT Tryz.prog 99 = 2 := by kernel_rfl
theorem Ty_aggT_23 : aggT Tryz.prog 23 = some false := by kernel_rfl
theorem Ty_szT_23 : szT Tryz.prog 23 = some 1 := by kernel_rfl
theorem Ty_zT_23 : zT Tryz.prog 23 = some [.own []] := by kernel_rfl
theorem Ty_slE_23 : slE Tryz.prog 23 = some 3 := by kernel_rfl
theorem Ty_slOK_23 : slOK Tryz.prog 23 = true := by kernel_rfl
theorem Ty_slZ_23 : slZ Tryz.prog 23 = .num .i64 0 := by kernel_rfl
theorem Ty_mpT_23 : mpT Tryz.prog 23 = none := by kernel_rfl
theorem Ty_recT_23 : recT Tryz.prog 23 = 0 := by kernel_rfl
theorem Ty_aggT_25 : aggT Tryz.prog 25 = some false := by kernel_rfl
theorem Ty_szT_25 : szT Tryz.prog 25 = some 1 := by kernel_rfl
theorem Ty_zT_25 : zT Tryz.prog 25 = some [.own []] := by kernel_rfl
theorem Ty_slE_25 : slE Tryz.prog 25 = some 23 := by kernel_rfl
theorem Ty_slOK_25 : slOK Tryz.prog 25 = true := by kernel_rfl
theorem Ty_slZ_25 : slZ Tryz.prog 25 = .own [] := by kernel_rfl
theorem Ty_mpT_25 : mpT Tryz.prog 25 = none := by kernel_rfl
theorem Ty_recT_25 : recT Tryz.prog 25 = 0 := by kernel_rfl
theorem Ty_aggT_27 : aggT Tryz.prog 27 = some true := by kernel_rfl
theorem Ty_szT_27 : szT Tryz.prog 27 = some 2 := by kernel_rfl
theorem Ty_zT_27 : zT Tryz.prog 27 = some [.own [], .own []] := by kernel_rfl
theorem Ty_bPl_27 : bPl Tryz.prog 27 = some [(0, 1), (1, 1)] := by kernel_rfl
theorem Ty_nestT_27 : nestT Tryz.prog 27 = false := by kernel_rfl
theorem Ty_stO_27_0 : stO Tryz.prog 27 0 = some 0 := by kernel_rfl
theorem Ty_stO_27_1 : stO Tryz.prog 27 1 = some 1 := by kernel_rfl
theorem Ty_aggT_53 : aggT Tryz.prog 53 = some false := by kernel_rfl
theorem Ty_szT_53 : szT Tryz.prog 53 = some 1 := by kernel_rfl
theorem Ty_zT_53 : zT Tryz.prog 53 = some [.junk] := by kernel_rfl
theorem Ty_aggT_77 : aggT Tryz.prog 77 = some false := by kernel_rfl
theorem Ty_szT_77 : szT Tryz.prog 77 = some 1 := by kernel_rfl
theorem Ty_zT_77 : zT Tryz.prog 77 = some [.own []] := by kernel_rfl
theorem Ty_slE_77 : slE Tryz.prog 77 = some 53 := by kernel_rfl
theorem Ty_slOK_77 : slOK Tryz.prog 77 = true := by kernel_rfl
theorem Ty_slZ_77 : slZ Tryz.prog 77 = .junk := by kernel_rfl
theorem Ty_mpT_77 : mpT Tryz.prog 77 = none := by kernel_rfl
theorem Ty_recT_77 : recT Tryz.prog 77 = 0 := by kernel_rfl
theorem Ty_aggT_79 : aggT Tryz.prog 79 = some true := by kernel_rfl
theorem Ty_szT_79 : szT Tryz.prog 79 = some 2 := by kernel_rfl
theorem Ty_zT_79 : zT Tryz.prog 79 = some [.num .i64 0, .own []] := by kernel_rfl
theorem Ty_bPl_79 : bPl Tryz.prog 79 = some [(0, 1), (1, 1)] := by kernel_rfl
theorem Ty_nestT_79 : nestT Tryz.prog 79 = false := by kernel_rfl
theorem Ty_stO_79_0 : stO Tryz.prog 79 0 = some 0 := by kernel_rfl
theorem Ty_stO_79_1 : stO Tryz.prog 79 1 = some 1 := by kernel_rfl
theorem Ty_aggT_5 : aggT Tryz.prog 5 = some false := by kernel_rfl
theorem Ty_szT_5 : szT Tryz.prog 5 = some 1 := by kernel_rfl
theorem Ty_zT_5 : zT Tryz.prog 5 = some [.num .u8 0] := by kernel_rfl
theorem Ty_inT_5 : inT Tryz.prog 5 = some .u8 := by kernel_rfl
theorem Ty_aggT_22 : aggT Tryz.prog 22 = some false := by kernel_rfl
theorem Ty_szT_22 : szT Tryz.prog 22 = some 1 := by kernel_rfl
theorem Ty_zT_22 : zT Tryz.prog 22 = some [.own []] := by kernel_rfl
theorem Ty_slE_22 : slE Tryz.prog 22 = some 5 := by kernel_rfl
theorem Ty_slOK_22 : slOK Tryz.prog 22 = true := by kernel_rfl
theorem Ty_slZ_22 : slZ Tryz.prog 22 = .num .u8 0 := by kernel_rfl
theorem Ty_mpT_22 : mpT Tryz.prog 22 = none := by kernel_rfl
theorem Ty_recT_22 : recT Tryz.prog 22 = 0 := by kernel_rfl
theorem Ty_recT_102 : recT Tryz.prog 102 = 2 := by kernel_rfl
theorem Ty_mpT_102 : mpT Tryz.prog 102 = none := by kernel_rfl
theorem Ty_slE_102 : slE Tryz.prog 102 = some 99 := by kernel_rfl
theorem Ty_recT_118 : recT Tryz.prog 118 = 3 := by kernel_rfl
theorem Ty_mpT_118 : mpT Tryz.prog 118 = none := by kernel_rfl
theorem Ty_slE_118 : slE Tryz.prog 118 = some 117 := by kernel_rfl
theorem Ty_aggT_117 : aggT Tryz.prog 117 = some true := by kernel_rfl
theorem Ty_szT_117 : szT Tryz.prog 117 = some 3 := by kernel_rfl
theorem Ty_zT_117 : zT Tryz.prog 117 = some [.num .i64 0, .num .i64 0, .own []] := by kernel_rfl
theorem Ty_bPl_117 : bPl Tryz.prog 117 = some [(0, 2), (2, 1)] := by kernel_rfl
theorem Ty_stO_117_0 : stO Tryz.prog 117 0 = none := by kernel_rfl
theorem Ty_stO_117_1 : stO Tryz.prog 117 1 = some 2 := by kernel_rfl
theorem Ty_stF_117_0 : stF Tryz.prog 117 0 = some 0 := by kernel_rfl
theorem Ty_nestT_117 : nestT Tryz.prog 117 = true := by kernel_rfl
theorem Ty_aggT_94 : aggT Tryz.prog 94 = some true := by kernel_rfl
theorem Ty_szT_94 : szT Tryz.prog 94 = some 4 := by kernel_rfl
theorem Ty_zT_94 : zT Tryz.prog 94 = some [.own [], .own [], .own [], .own []] := by kernel_rfl
theorem Ty_bPl_94 : bPl Tryz.prog 94 = some [(0, 2), (2, 2)] := by kernel_rfl
theorem Ty_stO_94_0 : stO Tryz.prog 94 0 = none := by kernel_rfl
theorem Ty_stO_94_1 : stO Tryz.prog 94 1 = none := by kernel_rfl
theorem Ty_stF_94_0 : stF Tryz.prog 94 0 = some 0 := by kernel_rfl
theorem Ty_stF_94_1 : stF Tryz.prog 94 1 = some 2 := by kernel_rfl
theorem Ty_nestT_94 : nestT Tryz.prog 94 = true := by kernel_rfl
theorem Ty_aggT_75 : aggT Tryz.prog 75 = some true := by kernel_rfl
theorem Ty_szT_75 : szT Tryz.prog 75 = some 2 := by kernel_rfl
theorem Ty_zT_75 : zT Tryz.prog 75 = some [.own [], .num .i64 0] := by kernel_rfl
theorem Ty_bPl_75 : bPl Tryz.prog 75 = some [(0, 1), (1, 1)] := by kernel_rfl
theorem Ty_nestT_75 : nestT Tryz.prog 75 = false := by kernel_rfl
theorem Ty_stO_75_0 : stO Tryz.prog 75 0 = some 0 := by kernel_rfl
theorem Ty_stO_75_1 : stO Tryz.prog 75 1 = some 1 := by kernel_rfl

theorem app_set_win (d : Nat) (e : Env) (s : Nat) (p : List Nat) (k : Nat) : (Wr.set d (AV.win s p k)).app e = upd e d (AV.win s p k) := rfl
theorem app_mod_win (s : Nat) (q : List Nat) (e : Env) (s' : Nat) (p : List Nat) (k : Nat) : (Wr.mod s q (AV.win s' p k)).app e = upd e s (setP (e s) q (AV.win s' p k)) := rfl
theorem app_set_pin (d : Nat) (e : Env) (A : AV) (v : Value) : (Wr.set d (AV.pin A v)).app e = upd e d (AV.pin A v) := rfl
theorem app_mod_pin (s : Nat) (q : List Nat) (e : Env) (A : AV) (v : Value) : (Wr.mod s q (AV.pin A v)).app e = upd e s (setP (e s) q (AV.pin A v)) := rfl
theorem app_set_omap (d : Nat) (e : Env) (ks vs : List AV) : (Wr.set d (AV.omap ks vs)).app e = upd (kill d [] e) d (AV.omap ks vs) := rfl
theorem app_mod_omap (s : Nat) (q : List Nat) (e : Env) (ks vs : List AV) : (Wr.mod s q (AV.omap ks vs)).app e = upd (kill s q e) s (setP (e s) q (AV.omap ks vs)) := rfl

end Go.Proofs.YtmhiipmajlmlgaaGreat
