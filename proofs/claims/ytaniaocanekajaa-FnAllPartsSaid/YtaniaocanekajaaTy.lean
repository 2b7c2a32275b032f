/- Facts of the types. -/
import Derived.Test.YtaniaocanekajaaGrpJ
import Derived.Test.YtaniaocanekajaaProg
namespace Go.Proofs.Ytaniaocanekajaa
set_option linter.unusedSimpArgs false
set_option linter.unusedVariables false
set_option maxRecDepth 8000
set_option maxHeartbeats 2000000
open Go Go.RowKit AV

theorem Try_mixed : Try.prog.follows .mixedOrders = true := by kernel_rfl

theorem xb : (∀ (p : Prop) [Decidable p], (decide p = true) = p) ∧ (∀ (p : Prop) [Decidable p], (decide p = false) = ¬ p) ∧ (∀ b : Bool, ((!b) = true) = (b = false)) ∧ (∀ b : Bool, ((!b) = false) = (b = true)) := ⟨by simp, by simp, by simp, by simp⟩
theorem xl : (∀ (α : Type) (l m : List α), (l ++ m).length = l.length + m.length) ∧ (∀ (α β : Type) (f : α → β) (l : List α), (l.map f).length = l.length) ∧ (∀ (α : Type) (k : Nat) (l : List α), (l.take k).length = min k l.length) ∧ (∀ (α : Type) (k : Nat) (l : List α), (l.drop k).length = l.length - k) ∧ (∀ (α : Type) (a : α) (l : List α), (a :: l).length = l.length + 1) ∧ (∀ α : Type, ([] : List α).length = 0) ∧ (∀ (α : Type) (n : Nat) (a : α), (List.replicate n a).length = n) :=
  ⟨fun _ _ _ => List.length_append, fun _ _ _ _ => List.length_map .., fun _ _ _ => List.length_take, fun _ _ _ => List.length_drop, fun _ _ _ => rfl, fun _ => rfl, fun _ _ _ => List.length_replicate⟩
theorem xs : (∀ (N : Env → Prop) (Q : QA) (e : Env), thenA N Q .normal e = N e) ∧ (∀ (N : Env → Prop) (Q : QA) (i : Nat) (e : Env), thenA N Q (.exit i) e = Q (.exit i) e) ∧ (∀ (N : Env → Prop) (Q : QA) (e : Env), thenA N Q .ret e = Q .ret e) ∧ (∀ (i : Nat) (Q : QA) (e : Env), inBlockA i Q .normal e = Q .normal e) ∧ (∀ (i j : Nat) (Q : QA) (e : Env), inBlockA i Q (.exit j) e = if j = i then Q .normal e else Q (.exit j) e) ∧ (∀ (i : Nat) (Q : QA) (e : Env), inBlockA i Q .ret e = Q .ret e) ∧ (∀ (P : Program) (rs : List ResultVar) (r : AV) (e : Env), retQ P rs r .ret e = RetOK P rs e r) ∧ (∀ (P : Program) (rs : List ResultVar) (r : AV) (e : Env), retQ P rs r .normal e = RetOK P rs e r) ∧ (∀ (rs : List ResultVar) (r A : AV) (e : Env), retE rs r A .ret e = (RetP rs e r ∧ backA e A)) ∧ (∀ (rs : List ResultVar) (r A : AV) (e : Env), retE rs r A .normal e = (RetP rs e r ∧ backA e A)) :=
  ⟨fun _ _ _ => rfl, fun _ _ _ _ => rfl, fun _ _ _ => rfl, fun _ _ _ => rfl, fun _ _ _ _ => rfl, fun _ _ _ => rfl, fun _ _ _ _ => rfl, fun _ _ _ _ => rfl, fun _ _ _ _ => rfl, fun _ _ _ _ => rfl⟩

theorem Ty_aggT_3 : aggT Try.prog 3 = some false := by kernel_rfl
theorem Ty_szT_3 : szT Try.prog 3 = some 1 := by kernel_rfl
theorem Ty_zT_3 : zT Try.prog 3 = some [.num .i64 0] := by kernel_rfl
theorem Ty_inT_3 : inT Try.prog 3 = some .i64 := by kernel_rfl
theorem Ty_kkT_3 : kkT Try.prog 3 = 1 := by kernel_rfl
theorem Ty_zOf_3 : zOf Try.prog 3 = .num .i64 0 := by kernel_rfl
theorem Ty_aggT_4 : aggT Try.prog 4 = some false := by kernel_rfl
theorem Ty_szT_4 : szT Try.prog 4 = some 1 := by kernel_rfl
theorem Ty_zT_4 : zT Try.prog 4 = some [.bool false] := by kernel_rfl
theorem Ty_boT_4 : boT Try.prog 4 = true := by kernel_rfl
theorem Ty_zOf_4 : zOf Try.prog 4 = .bool false := by kernel_rfl
theorem Ty_mpT_73 : mpT Try.prog 73 = some (75, 4) := by kernel_rfl
theorem Ty_mpT_84 : mpT Try.prog 84 = some (86, 4) := by kernel_rfl
theorem Ty_aggT_75 : aggT Try.prog 75 = some true := by kernel_rfl
theorem Ty_szT_75 : szT Try.prog 75 = some 2 := by kernel_rfl
theorem Ty_zT_75 : zT Try.prog 75 = some [.num .i64 0, .num .i64 0] := by kernel_rfl
theorem Ty_bPl_75 : bPl Try.prog 75 = some [(0, 1), (1, 1)] := by kernel_rfl
theorem Ty_nestT_75 : nestT Try.prog 75 = false := by kernel_rfl
theorem Ty_stO_75_0 : stO Try.prog 75 0 = some 0 := by kernel_rfl
theorem Ty_stO_75_1 : stO Try.prog 75 1 = some 1 := by kernel_rfl
theorem Ty_kkT_75 : kkT Try.prog 75 = 2 := by kernel_rfl
theorem Ty_aggT_86 : aggT Try.prog 86 = some true := by kernel_rfl
theorem Ty_szT_86 : szT Try.prog 86 = some 2 := by kernel_rfl
theorem Ty_zT_86 : zT Try.prog 86 = some [.num .i64 0, .num .i64 0] := by kernel_rfl
theorem Ty_bPl_86 : bPl Try.prog 86 = some [(0, 1), (1, 1)] := by kernel_rfl
theorem Ty_nestT_86 : nestT Try.prog 86 = false := by kernel_rfl
theorem Ty_stO_86_0 : stO Try.prog 86 0 = some 0 := by kernel_rfl
theorem Ty_stO_86_1 : stO Try.prog 86 1 = some 1 := by kernel_rfl
theorem Ty_kkT_86 : kkT Try.prog 86 = 2 := by kernel_rfl
theorem Ty_aggT_23 : aggT Try.prog 23 = some false := by kernel_rfl
theorem Ty_szT_23 : szT Try.prog 23 = some 1 := by kernel_rfl
theorem Ty_zT_23 : zT Try.prog 23 = some [.own []] := by kernel_rfl
theorem Ty_slE_23 : slE Try.prog 23 = some 3 := by kernel_rfl
theorem Ty_slOK_23 : slOK Try.prog 23 = true := by kernel_rfl
theorem Ty_slZ_23 : slZ Try.prog 23 = .num .i64 0 := by kernel_rfl
theorem Ty_mpT_23 : mpT Try.prog 23 = none := by kernel_rfl
theorem Ty_recT_23 : recT Try.prog 23 = 0 := by kernel_rfl
theorem Ty_aggT_27 : aggT Try.prog 27 = some false := by kernel_rfl
theorem Ty_szT_27 : szT Try.prog 27 = some 1 := by kernel_rfl
theorem Ty_zT_27 : zT Try.prog 27 = some [.own []] := by kernel_rfl
theorem Ty_slE_27 : slE Try.prog 27 = some 23 := by kernel_rfl
theorem Ty_slOK_27 : slOK Try.prog 27 = true := by kernel_rfl
theorem Ty_slZ_27 : slZ Try.prog 27 = .own [] := by kernel_rfl
theorem Ty_mpT_27 : mpT Try.prog 27 = none := by kernel_rfl
theorem Ty_recT_27 : recT Try.prog 27 = 0 := by kernel_rfl
theorem Ty_aggT_59 : aggT Try.prog 59 = some true := by kernel_rfl
theorem Ty_szT_59 : szT Try.prog 59 = some 2 := by kernel_rfl
theorem Ty_zT_59 : zT Try.prog 59 = some [.own [], .own []] := by kernel_rfl
theorem Ty_bPl_59 : bPl Try.prog 59 = some [(0, 1), (1, 1)] := by kernel_rfl
theorem Ty_nestT_59 : nestT Try.prog 59 = false := by kernel_rfl
theorem Ty_stO_59_0 : stO Try.prog 59 0 = some 0 := by kernel_rfl
theorem Ty_stO_59_1 : stO Try.prog 59 1 = some 1 := by kernel_rfl
theorem Ty_aggT_65 : aggT Try.prog 65 = some false := by kernel_rfl
theorem Ty_szT_65 : szT Try.prog 65 = some 1 := by kernel_rfl
theorem Ty_zT_65 : zT Try.prog 65 = some [.junk] := by kernel_rfl
theorem Ty_aggT_99 : aggT Try.prog 99 = some false := by kernel_rfl
theorem Ty_szT_99 : szT Try.prog 99 = some 1 := by kernel_rfl
theorem Ty_zT_99 : zT Try.prog 99 = some [.own []] := by kernel_rfl
theorem Ty_slE_99 : slE Try.prog 99 = some 65 := by kernel_rfl
theorem Ty_slOK_99 : slOK Try.prog 99 = true := by kernel_rfl
theorem Ty_slZ_99 : slZ Try.prog 99 = .junk := by kernel_rfl
theorem Ty_mpT_99 : mpT Try.prog 99 = none := by kernel_rfl
theorem Ty_recT_99 : recT Try.prog 99 = 0 := by kernel_rfl
theorem Ty_aggT_101 : aggT Try.prog 101 = some true := by kernel_rfl
theorem Ty_szT_101 : szT Try.prog 101 = some 2 := by kernel_rfl
theorem Ty_zT_101 : zT Try.prog 101 = some [.num .i64 0, .own []] := by kernel_rfl
theorem Ty_bPl_101 : bPl Try.prog 101 = some [(0, 1), (1, 1)] := by kernel_rfl
theorem Ty_nestT_101 : nestT Try.prog 101 = false := by kernel_rfl
theorem Ty_stO_101_0 : stO Try.prog 101 0 = some 0 := by kernel_rfl
theorem Ty_stO_101_1 : stO Try.prog 101 1 = some 1 := by kernel_rfl
theorem Ty_aggT_5 : aggT Try.prog 5 = some false := by kernel_rfl
theorem Ty_szT_5 : szT Try.prog 5 = some 1 := by kernel_rfl
theorem Ty_zT_5 : zT Try.prog 5 = some [.num .u8 0] := by kernel_rfl
theorem Ty_inT_5 : inT Try.prog 5 = some .u8 := by kernel_rfl
theorem Ty_aggT_22 : aggT Try.prog 22 = some false := by kernel_rfl
theorem Ty_szT_22 : szT Try.prog 22 = some 1 := by kernel_rfl
theorem Ty_zT_22 : zT Try.prog 22 = some [.own []] := by kernel_rfl
theorem Ty_slE_22 : slE Try.prog 22 = some 5 := by kernel_rfl
theorem Ty_slOK_22 : slOK Try.prog 22 = true := by kernel_rfl
theorem Ty_slZ_22 : slZ Try.prog 22 = .num .u8 0 := by kernel_rfl
theorem Ty_mpT_22 : mpT Try.prog 22 = none := by kernel_rfl
theorem Ty_recT_22 : recT Try.prog 22 = 0 := by kernel_rfl
theorem Ty_recT_89 : recT Try.prog 89 = 2 := by kernel_rfl
theorem Ty_mpT_89 : mpT Try.prog 89 = none := by kernel_rfl
theorem Ty_slE_89 : slE Try.prog 89 = some 86 := by kernel_rfl
theorem Ty_recT_113 : recT Try.prog 113 = 3 := by kernel_rfl
theorem Ty_mpT_113 : mpT Try.prog 113 = none := by kernel_rfl
theorem Ty_slE_113 : slE Try.prog 113 = some 112 := by kernel_rfl
theorem Ty_aggT_112 : aggT Try.prog 112 = some true := by kernel_rfl
theorem Ty_szT_112 : szT Try.prog 112 = some 3 := by kernel_rfl
theorem Ty_zT_112 : zT Try.prog 112 = some [.num .i64 0, .num .i64 0, .own []] := by kernel_rfl
theorem Ty_bPl_112 : bPl Try.prog 112 = some [(0, 2), (2, 1)] := by kernel_rfl
theorem Ty_stO_112_0 : stO Try.prog 112 0 = none := by kernel_rfl
theorem Ty_stO_112_1 : stO Try.prog 112 1 = some 2 := by kernel_rfl
theorem Ty_stF_112_0 : stF Try.prog 112 0 = some 0 := by kernel_rfl
theorem Ty_nestT_112 : nestT Try.prog 112 = true := by kernel_rfl
theorem Ty_aggT_81 : aggT Try.prog 81 = some true := by kernel_rfl
theorem Ty_szT_81 : szT Try.prog 81 = some 4 := by kernel_rfl
theorem Ty_zT_81 : zT Try.prog 81 = some [.own [], .own [], .own [], .own []] := by kernel_rfl
theorem Ty_bPl_81 : bPl Try.prog 81 = some [(0, 2), (2, 2)] := by kernel_rfl
theorem Ty_stO_81_0 : stO Try.prog 81 0 = none := by kernel_rfl
theorem Ty_stO_81_1 : stO Try.prog 81 1 = none := by kernel_rfl
theorem Ty_stF_81_0 : stF Try.prog 81 0 = some 0 := by kernel_rfl
theorem Ty_stF_81_1 : stF Try.prog 81 1 = some 2 := by kernel_rfl
theorem Ty_nestT_81 : nestT Try.prog 81 = true := by kernel_rfl
theorem Ty_aggT_98 : aggT Try.prog 98 = some true := by kernel_rfl
theorem Ty_szT_98 : szT Try.prog 98 = some 2 := by kernel_rfl
theorem Ty_zT_98 : zT Try.prog 98 = some [.own [], .num .i64 0] := by kernel_rfl
theorem Ty_bPl_98 : bPl Try.prog 98 = some [(0, 1), (1, 1)] := by kernel_rfl
theorem Ty_nestT_98 : nestT Try.prog 98 = false := by kernel_rfl
theorem Ty_stO_98_0 : stO Try.prog 98 0 = some 0 := by kernel_rfl
theorem Ty_stO_98_1 : stO Try.prog 98 1 = some 1 := by kernel_rfl

theorem app_set_win (d : Nat) (e : Env) (s : Nat) (p : List Nat) (k : Nat) : (Wr.set d (AV.win s p k)).app e = upd e d (AV.win s p k) := rfl
theorem app_mod_win (s : Nat) (q : List Nat) (e : Env) (s' : Nat) (p : List Nat) (k : Nat) : (Wr.mod s q (AV.win s' p k)).app e = upd e s (setP (e s) q (AV.win s' p k)) := rfl
theorem app_set_pin (d : Nat) (e : Env) (A : AV) (v : Value) : (Wr.set d (AV.pin A v)).app e = upd e d (AV.pin A v) := rfl
theorem app_mod_pin (s : Nat) (q : List Nat) (e : Env) (A : AV) (v : Value) : (Wr.mod s q (AV.pin A v)).app e = upd e s (setP (e s) q (AV.pin A v)) := rfl
theorem app_set_omap (d : Nat) (e : Env) (ks vs : List AV) : (Wr.set d (AV.omap ks vs)).app e = upd (kill d [] e) d (AV.omap ks vs) := rfl
theorem app_mod_omap (s : Nat) (q : List Nat) (e : Env) (ks vs : List AV) : (Wr.mod s q (AV.omap ks vs)).app e = upd (kill s q e) s (setP (e s) q (AV.omap ks vs)) := rfl

end Go.Proofs.Ytaniaocanekajaa
