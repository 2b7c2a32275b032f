/- Facts of the types. -/
import Derived.Test.YtehdfifncbokeaaGreatGrpJ
import Derived.Test.YtehdfifncbokeaaGreatProg
namespace Go.Proofs.YtehdfifncbokeaaGreat
set_option linter.unusedSimpArgs false
set_option linter.unusedVariables false
set_option maxRecDepth 8000
set_option maxHeartbeats 2000000
open Go Go.RowKit AV

theorem Tryz_mixed : Tryz.prog.follows .mixedOrders = true := by kernel_rfl

theorem xb : (∀ (p : Prop) [Decidable p], (decide p = true) = p) ∧ (∀ (p : Prop) [Decidable p], (decide p = false) = ¬ p) ∧ (∀ b : Bool, ((!b) = true) = (b = false)) ∧ (∀ b : Bool, ((!b) = false) = (b = true)) := ⟨by simp, by simp, by simp, by simp⟩
theorem xl : (∀ (α : Type) (l m : List α), (l ++ m).length = l.length + m.length) ∧ (∀ (α β : Type) (f : α → β) (l : List α), (l.map f).length = l.length) ∧ (∀ (α : Type) (k : Nat) (l : List α), (l.take k).length = min k l.length) ∧ (∀ (α : Type) (k : Nat) (l : List α), (l.drop k).length = l.length - k) ∧ (∀ (α : Type) (a : α) (l : List α), (a :: l).length = l.length + 1) ∧ (∀ α : Type, ([] : List α).length = 0) ∧ (∀ (α : Type) (n : Nat) (a : α), (List.replicate n a).length = n) :=
  ⟨fun _ _ _ => List.length_append, fun _ _ _ _ => List.length_map .., fun _ _ _ => List.length_take, fun _ _ _ => List.length_drop, fun _ _ _ => rfl, fun _ => rfl, fun _ _ _ => List.length_replicate⟩
theorem xs : (∀ (N : Env → Prop) (Q : QA) (e : Env), thenA N Q .normal e = N e) ∧ (∀ (N : Env → Prop) (Q : QA) (i : Nat) (e : Env), thenA N Q (.exit i) e = Q (.exit i) e) ∧ (∀ (N : Env → Prop) (Q : QA) (e : Env), thenA N Q .ret e = Q .ret e) ∧ (∀ (i : Nat) (Q : QA) (e : Env), inBlockA i Q .normal e = Q .normal e) ∧ (∀ (i j : Nat) (Q : QA) (e : Env), inBlockA i Q (.exit j) e = if j = i then Q .normal e else Q (.exit j) e) ∧ (∀ (i : Nat) (Q : QA) (e : Env), inBlockA i Q .ret e = Q .ret e) ∧ (∀ (P : Program) (rs : List ResultVar) (r : AV) (e : Env), retQ P rs r .ret e = RetOK P rs e r) ∧ (∀ (P : Program) (rs : List ResultVar) (r : AV) (e : Env), retQ P rs r .normal e = RetOK P rs e r) ∧ (∀ (rs : List ResultVar) (r A : AV) (e : Env), retE rs r A .ret e = (RetP rs e r ∧ backA e A)) ∧ (∀ (rs : List ResultVar) (r A : AV) (e : Env), retE rs r A .normal e = (RetP rs e r ∧ backA e A)) :=
  ⟨fun _ _ _ => rfl, fun _ _ _ _ => rfl, fun _ _ _ => rfl, fun _ _ _ => rfl, fun _ _ _ _ => rfl, fun _ _ _ => rfl, fun _ _ _ _ => rfl, fun _ _ _ _ => rfl, fun _ _ _ _ => rfl, fun _ _ _ _ => rfl⟩

theorem Ty_aggT_3 : aggT Tryz.prog 3 = some false := by kernel_rfl
theorem Ty_szT_3 : szT Tryz.prog 3 = some 1 := by kernel_rfl
theorem Ty_zT_3 : zT Tryz.prog 3 = some [.num .i64 0] := by kernel_rfl
theorem Ty_inT_3 : inT Tryz.prog 3 = some .i64 := by kernel_rfl
theorem Ty_kkT_3 : kkT Tryz.prog 3 = 1 := by kernel_rfl
theorem Ty_zOf_3 : zOf Tryz.prog 3 = .num .i64 0 := by kernel_rfl
theorem Ty_aggT_4 : aggT Tryz.prog 4 = some false := by kernel_rfl
theorem Ty_szT_4 : szT Tryz.prog 4 = some 1 := by kernel_rfl
theorem Ty_zT_4 : zT Tryz.prog 4 = some [.bool false] := by kernel_rfl
theorem Ty_boT_4 : boT Tryz.prog 4 = true := by kernel_rfl
theorem Ty_zOf_4 : zOf Tryz.prog 4 = .bool false := by kernel_rfl
theorem Ty_mpT_72 : mpT Tryz.prog 72 = some (91, 4) := by kernel_rfl
theorem Ty_aggT_91 : aggT Tryz.prog 91 = some true := by kernel_rfl
theorem Ty_szT_91 : szT Tryz.prog 91 = some 3 := by kernel_rfl
theorem Ty_zT_91 : zT Tryz.prog 91 = some [.junk, .num .i64 0, .num .i64 0] := by kernel_rfl
theorem Ty_bPl_91 : bPl Tryz.prog 91 = some [(0, 1), (1, 1), (2, 1)] := by kernel_rfl
theorem Ty_nestT_91 : nestT Tryz.prog 91 = false := by kernel_rfl
theorem Ty_stO_91_0 : stO Tryz.prog 91 0 = some 0 := by kernel_rfl
theorem Ty_stO_91_1 : stO Tryz.prog 91 1 = some 1 := by kernel_rfl
theorem Ty_stO_91_2 : stO Tryz.prog 91 2 = some 2 := by kernel_rfl
theorem Ty_kkT_91 : kkT Tryz.prog 91 = 3 := by kernel_rfl
theorem Ty_aggT_74 : aggT Tryz.prog 74 = some true := by kernel_rfl
theorem Ty_szT_74 : szT Tryz.prog 74 = some 2 := by kernel_rfl
theorem Ty_zT_74 : zT Tryz.prog 74 = some [.own [], .junk] := by kernel_rfl
theorem Ty_bPl_74 : bPl Tryz.prog 74 = some [(0, 1), (1, 1)] := by kernel_rfl
theorem Ty_nestT_74 : nestT Tryz.prog 74 = false := by kernel_rfl
theorem Ty_stO_74_0 : stO Tryz.prog 74 0 = some 0 := by kernel_rfl
theorem Ty_stO_74_1 : stO Tryz.prog 74 1 = some 1 := by kernel_rfl
theorem Ty_aggT_23 : aggT Tryz.prog 23 = some false := by kernel_rfl
theorem Ty_szT_23 : szT Tryz.prog 23 = some 1 := by kernel_rfl
theorem Ty_zT_23 : zT Tryz.prog 23 = some [.own []] := by kernel_rfl
theorem Ty_slE_23 : slE Tryz.prog 23 = some 3 := by kernel_rfl
theorem Ty_slOK_23 : slOK Tryz.prog 23 = true := by kernel_rfl
theorem Ty_slZ_23 : slZ Tryz.prog 23 = .num .i64 0 := by kernel_rfl
theorem Ty_mpT_23 : mpT Tryz.prog 23 = none := by kernel_rfl
theorem Ty_recT_23 : recT Tryz.prog 23 = 0 := by kernel_rfl
theorem Ty_aggT_25 : aggT Tryz.prog 25 = some false := by kernel_rfl
theorem Ty_szT_25 : szT Tryz.prog 25 = some 1 := by kernel_rfl
theorem Ty_zT_25 : zT Tryz.prog 25 = some [.own []] := by kernel_rfl
theorem Ty_slE_25 : slE Tryz.prog 25 = some 23 := by kernel_rfl
theorem Ty_slOK_25 : slOK Tryz.prog 25 = true := by kernel_rfl
theorem Ty_slZ_25 : slZ Tryz.prog 25 = .own [] := by kernel_rfl
theorem Ty_mpT_25 : mpT Tryz.prog 25 = none := by kernel_rfl
theorem Ty_recT_25 : recT Tryz.prog 25 = 0 := by kernel_rfl
theorem Ty_aggT_27 : aggT Tryz.prog 27 = some true := by kernel_rfl
theorem Ty_szT_27 : szT Tryz.prog 27 = some 2 := by kernel_rfl
theorem Ty_zT_27 : zT Tryz.prog 27 = some [.own [], .own []] := by kernel_rfl
theorem Ty_bPl_27 : bPl Tryz.prog 27 = some [(0, 1), (1, 1)] := by kernel_rfl
theorem Ty_nestT_27 : nestT Tryz.prog 27 = false := by kernel_rfl
theorem Ty_stO_27_0 : stO Tryz.prog 27 0 = some 0 := by kernel_rfl
theorem Ty_stO_27_1 : stO Tryz.prog 27 1 = some 1 := by kernel_rfl
theorem Ty_aggT_43 : aggT Tryz.prog 43 = some false := by kernel_rfl
theorem Ty_szT_43 : szT Tryz.prog 43 = some 1 := by kernel_rfl
theorem Ty_zT_43 : zT Tryz.prog 43 = some [.junk] := by kernel_rfl
theorem Ty_aggT_61 : aggT Tryz.prog 61 = some false := by kernel_rfl
theorem Ty_szT_61 : szT Tryz.prog 61 = some 1 := by kernel_rfl
theorem Ty_zT_61 : zT Tryz.prog 61 = some [.own []] := by kernel_rfl
theorem Ty_slE_61 : slE Tryz.prog 61 = some 43 := by kernel_rfl
theorem Ty_slOK_61 : slOK Tryz.prog 61 = true := by kernel_rfl
theorem Ty_slZ_61 : slZ Tryz.prog 61 = .junk := by kernel_rfl
theorem Ty_mpT_61 : mpT Tryz.prog 61 = none := by kernel_rfl
theorem Ty_recT_61 : recT Tryz.prog 61 = 0 := by kernel_rfl
theorem Ty_aggT_63 : aggT Tryz.prog 63 = some true := by kernel_rfl
theorem Ty_szT_63 : szT Tryz.prog 63 = some 2 := by kernel_rfl
theorem Ty_zT_63 : zT Tryz.prog 63 = some [.num .i64 0, .own []] := by kernel_rfl
theorem Ty_bPl_63 : bPl Tryz.prog 63 = some [(0, 1), (1, 1)] := by kernel_rfl
theorem Ty_nestT_63 : nestT Tryz.prog 63 = false := by kernel_rfl
theorem Ty_stO_63_0 : stO Tryz.prog 63 0 = some 0 := by kernel_rfl
theorem Ty_stO_63_1 : stO Tryz.prog 63 1 = some 1 := by kernel_rfl
theorem Ty_aggT_5 : aggT Tryz.prog 5 = some false := by kernel_rfl
theorem Ty_szT_5 : szT Tryz.prog 5 = some 1 := by kernel_rfl
theorem Ty_zT_5 : zT Tryz.prog 5 = some [.num .u8 0] := by kernel_rfl
theorem Ty_inT_5 : inT Tryz.prog 5 = some .u8 := by kernel_rfl
theorem Ty_aggT_22 : aggT Tryz.prog 22 = some false := by kernel_rfl
theorem Ty_szT_22 : szT Tryz.prog 22 = some 1 := by kernel_rfl
theorem Ty_zT_22 : zT Tryz.prog 22 = some [.own []] := by kernel_rfl
theorem Ty_slE_22 : slE Tryz.prog 22 = some 5 := by kernel_rfl
theorem Ty_slOK_22 : slOK Tryz.prog 22 = true := by kernel_rfl
theorem Ty_slZ_22 : slZ Tryz.prog 22 = .num .u8 0 := by kernel_rfl
theorem Ty_mpT_22 : mpT Tryz.prog 22 = none := by kernel_rfl
theorem Ty_recT_22 : recT Tryz.prog 22 = 0 := by kernel_rfl
theorem Ty_aggT_59 : aggT Tryz.prog 59 = some true := by kernel_rfl
theorem Ty_szT_59 : szT Tryz.prog 59 = some 2 := by kernel_rfl
theorem Ty_zT_59 : zT Tryz.prog 59 = some [.own [], .num .i64 0] := by kernel_rfl
theorem Ty_bPl_59 : bPl Tryz.prog 59 = some [(0, 1), (1, 1)] := by kernel_rfl
theorem Ty_nestT_59 : nestT Tryz.prog 59 = false := by kernel_rfl
theorem Ty_stO_59_0 : stO Tryz.prog 59 0 = some 0 := by kernel_rfl
theorem Ty_stO_59_1 : stO Tryz.prog 59 1 = some 1 := by kernel_rfl

theorem app_set_win (d : Nat) (e : Env) (s : Nat) (p : List Nat) (k : Nat) : (Wr.set d (AV.win s p k)).app e = upd e d (AV.win s p k) := rfl
theorem app_mod_win (s : Nat) (q : List Nat) (e : Env) (s' : Nat) (p : List Nat) (k : Nat) : (Wr.mod s q (AV.win s' p k)).app e = upd e s (setP (e s) q (AV.win s' p k)) := rfl
theorem app_set_pin (d : Nat) (e : Env) (A : AV) (v : Value) : (Wr.set d (AV.pin A v)).app e = upd e d (AV.pin A v) := rfl
theorem app_mod_pin (s : Nat) (q : List Nat) (e : Env) (A : AV) (v : Value) : (Wr.mod s q (AV.pin A v)).app e = upd e s (setP (e s) q (AV.pin A v)) := rfl
theorem app_set_omap (d : Nat) (e : Env) (ks vs : List AV) : (Wr.set d (AV.omap ks vs)).app e = upd (kill d [] e) d (AV.omap ks vs) := rfl
theorem app_mod_omap (s : Nat) (q : List Nat) (e : Env) (ks vs : List AV) : (Wr.mod s q (AV.omap ks vs)).app e = upd (kill s q e) s (setP (e s) q (AV.omap ks vs)) := rfl

end Go.Proofs.YtehdfifncbokeaaGreat
