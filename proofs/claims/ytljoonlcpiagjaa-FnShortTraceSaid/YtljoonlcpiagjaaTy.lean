/- Facts of the types. -/
import Derived.Test.YtljoonlcpiagjaaGrpJ
import Derived.Test.YtljoonlcpiagjaaProg
namespace Go.Proofs.Ytljoonlcpiagjaa
set_option linter.unusedSimpArgs false
set_option linter.unusedVariables false
set_option maxRecDepth 8000
set_option maxHeartbeats 2000000
open Go Go.RowKit AV

theorem Try_mixed : Try.prog.follows .mixedOrders = true := by kernel_rfl

theorem xb : (∀ (p : Prop) [Decidable p], (decide p = true) = p) ∧ (∀ (p : Prop) [Decidable p], (decide p = false) = ¬ p) ∧ (∀ b : Bool, ((!b) = true) = (b = false)) ∧ (∀ b : Bool, ((!b) = false) = (b = true)) := ⟨by simp, by simp, by simp, by simp⟩
theorem xl : (∀ (α : Type) (l m : List α), (l ++ m).length = l.length + m.length) ∧ (∀ (α β : Type) (f : α → β) (l : List α), (l.map f).length = l.length) ∧ (∀ (α : Type) (k : Nat) (l : List α), (l.take k).length = min k l.length) ∧ (∀ (α : Type) (k : Nat) (l : List α), (l.drop k).length = l.length - k) ∧ (∀ (α : Type) (a : α) (l : List α), (a :: l).length = l.length + 1) ∧ (∀ α : Type, ([] : List α).length = 0) ∧ (∀ (α : Type) (n : Nat) (a : α), (List.replicate n a).length = n) :=
  ⟨fun _ _ _ => List.length_append, fun _ _ _ _ => List.length_map .., fun _ _ _ => List.length_take, fun _ _ _ => List.length_drop, fun _ _ _ => rfl, fun _ => rfl, fun _ _ _ => List.length_replicate⟩
theorem xs : (∀ (N : Env → Prop) (Q : QA) (e : Env), thenA N Q .normal e = N e) ∧ (∀ (N : Env → Prop) (Q : QA) (i : Nat) (e : Env), thenA N Q (.exit i) e = Q (.exit i) e) ∧ (∀ (N : Env → Prop) (Q : QA) (e : Env), thenA N Q .ret e = Q .ret e) ∧ (∀ (i : Nat) (Q : QA) (e : Env), inBlockA i Q .normal e = Q .normal e) ∧ (∀ (i j : Nat) (Q : QA) (e : Env), inBlockA i Q (.exit j) e = if j = i then Q .normal e else Q (.exit j) e) ∧ (∀ (i : Nat) (Q : QA) (e : Env), inBlockA i Q .ret e = Q .ret e) ∧ (∀ (P : Program) (rs : List ResultVar) (r : AV) (e : Env), retQ P rs r .ret e = RetOK P rs e r) ∧ (∀ (P : Program) (rs : List ResultVar) (r : AV) (e : Env), retQ P rs r .normal e = RetOK P rs e r) ∧ (∀ (rs : List ResultVar) (r A : AV) (e : Env), retE rs r A .ret e = (RetP rs e r ∧ backA e A)) ∧ (∀ (rs : List ResultVar) (r A : AV) (e : Env), retE rs r A .normal e = (RetP rs e r ∧ backA e A)) :=
  ⟨fun _ _ _ => rfl, fun _ _ _ _ => rfl, fun _ _ _ => rfl, fun _ _ _ => rfl, fun _ _ _ _ => rfl, fun _ _ _ => rfl, fun _ _ _ _ => rfl, fun _ _ _ _ => rfl, fun _ _ _ _ => rfl, fun _ _ _ _ => rfl⟩

theorem Ty_aggT_3 : aggT Try.prog 3 = some false := by kernel_rfl
theorem Ty_szT_3 : szT Try.prog 3 = some 1 := by kernel_rfl
theorem Ty_zT_3 : zT Try.prog 3 = some [.num .i64 0] := by kernel_rfl
theorem Ty_inT_3 : inT Try.prog 3 = some .i64 := by kernel_rfl
theorem Ty_kkT_3 : kkT Try.prog 3 = 1 := by kernel_rfl
theorem Ty_zOf_3 : zOf Try.prog 3 = .num .i64 0 := by kernel_rfl
theorem Ty_aggT_4 : aggT Try.prog 4 = some false := by kernel_rfl
theorem Ty_szT_4 : szT Try.prog 4 = some 1 := by kernel_rfl
theorem Ty_zT_4 : zT Try.prog 4 = some [.bool false] := by kernel_rfl
theorem Ty_boT_4 : boT Try.prog 4 = true := by kernel_rfl
theorem Ty_zOf_4 : zOf Try.prog 4 = .bool false := by kernel_rfl
theorem Ty_mpT_71 : mpT Try.prog 71 = some (3, 3) := by kernel_rfl
theorem Ty_mpT_104 : mpT Try.prog 104 = some (3, 4) := by kernel_rfl
theorem Ty_mpT_82 : mpT Try.prog 82 = some (84, 4) := by kernel_rfl
theorem Ty_mpT_90 : mpT Try.prog 90 = some (92, 4) := by kernel_rfl
theorem Ty_aggT_84 : aggT Try.prog 84 = some true := by kernel_rfl
theorem Ty_szT_84 : szT Try.prog 84 = some 2 := by kernel_rfl
theorem Ty_zT_84 : zT Try.prog 84 = some [.num .i64 0, .num .i64 0] := by kernel_rfl
theorem Ty_bPl_84 : bPl Try.prog 84 = some [(0, 1), (1, 1)] := by kernel_rfl
theorem Ty_stO_84_0 : stO Try.prog 84 0 = some 0 := by kernel_rfl
theorem Ty_stO_84_1 : stO Try.prog 84 1 = some 1 := by kernel_rfl
theorem Ty_kkT_84 : kkT Try.prog 84 = 2 := by kernel_rfl
theorem Ty_aggT_92 : aggT Try.prog 92 = some true := by kernel_rfl
theorem Ty_szT_92 : szT Try.prog 92 = some 2 := by kernel_rfl
theorem Ty_zT_92 : zT Try.prog 92 = some [.num .i64 0, .num .i64 0] := by kernel_rfl
theorem Ty_bPl_92 : bPl Try.prog 92 = some [(0, 1), (1, 1)] := by kernel_rfl
theorem Ty_stO_92_0 : stO Try.prog 92 0 = some 0 := by kernel_rfl
theorem Ty_stO_92_1 : stO Try.prog 92 1 = some 1 := by kernel_rfl
theorem Ty_kkT_92 : kkT Try.prog 92 = 2 := by kernel_rfl
theorem Ty_aggT_23 : aggT Try.prog 23 = some false := by kernel_rfl
theorem Ty_szT_23 : szT Try.prog 23 = some 1 := by kernel_rfl
theorem Ty_zT_23 : zT Try.prog 23 = some [.own []] := by kernel_rfl
theorem Ty_slE_23 : slE Try.prog 23 = some 3 := by kernel_rfl
theorem Ty_slOK_23 : slOK Try.prog 23 = true := by kernel_rfl
theorem Ty_slZ_23 : slZ Try.prog 23 = .num .i64 0 := by kernel_rfl
theorem Ty_mpT_23 : mpT Try.prog 23 = none := by kernel_rfl
theorem Ty_recT_23 : recT Try.prog 23 = 0 := by kernel_rfl
theorem Ty_aggT_24 : aggT Try.prog 24 = some false := by kernel_rfl
theorem Ty_szT_24 : szT Try.prog 24 = some 1 := by kernel_rfl
theorem Ty_zT_24 : zT Try.prog 24 = some [.own []] := by kernel_rfl
theorem Ty_slE_24 : slE Try.prog 24 = some 23 := by kernel_rfl
theorem Ty_slOK_24 : slOK Try.prog 24 = true := by kernel_rfl
theorem Ty_slZ_24 : slZ Try.prog 24 = .own [] := by kernel_rfl
theorem Ty_mpT_24 : mpT Try.prog 24 = none := by kernel_rfl
theorem Ty_recT_24 : recT Try.prog 24 = 0 := by kernel_rfl
theorem Ty_aggT_26 : aggT Try.prog 26 = some true := by kernel_rfl
theorem Ty_szT_26 : szT Try.prog 26 = some 2 := by kernel_rfl
theorem Ty_zT_26 : zT Try.prog 26 = some [.own [], .own []] := by kernel_rfl
theorem Ty_bPl_26 : bPl Try.prog 26 = some [(0, 1), (1, 1)] := by kernel_rfl
theorem Ty_stO_26_0 : stO Try.prog 26 0 = some 0 := by kernel_rfl
theorem Ty_stO_26_1 : stO Try.prog 26 1 = some 1 := by kernel_rfl
theorem Ty_aggT_51 : aggT Try.prog 51 = some true := by kernel_rfl
theorem Ty_szT_51 : szT Try.prog 51 = some 2 := by kernel_rfl
theorem Ty_zT_51 : zT Try.prog 51 = some [.own [], .own []] := by kernel_rfl
theorem Ty_bPl_51 : bPl Try.prog 51 = some [(0, 1), (1, 1)] := by kernel_rfl
theorem Ty_stO_51_0 : stO Try.prog 51 0 = some 0 := by kernel_rfl
theorem Ty_stO_51_1 : stO Try.prog 51 1 = some 1 := by kernel_rfl
theorem Ty_aggT_109 : aggT Try.prog 109 = some false := by kernel_rfl
theorem Ty_szT_109 : szT Try.prog 109 = some 1 := by kernel_rfl
theorem Ty_zT_109 : zT Try.prog 109 = some [.junk] := by kernel_rfl
theorem Ty_aggT_123 : aggT Try.prog 123 = some false := by kernel_rfl
theorem Ty_szT_123 : szT Try.prog 123 = some 1 := by kernel_rfl
theorem Ty_zT_123 : zT Try.prog 123 = some [.own []] := by kernel_rfl
theorem Ty_slE_123 : slE Try.prog 123 = some 109 := by kernel_rfl
theorem Ty_slOK_123 : slOK Try.prog 123 = true := by kernel_rfl
theorem Ty_slZ_123 : slZ Try.prog 123 = .junk := by kernel_rfl
theorem Ty_mpT_123 : mpT Try.prog 123 = none := by kernel_rfl
theorem Ty_recT_123 : recT Try.prog 123 = 0 := by kernel_rfl
theorem Ty_aggT_125 : aggT Try.prog 125 = some true := by kernel_rfl
theorem Ty_szT_125 : szT Try.prog 125 = some 2 := by kernel_rfl
theorem Ty_zT_125 : zT Try.prog 125 = some [.num .i64 0, .own []] := by kernel_rfl
theorem Ty_bPl_125 : bPl Try.prog 125 = some [(0, 1), (1, 1)] := by kernel_rfl
theorem Ty_stO_125_0 : stO Try.prog 125 0 = some 0 := by kernel_rfl
theorem Ty_stO_125_1 : stO Try.prog 125 1 = some 1 := by kernel_rfl
theorem Ty_aggT_5 : aggT Try.prog 5 = some false := by kernel_rfl
theorem Ty_szT_5 : szT Try.prog 5 = some 1 := by kernel_rfl
theorem Ty_zT_5 : zT Try.prog 5 = some [.num .u8 0] := by kernel_rfl
theorem Ty_inT_5 : inT Try.prog 5 = some .u8 := by kernel_rfl
theorem Ty_aggT_22 : aggT Try.prog 22 = some false := by kernel_rfl
theorem Ty_szT_22 : szT Try.prog 22 = some 1 := by kernel_rfl
theorem Ty_zT_22 : zT Try.prog 22 = some [.own []] := by kernel_rfl
theorem Ty_slE_22 : slE Try.prog 22 = some 5 := by kernel_rfl
theorem Ty_slOK_22 : slOK Try.prog 22 = true := by kernel_rfl
theorem Ty_slZ_22 : slZ Try.prog 22 = .num .u8 0 := by kernel_rfl
theorem Ty_mpT_22 : mpT Try.prog 22 = none := by kernel_rfl
theorem Ty_recT_22 : recT Try.prog 22 = 0 := by kernel_rfl
theorem Ty_recT_103 : recT Try.prog 103 = 2 := by kernel_rfl
theorem Ty_mpT_103 : mpT Try.prog 103 = none := by kernel_rfl
theorem Ty_slE_103 : slE Try.prog 103 = some 102 := by kernel_rfl
theorem Ty_aggT_102 : aggT Try.prog 102 = some true := by kernel_rfl
theorem Ty_szT_102 : szT Try.prog 102 = some 2 := by kernel_rfl
theorem Ty_zT_102 : zT Try.prog 102 = some [.num .i64 0, .own []] := by kernel_rfl
theorem Ty_bPl_102 : bPl Try.prog 102 = some [(0, 1), (1, 1)] := by kernel_rfl
theorem Ty_stO_102_0 : stO Try.prog 102 0 = some 0 := by kernel_rfl
theorem Ty_stO_102_1 : stO Try.prog 102 1 = some 1 := by kernel_rfl
theorem Ty_aggT_97 : aggT Try.prog 97 = some true := by kernel_rfl
theorem Ty_szT_97 : szT Try.prog 97 = some 2 := by kernel_rfl
theorem Ty_zT_97 : zT Try.prog 97 = some [.own [], .num .i64 0] := by kernel_rfl
theorem Ty_bPl_97 : bPl Try.prog 97 = some [(0, 1), (1, 1)] := by kernel_rfl
theorem Ty_stO_97_0 : stO Try.prog 97 0 = some 0 := by kernel_rfl
theorem Ty_stO_97_1 : stO Try.prog 97 1 = some 1 := by kernel_rfl

theorem app_set_win (d : Nat) (e : Env) (s : Nat) (p : List Nat) (k : Nat) : (Wr.set d (AV.win s p k)).app e = upd e d (AV.win s p k) := rfl
theorem app_mod_win (s : Nat) (q : List Nat) (e : Env) (s' : Nat) (p : List Nat) (k : Nat) : (Wr.mod s q (AV.win s' p k)).app e = upd e s (setP (e s) q (AV.win s' p k)) := rfl
theorem app_set_pin (d : Nat) (e : Env) (A : AV) (v : Value) : (Wr.set d (AV.pin A v)).app e = upd e d (AV.pin A v) := rfl
theorem app_mod_pin (s : Nat) (q : List Nat) (e : Env) (A : AV) (v : Value) : (Wr.mod s q (AV.pin A v)).app e = upd e s (setP (e s) q (AV.pin A v)) := rfl
theorem app_set_omap (d : Nat) (e : Env) (ks vs : List AV) : (Wr.set d (AV.omap ks vs)).app e = upd (kill d [] e) d (AV.omap ks vs) := rfl
theorem app_mod_omap (s : Nat) (q : List Nat) (e : Env) (ks vs : List AV) : (Wr.mod s q (AV.omap ks vs)).app e = upd (kill s q e) s (setP (e s) q (AV.omap ks vs)) := rfl

end Go.Proofs.Ytljoonlcpiagjaa
