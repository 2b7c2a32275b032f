/- Facts of the types. -/
import Derived.Test.YtehdfifncbokeaaGrpJ
import Derived.Test.YtehdfifncbokeaaProg
namespace Go.Proofs.Ytehdfifncbokeaa
set_option linter.unusedSimpArgs false
set_option linter.unusedVariables false
set_option maxRecDepth 8000
set_option maxHeartbeats 2000000
open Go Go.RowKit AV

theorem Try_mixed : Try.prog.follows .mixedOrders = true := by kernel_rfl

theorem xb : (∀ (p : Prop) [Decidable p], (decide p = true) = p) ∧ (∀ (p : Prop) [Decidable p], (decide p = false) = ¬ p) ∧ (∀ b : Bool, ((!b) = true) = (b = false)) ∧ (∀ b : Bool, ((!b) = false) = (b = true)) := ⟨by simp, by simp, by simp, by simp⟩
theorem xl : (∀ (α : Type) (l m : List α), (l ++ m).length = l.length + m.length) ∧ (∀ (α β : Type) (f : α → β) (l : List α), (l.map f).length = l.length) ∧ (∀ (α : Type) (k : Nat) (l : List α), (l.take k).length = min k l.length) ∧ (∀ (α : Type) (k : Nat) (l : List α), (l.drop k).length = l.length - k) ∧ (∀ (α : Type) (a : α) (l : List α), (a :: l).length = l.length + 1) ∧ (∀ α : Type, ([] : List α).length = 0) ∧ (∀ (α : Type) (n : Nat) (a : α), (List.replicate n a).length = n) :=
  ⟨fun _ _ _ => List.length_append, fun _ _ _ _ => List.length_map .., fun _ _ _ => List.length_take, fun _ _ _ => List.length_drop, fun _ _ _ => rfl, fun _ => rfl, fun _ _ _ => List.length_replicate⟩
theorem xs : (∀ (N : Env → Prop) (Q : QA) (e : Env), thenA N Q .normal e = N e) ∧ (∀ (N : Env → Prop) (Q : QA) (i : Nat) (e : Env), thenA N Q (.exit i) e = Q (.exit i) e) ∧ (∀ (N : Env → Prop) (Q : QA) (e : Env), thenA N Q .ret e = Q .ret e) ∧ (∀ (i : Nat) (Q : QA) (e : Env), inBlockA i Q .normal e = Q .normal e) ∧ (∀ (i j : Nat) (Q : QA) (e : Env), inBlockA i Q (.exit j) e = if j = i then Q .normal e else Q (.exit j) e) ∧ (∀ (i : Nat) (Q : QA) (e : Env), inBlockA i Q .ret e = Q .ret e) ∧ (∀ (P : Program) (rs : List ResultVar) (r : AV) (e : Env), retQ P rs r .ret e = RetOK P rs e r) ∧ (∀ (P : Program) (rs : List ResultVar) (r : AV) (e : Env), retQ P rs r .normal e = RetOK P rs e r) ∧ (∀ (rs : List ResultVar) (r A : AV) (e : Env), retE rs r A .ret e = (RetP rs e r ∧ backA e A)) ∧ (∀ (rs : List ResultVar) (r A : AV) (e : Env), retE rs r A .normal e = (RetP rs e r ∧ backA e A)) :=
  ⟨fun _ _ _ => rfl, fun _ _ _ _ => rfl, fun _ _ _ => rfl, fun _ _ _ => rfl, fun _ _ _ _ => rfl, fun _ _ _ => rfl, fun _ _ _ _ => rfl, fun _ _ _ _ => rfl, fun _ _ _ _ => rfl, fun _ _ _ _ => rfl⟩

theorem Ty_aggT_3 : aggT Try.prog 3 = some false := by kernel_rfl
theorem Ty_szT_3 : szT Try.prog 3 = some 1 := by kernel_rfl
theorem Ty_zT_3 : zT Try.prog 3 = some [.num .i64 0] := by kernel_rfl
theorem Ty_inT_3 : inT Try.prog 3 = some .i64 := by kernel_rfl
theorem Ty_kkT_3 : kkT Try.prog 3 = 1 := by kernel_rfl
theorem Ty_zOf_3 : zOf Try.prog 3 = .num .i64 0 := by kernel_rfl
theorem Ty_aggT_4 : aggT Try.prog 4 = some false := by kernel_rfl
theorem Ty_szT_4 : szT Try.prog 4 = some 1 := by kernel_rfl
theorem Ty_zT_4 : zT Try.prog 4 = some [.bool false] := by kernel_rfl
theorem Ty_boT_4 : boT Try.prog 4 = true := by kernel_rfl
theorem Ty_zOf_4 : zOf Try.prog 4 = .bool false := by kernel_rfl
theorem Ty_mpT_64 : mpT Try.prog 64 = some (72, 4) := by kernel_rfl
theorem Ty_aggT_72 : aggT Try.prog 72 = some true := by kernel_rfl
theorem Ty_szT_72 : szT Try.prog 72 = some 3 := by kernel_rfl
theorem Ty_zT_72 : zT Try.prog 72 = some [.junk, .num .i64 0, .num .i64 0] := by kernel_rfl
theorem Ty_bPl_72 : bPl Try.prog 72 = some [(0, 1), (1, 1), (2, 1)] := by kernel_rfl
theorem Ty_nestT_72 : nestT Try.prog 72 = false := by kernel_rfl
theorem Ty_stO_72_0 : stO Try.prog 72 0 = some 0 := by kernel_rfl
theorem Ty_stO_72_1 : stO Try.prog 72 1 = some 1 := by kernel_rfl
theorem Ty_stO_72_2 : stO Try.prog 72 2 = some 2 := by kernel_rfl
theorem Ty_kkT_72 : kkT Try.prog 72 = 3 := by kernel_rfl
theorem Ty_aggT_66 : aggT Try.prog 66 = some true := by kernel_rfl
theorem Ty_szT_66 : szT Try.prog 66 = some 2 := by kernel_rfl
theorem Ty_zT_66 : zT Try.prog 66 = some [.own [], .junk] := by kernel_rfl
theorem Ty_bPl_66 : bPl Try.prog 66 = some [(0, 1), (1, 1)] := by kernel_rfl
theorem Ty_nestT_66 : nestT Try.prog 66 = false := by kernel_rfl
theorem Ty_stO_66_0 : stO Try.prog 66 0 = some 0 := by kernel_rfl
theorem Ty_stO_66_1 : stO Try.prog 66 1 = some 1 := by kernel_rfl
theorem Ty_aggT_23 : aggT Try.prog 23 = some false := by kernel_rfl
theorem Ty_szT_23 : szT Try.prog 23 = some 1 := by kernel_rfl
theorem Ty_zT_23 : zT Try.prog 23 = some [.own []] := by kernel_rfl
theorem Ty_slE_23 : slE Try.prog 23 = some 3 := by kernel_rfl
theorem Ty_slOK_23 : slOK Try.prog 23 = true := by kernel_rfl
theorem Ty_slZ_23 : slZ Try.prog 23 = .num .i64 0 := by kernel_rfl
theorem Ty_mpT_23 : mpT Try.prog 23 = none := by kernel_rfl
theorem Ty_recT_23 : recT Try.prog 23 = 0 := by kernel_rfl
theorem Ty_aggT_33 : aggT Try.prog 33 = some false := by kernel_rfl
theorem Ty_szT_33 : szT Try.prog 33 = some 1 := by kernel_rfl
theorem Ty_zT_33 : zT Try.prog 33 = some [.own []] := by kernel_rfl
theorem Ty_slE_33 : slE Try.prog 33 = some 23 := by kernel_rfl
theorem Ty_slOK_33 : slOK Try.prog 33 = true := by kernel_rfl
theorem Ty_slZ_33 : slZ Try.prog 33 = .own [] := by kernel_rfl
theorem Ty_mpT_33 : mpT Try.prog 33 = none := by kernel_rfl
theorem Ty_recT_33 : recT Try.prog 33 = 0 := by kernel_rfl
theorem Ty_aggT_38 : aggT Try.prog 38 = some false := by kernel_rfl
theorem Ty_szT_38 : szT Try.prog 38 = some 1 := by kernel_rfl
theorem Ty_zT_38 : zT Try.prog 38 = some [.junk] := by kernel_rfl
theorem Ty_aggT_54 : aggT Try.prog 54 = some false := by kernel_rfl
theorem Ty_szT_54 : szT Try.prog 54 = some 1 := by kernel_rfl
theorem Ty_zT_54 : zT Try.prog 54 = some [.own []] := by kernel_rfl
theorem Ty_slE_54 : slE Try.prog 54 = some 38 := by kernel_rfl
theorem Ty_slOK_54 : slOK Try.prog 54 = true := by kernel_rfl
theorem Ty_slZ_54 : slZ Try.prog 54 = .junk := by kernel_rfl
theorem Ty_mpT_54 : mpT Try.prog 54 = none := by kernel_rfl
theorem Ty_recT_54 : recT Try.prog 54 = 0 := by kernel_rfl
theorem Ty_aggT_56 : aggT Try.prog 56 = some true := by kernel_rfl
theorem Ty_szT_56 : szT Try.prog 56 = some 2 := by kernel_rfl
theorem Ty_zT_56 : zT Try.prog 56 = some [.num .i64 0, .own []] := by kernel_rfl
theorem Ty_bPl_56 : bPl Try.prog 56 = some [(0, 1), (1, 1)] := by kernel_rfl
theorem Ty_nestT_56 : nestT Try.prog 56 = false := by kernel_rfl
theorem Ty_stO_56_0 : stO Try.prog 56 0 = some 0 := by kernel_rfl
theorem Ty_stO_56_1 : stO Try.prog 56 1 = some 1 := by kernel_rfl
theorem Ty_aggT_5 : aggT Try.prog 5 = some false := by kernel_rfl
theorem Ty_szT_5 : szT Try.prog 5 = some 1 := by kernel_rfl
theorem Ty_zT_5 : zT Try.prog 5 = some [.num .u8 0] := by kernel_rfl
theorem Ty_inT_5 : inT Try.prog 5 = some .u8 := by kernel_rfl
theorem Ty_aggT_22 : aggT Try.prog 22 = some false := by kernel_rfl
theorem Ty_szT_22 : szT Try.prog 22 = some 1 := by kernel_rfl
theorem Ty_zT_22 : zT Try.prog 22 = some [.own []] := by kernel_rfl
theorem Ty_slE_22 : slE Try.prog 22 = some 5 := by kernel_rfl
theorem Ty_slOK_22 : slOK Try.prog 22 = true := by kernel_rfl
theorem Ty_slZ_22 : slZ Try.prog 22 = .num .u8 0 := by kernel_rfl
theorem Ty_mpT_22 : mpT Try.prog 22 = none := by kernel_rfl
theorem Ty_recT_22 : recT Try.prog 22 = 0 := by kernel_rfl
theorem Ty_aggT_59 : aggT Try.prog 59 = some true := by kernel_rfl
theorem Ty_szT_59 : szT Try.prog 59 = some 2 := by kernel_rfl
theorem Ty_zT_59 : zT Try.prog 59 = some [.own [], .num .i64 0] := by kernel_rfl
theorem Ty_bPl_59 : bPl Try.prog 59 = some [(0, 1), (1, 1)] := by kernel_rfl
theorem Ty_nestT_59 : nestT Try.prog 59 = false := by kernel_rfl
theorem Ty_stO_59_0 : stO Try.prog 59 0 = some 0 := by kernel_rfl
theorem Ty_stO_59_1 : stO Try.prog 59 1 = some 1 := by kernel_rfl

theorem app_set_win (d : Nat) (e : Env) (s : Nat) (p : List Nat) (k : Nat) : (Wr.set d (AV.win s p k)).app e = upd e d (AV.win s p k) := rfl
theorem app_mod_win (s : Nat) (q : List Nat) (e : Env) (s' : Nat) (p : List Nat) (k : Nat) : (Wr.mod s q (AV.win s' p k)).app e = upd e s (setP (e s) q (AV.win s' p k)) := rfl
theorem app_set_pin (d : Nat) (e : Env) (A : AV) (v : Value) : (Wr.set d (AV.pin A v)).app e = upd e d (AV.pin A v) := rfl
theorem app_mod_pin (s : Nat) (q : List Nat) (e : Env) (A : AV) (v : Value) : (Wr.mod s q (AV.pin A v)).app e = upd e s (setP (e s) q (AV.pin A v)) := rfl
theorem app_set_omap (d : Nat) (e : Env) (ks vs : List AV) : (Wr.set d (AV.omap ks vs)).app e = upd (kill d [] e) d (AV.omap ks vs) := rfl
theorem app_mod_omap (s : Nat) (q : List Nat) (e : Env) (ks vs : List AV) : (Wr.mod s q (AV.omap ks vs)).app e = upd (kill s q e) s (setP (e s) q (AV.omap ks vs)) := rfl

end Go.Proofs.Ytehdfifncbokeaa
