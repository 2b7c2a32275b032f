/- Facts of the types. -/
import Derived.Test.YtmhiipmajlmlgaaGrpJ
import Derived.Test.YtmhiipmajlmlgaaProg
namespace Go.Proofs.Ytmhiipmajlmlgaa
set_option linter.unusedSimpArgs false
set_option linter.unusedVariables false
set_option maxRecDepth 8000
set_option maxHeartbeats 2000000
open Go Go.RowKit AV

theorem Try_mixed : Try.prog.follows .mixedOrders = true := by kernel_rfl

theorem xb : (∀ (p : Prop) [Decidable p], (decide p = true) = p) ∧ (∀ (p : Prop) [Decidable p], (decide p = false) = ¬ p) ∧ (∀ b : Bool, ((!b) = true) = (b = false)) ∧ (∀ b : Bool, ((!b) = false) = (b = true)) := ⟨by simp, by simp, by simp, by simp⟩
theorem xl : (∀ (α : Type) (l m : List α), (l ++ m).length = l.length + m.length) ∧ (∀ (α β : Type) (f : α → β) (l : List α), (l.map f).length = l.length) ∧ (∀ (α : Type) (k : Nat) (l : List α), (l.take k).length = min k l.length) ∧ (∀ (α : Type) (k : Nat) (l : List α), (l.drop k).length = l.length - k) ∧ (∀ (α : Type) (a : α) (l : List α), (a :: l).length = l.length + 1) ∧ (∀ α : Type, ([] : List α).length = 0) ∧ (∀ (α : Type) (n : Nat) (a : α), (List.replicate n a).length = n) :=
  ⟨fun _ _ _ => List.length_append, fun _ _ _ _ => List.length_map .., fun _ _ _ => List.length_take, fun _ _ _ => List.length_drop, fun _ _ _ => rfl, fun _ => rfl, fun _ _ _ => List.length_replicate⟩
theorem xs : (∀ (N : Env → Prop) (Q : QA) (e : Env), thenA N Q .normal e = N e) ∧ (∀ (N : Env → Prop) (Q : QA) (i : Nat) (e : Env), thenA N Q (.exit i) e = Q (.exit i) e) ∧ (∀ (N : Env → Prop) (Q : QA) (e : Env), thenA N Q .ret e = Q .ret e) ∧ (∀ (i : Nat) (Q : QA) (e : Env), inBlockA i Q .normal e = Q .normal e) ∧ (∀ (i j : Nat) (Q : QA) (e : Env), inBlockA i Q (.exit j) e = if j = i then Q .normal e else Q (.exit j) e) ∧ (∀ (i : Nat) (Q : QA) (e : Env), inBlockA i Q .ret e = Q .ret e) ∧ (∀ (P : Program) (rs : List ResultVar) (r : AV) (e : Env), retQ P rs r .ret e = RetOK P rs e r) ∧ (∀ (P : Program) (rs : List ResultVar) (r : AV) (e : Env), retQ P rs r .normal e = RetOK P rs e r) ∧ (∀ (rs : List ResultVar) (r A : AV) (e : Env), retE rs r A .ret e = (RetP rs e r ∧ backA e A)) ∧ (∀ (rs : List ResultVar) (r A : AV) (e : Env), retE rs r A .normal e = (RetP rs e r ∧ backA e A)) :=
  ⟨fun _ _ _ => rfl, fun _ _ _ _ => rfl, fun _ _ _ => rfl, fun _ _ _ => rfl, fun _ _ _ _ => rfl, fun _ _ _ => rfl, fun _ _ _ _ => rfl, fun _ _ _ _ => rfl, fun _ _ _ _ => rfl, fun _ _ _ _ => rfl⟩

theorem Ty_aggT_3 : aggT Try.prog 3 = some false := by kernel_rfl
theorem Ty_szT_3 : szT Try.prog 3 = some 1 := by kernel_rfl
theorem Ty_zT_3 : zT Try.prog 3 = some [.num .i64 0] := by kernel_rfl
theorem Ty_inT_3 : inT Try.prog 3 = some .i64 := by kernel_rfl
theorem Ty_kkT_3 : kkT Try.prog 3 = 1 := by kernel_rfl
theorem Ty_zOf_3 : zOf Try.prog 3 = .num .i64 0 := by kernel_rfl
theorem Ty_aggT_4 : aggT Try.prog 4 = some false := by kernel_rfl
theorem Ty_szT_4 : szT Try.prog 4 = some 1 := by kernel_rfl
theorem Ty_zT_4 : zT Try.prog 4 = some [.bool false] := by kernel_rfl
theorem Ty_boT_4 : boT Try.prog 4 = true := by kernel_rfl
theorem Ty_zOf_4 : zOf Try.prog 4 = .bool false := by kernel_rfl
theorem Ty_mpT_92 : mpT Try.prog 92 = some (60, 4) := by kernel_rfl
theorem Ty_mpT_101 : mpT Try.prog 101 = some (112, 4) := by kernel_rfl
theorem Ty_aggT_112 : aggT Try.prog 112 = some true := by kernel_rfl
theorem Ty_szT_112 : szT Try.prog 112 = some 3 := by kernel_rfl
theorem Ty_zT_112 : zT Try.prog 112 = some [.junk, .num .i64 0, .num .i64 0] := by kernel_rfl
theorem Ty_bPl_112 : bPl Try.prog 112 = some [(0, 1), (1, 1), (2, 1)] := by kernel_rfl
theorem Ty_nestT_112 : nestT Try.prog 112 = false := by kernel_rfl
theorem Ty_stO_112_0 : stO Try.prog 112 0 = some 0 := by kernel_rfl
theorem Ty_stO_112_1 : stO Try.prog 112 1 = some 1 := by kernel_rfl
theorem Ty_stO_112_2 : stO Try.prog 112 2 = some 2 := by kernel_rfl
theorem Ty_kkT_112 : kkT Try.prog 112 = 3 := by kernel_rfl
theorem Ty_aggT_103 : aggT Try.prog 103 = some true := by kernel_rfl
theorem Ty_szT_103 : szT Try.prog 103 = some 2 := by kernel_rfl
theorem Ty_zT_103 : zT Try.prog 103 = some [.own [], .junk] := by kernel_rfl
theorem Ty_bPl_103 : bPl Try.prog 103 = some [(0, 1), (1, 1)] := by kernel_rfl
theorem Ty_nestT_103 : nestT Try.prog 103 = false := by kernel_rfl
theorem Ty_stO_103_0 : stO Try.prog 103 0 = some 0 := by kernel_rfl
theorem Ty_stO_103_1 : stO Try.prog 103 1 = some 1 := by kernel_rfl
theorem Ty_aggT_60 : aggT Try.prog 60 = some true := by kernel_rfl
theorem Ty_szT_60 : szT Try.prog 60 = some 2 := by kernel_rfl
theorem Ty_zT_60 : zT Try.prog 60 = some [.num .i64 0, .num .i64 0] := by kernel_rfl
theorem Ty_bPl_60 : bPl Try.prog 60 = some [(0, 1), (1, 1)] := by kernel_rfl
theorem Ty_nestT_60 : nestT Try.prog 60 = false := by kernel_rfl
theorem Ty_stO_60_0 : stO Try.prog 60 0 = some 0 := by kernel_rfl
theorem Ty_stO_60_1 : stO Try.prog 60 1 = some 1 := by kernel_rfl
theorem Ty_kkT_60 : kkT Try.prog 60 = 2 := by kernel_rfl
theorem Ty_aggT_23 : aggT Try.prog 23 = some false := by kernel_rfl
theorem Ty_szT_23 : szT Try.prog 23 = some 1 := by kernel_rfl
theorem Ty_zT_23 : zT Try.prog 23 = some [.own []] := by kernel_rfl
theorem Ty_slE_23 : slE Try.prog 23 = some 3 := by kernel_rfl
theorem Ty_slOK_23 : slOK Try.prog 23 = true := by kernel_rfl
theorem Ty_slZ_23 : slZ Try.prog 23 = .num .i64 0 := by kernel_rfl
theorem Ty_mpT_23 : mpT Try.prog 23 = none := by kernel_rfl
theorem Ty_recT_23 : recT Try.prog 23 = 0 := by kernel_rfl
theorem Ty_aggT_26 : aggT Try.prog 26 = some false := by kernel_rfl
theorem Ty_szT_26 : szT Try.prog 26 = some 1 := by kernel_rfl
theorem Ty_zT_26 : zT Try.prog 26 = some [.own []] := by kernel_rfl
theorem Ty_slE_26 : slE Try.prog 26 = some 23 := by kernel_rfl
theorem Ty_slOK_26 : slOK Try.prog 26 = true := by kernel_rfl
theorem Ty_slZ_26 : slZ Try.prog 26 = .own [] := by kernel_rfl
theorem Ty_mpT_26 : mpT Try.prog 26 = none := by kernel_rfl
theorem Ty_recT_26 : recT Try.prog 26 = 0 := by kernel_rfl
theorem Ty_aggT_31 : aggT Try.prog 31 = some true := by kernel_rfl
theorem Ty_szT_31 : szT Try.prog 31 = some 2 := by kernel_rfl
theorem Ty_zT_31 : zT Try.prog 31 = some [.own [], .own []] := by kernel_rfl
theorem Ty_bPl_31 : bPl Try.prog 31 = some [(0, 1), (1, 1)] := by kernel_rfl
theorem Ty_nestT_31 : nestT Try.prog 31 = false := by kernel_rfl
theorem Ty_stO_31_0 : stO Try.prog 31 0 = some 0 := by kernel_rfl
theorem Ty_stO_31_1 : stO Try.prog 31 1 = some 1 := by kernel_rfl
theorem Ty_aggT_65 : aggT Try.prog 65 = some false := by kernel_rfl
theorem Ty_szT_65 : szT Try.prog 65 = some 1 := by kernel_rfl
theorem Ty_zT_65 : zT Try.prog 65 = some [.junk] := by kernel_rfl
theorem Ty_aggT_94 : aggT Try.prog 94 = some false := by kernel_rfl
theorem Ty_szT_94 : szT Try.prog 94 = some 1 := by kernel_rfl
theorem Ty_zT_94 : zT Try.prog 94 = some [.own []] := by kernel_rfl
theorem Ty_slE_94 : slE Try.prog 94 = some 65 := by kernel_rfl
theorem Ty_slOK_94 : slOK Try.prog 94 = true := by kernel_rfl
theorem Ty_slZ_94 : slZ Try.prog 94 = .junk := by kernel_rfl
theorem Ty_mpT_94 : mpT Try.prog 94 = none := by kernel_rfl
theorem Ty_recT_94 : recT Try.prog 94 = 0 := by kernel_rfl
theorem Ty_aggT_96 : aggT Try.prog 96 = some true := by kernel_rfl
theorem Ty_szT_96 : szT Try.prog 96 = some 2 := by kernel_rfl
theorem Ty_zT_96 : zT Try.prog 96 = some [.num .i64 0, .own []] := by kernel_rfl
theorem Ty_bPl_96 : bPl Try.prog 96 = some [(0, 1), (1, 1)] := by kernel_rfl
theorem Ty_nestT_96 : nestT Try.prog 96 = false := by kernel_rfl
theorem Ty_stO_96_0 : stO Try.prog 96 0 = some 0 := by kernel_rfl
theorem Ty_stO_96_1 : stO Try.prog 96 1 = some 1 := by kernel_rfl
theorem Ty_aggT_5 : aggT Try.prog 5 = some false := by kernel_rfl
theorem Ty_szT_5 : szT Try.prog 5 = some 1 := by kernel_rfl
theorem Ty_zT_5 : zT Try.prog 5 = some [.num .u8 0] := by kernel_rfl
theorem Ty_inT_5 : inT Try.prog 5 = some .u8 := by kernel_rfl
theorem Ty_aggT_22 : aggT Try.prog 22 = some false := by kernel_rfl
theorem Ty_szT_22 : szT Try.prog 22 = some 1 := by kernel_rfl
theorem Ty_zT_22 : zT Try.prog 22 = some [.own []] := by kernel_rfl
theorem Ty_slE_22 : slE Try.prog 22 = some 5 := by kernel_rfl
theorem Ty_slOK_22 : slOK Try.prog 22 = true := by kernel_rfl
theorem Ty_slZ_22 : slZ Try.prog 22 = .num .u8 0 := by kernel_rfl
theorem Ty_mpT_22 : mpT Try.prog 22 = none := by kernel_rfl
theorem Ty_recT_22 : recT Try.prog 22 = 0 := by kernel_rfl
theorem Ty_recT_56 : recT Try.prog 56 = 2 := by kernel_rfl
theorem Ty_mpT_56 : mpT Try.prog 56 = none := by kernel_rfl
theorem Ty_slE_56 : slE Try.prog 56 = some 60 := by kernel_rfl
theorem Ty_aggT_53 : aggT Try.prog 53 = some true := by kernel_rfl
theorem Ty_szT_53 : szT Try.prog 53 = some 4 := by kernel_rfl
theorem Ty_zT_53 : zT Try.prog 53 = some [.own [], .own [], .own [], .own []] := by kernel_rfl
theorem Ty_bPl_53 : bPl Try.prog 53 = some [(0, 2), (2, 2)] := by kernel_rfl
theorem Ty_stO_53_0 : stO Try.prog 53 0 = none := by kernel_rfl
theorem Ty_stO_53_1 : stO Try.prog 53 1 = none := by kernel_rfl
theorem Ty_stF_53_0 : stF Try.prog 53 0 = some 0 := by kernel_rfl
theorem Ty_stF_53_1 : stF Try.prog 53 1 = some 2 := by kernel_rfl
theorem Ty_nestT_53 : nestT Try.prog 53 = true := by kernel_rfl
theorem Ty_aggT_91 : aggT Try.prog 91 = some true := by kernel_rfl
theorem Ty_szT_91 : szT Try.prog 91 = some 2 := by kernel_rfl
theorem Ty_zT_91 : zT Try.prog 91 = some [.own [], .num .i64 0] := by kernel_rfl
theorem Ty_bPl_91 : bPl Try.prog 91 = some [(0, 1), (1, 1)] := by kernel_rfl
theorem Ty_nestT_91 : nestT Try.prog 91 = false := by kernel_rfl
theorem Ty_stO_91_0 : stO Try.prog 91 0 = some 0 := by kernel_rfl
theorem Ty_stO_91_1 : stO Try.prog 91 1 = some 1 := by kernel_rfl

theorem app_set_win (d : Nat) (e : Env) (s : Nat) (p : List Nat) (k : Nat) : (Wr.set d (AV.win s p k)).app e = upd e d (AV.win s p k) := rfl
theorem app_mod_win (s : Nat) (q : List Nat) (e : Env) (s' : Nat) (p : List Nat) (k : Nat) : (Wr.mod s q (AV.win s' p k)).app e = upd e s (setP (e s) q (AV.win s' p k)) := rfl
theorem app_set_pin (d : Nat) (e : Env) (A : AV) (v : Value) : (Wr.set d (AV.pin A v)).app e = upd e d (AV.pin A v) := rfl
theorem app_mod_pin (s : Nat) (q : List Nat) (e : Env) (A : AV) (v : Value) : (Wr.mod s q (AV.pin A v)).app e = upd e s (setP (e s) q (AV.pin A v)) := rfl
theorem app_set_omap (d : Nat) (e : Env) (ks vs : List AV) : (Wr.set d (AV.omap ks vs)).app e = upd (kill d [] e) d (AV.omap ks vs) := rfl
theorem app_mod_omap (s : Nat) (q : List Nat) (e : Env) (ks vs : List AV) : (Wr.mod s q (AV.omap ks vs)).app e = upd (kill s q e) s (setP (e s) q (AV.omap ks vs)) := rfl

end Go.Proofs.Ytmhiipmajlmlgaa
