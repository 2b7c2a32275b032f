/- Facts of the types. -/
import Derived.Test.YtcpfflnhbcbmnaaGrpJ
import Derived.Test.YtcpfflnhbcbmnaaProg
namespace Go.Proofs.Ytcpfflnhbcbmnaa
set_option linter.unusedSimpArgs false
set_option linter.unusedVariables false
set_option maxRecDepth 8000
set_option maxHeartbeats 2000000
open Go Go.RowKit AV

theorem Try_mixed : Try.prog.follows .mixedOrders = true := by kernel_rfl

/-! Laws in bundles: each is a row of rules for simp. -/
theorem xb : (∀ (p : Prop) [Decidable p], (decide p = true) = p) ∧ (∀ (p : Prop) [Decidable p], (decide p = false) = ¬ p) ∧ (∀ b : Bool, ((!b) = true) = (b = false)) ∧ (∀ b : Bool, ((!b) = false) = (b = true)) := ⟨by simp, by simp, by simp, by simp⟩
theorem xl : (∀ (α : Type) (l m : List α), (l ++ m).length = l.length + m.length) ∧ (∀ (α β : Type) (f : α → β) (l : List α), (l.map f).length = l.length) ∧ (∀ (α : Type) (k : Nat) (l : List α), (l.take k).length = min k l.length) ∧ (∀ (α : Type) (k : Nat) (l : List α), (l.drop k).length = l.length - k) ∧ (∀ (α : Type) (a : α) (l : List α), (a :: l).length = l.length + 1) ∧ (∀ α : Type, ([] : List α).length = 0) ∧ (∀ (α : Type) (n : Nat) (a : α), (List.replicate n a).length = n) :=
  ⟨fun _ _ _ => List.length_append, fun _ _ _ _ => List.length_map .., fun _ _ _ => List.length_take, fun _ _ _ => List.length_drop, fun _ _ _ => rfl, fun _ => rfl, fun _ _ _ => List.length_replicate⟩
theorem xs : (∀ (N : Env → Prop) (Q : QA) (e : Env), thenA N Q .normal e = N e) ∧ (∀ (N : Env → Prop) (Q : QA) (i : Nat) (e : Env), thenA N Q (.exit i) e = Q (.exit i) e) ∧ (∀ (N : Env → Prop) (Q : QA) (e : Env), thenA N Q .ret e = Q .ret e) ∧ (∀ (i : Nat) (Q : QA) (e : Env), inBlockA i Q .normal e = Q .normal e) ∧ (∀ (i j : Nat) (Q : QA) (e : Env), inBlockA i Q (.exit j) e = if j = i then Q .normal e else Q (.exit j) e) ∧ (∀ (i : Nat) (Q : QA) (e : Env), inBlockA i Q .ret e = Q .ret e) ∧ (∀ (P : Program) (rs : List ResultVar) (r : AV) (e : Env), retQ P rs r .ret e = RetOK P rs e r) ∧ (∀ (P : Program) (rs : List ResultVar) (r : AV) (e : Env), retQ P rs r .normal e = RetOK P rs e r) ∧ (∀ (rs : List ResultVar) (r A : AV) (e : Env), retE rs r A .ret e = (RetP rs e r ∧ backA e A)) ∧ (∀ (rs : List ResultVar) (r A : AV) (e : Env), retE rs r A .normal e = (RetP rs e r ∧ backA e A)) :=
  ⟨fun _ _ _ => rfl, fun _ _ _ _ => rfl, fun _ _ _ => rfl, fun _ _ _ => rfl, fun _ _ _ _ => rfl, fun _ _ _ => rfl, fun _ _ _ _ => rfl, fun _ _ _ _ => rfl, fun _ _ _ _ => rfl, fun _ _ _ _ => rfl⟩

theorem Ty_aggT_3 : aggT Try.prog 3 = some false := by kernel_rfl
theorem Ty_szT_3 : szT Try.prog 3 = some 1 := by kernel_rfl
theorem Ty_zT_3 : zT Try.prog 3 = some [.num .i64 0] := by kernel_rfl
theorem Ty_inT_3 : inT Try.prog 3 = some .i64 := by kernel_rfl
theorem Ty_kkT_3 : kkT Try.prog 3 = 1 := by kernel_rfl
theorem Ty_zOf_3 : zOf Try.prog 3 = .num .i64 0 := by kernel_rfl
theorem Ty_aggT_4 : aggT Try.prog 4 = some false := by kernel_rfl
theorem Ty_szT_4 : szT Try.prog 4 = some 1 := by kernel_rfl
theorem Ty_zT_4 : zT Try.prog 4 = some [.bool false] := by kernel_rfl
theorem Ty_boT_4 : boT Try.prog 4 = true := by kernel_rfl
theorem Ty_zOf_4 : zOf Try.prog 4 = .bool false := by kernel_rfl
theorem Ty_mpT_91 : mpT Try.prog 91 = some (3, 3) := by kernel_rfl
theorem Ty_aggT_22 : aggT Try.prog 22 = some false := by kernel_rfl
theorem Ty_szT_22 : szT Try.prog 22 = some 1 := by kernel_rfl
theorem Ty_zT_22 : zT Try.prog 22 = some [.own []] := by kernel_rfl
theorem Ty_slE_22 : slE Try.prog 22 = some 3 := by kernel_rfl
theorem Ty_slOK_22 : slOK Try.prog 22 = true := by kernel_rfl
theorem Ty_slZ_22 : slZ Try.prog 22 = .num .i64 0 := by kernel_rfl
theorem Ty_mpT_22 : mpT Try.prog 22 = none := by kernel_rfl
theorem Ty_aggT_30 : aggT Try.prog 30 = some false := by kernel_rfl
theorem Ty_szT_30 : szT Try.prog 30 = some 1 := by kernel_rfl
theorem Ty_zT_30 : zT Try.prog 30 = some [.own []] := by kernel_rfl
theorem Ty_slE_30 : slE Try.prog 30 = some 22 := by kernel_rfl
theorem Ty_slOK_30 : slOK Try.prog 30 = true := by kernel_rfl
theorem Ty_slZ_30 : slZ Try.prog 30 = .own [] := by kernel_rfl
theorem Ty_mpT_30 : mpT Try.prog 30 = none := by kernel_rfl
theorem Ty_aggT_37 : aggT Try.prog 37 = some true := by kernel_rfl
theorem Ty_szT_37 : szT Try.prog 37 = some 2 := by kernel_rfl
theorem Ty_zT_37 : zT Try.prog 37 = some [.own [], .own []] := by kernel_rfl
theorem Ty_bPl_37 : bPl Try.prog 37 = some [(0, 1), (1, 1)] := by kernel_rfl
theorem Ty_stO_37_0 : stO Try.prog 37 0 = some 0 := by kernel_rfl
theorem Ty_stO_37_1 : stO Try.prog 37 1 = some 1 := by kernel_rfl
theorem Ty_aggT_93 : aggT Try.prog 93 = some false := by kernel_rfl
theorem Ty_szT_93 : szT Try.prog 93 = some 1 := by kernel_rfl
theorem Ty_zT_93 : zT Try.prog 93 = some [.junk] := by kernel_rfl
theorem Ty_aggT_110 : aggT Try.prog 110 = some false := by kernel_rfl
theorem Ty_szT_110 : szT Try.prog 110 = some 1 := by kernel_rfl
theorem Ty_zT_110 : zT Try.prog 110 = some [.own []] := by kernel_rfl
theorem Ty_slE_110 : slE Try.prog 110 = some 93 := by kernel_rfl
theorem Ty_slOK_110 : slOK Try.prog 110 = true := by kernel_rfl
theorem Ty_slZ_110 : slZ Try.prog 110 = .junk := by kernel_rfl
theorem Ty_mpT_110 : mpT Try.prog 110 = none := by kernel_rfl
theorem Ty_aggT_112 : aggT Try.prog 112 = some true := by kernel_rfl
theorem Ty_szT_112 : szT Try.prog 112 = some 2 := by kernel_rfl
theorem Ty_zT_112 : zT Try.prog 112 = some [.num .i64 0, .own []] := by kernel_rfl
theorem Ty_bPl_112 : bPl Try.prog 112 = some [(0, 1), (1, 1)] := by kernel_rfl
theorem Ty_stO_112_0 : stO Try.prog 112 0 = some 0 := by kernel_rfl
theorem Ty_stO_112_1 : stO Try.prog 112 1 = some 1 := by kernel_rfl
theorem Ty_aggT_5 : aggT Try.prog 5 = some false := by kernel_rfl
theorem Ty_szT_5 : szT Try.prog 5 = some 1 := by kernel_rfl
theorem Ty_zT_5 : zT Try.prog 5 = some [.num .u8 0] := by kernel_rfl
theorem Ty_inT_5 : inT Try.prog 5 = some .u8 := by kernel_rfl
theorem Ty_aggT_35 : aggT Try.prog 35 = some false := by kernel_rfl
theorem Ty_szT_35 : szT Try.prog 35 = some 1 := by kernel_rfl
theorem Ty_zT_35 : zT Try.prog 35 = some [.own []] := by kernel_rfl
theorem Ty_slE_35 : slE Try.prog 35 = some 5 := by kernel_rfl
theorem Ty_slOK_35 : slOK Try.prog 35 = true := by kernel_rfl
theorem Ty_slZ_35 : slZ Try.prog 35 = .num .u8 0 := by kernel_rfl
theorem Ty_mpT_35 : mpT Try.prog 35 = none := by kernel_rfl
theorem Ty_aggT_103 : aggT Try.prog 103 = some true := by kernel_rfl
theorem Ty_szT_103 : szT Try.prog 103 = some 2 := by kernel_rfl
theorem Ty_zT_103 : zT Try.prog 103 = some [.own [], .num .i64 0] := by kernel_rfl
theorem Ty_bPl_103 : bPl Try.prog 103 = some [(0, 1), (1, 1)] := by kernel_rfl
theorem Ty_stO_103_0 : stO Try.prog 103 0 = some 0 := by kernel_rfl
theorem Ty_stO_103_1 : stO Try.prog 103 1 = some 1 := by kernel_rfl

theorem app_set_win (d : Nat) (e : Env) (s : Nat) (p : List Nat) (k : Nat) : (Wr.set d (AV.win s p k)).app e = upd e d (AV.win s p k) := rfl
theorem app_mod_win (s : Nat) (q : List Nat) (e : Env) (s' : Nat) (p : List Nat) (k : Nat) : (Wr.mod s q (AV.win s' p k)).app e = upd e s (setP (e s) q (AV.win s' p k)) := rfl
theorem app_set_pin (d : Nat) (e : Env) (A : AV) (v : Value) : (Wr.set d (AV.pin A v)).app e = upd e d (AV.pin A v) := rfl
theorem app_mod_pin (s : Nat) (q : List Nat) (e : Env) (A : AV) (v : Value) : (Wr.mod s q (AV.pin A v)).app e = upd e s (setP (e s) q (AV.pin A v)) := rfl
theorem app_set_omap (d : Nat) (e : Env) (ks vs : List AV) : (Wr.set d (AV.omap ks vs)).app e = upd (kill d [] e) d (AV.omap ks vs) := rfl
theorem app_mod_omap (s : Nat) (q : List Nat) (e : Env) (ks vs : List AV) : (Wr.mod s q (AV.omap ks vs)).app e = upd (kill s q e) s (setP (e s) q (AV.omap ks vs)) := rfl

end Go.Proofs.Ytcpfflnhbcbmnaa
