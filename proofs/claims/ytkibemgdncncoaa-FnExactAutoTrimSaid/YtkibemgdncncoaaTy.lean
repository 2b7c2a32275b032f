/- Facts of the types. -/
import Derived.Test.YtkibemgdncncoaaGrpJ
import Derived.Test.YtkibemgdncncoaaProg
namespace Go.Proofs.Ytkibemgdncncoaa
set_option linter.unusedSimpArgs false
set_option linter.unusedVariables false
set_option maxRecDepth 8000
set_option maxHeartbeats 2000000
open Go Go.RowKit AV

theorem Try_mixed : Try.prog.follows .mixedOrders = true := by kernel_rfl

theorem Ty_aggT_3 : aggT Try.prog 3 = some false := by kernel_rfl
theorem Ty_szT_3 : szT Try.prog 3 = some 1 := by kernel_rfl
theorem Ty_zT_3 : zT Try.prog 3 = some [.num .i64 0] := by kernel_rfl
theorem Ty_inT_3 : inT Try.prog 3 = some .i64 := by kernel_rfl
theorem Ty_kkT_3 : kkT Try.prog 3 = 1 := by kernel_rfl
theorem Ty_zOf_3 : zOf Try.prog 3 = .num .i64 0 := by kernel_rfl
theorem Ty_aggT_4 : aggT Try.prog 4 = some false := by kernel_rfl
theorem Ty_szT_4 : szT Try.prog 4 = some 1 := by kernel_rfl
theorem Ty_zT_4 : zT Try.prog 4 = some [.bool false] := by kernel_rfl
theorem Ty_boT_4 : boT Try.prog 4 = true := by kernel_rfl
theorem Ty_zOf_4 : zOf Try.prog 4 = .bool false := by kernel_rfl
theorem Ty_mpT_73 : mpT Try.prog 73 = some (3, 3) := by kernel_rfl
theorem Ty_mpT_99 : mpT Try.prog 99 = some (3, 4) := by kernel_rfl
theorem Ty_aggT_22 : aggT Try.prog 22 = some false := by kernel_rfl
theorem Ty_szT_22 : szT Try.prog 22 = some 1 := by kernel_rfl
theorem Ty_zT_22 : zT Try.prog 22 = some [.own []] := by kernel_rfl
theorem Ty_slE_22 : slE Try.prog 22 = some 3 := by kernel_rfl
theorem Ty_slOK_22 : slOK Try.prog 22 = true := by kernel_rfl
theorem Ty_slZ_22 : slZ Try.prog 22 = .num .i64 0 := by kernel_rfl
theorem Ty_mpT_22 : mpT Try.prog 22 = none := by kernel_rfl
theorem Ty_aggT_23 : aggT Try.prog 23 = some false := by kernel_rfl
theorem Ty_szT_23 : szT Try.prog 23 = some 1 := by kernel_rfl
theorem Ty_zT_23 : zT Try.prog 23 = some [.own []] := by kernel_rfl
theorem Ty_slE_23 : slE Try.prog 23 = some 22 := by kernel_rfl
theorem Ty_slOK_23 : slOK Try.prog 23 = true := by kernel_rfl
theorem Ty_slZ_23 : slZ Try.prog 23 = .own [] := by kernel_rfl
theorem Ty_mpT_23 : mpT Try.prog 23 = none := by kernel_rfl
theorem Ty_aggT_35 : aggT Try.prog 35 = some true := by kernel_rfl
theorem Ty_szT_35 : szT Try.prog 35 = some 2 := by kernel_rfl
theorem Ty_zT_35 : zT Try.prog 35 = some [.own [], .own []] := by kernel_rfl
theorem Ty_bPl_35 : bPl Try.prog 35 = some [(0, 1), (1, 1)] := by kernel_rfl
theorem Ty_stO_35_0 : stO Try.prog 35 0 = some 0 := by kernel_rfl
theorem Ty_stO_35_1 : stO Try.prog 35 1 = some 1 := by kernel_rfl
theorem Ty_aggT_39 : aggT Try.prog 39 = some true := by kernel_rfl
theorem Ty_szT_39 : szT Try.prog 39 = some 2 := by kernel_rfl
theorem Ty_zT_39 : zT Try.prog 39 = some [.own [], .own []] := by kernel_rfl
theorem Ty_bPl_39 : bPl Try.prog 39 = some [(0, 1), (1, 1)] := by kernel_rfl
theorem Ty_stO_39_0 : stO Try.prog 39 0 = some 0 := by kernel_rfl
theorem Ty_stO_39_1 : stO Try.prog 39 1 = some 1 := by kernel_rfl
theorem Ty_aggT_59 : aggT Try.prog 59 = some false := by kernel_rfl
theorem Ty_szT_59 : szT Try.prog 59 = some 1 := by kernel_rfl
theorem Ty_zT_59 : zT Try.prog 59 = some [.junk] := by kernel_rfl
theorem Ty_aggT_88 : aggT Try.prog 88 = some false := by kernel_rfl
theorem Ty_szT_88 : szT Try.prog 88 = some 1 := by kernel_rfl
theorem Ty_zT_88 : zT Try.prog 88 = some [.own []] := by kernel_rfl
theorem Ty_slE_88 : slE Try.prog 88 = some 59 := by kernel_rfl
theorem Ty_slOK_88 : slOK Try.prog 88 = true := by kernel_rfl
theorem Ty_slZ_88 : slZ Try.prog 88 = .junk := by kernel_rfl
theorem Ty_mpT_88 : mpT Try.prog 88 = none := by kernel_rfl
theorem Ty_aggT_90 : aggT Try.prog 90 = some true := by kernel_rfl
theorem Ty_szT_90 : szT Try.prog 90 = some 2 := by kernel_rfl
theorem Ty_zT_90 : zT Try.prog 90 = some [.num .i64 0, .own []] := by kernel_rfl
theorem Ty_bPl_90 : bPl Try.prog 90 = some [(0, 1), (1, 1)] := by kernel_rfl
theorem Ty_stO_90_0 : stO Try.prog 90 0 = some 0 := by kernel_rfl
theorem Ty_stO_90_1 : stO Try.prog 90 1 = some 1 := by kernel_rfl

theorem app_set_win (d : Nat) (e : Env) (s : Nat) (p : List Nat) (k : Nat) : (Wr.set d (AV.win s p k)).app e = upd e d (AV.win s p k) := rfl
theorem app_mod_win (s : Nat) (q : List Nat) (e : Env) (s' : Nat) (p : List Nat) (k : Nat) : (Wr.mod s q (AV.win s' p k)).app e = upd e s (setP (e s) q (AV.win s' p k)) := rfl
theorem app_set_pin (d : Nat) (e : Env) (A : AV) (v : Value) : (Wr.set d (AV.pin A v)).app e = upd e d (AV.pin A v) := rfl
theorem app_mod_pin (s : Nat) (q : List Nat) (e : Env) (A : AV) (v : Value) : (Wr.mod s q (AV.pin A v)).app e = upd e s (setP (e s) q (AV.pin A v)) := rfl
theorem app_set_omap (d : Nat) (e : Env) (ks vs : List AV) : (Wr.set d (AV.omap ks vs)).app e = upd (kill d [] e) d (AV.omap ks vs) := rfl
theorem app_mod_omap (s : Nat) (q : List Nat) (e : Env) (ks vs : List AV) : (Wr.mod s q (AV.omap ks vs)).app e = upd (kill s q e) s (setP (e s) q (AV.omap ks vs)) := rfl

end Go.Proofs.Ytkibemgdncncoaa
