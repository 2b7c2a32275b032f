/- Facts of the types. -/
import Derived.Test.YtechllcflknnlaaEngF
import Derived.Test.YtechllcflknnlaaProg
namespace Go.Proofs.Ytechllcflknnlaa
set_option linter.unusedSimpArgs false
set_option linter.unusedVariables false
set_option maxRecDepth 8000
open Go Go.RowKit AV

theorem Try_mixed : Try.prog.follows .mixedOrders = true := by kernel_rfl

theorem Ty_aggT_3 : aggT Try.prog 3 = some false := by kernel_rfl
theorem Ty_szT_3 : szT Try.prog 3 = some 1 := by kernel_rfl
theorem Ty_zT_3 : zT Try.prog 3 = some [.num .i64 0] := by kernel_rfl
theorem Ty_inT_3 : inT Try.prog 3 = some .i64 := by kernel_rfl
theorem Ty_aggT_4 : aggT Try.prog 4 = some false := by kernel_rfl
theorem Ty_szT_4 : szT Try.prog 4 = some 1 := by kernel_rfl
theorem Ty_zT_4 : zT Try.prog 4 = some [.bool false] := by kernel_rfl
theorem Ty_boT_4 : boT Try.prog 4 = true := by kernel_rfl
theorem Ty_aggT_22 : aggT Try.prog 22 = some false := by kernel_rfl
theorem Ty_szT_22 : szT Try.prog 22 = some 1 := by kernel_rfl
theorem Ty_zT_22 : zT Try.prog 22 = some [.own []] := by kernel_rfl
theorem Ty_slE_22 : slE Try.prog 22 = some 3 := by kernel_rfl
theorem Ty_slOK_22 : slOK Try.prog 22 = true := by kernel_rfl
theorem Ty_slZ_22 : slZ Try.prog 22 = .num .i64 0 := by kernel_rfl
theorem Ty_aggT_23 : aggT Try.prog 23 = some false := by kernel_rfl
theorem Ty_szT_23 : szT Try.prog 23 = some 1 := by kernel_rfl
theorem Ty_zT_23 : zT Try.prog 23 = some [.own []] := by kernel_rfl
theorem Ty_slE_23 : slE Try.prog 23 = some 22 := by kernel_rfl
theorem Ty_slOK_23 : slOK Try.prog 23 = true := by kernel_rfl
theorem Ty_slZ_23 : slZ Try.prog 23 = .own [] := by kernel_rfl
theorem Ty_aggT_27 : aggT Try.prog 27 = some true := by kernel_rfl
theorem Ty_szT_27 : szT Try.prog 27 = some 2 := by kernel_rfl
theorem Ty_zT_27 : zT Try.prog 27 = some [.own [], .own []] := by kernel_rfl
theorem Ty_bPl_27 : bPl Try.prog 27 = some [(0, 1), (1, 1)] := by kernel_rfl
theorem Ty_stO_27_0 : stO Try.prog 27 0 = some 0 := by kernel_rfl
theorem Ty_stO_27_1 : stO Try.prog 27 1 = some 1 := by kernel_rfl
theorem Ty_aggT_25 : aggT Try.prog 25 = some true := by kernel_rfl
theorem Ty_szT_25 : szT Try.prog 25 = some 2 := by kernel_rfl
theorem Ty_zT_25 : zT Try.prog 25 = some [.own [], .own []] := by kernel_rfl
theorem Ty_bPl_25 : bPl Try.prog 25 = some [(0, 1), (1, 1)] := by kernel_rfl
theorem Ty_stO_25_0 : stO Try.prog 25 0 = some 0 := by kernel_rfl
theorem Ty_stO_25_1 : stO Try.prog 25 1 = some 1 := by kernel_rfl

end Go.Proofs.Ytechllcflknnlaa
