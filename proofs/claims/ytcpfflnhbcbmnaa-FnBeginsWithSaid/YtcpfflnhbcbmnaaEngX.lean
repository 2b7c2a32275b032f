/- How an argument is read, kind by kind (so that simp meets what follows but once). No program in sight. -/
import Derived.Test.YtcpfflnhbcbmnaaGrpJ
namespace Go.Proofs.Ytcpfflnhbcbmnaa
set_option linter.unusedSimpArgs false
set_option linter.unusedVariables false
set_option maxRecDepth 8000
set_option maxHeartbeats 2000000
open Go Go.RowKit AV

noncomputable def rdArgV (t : Nat) (v : AV) (k : AV → Option (List (Nat × List Nat × AV)) → Rd) : Rd := match v with
    | .alias s p => .get s fun c => rdGetP c p fun A => .need (isOwn A = true) (k (view A) (some [(s, p, view A)]))
    | .valias s p => .get s fun c => rdGetP c p fun X => match X with
      | .box l => k (.agg (viewL l)) none
      | _ => .fail
    | .addr _ _ => .fail
    | .win _ _ _ => .fail
    | .pin A _ => k A (some [])
    | .junk => .fail
    | v => if isOwn v then k (view v) (some [(t, [], view v)]) else if isP v then k v (some []) else .fail

section
variable {k : AV → Option (List (Nat × List Nat × AV)) → Rd} {t : Nat}
theorem rdArg_tmp : rdArg (.tmp t) k = .get t fun v => rdArgV t v k := rfl
theorem rdArg_const (v : Value) : rdArg (.const v) k = .need (cst v ≠ .junk) (k (view (cst v)) (some [])) := rfl
theorem rdArg_func (f : Nat) : rdArg (.func f) k = k (.fn f []) (some []) := rfl
theorem rdArgV_num (i : IntKind) (n : Int) : rdArgV t (.num i n) k = k (.num i n) (some []) := rfl
theorem rdArgV_bool (b : Bool) : rdArgV t (.bool b) k = k (.bool b) (some []) := rfl
theorem rdArgV_sh (l : List AV) : rdArgV t (.sh l) k = if isOwn (.sh l) then k (view (.sh l)) (some [(t, [], view (.sh l))]) else if isP (.sh l) then k (.sh l) (some []) else .fail := rfl
theorem rdArgV_own (l : List AV) : rdArgV t (.own l) k = if isOwn (.own l) then k (view (.own l)) (some [(t, [], view (.own l))]) else if isP (.own l) then k (.own l) (some []) else .fail := rfl
theorem rdArgV_box (l : List AV) : rdArgV t (.box l) k = if isOwn (.box l) then k (view (.box l)) (some [(t, [], view (.box l))]) else if isP (.box l) then k (.box l) (some []) else .fail := rfl
theorem rdArgV_agg (l : List AV) : rdArgV t (.agg l) k = if isOwn (.agg l) then k (view (.agg l)) (some [(t, [], view (.agg l))]) else if isP (.agg l) then k (.agg l) (some []) else .fail := rfl
theorem rdArgV_tup (l : List AV) : rdArgV t (.tup l) k = if isOwn (.tup l) then k (view (.tup l)) (some [(t, [], view (.tup l))]) else if isP (.tup l) then k (.tup l) (some []) else .fail := rfl
theorem rdArgV_pbox (l : List AV) : rdArgV t (.pbox l) k = if isOwn (.pbox l) then k (view (.pbox l)) (some [(t, [], view (.pbox l))]) else if isP (.pbox l) then k (.pbox l) (some []) else .fail := rfl
theorem rdArgV_fn (f : Nat) (l : List AV) : rdArgV t (.fn f l) k = if isOwn (.fn f l) then k (view (.fn f l)) (some [(t, [], view (.fn f l))]) else if isP (.fn f l) then k (.fn f l) (some []) else .fail := rfl
theorem rdArgV_pin (A : AV) (v : Value) : rdArgV t (.pin A v) k = k A (some []) := rfl
theorem rdArgV_alias (s : Nat) (p : List Nat) : rdArgV t (.alias s p) k = .get s fun c => rdGetP c p fun A => .need (isOwn A = true) (k (view A) (some [(s, p, view A)])) := rfl
theorem rdArgV_valias (s : Nat) (p : List Nat) : rdArgV t (.valias s p) k = .get s fun c => rdGetP c p fun X => match X with
      | .box l => k (.agg (viewL l)) none
      | _ => .fail := rfl
end

end Go.Proofs.Ytcpfflnhbcbmnaa
