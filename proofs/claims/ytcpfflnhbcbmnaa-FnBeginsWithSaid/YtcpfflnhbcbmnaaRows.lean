/-
  No cell of these rows narrows 'for every input' (looked for: loops, veiled, ifaces, maps, wideKeys, modest, calm, conditions, laid).
  DERIVED. THE GIVEN ROWS OF THIS SEAT. 12 by the template 'for every input the law returns true; each argument reads behind the call as it read before'; 0 by the template 'total and deterministic' (their statements: YtcpfflnhbcbmnaaTotals.lean).
  GIVEN WITH THE SEED: the statements are not yours to turn. If you find one false, say at which input.
  Laid BY PROGRAM, IN A SANDBOX (cutbox-rows.mjs): the forced cells as the released guide's own fill.sh prints them over the translation cd412ecdfeb1c219… (all of the seat's roots in one cut). By AI agents, Wed Nov 11 2026. No macro, syntax, notation, axiom, sorry.
-/
import Derived.Test.YtcpfflnhbcbmnaaChecked
import GoSem.Claim
import GoSem.ClaimJoined
import GoSem.ClaimMapViews
import Derived.JoinedTies
import Derived.KernelRfl
namespace Go.Proofs.Ytcpfflnhbcbmnaa
/- THE CELL 'sum', in the pinned program and in every row, IS THE sha256 OF THE DUMP (.gsa) THAT YtcpfflnhbcbmnaaProg.lean LOADS. Nothing in Lean hashes anything: it is a label: what it is worth is what the hold of that sum in a sandbox is worth. -/
noncomputable def Try.pinned : Pinned := { name := "ytcpfflnhbcbmnaa", sum := "cd412ecdfeb1c219ba5f11b23baf273b718c862ca5dbf8eafa5e4c5a4a8a5535", checked := Try.checked }
namespace Rows
def none {H : Type} : Left H := { results := [], args := [] }

/-- 'laws.FnExactWeakTest': WHATEVER THE INPUT: true; the input reads as it did. -/
def fnExactWeakTestSpec : ChangeSpec := { name := "fnExactWeakTest", fn := fun _ => fun
  | [d1, d2] => { results := [.lit (.bool true)], args := [d1, d2] }
  | _ => none }
def fnExactWeakTestRow : OpenClaim := { program := "ytcpfflnhbcbmnaa", sum := "cd412ecdfeb1c219ba5f11b23baf273b718c862ca5dbf8eafa5e4c5a4a8a5535", func := "loop.example/kleenetests/laws.FnExactWeakTest", spec := "fnExactWeakTest", unfollowed := true, recurses := true, plainKeys := false, apart := false }
def FnExactWeakTestSaid : Prop := fnExactWeakTestRow.holds Try.pinned (OpenSpec.ofChange fnExactWeakTestSpec)

/-- ITS FALSE NEIGHBOUR: 'it returns false'. Refute it at one input. -/
def fnExactWeakTestWrong : ChangeSpec := { name := "fnExactWeakTest", fn := fun _ => fun
  | [d1, d2] => { results := [.lit (.bool false)], args := [d1, d2] }
  | _ => none }
def FnExactWeakTestWrongFalsely : Prop := fnExactWeakTestRow.holds Try.pinned (OpenSpec.ofChange fnExactWeakTestWrong)

/-- 'laws.FnExactTripleOk': WHATEVER THE INPUT: true; the input reads as it did. -/
def fnExactTripleOkSpec : ChangeSpec := { name := "fnExactTripleOk", fn := fun _ => fun
  | [d1, d2, d3] => { results := [.lit (.bool true)], args := [d1, d2, d3] }
  | _ => none }
def fnExactTripleOkRow : OpenClaim := { program := "ytcpfflnhbcbmnaa", sum := "cd412ecdfeb1c219ba5f11b23baf273b718c862ca5dbf8eafa5e4c5a4a8a5535", func := "loop.example/kleenetests/laws.FnExactTripleOk", spec := "fnExactTripleOk", unfollowed := true, recurses := true, plainKeys := false, apart := false }
def FnExactTripleOkSaid : Prop := fnExactTripleOkRow.holds Try.pinned (OpenSpec.ofChange fnExactTripleOkSpec)

/-- ITS FALSE NEIGHBOUR: 'it returns false'. Refute it at one input. -/
def fnExactTripleOkWrong : ChangeSpec := { name := "fnExactTripleOk", fn := fun _ => fun
  | [d1, d2, d3] => { results := [.lit (.bool false)], args := [d1, d2, d3] }
  | _ => none }
def FnExactTripleOkWrongFalsely : Prop := fnExactTripleOkRow.holds Try.pinned (OpenSpec.ofChange fnExactTripleOkWrong)

/-- 'laws.FnExactStrongTest': WHATEVER THE INPUT: true; the input reads as it did. -/
def fnExactStrongTestSpec : ChangeSpec := { name := "fnExactStrongTest", fn := fun _ => fun
  | [d1, d2] => { results := [.lit (.bool true)], args := [d1, d2] }
  | _ => none }
def fnExactStrongTestRow : OpenClaim := { program := "ytcpfflnhbcbmnaa", sum := "cd412ecdfeb1c219ba5f11b23baf273b718c862ca5dbf8eafa5e4c5a4a8a5535", func := "loop.example/kleenetests/laws.FnExactStrongTest", spec := "fnExactStrongTest", unfollowed := true, recurses := true, plainKeys := false, apart := false }
def FnExactStrongTestSaid : Prop := fnExactStrongTestRow.holds Try.pinned (OpenSpec.ofChange fnExactStrongTestSpec)

/-- ITS FALSE NEIGHBOUR: 'it returns false'. Refute it at one input. -/
def fnExactStrongTestWrong : ChangeSpec := { name := "fnExactStrongTest", fn := fun _ => fun
  | [d1, d2] => { results := [.lit (.bool false)], args := [d1, d2] }
  | _ => none }
def FnExactStrongTestWrongFalsely : Prop := fnExactStrongTestRow.holds Try.pinned (OpenSpec.ofChange fnExactStrongTestWrong)

/-- 'laws.FnExactPairsOk': WHATEVER THE INPUT: true; the input reads as it did. -/
def fnExactPairsOkSpec : ChangeSpec := { name := "fnExactPairsOk", fn := fun _ => fun
  | [d1, d2, d3] => { results := [.lit (.bool true)], args := [d1, d2, d3] }
  | _ => none }
def fnExactPairsOkRow : OpenClaim := { program := "ytcpfflnhbcbmnaa", sum := "cd412ecdfeb1c219ba5f11b23baf273b718c862ca5dbf8eafa5e4c5a4a8a5535", func := "loop.example/kleenetests/laws.FnExactPairsOk", spec := "fnExactPairsOk", unfollowed := true, recurses := true, plainKeys := false, apart := false }
def FnExactPairsOkSaid : Prop := fnExactPairsOkRow.holds Try.pinned (OpenSpec.ofChange fnExactPairsOkSpec)

/-- ITS FALSE NEIGHBOUR: 'it returns false'. Refute it at one input. -/
def fnExactPairsOkWrong : ChangeSpec := { name := "fnExactPairsOk", fn := fun _ => fun
  | [d1, d2, d3] => { results := [.lit (.bool false)], args := [d1, d2, d3] }
  | _ => none }
def FnExactPairsOkWrongFalsely : Prop := fnExactPairsOkRow.holds Try.pinned (OpenSpec.ofChange fnExactPairsOkWrong)

/-- 'laws.FnAutoValid': WHATEVER THE INPUT: true; the input reads as it did. -/
def fnAutoValidSpec : ChangeSpec := { name := "fnAutoValid", fn := fun _ => fun
  | [d] => { results := [.lit (.bool true)], args := [d] }
  | _ => none }
def fnAutoValidRow : OpenClaim := { program := "ytcpfflnhbcbmnaa", sum := "cd412ecdfeb1c219ba5f11b23baf273b718c862ca5dbf8eafa5e4c5a4a8a5535", func := "loop.example/kleenetests/laws.FnAutoValid", spec := "fnAutoValid", recurses := true, plainKeys := false, apart := false }
def FnAutoValidSaid : Prop := fnAutoValidRow.holds Try.pinned (OpenSpec.ofChange fnAutoValidSpec)

/-- ITS FALSE NEIGHBOUR: 'it returns false'. Refute it at one input. -/
def fnAutoValidWrong : ChangeSpec := { name := "fnAutoValid", fn := fun _ => fun
  | [d] => { results := [.lit (.bool false)], args := [d] }
  | _ => none }
def FnAutoValidWrongFalsely : Prop := fnAutoValidRow.holds Try.pinned (OpenSpec.ofChange fnAutoValidWrong)

/-- 'laws.FnStatesEnd': WHATEVER THE INPUT: true; the input reads as it did. -/
def fnStatesEndSpec : ChangeSpec := { name := "fnStatesEnd", fn := fun _ => fun
  | [d] => { results := [.lit (.bool true)], args := [d] }
  | _ => none }
def fnStatesEndRow : OpenClaim := { program := "ytcpfflnhbcbmnaa", sum := "cd412ecdfeb1c219ba5f11b23baf273b718c862ca5dbf8eafa5e4c5a4a8a5535", func := "loop.example/kleenetests/laws.FnStatesEnd", spec := "fnStatesEnd", recurses := true, plainKeys := false, apart := false }
def FnStatesEndSaid : Prop := fnStatesEndRow.holds Try.pinned (OpenSpec.ofChange fnStatesEndSpec)

/-- ITS FALSE NEIGHBOUR: 'it returns false'. Refute it at one input. -/
def fnStatesEndWrong : ChangeSpec := { name := "fnStatesEnd", fn := fun _ => fun
  | [d] => { results := [.lit (.bool false)], args := [d] }
  | _ => none }
def FnStatesEndWrongFalsely : Prop := fnStatesEndRow.holds Try.pinned (OpenSpec.ofChange fnStatesEndWrong)

/-- 'laws.FnStatesBehind': WHATEVER THE INPUT: true; the input reads as it did. -/
def fnStatesBehindSpec : ChangeSpec := { name := "fnStatesBehind", fn := fun _ => fun
  | [d1, d2] => { results := [.lit (.bool true)], args := [d1, d2] }
  | _ => none }
def fnStatesBehindRow : OpenClaim := { program := "ytcpfflnhbcbmnaa", sum := "cd412ecdfeb1c219ba5f11b23baf273b718c862ca5dbf8eafa5e4c5a4a8a5535", func := "loop.example/kleenetests/laws.FnStatesBehind", spec := "fnStatesBehind", recurses := true, plainKeys := false, apart := false }
def FnStatesBehindSaid : Prop := fnStatesBehindRow.holds Try.pinned (OpenSpec.ofChange fnStatesBehindSpec)

/-- ITS FALSE NEIGHBOUR: 'it returns false'. Refute it at one input. -/
def fnStatesBehindWrong : ChangeSpec := { name := "fnStatesBehind", fn := fun _ => fun
  | [d1, d2] => { results := [.lit (.bool false)], args := [d1, d2] }
  | _ => none }
def FnStatesBehindWrongFalsely : Prop := fnStatesBehindRow.holds Try.pinned (OpenSpec.ofChange fnStatesBehindWrong)

/-- 'laws.FnAutoReach': WHATEVER THE INPUT: true; the input reads as it did. -/
def fnAutoReachSpec : ChangeSpec := { name := "fnAutoReach", fn := fun _ => fun
  | [d] => { results := [.lit (.bool true)], args := [d] }
  | _ => none }
def fnAutoReachRow : OpenClaim := { program := "ytcpfflnhbcbmnaa", sum := "cd412ecdfeb1c219ba5f11b23baf273b718c862ca5dbf8eafa5e4c5a4a8a5535", func := "loop.example/kleenetests/laws.FnAutoReach", spec := "fnAutoReach", recurses := true, plainKeys := false, apart := false }
def FnAutoReachSaid : Prop := fnAutoReachRow.holds Try.pinned (OpenSpec.ofChange fnAutoReachSpec)

/-- ITS FALSE NEIGHBOUR: 'it returns false'. Refute it at one input. -/
def fnAutoReachWrong : ChangeSpec := { name := "fnAutoReach", fn := fun _ => fun
  | [d] => { results := [.lit (.bool false)], args := [d] }
  | _ => none }
def FnAutoReachWrongFalsely : Prop := fnAutoReachRow.holds Try.pinned (OpenSpec.ofChange fnAutoReachWrong)

/-- 'laws.FnAutoRun': WHATEVER THE INPUT: true; the input reads as it did. -/
def fnAutoRunSpec : ChangeSpec := { name := "fnAutoRun", fn := fun _ => fun
  | [d] => { results := [.lit (.bool true)], args := [d] }
  | _ => none }
def fnAutoRunRow : OpenClaim := { program := "ytcpfflnhbcbmnaa", sum := "cd412ecdfeb1c219ba5f11b23baf273b718c862ca5dbf8eafa5e4c5a4a8a5535", func := "loop.example/kleenetests/laws.FnAutoRun", spec := "fnAutoRun", recurses := true, plainKeys := false, apart := false }
def FnAutoRunSaid : Prop := fnAutoRunRow.holds Try.pinned (OpenSpec.ofChange fnAutoRunSpec)

/-- ITS FALSE NEIGHBOUR: 'it returns false'. Refute it at one input. -/
def fnAutoRunWrong : ChangeSpec := { name := "fnAutoRun", fn := fun _ => fun
  | [d] => { results := [.lit (.bool false)], args := [d] }
  | _ => none }
def FnAutoRunWrongFalsely : Prop := fnAutoRunRow.holds Try.pinned (OpenSpec.ofChange fnAutoRunWrong)

/-- 'laws.FnAutoBoth': WHATEVER THE INPUT: true; the input reads as it did. -/
def fnAutoBothSpec : ChangeSpec := { name := "fnAutoBoth", fn := fun _ => fun
  | [d1, d2] => { results := [.lit (.bool true)], args := [d1, d2] }
  | _ => none }
def fnAutoBothRow : OpenClaim := { program := "ytcpfflnhbcbmnaa", sum := "cd412ecdfeb1c219ba5f11b23baf273b718c862ca5dbf8eafa5e4c5a4a8a5535", func := "loop.example/kleenetests/laws.FnAutoBoth", spec := "fnAutoBoth", recurses := true, plainKeys := false, apart := false }
def FnAutoBothSaid : Prop := fnAutoBothRow.holds Try.pinned (OpenSpec.ofChange fnAutoBothSpec)

/-- ITS FALSE NEIGHBOUR: 'it returns false'. Refute it at one input. -/
def fnAutoBothWrong : ChangeSpec := { name := "fnAutoBoth", fn := fun _ => fun
  | [d1, d2] => { results := [.lit (.bool false)], args := [d1, d2] }
  | _ => none }
def FnAutoBothWrongFalsely : Prop := fnAutoBothRow.holds Try.pinned (OpenSpec.ofChange fnAutoBothWrong)

/-- 'laws.FnAutoTrim': WHATEVER THE INPUT: true; the input reads as it did. -/
def fnAutoTrimSpec : ChangeSpec := { name := "fnAutoTrim", fn := fun _ => fun
  | [d1, d2] => { results := [.lit (.bool true)], args := [d1, d2] }
  | _ => none }
def fnAutoTrimRow : OpenClaim := { program := "ytcpfflnhbcbmnaa", sum := "cd412ecdfeb1c219ba5f11b23baf273b718c862ca5dbf8eafa5e4c5a4a8a5535", func := "loop.example/kleenetests/laws.FnAutoTrim", spec := "fnAutoTrim", unfollowed := true, recurses := true, plainKeys := false, apart := false }
def FnAutoTrimSaid : Prop := fnAutoTrimRow.holds Try.pinned (OpenSpec.ofChange fnAutoTrimSpec)

/-- ITS FALSE NEIGHBOUR: 'it returns false'. Refute it at one input. -/
def fnAutoTrimWrong : ChangeSpec := { name := "fnAutoTrim", fn := fun _ => fun
  | [d1, d2] => { results := [.lit (.bool false)], args := [d1, d2] }
  | _ => none }
def FnAutoTrimWrongFalsely : Prop := fnAutoTrimRow.holds Try.pinned (OpenSpec.ofChange fnAutoTrimWrong)

/-- 'laws.FnBeginsWith': WHATEVER THE INPUT: true; the input reads as it did. -/
def fnBeginsWithSpec : ChangeSpec := { name := "fnBeginsWith", fn := fun _ => fun
  | [d] => { results := [.lit (.bool true)], args := [d] }
  | _ => none }
def fnBeginsWithRow : OpenClaim := { program := "ytcpfflnhbcbmnaa", sum := "cd412ecdfeb1c219ba5f11b23baf273b718c862ca5dbf8eafa5e4c5a4a8a5535", func := "loop.example/kleenetests/laws.FnBeginsWith", spec := "fnBeginsWith", unfollowed := true, recurses := true, plainKeys := false, apart := false }
def FnBeginsWithSaid : Prop := fnBeginsWithRow.holds Try.pinned (OpenSpec.ofChange fnBeginsWithSpec)

/-- ITS FALSE NEIGHBOUR: 'it returns false'. Refute it at one input. -/
def fnBeginsWithWrong : ChangeSpec := { name := "fnBeginsWith", fn := fun _ => fun
  | [d] => { results := [.lit (.bool false)], args := [d] }
  | _ => none }
def FnBeginsWithWrongFalsely : Prop := fnBeginsWithRow.holds Try.pinned (OpenSpec.ofChange fnBeginsWithWrong)

/- THE SECOND FORM. 'bulk': how many values and letters a reading holds, each counted each time it is reached (what is shared counts as often as it is met; a slice's spare places count too). A statement '..UptoSaid' is the law's where the arguments, and the package variables that the reading takes, are together of bulk at most 1048576: NARROWER than '..Said'. Prove '..Said' where nothing that the law and all that it calls make is longer than what came in: it says more and counts as full. Else prove '..UptoSaid'. A law counts once. -/
mutual
def uptoBulk {H : Type} : DataW H → Nat
  | .lit (.string bytes) => bytes.length + 1
  | .lit _ => 1
  | .nil => 1
  | .ptr d => uptoBulk d + 1
  | .slice elems spare => uptoBulkAll elems + uptoBulkAll spare + 1
  | .agg parts => uptoBulkAll parts + 1
  | .iface _ d => uptoBulk d + 1
  | .map entries => uptoBulkEntries entries + 1
  | .held _ => 1
def uptoBulkAll {H : Type} : List (DataW H) → Nat
  | [] => 0
  | d :: r => uptoBulk d + uptoBulkAll r
def uptoBulkEntries {H : Type} : List (Lit × DataW H) → Nat
  | [] => 0
  | x :: r => uptoBulkEntry x + uptoBulkEntries r
def uptoBulkEntry {H : Type} : Lit × DataW H → Nat
  | (.string bytes, d) => bytes.length + uptoBulk d + 1
  | (_, d) => uptoBulk d + 1
 end
def uptoSmall : (H : Type) → List (DataW H) → Bool := fun _ ds => decide (uptoBulkAll ds ≤ 1048576)
def OpenSpec.upto (s : _root_.Go.ChangeSpec) : _root_.Go.OpenSpec := { _root_.Go.OpenSpec.ofChange s with cond := some uptoSmall }

/-- 'laws.FnExactWeakTest', WHERE WHAT IT READS IS OF BULK AT MOST 1048576: true; the input reads as it did. -/
def fnExactWeakTestUptoRow : OpenClaim := { program := "ytcpfflnhbcbmnaa", sum := "cd412ecdfeb1c219ba5f11b23baf273b718c862ca5dbf8eafa5e4c5a4a8a5535", func := "loop.example/kleenetests/laws.FnExactWeakTest", spec := "fnExactWeakTest", unfollowed := true, recurses := true, plainKeys := false, apart := false, narrowed := true }
def FnExactWeakTestUptoSaid : Prop := fnExactWeakTestUptoRow.holds Try.pinned (OpenSpec.upto fnExactWeakTestSpec)

/-- 'laws.FnExactTripleOk', WHERE WHAT IT READS IS OF BULK AT MOST 1048576: true; the input reads as it did. -/
def fnExactTripleOkUptoRow : OpenClaim := { program := "ytcpfflnhbcbmnaa", sum := "cd412ecdfeb1c219ba5f11b23baf273b718c862ca5dbf8eafa5e4c5a4a8a5535", func := "loop.example/kleenetests/laws.FnExactTripleOk", spec := "fnExactTripleOk", unfollowed := true, recurses := true, plainKeys := false, apart := false, narrowed := true }
def FnExactTripleOkUptoSaid : Prop := fnExactTripleOkUptoRow.holds Try.pinned (OpenSpec.upto fnExactTripleOkSpec)

/-- 'laws.FnExactStrongTest', WHERE WHAT IT READS IS OF BULK AT MOST 1048576: true; the input reads as it did. -/
def fnExactStrongTestUptoRow : OpenClaim := { program := "ytcpfflnhbcbmnaa", sum := "cd412ecdfeb1c219ba5f11b23baf273b718c862ca5dbf8eafa5e4c5a4a8a5535", func := "loop.example/kleenetests/laws.FnExactStrongTest", spec := "fnExactStrongTest", unfollowed := true, recurses := true, plainKeys := false, apart := false, narrowed := true }
def FnExactStrongTestUptoSaid : Prop := fnExactStrongTestUptoRow.holds Try.pinned (OpenSpec.upto fnExactStrongTestSpec)

/-- 'laws.FnExactPairsOk', WHERE WHAT IT READS IS OF BULK AT MOST 1048576: true; the input reads as it did. -/
def fnExactPairsOkUptoRow : OpenClaim := { program := "ytcpfflnhbcbmnaa", sum := "cd412ecdfeb1c219ba5f11b23baf273b718c862ca5dbf8eafa5e4c5a4a8a5535", func := "loop.example/kleenetests/laws.FnExactPairsOk", spec := "fnExactPairsOk", unfollowed := true, recurses := true, plainKeys := false, apart := false, narrowed := true }
def FnExactPairsOkUptoSaid : Prop := fnExactPairsOkUptoRow.holds Try.pinned (OpenSpec.upto fnExactPairsOkSpec)

/-- 'laws.FnAutoValid', WHERE WHAT IT READS IS OF BULK AT MOST 1048576: true; the input reads as it did. -/
def fnAutoValidUptoRow : OpenClaim := { program := "ytcpfflnhbcbmnaa", sum := "cd412ecdfeb1c219ba5f11b23baf273b718c862ca5dbf8eafa5e4c5a4a8a5535", func := "loop.example/kleenetests/laws.FnAutoValid", spec := "fnAutoValid", recurses := true, plainKeys := false, apart := false, narrowed := true }
def FnAutoValidUptoSaid : Prop := fnAutoValidUptoRow.holds Try.pinned (OpenSpec.upto fnAutoValidSpec)

/-- 'laws.FnStatesEnd', WHERE WHAT IT READS IS OF BULK AT MOST 1048576: true; the input reads as it did. -/
def fnStatesEndUptoRow : OpenClaim := { program := "ytcpfflnhbcbmnaa", sum := "cd412ecdfeb1c219ba5f11b23baf273b718c862ca5dbf8eafa5e4c5a4a8a5535", func := "loop.example/kleenetests/laws.FnStatesEnd", spec := "fnStatesEnd", recurses := true, plainKeys := false, apart := false, narrowed := true }
def FnStatesEndUptoSaid : Prop := fnStatesEndUptoRow.holds Try.pinned (OpenSpec.upto fnStatesEndSpec)

/-- 'laws.FnStatesBehind', WHERE WHAT IT READS IS OF BULK AT MOST 1048576: true; the input reads as it did. -/
def fnStatesBehindUptoRow : OpenClaim := { program := "ytcpfflnhbcbmnaa", sum := "cd412ecdfeb1c219ba5f11b23baf273b718c862ca5dbf8eafa5e4c5a4a8a5535", func := "loop.example/kleenetests/laws.FnStatesBehind", spec := "fnStatesBehind", recurses := true, plainKeys := false, apart := false, narrowed := true }
def FnStatesBehindUptoSaid : Prop := fnStatesBehindUptoRow.holds Try.pinned (OpenSpec.upto fnStatesBehindSpec)

/-- 'laws.FnAutoReach', WHERE WHAT IT READS IS OF BULK AT MOST 1048576: true; the input reads as it did. -/
def fnAutoReachUptoRow : OpenClaim := { program := "ytcpfflnhbcbmnaa", sum := "cd412ecdfeb1c219ba5f11b23baf273b718c862ca5dbf8eafa5e4c5a4a8a5535", func := "loop.example/kleenetests/laws.FnAutoReach", spec := "fnAutoReach", recurses := true, plainKeys := false, apart := false, narrowed := true }
def FnAutoReachUptoSaid : Prop := fnAutoReachUptoRow.holds Try.pinned (OpenSpec.upto fnAutoReachSpec)

/-- 'laws.FnAutoRun', WHERE WHAT IT READS IS OF BULK AT MOST 1048576: true; the input reads as it did. -/
def fnAutoRunUptoRow : OpenClaim := { program := "ytcpfflnhbcbmnaa", sum := "cd412ecdfeb1c219ba5f11b23baf273b718c862ca5dbf8eafa5e4c5a4a8a5535", func := "loop.example/kleenetests/laws.FnAutoRun", spec := "fnAutoRun", recurses := true, plainKeys := false, apart := false, narrowed := true }
def FnAutoRunUptoSaid : Prop := fnAutoRunUptoRow.holds Try.pinned (OpenSpec.upto fnAutoRunSpec)

/-- 'laws.FnAutoBoth', WHERE WHAT IT READS IS OF BULK AT MOST 1048576: true; the input reads as it did. -/
def fnAutoBothUptoRow : OpenClaim := { program := "ytcpfflnhbcbmnaa", sum := "cd412ecdfeb1c219ba5f11b23baf273b718c862ca5dbf8eafa5e4c5a4a8a5535", func := "loop.example/kleenetests/laws.FnAutoBoth", spec := "fnAutoBoth", recurses := true, plainKeys := false, apart := false, narrowed := true }
def FnAutoBothUptoSaid : Prop := fnAutoBothUptoRow.holds Try.pinned (OpenSpec.upto fnAutoBothSpec)

/-- 'laws.FnAutoTrim', WHERE WHAT IT READS IS OF BULK AT MOST 1048576: true; the input reads as it did. -/
def fnAutoTrimUptoRow : OpenClaim := { program := "ytcpfflnhbcbmnaa", sum := "cd412ecdfeb1c219ba5f11b23baf273b718c862ca5dbf8eafa5e4c5a4a8a5535", func := "loop.example/kleenetests/laws.FnAutoTrim", spec := "fnAutoTrim", unfollowed := true, recurses := true, plainKeys := false, apart := false, narrowed := true }
def FnAutoTrimUptoSaid : Prop := fnAutoTrimUptoRow.holds Try.pinned (OpenSpec.upto fnAutoTrimSpec)

/-- 'laws.FnBeginsWith', WHERE WHAT IT READS IS OF BULK AT MOST 1048576: true; the input reads as it did. -/
def fnBeginsWithUptoRow : OpenClaim := { program := "ytcpfflnhbcbmnaa", sum := "cd412ecdfeb1c219ba5f11b23baf273b718c862ca5dbf8eafa5e4c5a4a8a5535", func := "loop.example/kleenetests/laws.FnBeginsWith", spec := "fnBeginsWith", unfollowed := true, recurses := true, plainKeys := false, apart := false, narrowed := true }
def FnBeginsWithUptoSaid : Prop := fnBeginsWithUptoRow.holds Try.pinned (OpenSpec.upto fnBeginsWithSpec)

end Rows
end Go.Proofs.Ytcpfflnhbcbmnaa
