/-
  No cell of these rows narrows 'for every input' (looked for: loops, veiled, ifaces, maps, wideKeys, modest, calm, conditions, laid).
  DERIVED. THE GIVEN ROWS OF THIS SEAT. 11 by the template 'for every input the law returns true; each argument reads behind the call as it read before'; 0 by the template 'total and deterministic' (their statements: YtoaelngalnojiaaTotals.lean).
  GIVEN WITH THE SEED: the statements are not yours to turn. If you find one false, say at which input.
  Laid BY PROGRAM, IN A SANDBOX (cutbox-rows.mjs): the forced cells as the released guide's own fill.sh prints them over the translation 7c4b36d80ec7672c… (all of the seat's roots in one cut). By AI agents, Wed Nov 11 2026. No macro, syntax, notation, axiom, sorry.
-/
import Derived.Test.YtoaelngalnojiaaChecked
import GoSem.Claim
import GoSem.ClaimJoined
import GoSem.ClaimMapViews
import Derived.JoinedTies
import Derived.KernelRfl
namespace Go.Proofs.Ytoaelngalnojiaa
/- THE CELL 'sum', in the pinned program and in every row, IS THE sha256 OF THE DUMP (.gsa) THAT YtoaelngalnojiaaProg.lean LOADS. Nothing in Lean hashes anything: it is a label: what it is worth is what the hold of that sum in a sandbox is worth. -/
noncomputable def Try.pinned : Pinned := { name := "ytoaelngalnojiaa", sum := "7c4b36d80ec7672ced9cc65593a78c884f2d6afa0adcabb2c88da066718fe73b", checked := Try.checked }
namespace Rows
def none {H : Type} : Left H := { results := [], args := [] }

/-- 'laws.FnExactAutoValid': WHATEVER THE INPUT: true; the input reads as it did. -/
def fnExactAutoValidSpec : ChangeSpec := { name := "fnExactAutoValid", fn := fun _ => fun
  | [d] => { results := [.lit (.bool true)], args := [d] }
  | _ => none }
def fnExactAutoValidRow : OpenClaim := { program := "ytoaelngalnojiaa", sum := "7c4b36d80ec7672ced9cc65593a78c884f2d6afa0adcabb2c88da066718fe73b", func := "loop.example/kleenetests/laws.FnExactAutoValid", spec := "fnExactAutoValid", apart := false }
def FnExactAutoValidSaid : Prop := fnExactAutoValidRow.holds Try.pinned (OpenSpec.ofChange fnExactAutoValidSpec)

/-- ITS FALSE NEIGHBOUR: 'it returns false'. Refute it at one input. -/
def fnExactAutoValidWrong : ChangeSpec := { name := "fnExactAutoValid", fn := fun _ => fun
  | [d] => { results := [.lit (.bool false)], args := [d] }
  | _ => none }
def FnExactAutoValidWrongFalsely : Prop := fnExactAutoValidRow.holds Try.pinned (OpenSpec.ofChange fnExactAutoValidWrong)

/-- 'laws.FnExactEndsAt': WHATEVER THE INPUT: true; the input reads as it did. -/
def fnExactEndsAtSpec : ChangeSpec := { name := "fnExactEndsAt", fn := fun _ => fun
  | [d] => { results := [.lit (.bool true)], args := [d] }
  | _ => none }
def fnExactEndsAtRow : OpenClaim := { program := "ytoaelngalnojiaa", sum := "7c4b36d80ec7672ced9cc65593a78c884f2d6afa0adcabb2c88da066718fe73b", func := "loop.example/kleenetests/laws.FnExactEndsAt", spec := "fnExactEndsAt", recurses := true, apart := false }
def FnExactEndsAtSaid : Prop := fnExactEndsAtRow.holds Try.pinned (OpenSpec.ofChange fnExactEndsAtSpec)

/-- ITS FALSE NEIGHBOUR: 'it returns false'. Refute it at one input. -/
def fnExactEndsAtWrong : ChangeSpec := { name := "fnExactEndsAt", fn := fun _ => fun
  | [d] => { results := [.lit (.bool false)], args := [d] }
  | _ => none }
def FnExactEndsAtWrongFalsely : Prop := fnExactEndsAtRow.holds Try.pinned (OpenSpec.ofChange fnExactEndsAtWrong)

/-- 'laws.FnExactStatesEnd': WHATEVER THE INPUT: true; the input reads as it did. -/
def fnExactStatesEndSpec : ChangeSpec := { name := "fnExactStatesEnd", fn := fun _ => fun
  | [d1, d2] => { results := [.lit (.bool true)], args := [d1, d2] }
  | _ => none }
def fnExactStatesEndRow : OpenClaim := { program := "ytoaelngalnojiaa", sum := "7c4b36d80ec7672ced9cc65593a78c884f2d6afa0adcabb2c88da066718fe73b", func := "loop.example/kleenetests/laws.FnExactStatesEnd", spec := "fnExactStatesEnd", apart := false }
def FnExactStatesEndSaid : Prop := fnExactStatesEndRow.holds Try.pinned (OpenSpec.ofChange fnExactStatesEndSpec)

/-- ITS FALSE NEIGHBOUR: 'it returns false'. Refute it at one input. -/
def fnExactStatesEndWrong : ChangeSpec := { name := "fnExactStatesEnd", fn := fun _ => fun
  | [d1, d2] => { results := [.lit (.bool false)], args := [d1, d2] }
  | _ => none }
def FnExactStatesEndWrongFalsely : Prop := fnExactStatesEndRow.holds Try.pinned (OpenSpec.ofChange fnExactStatesEndWrong)

/-- 'laws.FnExactStatesBehind': WHATEVER THE INPUT: true; the input reads as it did. -/
def fnExactStatesBehindSpec : ChangeSpec := { name := "fnExactStatesBehind", fn := fun _ => fun
  | [d1, d2, d3, d4] => { results := [.lit (.bool true)], args := [d1, d2, d3, d4] }
  | _ => none }
def fnExactStatesBehindRow : OpenClaim := { program := "ytoaelngalnojiaa", sum := "7c4b36d80ec7672ced9cc65593a78c884f2d6afa0adcabb2c88da066718fe73b", func := "loop.example/kleenetests/laws.FnExactStatesBehind", spec := "fnExactStatesBehind", apart := false }
def FnExactStatesBehindSaid : Prop := fnExactStatesBehindRow.holds Try.pinned (OpenSpec.ofChange fnExactStatesBehindSpec)

/-- ITS FALSE NEIGHBOUR: 'it returns false'. Refute it at one input. -/
def fnExactStatesBehindWrong : ChangeSpec := { name := "fnExactStatesBehind", fn := fun _ => fun
  | [d1, d2, d3, d4] => { results := [.lit (.bool false)], args := [d1, d2, d3, d4] }
  | _ => none }
def FnExactStatesBehindWrongFalsely : Prop := fnExactStatesBehindRow.holds Try.pinned (OpenSpec.ofChange fnExactStatesBehindWrong)

/-- 'laws.FnExactAutoLive': WHATEVER THE INPUT: true; the input reads as it did. -/
def fnExactAutoLiveSpec : ChangeSpec := { name := "fnExactAutoLive", fn := fun _ => fun
  | [d] => { results := [.lit (.bool true)], args := [d] }
  | _ => none }
def fnExactAutoLiveRow : OpenClaim := { program := "ytoaelngalnojiaa", sum := "7c4b36d80ec7672ced9cc65593a78c884f2d6afa0adcabb2c88da066718fe73b", func := "loop.example/kleenetests/laws.FnExactAutoLive", spec := "fnExactAutoLive", unfollowed := true, recurses := true, apart := false }
def FnExactAutoLiveSaid : Prop := fnExactAutoLiveRow.holds Try.pinned (OpenSpec.ofChange fnExactAutoLiveSpec)

/-- ITS FALSE NEIGHBOUR: 'it returns false'. Refute it at one input. -/
def fnExactAutoLiveWrong : ChangeSpec := { name := "fnExactAutoLive", fn := fun _ => fun
  | [d] => { results := [.lit (.bool false)], args := [d] }
  | _ => none }
def FnExactAutoLiveWrongFalsely : Prop := fnExactAutoLiveRow.holds Try.pinned (OpenSpec.ofChange fnExactAutoLiveWrong)

/-- 'laws.FnExactAutoReach': WHATEVER THE INPUT: true; the input reads as it did. -/
def fnExactAutoReachSpec : ChangeSpec := { name := "fnExactAutoReach", fn := fun _ => fun
  | [d] => { results := [.lit (.bool true)], args := [d] }
  | _ => none }
def fnExactAutoReachRow : OpenClaim := { program := "ytoaelngalnojiaa", sum := "7c4b36d80ec7672ced9cc65593a78c884f2d6afa0adcabb2c88da066718fe73b", func := "loop.example/kleenetests/laws.FnExactAutoReach", spec := "fnExactAutoReach", apart := false }
def FnExactAutoReachSaid : Prop := fnExactAutoReachRow.holds Try.pinned (OpenSpec.ofChange fnExactAutoReachSpec)

/-- ITS FALSE NEIGHBOUR: 'it returns false'. Refute it at one input. -/
def fnExactAutoReachWrong : ChangeSpec := { name := "fnExactAutoReach", fn := fun _ => fun
  | [d] => { results := [.lit (.bool false)], args := [d] }
  | _ => none }
def FnExactAutoReachWrongFalsely : Prop := fnExactAutoReachRow.holds Try.pinned (OpenSpec.ofChange fnExactAutoReachWrong)

/-- 'laws.FnExactAutoRun': WHATEVER THE INPUT: true; the input reads as it did. -/
def fnExactAutoRunSpec : ChangeSpec := { name := "fnExactAutoRun", fn := fun _ => fun
  | [d1, d2] => { results := [.lit (.bool true)], args := [d1, d2] }
  | _ => none }
def fnExactAutoRunRow : OpenClaim := { program := "ytoaelngalnojiaa", sum := "7c4b36d80ec7672ced9cc65593a78c884f2d6afa0adcabb2c88da066718fe73b", func := "loop.example/kleenetests/laws.FnExactAutoRun", spec := "fnExactAutoRun", apart := false }
def FnExactAutoRunSaid : Prop := fnExactAutoRunRow.holds Try.pinned (OpenSpec.ofChange fnExactAutoRunSpec)

/-- ITS FALSE NEIGHBOUR: 'it returns false'. Refute it at one input. -/
def fnExactAutoRunWrong : ChangeSpec := { name := "fnExactAutoRun", fn := fun _ => fun
  | [d1, d2] => { results := [.lit (.bool false)], args := [d1, d2] }
  | _ => none }
def FnExactAutoRunWrongFalsely : Prop := fnExactAutoRunRow.holds Try.pinned (OpenSpec.ofChange fnExactAutoRunWrong)

/-- 'laws.FnExactAutoBoth': WHATEVER THE INPUT: true; the input reads as it did. -/
def fnExactAutoBothSpec : ChangeSpec := { name := "fnExactAutoBoth", fn := fun _ => fun
  | [d1, d2] => { results := [.lit (.bool true)], args := [d1, d2] }
  | _ => none }
def fnExactAutoBothRow : OpenClaim := { program := "ytoaelngalnojiaa", sum := "7c4b36d80ec7672ced9cc65593a78c884f2d6afa0adcabb2c88da066718fe73b", func := "loop.example/kleenetests/laws.FnExactAutoBoth", spec := "fnExactAutoBoth", apart := false }
def FnExactAutoBothSaid : Prop := fnExactAutoBothRow.holds Try.pinned (OpenSpec.ofChange fnExactAutoBothSpec)

/-- ITS FALSE NEIGHBOUR: 'it returns false'. Refute it at one input. -/
def fnExactAutoBothWrong : ChangeSpec := { name := "fnExactAutoBoth", fn := fun _ => fun
  | [d1, d2] => { results := [.lit (.bool false)], args := [d1, d2] }
  | _ => none }
def FnExactAutoBothWrongFalsely : Prop := fnExactAutoBothRow.holds Try.pinned (OpenSpec.ofChange fnExactAutoBothWrong)

/-- 'laws.FnExactAutoPlus': WHATEVER THE INPUT: true; the input reads as it did. -/
def fnExactAutoPlusSpec : ChangeSpec := { name := "fnExactAutoPlus", fn := fun _ => fun
  | [d1, d2] => { results := [.lit (.bool true)], args := [d1, d2] }
  | _ => none }
def fnExactAutoPlusRow : OpenClaim := { program := "ytoaelngalnojiaa", sum := "7c4b36d80ec7672ced9cc65593a78c884f2d6afa0adcabb2c88da066718fe73b", func := "loop.example/kleenetests/laws.FnExactAutoPlus", spec := "fnExactAutoPlus", unfollowed := true, recurses := true, apart := false }
def FnExactAutoPlusSaid : Prop := fnExactAutoPlusRow.holds Try.pinned (OpenSpec.ofChange fnExactAutoPlusSpec)

/-- ITS FALSE NEIGHBOUR: 'it returns false'. Refute it at one input. -/
def fnExactAutoPlusWrong : ChangeSpec := { name := "fnExactAutoPlus", fn := fun _ => fun
  | [d1, d2] => { results := [.lit (.bool false)], args := [d1, d2] }
  | _ => none }
def FnExactAutoPlusWrongFalsely : Prop := fnExactAutoPlusRow.holds Try.pinned (OpenSpec.ofChange fnExactAutoPlusWrong)

/-- 'laws.FnExactShortTrace': WHATEVER THE INPUT: true; the input reads as it did. -/
def fnExactShortTraceSpec : ChangeSpec := { name := "fnExactShortTrace", fn := fun _ => fun
  | [d] => { results := [.lit (.bool true)], args := [d] }
  | _ => none }
def fnExactShortTraceRow : OpenClaim := { program := "ytoaelngalnojiaa", sum := "7c4b36d80ec7672ced9cc65593a78c884f2d6afa0adcabb2c88da066718fe73b", func := "loop.example/kleenetests/laws.FnExactShortTrace", spec := "fnExactShortTrace", unfollowed := true, recurses := true, apart := false }
def FnExactShortTraceSaid : Prop := fnExactShortTraceRow.holds Try.pinned (OpenSpec.ofChange fnExactShortTraceSpec)

/-- ITS FALSE NEIGHBOUR: 'it returns false'. Refute it at one input. -/
def fnExactShortTraceWrong : ChangeSpec := { name := "fnExactShortTrace", fn := fun _ => fun
  | [d] => { results := [.lit (.bool false)], args := [d] }
  | _ => none }
def FnExactShortTraceWrongFalsely : Prop := fnExactShortTraceRow.holds Try.pinned (OpenSpec.ofChange fnExactShortTraceWrong)

/-- 'laws.FnExactAutoTrim': WHATEVER THE INPUT: true; the input reads as it did. -/
def fnExactAutoTrimSpec : ChangeSpec := { name := "fnExactAutoTrim", fn := fun _ => fun
  | [d] => { results := [.lit (.bool true)], args := [d] }
  | _ => none }
def fnExactAutoTrimRow : OpenClaim := { program := "ytoaelngalnojiaa", sum := "7c4b36d80ec7672ced9cc65593a78c884f2d6afa0adcabb2c88da066718fe73b", func := "loop.example/kleenetests/laws.FnExactAutoTrim", spec := "fnExactAutoTrim", unfollowed := true, recurses := true, apart := false }
def FnExactAutoTrimSaid : Prop := fnExactAutoTrimRow.holds Try.pinned (OpenSpec.ofChange fnExactAutoTrimSpec)

/-- ITS FALSE NEIGHBOUR: 'it returns false'. Refute it at one input. -/
def fnExactAutoTrimWrong : ChangeSpec := { name := "fnExactAutoTrim", fn := fun _ => fun
  | [d] => { results := [.lit (.bool false)], args := [d] }
  | _ => none }
def FnExactAutoTrimWrongFalsely : Prop := fnExactAutoTrimRow.holds Try.pinned (OpenSpec.ofChange fnExactAutoTrimWrong)

/- THE SECOND FORM. 'bulk': how many values and letters a reading holds, each counted each time it is reached (what is shared counts as often as it is met; a slice's spare places count too). A statement '..UptoSaid' is the law's where the arguments, and the package variables that the reading takes, are together of bulk at most 1048576: NARROWER than '..Said'. Prove '..Said' where nothing that the law and all that it calls make is longer than what came in: it says more and counts as full. Else prove '..UptoSaid'. A law counts once. -/
mutual
def uptoBulk {H : Type} : DataW H → Nat
  | .lit (.string bytes) => bytes.length + 1
  | .lit _ => 1
  | .nil => 1
  | .ptr d => uptoBulk d + 1
  | .slice elems spare => uptoBulkAll elems + uptoBulkAll spare + 1
  | .agg parts => uptoBulkAll parts + 1
  | .iface _ d => uptoBulk d + 1
  | .map entries => uptoBulkEntries entries + 1
  | .held _ => 1
def uptoBulkAll {H : Type} : List (DataW H) → Nat
  | [] => 0
  | d :: r => uptoBulk d + uptoBulkAll r
def uptoBulkEntries {H : Type} : List (Lit × DataW H) → Nat
  | [] => 0
  | x :: r => uptoBulkEntry x + uptoBulkEntries r
def uptoBulkEntry {H : Type} : Lit × DataW H → Nat
  | (.string bytes, d) => bytes.length + uptoBulk d + 1
  | (_, d) => uptoBulk d + 1
 end
def uptoSmall : (H : Type) → List (DataW H) → Bool := fun _ ds => decide (uptoBulkAll ds ≤ 1048576)
def OpenSpec.upto (s : _root_.Go.ChangeSpec) : _root_.Go.OpenSpec := { _root_.Go.OpenSpec.ofChange s with cond := some uptoSmall }

/-- 'laws.FnExactAutoValid', WHERE WHAT IT READS IS OF BULK AT MOST 1048576: true; the input reads as it did. -/
def fnExactAutoValidUptoRow : OpenClaim := { program := "ytoaelngalnojiaa", sum := "7c4b36d80ec7672ced9cc65593a78c884f2d6afa0adcabb2c88da066718fe73b", func := "loop.example/kleenetests/laws.FnExactAutoValid", spec := "fnExactAutoValid", apart := false, narrowed := true }
def FnExactAutoValidUptoSaid : Prop := fnExactAutoValidUptoRow.holds Try.pinned (OpenSpec.upto fnExactAutoValidSpec)

/-- 'laws.FnExactEndsAt', WHERE WHAT IT READS IS OF BULK AT MOST 1048576: true; the input reads as it did. -/
def fnExactEndsAtUptoRow : OpenClaim := { program := "ytoaelngalnojiaa", sum := "7c4b36d80ec7672ced9cc65593a78c884f2d6afa0adcabb2c88da066718fe73b", func := "loop.example/kleenetests/laws.FnExactEndsAt", spec := "fnExactEndsAt", recurses := true, apart := false, narrowed := true }
def FnExactEndsAtUptoSaid : Prop := fnExactEndsAtUptoRow.holds Try.pinned (OpenSpec.upto fnExactEndsAtSpec)

/-- 'laws.FnExactStatesEnd', WHERE WHAT IT READS IS OF BULK AT MOST 1048576: true; the input reads as it did. -/
def fnExactStatesEndUptoRow : OpenClaim := { program := "ytoaelngalnojiaa", sum := "7c4b36d80ec7672ced9cc65593a78c884f2d6afa0adcabb2c88da066718fe73b", func := "loop.example/kleenetests/laws.FnExactStatesEnd", spec := "fnExactStatesEnd", apart := false, narrowed := true }
def FnExactStatesEndUptoSaid : Prop := fnExactStatesEndUptoRow.holds Try.pinned (OpenSpec.upto fnExactStatesEndSpec)

/-- 'laws.FnExactStatesBehind', WHERE WHAT IT READS IS OF BULK AT MOST 1048576: true; the input reads as it did. -/
def fnExactStatesBehindUptoRow : OpenClaim := { program := "ytoaelngalnojiaa", sum := "7c4b36d80ec7672ced9cc65593a78c884f2d6afa0adcabb2c88da066718fe73b", func := "loop.example/kleenetests/laws.FnExactStatesBehind", spec := "fnExactStatesBehind", apart := false, narrowed := true }
def FnExactStatesBehindUptoSaid : Prop := fnExactStatesBehindUptoRow.holds Try.pinned (OpenSpec.upto fnExactStatesBehindSpec)

/-- 'laws.FnExactAutoLive', WHERE WHAT IT READS IS OF BULK AT MOST 1048576: true; the input reads as it did. -/
def fnExactAutoLiveUptoRow : OpenClaim := { program := "ytoaelngalnojiaa", sum := "7c4b36d80ec7672ced9cc65593a78c884f2d6afa0adcabb2c88da066718fe73b", func := "loop.example/kleenetests/laws.FnExactAutoLive", spec := "fnExactAutoLive", unfollowed := true, recurses := true, apart := false, narrowed := true }
def FnExactAutoLiveUptoSaid : Prop := fnExactAutoLiveUptoRow.holds Try.pinned (OpenSpec.upto fnExactAutoLiveSpec)

/-- 'laws.FnExactAutoReach', WHERE WHAT IT READS IS OF BULK AT MOST 1048576: true; the input reads as it did. -/
def fnExactAutoReachUptoRow : OpenClaim := { program := "ytoaelngalnojiaa", sum := "7c4b36d80ec7672ced9cc65593a78c884f2d6afa0adcabb2c88da066718fe73b", func := "loop.example/kleenetests/laws.FnExactAutoReach", spec := "fnExactAutoReach", apart := false, narrowed := true }
def FnExactAutoReachUptoSaid : Prop := fnExactAutoReachUptoRow.holds Try.pinned (OpenSpec.upto fnExactAutoReachSpec)

/-- 'laws.FnExactAutoRun', WHERE WHAT IT READS IS OF BULK AT MOST 1048576: true; the input reads as it did. -/
def fnExactAutoRunUptoRow : OpenClaim := { program := "ytoaelngalnojiaa", sum := "7c4b36d80ec7672ced9cc65593a78c884f2d6afa0adcabb2c88da066718fe73b", func := "loop.example/kleenetests/laws.FnExactAutoRun", spec := "fnExactAutoRun", apart := false, narrowed := true }
def FnExactAutoRunUptoSaid : Prop := fnExactAutoRunUptoRow.holds Try.pinned (OpenSpec.upto fnExactAutoRunSpec)

/-- 'laws.FnExactAutoBoth', WHERE WHAT IT READS IS OF BULK AT MOST 1048576: true; the input reads as it did. -/
def fnExactAutoBothUptoRow : OpenClaim := { program := "ytoaelngalnojiaa", sum := "7c4b36d80ec7672ced9cc65593a78c884f2d6afa0adcabb2c88da066718fe73b", func := "loop.example/kleenetests/laws.FnExactAutoBoth", spec := "fnExactAutoBoth", apart := false, narrowed := true }
def FnExactAutoBothUptoSaid : Prop := fnExactAutoBothUptoRow.holds Try.pinned (OpenSpec.upto fnExactAutoBothSpec)

/-- 'laws.FnExactAutoPlus', WHERE WHAT IT READS IS OF BULK AT MOST 1048576: true; the input reads as it did. -/
def fnExactAutoPlusUptoRow : OpenClaim := { program := "ytoaelngalnojiaa", sum := "7c4b36d80ec7672ced9cc65593a78c884f2d6afa0adcabb2c88da066718fe73b", func := "loop.example/kleenetests/laws.FnExactAutoPlus", spec := "fnExactAutoPlus", unfollowed := true, recurses := true, apart := false, narrowed := true }
def FnExactAutoPlusUptoSaid : Prop := fnExactAutoPlusUptoRow.holds Try.pinned (OpenSpec.upto fnExactAutoPlusSpec)

/-- 'laws.FnExactShortTrace', WHERE WHAT IT READS IS OF BULK AT MOST 1048576: true; the input reads as it did. -/
def fnExactShortTraceUptoRow : OpenClaim := { program := "ytoaelngalnojiaa", sum := "7c4b36d80ec7672ced9cc65593a78c884f2d6afa0adcabb2c88da066718fe73b", func := "loop.example/kleenetests/laws.FnExactShortTrace", spec := "fnExactShortTrace", unfollowed := true, recurses := true, apart := false, narrowed := true }
def FnExactShortTraceUptoSaid : Prop := fnExactShortTraceUptoRow.holds Try.pinned (OpenSpec.upto fnExactShortTraceSpec)

/-- 'laws.FnExactAutoTrim', WHERE WHAT IT READS IS OF BULK AT MOST 1048576: true; the input reads as it did. -/
def fnExactAutoTrimUptoRow : OpenClaim := { program := "ytoaelngalnojiaa", sum := "7c4b36d80ec7672ced9cc65593a78c884f2d6afa0adcabb2c88da066718fe73b", func := "loop.example/kleenetests/laws.FnExactAutoTrim", spec := "fnExactAutoTrim", unfollowed := true, recurses := true, apart := false, narrowed := true }
def FnExactAutoTrimUptoSaid : Prop := fnExactAutoTrimUptoRow.holds Try.pinned (OpenSpec.upto fnExactAutoTrimSpec)

end Rows
end Go.Proofs.Ytoaelngalnojiaa
