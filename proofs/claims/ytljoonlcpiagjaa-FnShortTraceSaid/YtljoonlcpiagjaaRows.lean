/-
  No cell of these rows narrows 'for every input' (looked for: loops, veiled, ifaces, maps, wideKeys, modest, calm, conditions, laid).
  DERIVED. THE GIVEN ROWS OF THIS SEAT. 12 by the template 'for every input the law returns true; each argument reads behind the call as it read before'; 0 by the template 'total and deterministic' (their statements: YtljoonlcpiagjaaTotals.lean).
  GIVEN WITH THE SEED: the statements are not yours to turn. If you find one false, say at which input.
  Laid BY PROGRAM, IN A SANDBOX (cutbox-rows.mjs): the forced cells as the released guide's own fill.sh prints them over the translation 15c041d445ee0a4f… (all of the seat's roots in one cut). By AI agents, Wed Nov 11 2026. No macro, syntax, notation, axiom, sorry.
-/
import Derived.Test.YtljoonlcpiagjaaChecked
import GoSem.Claim
import GoSem.ClaimJoined
import GoSem.ClaimMapViews
import Derived.JoinedTies
import Derived.KernelRfl
namespace Go.Proofs.Ytljoonlcpiagjaa
/- THE CELL 'sum', in the pinned program and in every row, IS THE sha256 OF THE DUMP (.gsa) THAT YtljoonlcpiagjaaProg.lean LOADS. Nothing in Lean hashes anything: it is a label: what it is worth is what the hold of that sum in a sandbox is worth. -/
noncomputable def Try.pinned : Pinned := { name := "ytljoonlcpiagjaa", sum := "15c041d445ee0a4fcf104de4aa67991040b80fc86572c938388403de172dea0e", checked := Try.checked }
namespace Rows
def none {H : Type} : Left H := { results := [], args := [] }

/-- 'laws.FnAutoTrim': WHATEVER THE INPUT: true; the input reads as it did. -/
def fnAutoTrimSpec : ChangeSpec := { name := "fnAutoTrim", fn := fun _ => fun
  | [d1, d2] => { results := [.lit (.bool true)], args := [d1, d2] }
  | _ => none }
def fnAutoTrimRow : OpenClaim := { program := "ytljoonlcpiagjaa", sum := "15c041d445ee0a4fcf104de4aa67991040b80fc86572c938388403de172dea0e", func := "loop.example/kleenetests/laws.FnAutoTrim", spec := "fnAutoTrim", unfollowed := true, recurses := true, plainKeys := false, apart := false }
def FnAutoTrimSaid : Prop := fnAutoTrimRow.holds Try.pinned (OpenSpec.ofChange fnAutoTrimSpec)

/-- ITS FALSE NEIGHBOUR: 'it returns false'. Refute it at one input. -/
def fnAutoTrimWrong : ChangeSpec := { name := "fnAutoTrim", fn := fun _ => fun
  | [d1, d2] => { results := [.lit (.bool false)], args := [d1, d2] }
  | _ => none }
def FnAutoTrimWrongFalsely : Prop := fnAutoTrimRow.holds Try.pinned (OpenSpec.ofChange fnAutoTrimWrong)

/-- 'laws.FnAutoBoth': WHATEVER THE INPUT: true; the input reads as it did. -/
def fnAutoBothSpec : ChangeSpec := { name := "fnAutoBoth", fn := fun _ => fun
  | [d1, d2] => { results := [.lit (.bool true)], args := [d1, d2] }
  | _ => none }
def fnAutoBothRow : OpenClaim := { program := "ytljoonlcpiagjaa", sum := "15c041d445ee0a4fcf104de4aa67991040b80fc86572c938388403de172dea0e", func := "loop.example/kleenetests/laws.FnAutoBoth", spec := "fnAutoBoth", recurses := true, plainKeys := false, apart := false }
def FnAutoBothSaid : Prop := fnAutoBothRow.holds Try.pinned (OpenSpec.ofChange fnAutoBothSpec)

/-- ITS FALSE NEIGHBOUR: 'it returns false'. Refute it at one input. -/
def fnAutoBothWrong : ChangeSpec := { name := "fnAutoBoth", fn := fun _ => fun
  | [d1, d2] => { results := [.lit (.bool false)], args := [d1, d2] }
  | _ => none }
def FnAutoBothWrongFalsely : Prop := fnAutoBothRow.holds Try.pinned (OpenSpec.ofChange fnAutoBothWrong)

/-- 'laws.FnAutoRun': WHATEVER THE INPUT: true; the input reads as it did. -/
def fnAutoRunSpec : ChangeSpec := { name := "fnAutoRun", fn := fun _ => fun
  | [d] => { results := [.lit (.bool true)], args := [d] }
  | _ => none }
def fnAutoRunRow : OpenClaim := { program := "ytljoonlcpiagjaa", sum := "15c041d445ee0a4fcf104de4aa67991040b80fc86572c938388403de172dea0e", func := "loop.example/kleenetests/laws.FnAutoRun", spec := "fnAutoRun", recurses := true, plainKeys := false, apart := false }
def FnAutoRunSaid : Prop := fnAutoRunRow.holds Try.pinned (OpenSpec.ofChange fnAutoRunSpec)

/-- ITS FALSE NEIGHBOUR: 'it returns false'. Refute it at one input. -/
def fnAutoRunWrong : ChangeSpec := { name := "fnAutoRun", fn := fun _ => fun
  | [d] => { results := [.lit (.bool false)], args := [d] }
  | _ => none }
def FnAutoRunWrongFalsely : Prop := fnAutoRunRow.holds Try.pinned (OpenSpec.ofChange fnAutoRunWrong)

/-- 'laws.FnAutoLive': WHATEVER THE INPUT: true; the input reads as it did. -/
def fnAutoLiveSpec : ChangeSpec := { name := "fnAutoLive", fn := fun _ => fun
  | [d] => { results := [.lit (.bool true)], args := [d] }
  | _ => none }
def fnAutoLiveRow : OpenClaim := { program := "ytljoonlcpiagjaa", sum := "15c041d445ee0a4fcf104de4aa67991040b80fc86572c938388403de172dea0e", func := "loop.example/kleenetests/laws.FnAutoLive", spec := "fnAutoLive", unfollowed := true, recurses := true, plainKeys := false, apart := false }
def FnAutoLiveSaid : Prop := fnAutoLiveRow.holds Try.pinned (OpenSpec.ofChange fnAutoLiveSpec)

/-- ITS FALSE NEIGHBOUR: 'it returns false'. Refute it at one input. -/
def fnAutoLiveWrong : ChangeSpec := { name := "fnAutoLive", fn := fun _ => fun
  | [d] => { results := [.lit (.bool false)], args := [d] }
  | _ => none }
def FnAutoLiveWrongFalsely : Prop := fnAutoLiveRow.holds Try.pinned (OpenSpec.ofChange fnAutoLiveWrong)

/-- 'laws.FnAutoPlus': WHATEVER THE INPUT: true; the input reads as it did. -/
def fnAutoPlusSpec : ChangeSpec := { name := "fnAutoPlus", fn := fun _ => fun
  | [d1, d2] => { results := [.lit (.bool true)], args := [d1, d2] }
  | _ => none }
def fnAutoPlusRow : OpenClaim := { program := "ytljoonlcpiagjaa", sum := "15c041d445ee0a4fcf104de4aa67991040b80fc86572c938388403de172dea0e", func := "loop.example/kleenetests/laws.FnAutoPlus", spec := "fnAutoPlus", unfollowed := true, recurses := true, plainKeys := false, apart := false }
def FnAutoPlusSaid : Prop := fnAutoPlusRow.holds Try.pinned (OpenSpec.ofChange fnAutoPlusSpec)

/-- ITS FALSE NEIGHBOUR: 'it returns false'. Refute it at one input. -/
def fnAutoPlusWrong : ChangeSpec := { name := "fnAutoPlus", fn := fun _ => fun
  | [d1, d2] => { results := [.lit (.bool false)], args := [d1, d2] }
  | _ => none }
def FnAutoPlusWrongFalsely : Prop := fnAutoPlusRow.holds Try.pinned (OpenSpec.ofChange fnAutoPlusWrong)

/-- 'laws.FnExactAutoPlus': WHATEVER THE INPUT: true; the input reads as it did. -/
def fnExactAutoPlusSpec : ChangeSpec := { name := "fnExactAutoPlus", fn := fun _ => fun
  | [d1, d2] => { results := [.lit (.bool true)], args := [d1, d2] }
  | _ => none }
def fnExactAutoPlusRow : OpenClaim := { program := "ytljoonlcpiagjaa", sum := "15c041d445ee0a4fcf104de4aa67991040b80fc86572c938388403de172dea0e", func := "loop.example/kleenetests/laws.FnExactAutoPlus", spec := "fnExactAutoPlus", unfollowed := true, recurses := true, plainKeys := false, apart := false }
def FnExactAutoPlusSaid : Prop := fnExactAutoPlusRow.holds Try.pinned (OpenSpec.ofChange fnExactAutoPlusSpec)

/-- ITS FALSE NEIGHBOUR: 'it returns false'. Refute it at one input. -/
def fnExactAutoPlusWrong : ChangeSpec := { name := "fnExactAutoPlus", fn := fun _ => fun
  | [d1, d2] => { results := [.lit (.bool false)], args := [d1, d2] }
  | _ => none }
def FnExactAutoPlusWrongFalsely : Prop := fnExactAutoPlusRow.holds Try.pinned (OpenSpec.ofChange fnExactAutoPlusWrong)

/-- 'laws.FnExactShortTrace': WHATEVER THE INPUT: true; the input reads as it did. -/
def fnExactShortTraceSpec : ChangeSpec := { name := "fnExactShortTrace", fn := fun _ => fun
  | [d] => { results := [.lit (.bool true)], args := [d] }
  | _ => none }
def fnExactShortTraceRow : OpenClaim := { program := "ytljoonlcpiagjaa", sum := "15c041d445ee0a4fcf104de4aa67991040b80fc86572c938388403de172dea0e", func := "loop.example/kleenetests/laws.FnExactShortTrace", spec := "fnExactShortTrace", unfollowed := true, recurses := true, plainKeys := false, apart := false }
def FnExactShortTraceSaid : Prop := fnExactShortTraceRow.holds Try.pinned (OpenSpec.ofChange fnExactShortTraceSpec)

/-- ITS FALSE NEIGHBOUR: 'it returns false'. Refute it at one input. -/
def fnExactShortTraceWrong : ChangeSpec := { name := "fnExactShortTrace", fn := fun _ => fun
  | [d] => { results := [.lit (.bool false)], args := [d] }
  | _ => none }
def FnExactShortTraceWrongFalsely : Prop := fnExactShortTraceRow.holds Try.pinned (OpenSpec.ofChange fnExactShortTraceWrong)

/-- 'laws.FnShortTrace': WHATEVER THE INPUT: true; the input reads as it did. -/
def fnShortTraceSpec : ChangeSpec := { name := "fnShortTrace", fn := fun _ => fun
  | [d] => { results := [.lit (.bool true)], args := [d] }
  | _ => none }
def fnShortTraceRow : OpenClaim := { program := "ytljoonlcpiagjaa", sum := "15c041d445ee0a4fcf104de4aa67991040b80fc86572c938388403de172dea0e", func := "loop.example/kleenetests/laws.FnShortTrace", spec := "fnShortTrace", unfollowed := true, recurses := true, plainKeys := false, apart := false }
def FnShortTraceSaid : Prop := fnShortTraceRow.holds Try.pinned (OpenSpec.ofChange fnShortTraceSpec)

/-- ITS FALSE NEIGHBOUR: 'it returns false'. Refute it at one input. -/
def fnShortTraceWrong : ChangeSpec := { name := "fnShortTrace", fn := fun _ => fun
  | [d] => { results := [.lit (.bool false)], args := [d] }
  | _ => none }
def FnShortTraceWrongFalsely : Prop := fnShortTraceRow.holds Try.pinned (OpenSpec.ofChange fnShortTraceWrong)

/-- 'laws.FnExactWeakTest': WHATEVER THE INPUT: true; the input reads as it did. -/
def fnExactWeakTestSpec : ChangeSpec := { name := "fnExactWeakTest", fn := fun _ => fun
  | [d1, d2] => { results := [.lit (.bool true)], args := [d1, d2] }
  | _ => none }
def fnExactWeakTestRow : OpenClaim := { program := "ytljoonlcpiagjaa", sum := "15c041d445ee0a4fcf104de4aa67991040b80fc86572c938388403de172dea0e", func := "loop.example/kleenetests/laws.FnExactWeakTest", spec := "fnExactWeakTest", unfollowed := true, recurses := true, plainKeys := false, apart := false }
def FnExactWeakTestSaid : Prop := fnExactWeakTestRow.holds Try.pinned (OpenSpec.ofChange fnExactWeakTestSpec)

/-- ITS FALSE NEIGHBOUR: 'it returns false'. Refute it at one input. -/
def fnExactWeakTestWrong : ChangeSpec := { name := "fnExactWeakTest", fn := fun _ => fun
  | [d1, d2] => { results := [.lit (.bool false)], args := [d1, d2] }
  | _ => none }
def FnExactWeakTestWrongFalsely : Prop := fnExactWeakTestRow.holds Try.pinned (OpenSpec.ofChange fnExactWeakTestWrong)

/-- 'laws.FnExactTripleOk': WHATEVER THE INPUT: true; the input reads as it did. -/
def fnExactTripleOkSpec : ChangeSpec := { name := "fnExactTripleOk", fn := fun _ => fun
  | [d1, d2, d3] => { results := [.lit (.bool true)], args := [d1, d2, d3] }
  | _ => none }
def fnExactTripleOkRow : OpenClaim := { program := "ytljoonlcpiagjaa", sum := "15c041d445ee0a4fcf104de4aa67991040b80fc86572c938388403de172dea0e", func := "loop.example/kleenetests/laws.FnExactTripleOk", spec := "fnExactTripleOk", unfollowed := true, recurses := true, plainKeys := false, apart := false }
def FnExactTripleOkSaid : Prop := fnExactTripleOkRow.holds Try.pinned (OpenSpec.ofChange fnExactTripleOkSpec)

/-- ITS FALSE NEIGHBOUR: 'it returns false'. Refute it at one input. -/
def fnExactTripleOkWrong : ChangeSpec := { name := "fnExactTripleOk", fn := fun _ => fun
  | [d1, d2, d3] => { results := [.lit (.bool false)], args := [d1, d2, d3] }
  | _ => none }
def FnExactTripleOkWrongFalsely : Prop := fnExactTripleOkRow.holds Try.pinned (OpenSpec.ofChange fnExactTripleOkWrong)

/-- 'laws.FnExactStrongTest': WHATEVER THE INPUT: true; the input reads as it did. -/
def fnExactStrongTestSpec : ChangeSpec := { name := "fnExactStrongTest", fn := fun _ => fun
  | [d1, d2] => { results := [.lit (.bool true)], args := [d1, d2] }
  | _ => none }
def fnExactStrongTestRow : OpenClaim := { program := "ytljoonlcpiagjaa", sum := "15c041d445ee0a4fcf104de4aa67991040b80fc86572c938388403de172dea0e", func := "loop.example/kleenetests/laws.FnExactStrongTest", spec := "fnExactStrongTest", unfollowed := true, recurses := true, plainKeys := false, apart := false }
def FnExactStrongTestSaid : Prop := fnExactStrongTestRow.holds Try.pinned (OpenSpec.ofChange fnExactStrongTestSpec)

/-- ITS FALSE NEIGHBOUR: 'it returns false'. Refute it at one input. -/
def fnExactStrongTestWrong : ChangeSpec := { name := "fnExactStrongTest", fn := fun _ => fun
  | [d1, d2] => { results := [.lit (.bool false)], args := [d1, d2] }
  | _ => none }
def FnExactStrongTestWrongFalsely : Prop := fnExactStrongTestRow.holds Try.pinned (OpenSpec.ofChange fnExactStrongTestWrong)

/-- 'laws.FnExactPairsOk': WHATEVER THE INPUT: true; the input reads as it did. -/
def fnExactPairsOkSpec : ChangeSpec := { name := "fnExactPairsOk", fn := fun _ => fun
  | [d1, d2, d3] => { results := [.lit (.bool true)], args := [d1, d2, d3] }
  | _ => none }
def fnExactPairsOkRow : OpenClaim := { program := "ytljoonlcpiagjaa", sum := "15c041d445ee0a4fcf104de4aa67991040b80fc86572c938388403de172dea0e", func := "loop.example/kleenetests/laws.FnExactPairsOk", spec := "fnExactPairsOk", unfollowed := true, recurses := true, plainKeys := false, apart := false }
def FnExactPairsOkSaid : Prop := fnExactPairsOkRow.holds Try.pinned (OpenSpec.ofChange fnExactPairsOkSpec)

/-- ITS FALSE NEIGHBOUR: 'it returns false'. Refute it at one input. -/
def fnExactPairsOkWrong : ChangeSpec := { name := "fnExactPairsOk", fn := fun _ => fun
  | [d1, d2, d3] => { results := [.lit (.bool false)], args := [d1, d2, d3] }
  | _ => none }
def FnExactPairsOkWrongFalsely : Prop := fnExactPairsOkRow.holds Try.pinned (OpenSpec.ofChange fnExactPairsOkWrong)

/- THE SECOND FORM. 'bulk': how many values and letters a reading holds, each counted each time it is reached (what is shared counts as often as it is met; a slice's spare places count too). A statement '..UptoSaid' is the law's where the arguments, and the package variables that the reading takes, are together of bulk at most 1048576: NARROWER than '..Said'. Prove '..Said' where nothing that the law and all that it calls make is longer than what came in: it says more and counts as full. Else prove '..UptoSaid'. A law counts once. -/
mutual
def uptoBulk {H : Type} : DataW H → Nat
  | .lit (.string bytes) => bytes.length + 1
  | .lit _ => 1
  | .nil => 1
  | .ptr d => uptoBulk d + 1
  | .slice elems spare => uptoBulkAll elems + uptoBulkAll spare + 1
  | .agg parts => uptoBulkAll parts + 1
  | .iface _ d => uptoBulk d + 1
  | .map entries => uptoBulkEntries entries + 1
  | .held _ => 1
def uptoBulkAll {H : Type} : List (DataW H) → Nat
  | [] => 0
  | d :: r => uptoBulk d + uptoBulkAll r
def uptoBulkEntries {H : Type} : List (Lit × DataW H) → Nat
  | [] => 0
  | x :: r => uptoBulkEntry x + uptoBulkEntries r
def uptoBulkEntry {H : Type} : Lit × DataW H → Nat
  | (.string bytes, d) => bytes.length + uptoBulk d + 1
  | (_, d) => uptoBulk d + 1
 end
def uptoSmall : (H : Type) → List (DataW H) → Bool := fun _ ds => decide (uptoBulkAll ds ≤ 1048576)
def OpenSpec.upto (s : _root_.Go.ChangeSpec) : _root_.Go.OpenSpec := { _root_.Go.OpenSpec.ofChange s with cond := some uptoSmall }

/-- 'laws.FnAutoTrim', WHERE WHAT IT READS IS OF BULK AT MOST 1048576: true; the input reads as it did. -/
def fnAutoTrimUptoRow : OpenClaim := { program := "ytljoonlcpiagjaa", sum := "15c041d445ee0a4fcf104de4aa67991040b80fc86572c938388403de172dea0e", func := "loop.example/kleenetests/laws.FnAutoTrim", spec := "fnAutoTrim", unfollowed := true, recurses := true, plainKeys := false, apart := false, narrowed := true }
def FnAutoTrimUptoSaid : Prop := fnAutoTrimUptoRow.holds Try.pinned (OpenSpec.upto fnAutoTrimSpec)

/-- 'laws.FnAutoBoth', WHERE WHAT IT READS IS OF BULK AT MOST 1048576: true; the input reads as it did. -/
def fnAutoBothUptoRow : OpenClaim := { program := "ytljoonlcpiagjaa", sum := "15c041d445ee0a4fcf104de4aa67991040b80fc86572c938388403de172dea0e", func := "loop.example/kleenetests/laws.FnAutoBoth", spec := "fnAutoBoth", recurses := true, plainKeys := false, apart := false, narrowed := true }
def FnAutoBothUptoSaid : Prop := fnAutoBothUptoRow.holds Try.pinned (OpenSpec.upto fnAutoBothSpec)

/-- 'laws.FnAutoRun', WHERE WHAT IT READS IS OF BULK AT MOST 1048576: true; the input reads as it did. -/
def fnAutoRunUptoRow : OpenClaim := { program := "ytljoonlcpiagjaa", sum := "15c041d445ee0a4fcf104de4aa67991040b80fc86572c938388403de172dea0e", func := "loop.example/kleenetests/laws.FnAutoRun", spec := "fnAutoRun", recurses := true, plainKeys := false, apart := false, narrowed := true }
def FnAutoRunUptoSaid : Prop := fnAutoRunUptoRow.holds Try.pinned (OpenSpec.upto fnAutoRunSpec)

/-- 'laws.FnAutoLive', WHERE WHAT IT READS IS OF BULK AT MOST 1048576: true; the input reads as it did. -/
def fnAutoLiveUptoRow : OpenClaim := { program := "ytljoonlcpiagjaa", sum := "15c041d445ee0a4fcf104de4aa67991040b80fc86572c938388403de172dea0e", func := "loop.example/kleenetests/laws.FnAutoLive", spec := "fnAutoLive", unfollowed := true, recurses := true, plainKeys := false, apart := false, narrowed := true }
def FnAutoLiveUptoSaid : Prop := fnAutoLiveUptoRow.holds Try.pinned (OpenSpec.upto fnAutoLiveSpec)

/-- 'laws.FnAutoPlus', WHERE WHAT IT READS IS OF BULK AT MOST 1048576: true; the input reads as it did. -/
def fnAutoPlusUptoRow : OpenClaim := { program := "ytljoonlcpiagjaa", sum := "15c041d445ee0a4fcf104de4aa67991040b80fc86572c938388403de172dea0e", func := "loop.example/kleenetests/laws.FnAutoPlus", spec := "fnAutoPlus", unfollowed := true, recurses := true, plainKeys := false, apart := false, narrowed := true }
def FnAutoPlusUptoSaid : Prop := fnAutoPlusUptoRow.holds Try.pinned (OpenSpec.upto fnAutoPlusSpec)

/-- 'laws.FnExactAutoPlus', WHERE WHAT IT READS IS OF BULK AT MOST 1048576: true; the input reads as it did. -/
def fnExactAutoPlusUptoRow : OpenClaim := { program := "ytljoonlcpiagjaa", sum := "15c041d445ee0a4fcf104de4aa67991040b80fc86572c938388403de172dea0e", func := "loop.example/kleenetests/laws.FnExactAutoPlus", spec := "fnExactAutoPlus", unfollowed := true, recurses := true, plainKeys := false, apart := false, narrowed := true }
def FnExactAutoPlusUptoSaid : Prop := fnExactAutoPlusUptoRow.holds Try.pinned (OpenSpec.upto fnExactAutoPlusSpec)

/-- 'laws.FnExactShortTrace', WHERE WHAT IT READS IS OF BULK AT MOST 1048576: true; the input reads as it did. -/
def fnExactShortTraceUptoRow : OpenClaim := { program := "ytljoonlcpiagjaa", sum := "15c041d445ee0a4fcf104de4aa67991040b80fc86572c938388403de172dea0e", func := "loop.example/kleenetests/laws.FnExactShortTrace", spec := "fnExactShortTrace", unfollowed := true, recurses := true, plainKeys := false, apart := false, narrowed := true }
def FnExactShortTraceUptoSaid : Prop := fnExactShortTraceUptoRow.holds Try.pinned (OpenSpec.upto fnExactShortTraceSpec)

/-- 'laws.FnShortTrace', WHERE WHAT IT READS IS OF BULK AT MOST 1048576: true; the input reads as it did. -/
def fnShortTraceUptoRow : OpenClaim := { program := "ytljoonlcpiagjaa", sum := "15c041d445ee0a4fcf104de4aa67991040b80fc86572c938388403de172dea0e", func := "loop.example/kleenetests/laws.FnShortTrace", spec := "fnShortTrace", unfollowed := true, recurses := true, plainKeys := false, apart := false, narrowed := true }
def FnShortTraceUptoSaid : Prop := fnShortTraceUptoRow.holds Try.pinned (OpenSpec.upto fnShortTraceSpec)

/-- 'laws.FnExactWeakTest', WHERE WHAT IT READS IS OF BULK AT MOST 1048576: true; the input reads as it did. -/
def fnExactWeakTestUptoRow : OpenClaim := { program := "ytljoonlcpiagjaa", sum := "15c041d445ee0a4fcf104de4aa67991040b80fc86572c938388403de172dea0e", func := "loop.example/kleenetests/laws.FnExactWeakTest", spec := "fnExactWeakTest", unfollowed := true, recurses := true, plainKeys := false, apart := false, narrowed := true }
def FnExactWeakTestUptoSaid : Prop := fnExactWeakTestUptoRow.holds Try.pinned (OpenSpec.upto fnExactWeakTestSpec)

/-- 'laws.FnExactTripleOk', WHERE WHAT IT READS IS OF BULK AT MOST 1048576: true; the input reads as it did. -/
def fnExactTripleOkUptoRow : OpenClaim := { program := "ytljoonlcpiagjaa", sum := "15c041d445ee0a4fcf104de4aa67991040b80fc86572c938388403de172dea0e", func := "loop.example/kleenetests/laws.FnExactTripleOk", spec := "fnExactTripleOk", unfollowed := true, recurses := true, plainKeys := false, apart := false, narrowed := true }
def FnExactTripleOkUptoSaid : Prop := fnExactTripleOkUptoRow.holds Try.pinned (OpenSpec.upto fnExactTripleOkSpec)

/-- 'laws.FnExactStrongTest', WHERE WHAT IT READS IS OF BULK AT MOST 1048576: true; the input reads as it did. -/
def fnExactStrongTestUptoRow : OpenClaim := { program := "ytljoonlcpiagjaa", sum := "15c041d445ee0a4fcf104de4aa67991040b80fc86572c938388403de172dea0e", func := "loop.example/kleenetests/laws.FnExactStrongTest", spec := "fnExactStrongTest", unfollowed := true, recurses := true, plainKeys := false, apart := false, narrowed := true }
def FnExactStrongTestUptoSaid : Prop := fnExactStrongTestUptoRow.holds Try.pinned (OpenSpec.upto fnExactStrongTestSpec)

/-- 'laws.FnExactPairsOk', WHERE WHAT IT READS IS OF BULK AT MOST 1048576: true; the input reads as it did. -/
def fnExactPairsOkUptoRow : OpenClaim := { program := "ytljoonlcpiagjaa", sum := "15c041d445ee0a4fcf104de4aa67991040b80fc86572c938388403de172dea0e", func := "loop.example/kleenetests/laws.FnExactPairsOk", spec := "fnExactPairsOk", unfollowed := true, recurses := true, plainKeys := false, apart := false, narrowed := true }
def FnExactPairsOkUptoSaid : Prop := fnExactPairsOkUptoRow.holds Try.pinned (OpenSpec.upto fnExactPairsOkSpec)

end Rows
end Go.Proofs.Ytljoonlcpiagjaa
