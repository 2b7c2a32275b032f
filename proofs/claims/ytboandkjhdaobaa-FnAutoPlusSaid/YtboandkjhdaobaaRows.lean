/-
  No cell of these rows narrows 'for every input' (looked for: loops, veiled, ifaces, maps, wideKeys, modest, calm, conditions, laid).
  DERIVED. THE GIVEN ROWS OF THIS SEAT. 14 by the template 'for every input the law returns true; each argument reads behind the call as it read before'; 0 by the template 'total and deterministic' (their statements: YtboandkjhdaobaaTotals.lean).
  GIVEN WITH THE SEED: the statements are not yours to turn. If you find one false, say at which input.
  Laid BY PROGRAM, IN A SANDBOX (cutbox-rows.mjs): the forced cells as the released guide's own fill.sh prints them over the translation 27aeb72f824f4394… (all of the seat's roots in one cut). By AI agents, Wed Nov 11 2026. No macro, syntax, notation, axiom, sorry.
-/
import Derived.Test.YtboandkjhdaobaaChecked
import GoSem.Claim
import GoSem.ClaimJoined
import GoSem.ClaimMapViews
import Derived.JoinedTies
import Derived.KernelRfl
namespace Go.Proofs.Ytboandkjhdaobaa
/- THE CELL 'sum', in the pinned program and in every row, IS THE sha256 OF THE DUMP (.gsa) THAT YtboandkjhdaobaaProg.lean LOADS. Nothing in Lean hashes anything: it is a label: what it is worth is what the hold of that sum in a sandbox is worth. -/
noncomputable def Try.pinned : Pinned := { name := "ytboandkjhdaobaa", sum := "27aeb72f824f4394fd4deeeb23584d006377033a8a779dc8726281b5c39950f3", checked := Try.checked }
namespace Rows
def none {H : Type} : Left H := { results := [], args := [] }

/-- 'laws.FnPairsOf': WHATEVER THE INPUT: true; the input reads as it did. -/
def fnPairsOfSpec : ChangeSpec := { name := "fnPairsOf", fn := fun _ => fun
  | [d] => { results := [.lit (.bool true)], args := [d] }
  | _ => none }
def fnPairsOfRow : OpenClaim := { program := "ytboandkjhdaobaa", sum := "27aeb72f824f4394fd4deeeb23584d006377033a8a779dc8726281b5c39950f3", func := "loop.example/kleenetests/laws.FnPairsOf", spec := "fnPairsOf", unfollowed := true, recurses := true, plainKeys := false, apart := false }
def FnPairsOfSaid : Prop := fnPairsOfRow.holds Try.pinned (OpenSpec.ofChange fnPairsOfSpec)

/-- ITS FALSE NEIGHBOUR: 'it returns false'. Refute it at one input. -/
def fnPairsOfWrong : ChangeSpec := { name := "fnPairsOf", fn := fun _ => fun
  | [d] => { results := [.lit (.bool false)], args := [d] }
  | _ => none }
def FnPairsOfWrongFalsely : Prop := fnPairsOfRow.holds Try.pinned (OpenSpec.ofChange fnPairsOfWrong)

/-- 'laws.FnExactAutoPlus': WHATEVER THE INPUT: true; the input reads as it did. -/
def fnExactAutoPlusSpec : ChangeSpec := { name := "fnExactAutoPlus", fn := fun _ => fun
  | [d1, d2] => { results := [.lit (.bool true)], args := [d1, d2] }
  | _ => none }
def fnExactAutoPlusRow : OpenClaim := { program := "ytboandkjhdaobaa", sum := "27aeb72f824f4394fd4deeeb23584d006377033a8a779dc8726281b5c39950f3", func := "loop.example/kleenetests/laws.FnExactAutoPlus", spec := "fnExactAutoPlus", unfollowed := true, recurses := true, plainKeys := false, apart := false }
def FnExactAutoPlusSaid : Prop := fnExactAutoPlusRow.holds Try.pinned (OpenSpec.ofChange fnExactAutoPlusSpec)

/-- ITS FALSE NEIGHBOUR: 'it returns false'. Refute it at one input. -/
def fnExactAutoPlusWrong : ChangeSpec := { name := "fnExactAutoPlus", fn := fun _ => fun
  | [d1, d2] => { results := [.lit (.bool false)], args := [d1, d2] }
  | _ => none }
def FnExactAutoPlusWrongFalsely : Prop := fnExactAutoPlusRow.holds Try.pinned (OpenSpec.ofChange fnExactAutoPlusWrong)

/-- 'laws.FnEndsAt': WHATEVER THE INPUT: true; the input reads as it did. -/
def fnEndsAtSpec : ChangeSpec := { name := "fnEndsAt", fn := fun _ => fun
  | [d] => { results := [.lit (.bool true)], args := [d] }
  | _ => none }
def fnEndsAtRow : OpenClaim := { program := "ytboandkjhdaobaa", sum := "27aeb72f824f4394fd4deeeb23584d006377033a8a779dc8726281b5c39950f3", func := "loop.example/kleenetests/laws.FnEndsAt", spec := "fnEndsAt", recurses := true, plainKeys := false, apart := false }
def FnEndsAtSaid : Prop := fnEndsAtRow.holds Try.pinned (OpenSpec.ofChange fnEndsAtSpec)

/-- ITS FALSE NEIGHBOUR: 'it returns false'. Refute it at one input. -/
def fnEndsAtWrong : ChangeSpec := { name := "fnEndsAt", fn := fun _ => fun
  | [d] => { results := [.lit (.bool false)], args := [d] }
  | _ => none }
def FnEndsAtWrongFalsely : Prop := fnEndsAtRow.holds Try.pinned (OpenSpec.ofChange fnEndsAtWrong)

/-- 'laws.FnTracesMany': WHATEVER THE INPUT: true; the input reads as it did. -/
def fnTracesManySpec : ChangeSpec := { name := "fnTracesMany", fn := fun _ => fun
  | [d] => { results := [.lit (.bool true)], args := [d] }
  | _ => none }
def fnTracesManyRow : OpenClaim := { program := "ytboandkjhdaobaa", sum := "27aeb72f824f4394fd4deeeb23584d006377033a8a779dc8726281b5c39950f3", func := "loop.example/kleenetests/laws.FnTracesMany", spec := "fnTracesMany", unfollowed := true, recurses := true, plainKeys := false, apart := false }
def FnTracesManySaid : Prop := fnTracesManyRow.holds Try.pinned (OpenSpec.ofChange fnTracesManySpec)

/-- ITS FALSE NEIGHBOUR: 'it returns false'. Refute it at one input. -/
def fnTracesManyWrong : ChangeSpec := { name := "fnTracesMany", fn := fun _ => fun
  | [d] => { results := [.lit (.bool false)], args := [d] }
  | _ => none }
def FnTracesManyWrongFalsely : Prop := fnTracesManyRow.holds Try.pinned (OpenSpec.ofChange fnTracesManyWrong)

/-- 'laws.FnAutoPlus': WHATEVER THE INPUT: true; the input reads as it did. -/
def fnAutoPlusSpec : ChangeSpec := { name := "fnAutoPlus", fn := fun _ => fun
  | [d1, d2] => { results := [.lit (.bool true)], args := [d1, d2] }
  | _ => none }
def fnAutoPlusRow : OpenClaim := { program := "ytboandkjhdaobaa", sum := "27aeb72f824f4394fd4deeeb23584d006377033a8a779dc8726281b5c39950f3", func := "loop.example/kleenetests/laws.FnAutoPlus", spec := "fnAutoPlus", unfollowed := true, recurses := true, plainKeys := false, apart := false }
def FnAutoPlusSaid : Prop := fnAutoPlusRow.holds Try.pinned (OpenSpec.ofChange fnAutoPlusSpec)

/-- ITS FALSE NEIGHBOUR: 'it returns false'. Refute it at one input. -/
def fnAutoPlusWrong : ChangeSpec := { name := "fnAutoPlus", fn := fun _ => fun
  | [d1, d2] => { results := [.lit (.bool false)], args := [d1, d2] }
  | _ => none }
def FnAutoPlusWrongFalsely : Prop := fnAutoPlusRow.holds Try.pinned (OpenSpec.ofChange fnAutoPlusWrong)

/-- 'laws.FnExactPairsOf': WHATEVER THE INPUT: true; the input reads as it did. -/
def fnExactPairsOfSpec : ChangeSpec := { name := "fnExactPairsOf", fn := fun _ => fun
  | [d1, d2] => { results := [.lit (.bool true)], args := [d1, d2] }
  | _ => none }
def fnExactPairsOfRow : OpenClaim := { program := "ytboandkjhdaobaa", sum := "27aeb72f824f4394fd4deeeb23584d006377033a8a779dc8726281b5c39950f3", func := "loop.example/kleenetests/laws.FnExactPairsOf", spec := "fnExactPairsOf", unfollowed := true, recurses := true, plainKeys := false, apart := false }
def FnExactPairsOfSaid : Prop := fnExactPairsOfRow.holds Try.pinned (OpenSpec.ofChange fnExactPairsOfSpec)

/-- ITS FALSE NEIGHBOUR: 'it returns false'. Refute it at one input. -/
def fnExactPairsOfWrong : ChangeSpec := { name := "fnExactPairsOf", fn := fun _ => fun
  | [d1, d2] => { results := [.lit (.bool false)], args := [d1, d2] }
  | _ => none }
def FnExactPairsOfWrongFalsely : Prop := fnExactPairsOfRow.holds Try.pinned (OpenSpec.ofChange fnExactPairsOfWrong)

/-- 'laws.FnExactPairsOk': WHATEVER THE INPUT: true; the input reads as it did. -/
def fnExactPairsOkSpec : ChangeSpec := { name := "fnExactPairsOk", fn := fun _ => fun
  | [d1, d2, d3] => { results := [.lit (.bool true)], args := [d1, d2, d3] }
  | _ => none }
def fnExactPairsOkRow : OpenClaim := { program := "ytboandkjhdaobaa", sum := "27aeb72f824f4394fd4deeeb23584d006377033a8a779dc8726281b5c39950f3", func := "loop.example/kleenetests/laws.FnExactPairsOk", spec := "fnExactPairsOk", unfollowed := true, recurses := true, plainKeys := false, apart := false }
def FnExactPairsOkSaid : Prop := fnExactPairsOkRow.holds Try.pinned (OpenSpec.ofChange fnExactPairsOkSpec)

/-- ITS FALSE NEIGHBOUR: 'it returns false'. Refute it at one input. -/
def fnExactPairsOkWrong : ChangeSpec := { name := "fnExactPairsOk", fn := fun _ => fun
  | [d1, d2, d3] => { results := [.lit (.bool false)], args := [d1, d2, d3] }
  | _ => none }
def FnExactPairsOkWrongFalsely : Prop := fnExactPairsOkRow.holds Try.pinned (OpenSpec.ofChange fnExactPairsOkWrong)

/-- 'laws.FnTraceBy': WHATEVER THE INPUT: true; the input reads as it did. -/
def fnTraceBySpec : ChangeSpec := { name := "fnTraceBy", fn := fun _ => fun
  | [d] => { results := [.lit (.bool true)], args := [d] }
  | _ => none }
def fnTraceByRow : OpenClaim := { program := "ytboandkjhdaobaa", sum := "27aeb72f824f4394fd4deeeb23584d006377033a8a779dc8726281b5c39950f3", func := "loop.example/kleenetests/laws.FnTraceBy", spec := "fnTraceBy", unfollowed := true, recurses := true, plainKeys := false, apart := false }
def FnTraceBySaid : Prop := fnTraceByRow.holds Try.pinned (OpenSpec.ofChange fnTraceBySpec)

/-- ITS FALSE NEIGHBOUR: 'it returns false'. Refute it at one input. -/
def fnTraceByWrong : ChangeSpec := { name := "fnTraceBy", fn := fun _ => fun
  | [d] => { results := [.lit (.bool false)], args := [d] }
  | _ => none }
def FnTraceByWrongFalsely : Prop := fnTraceByRow.holds Try.pinned (OpenSpec.ofChange fnTraceByWrong)

/-- 'laws.FnAlive': WHATEVER THE INPUT: true; the input reads as it did. -/
def fnAliveSpec : ChangeSpec := { name := "fnAlive", fn := fun _ => fun
  | [d] => { results := [.lit (.bool true)], args := [d] }
  | _ => none }
def fnAliveRow : OpenClaim := { program := "ytboandkjhdaobaa", sum := "27aeb72f824f4394fd4deeeb23584d006377033a8a779dc8726281b5c39950f3", func := "loop.example/kleenetests/laws.FnAlive", spec := "fnAlive", unfollowed := true, recurses := true, plainKeys := false, apart := false }
def FnAliveSaid : Prop := fnAliveRow.holds Try.pinned (OpenSpec.ofChange fnAliveSpec)

/-- ITS FALSE NEIGHBOUR: 'it returns false'. Refute it at one input. -/
def fnAliveWrong : ChangeSpec := { name := "fnAlive", fn := fun _ => fun
  | [d] => { results := [.lit (.bool false)], args := [d] }
  | _ => none }
def FnAliveWrongFalsely : Prop := fnAliveRow.holds Try.pinned (OpenSpec.ofChange fnAliveWrong)

/-- 'laws.FnExactDiffer': WHATEVER THE INPUT: true; the input reads as it did. -/
def fnExactDifferSpec : ChangeSpec := { name := "fnExactDiffer", fn := fun _ => fun
  | [d1, d2] => { results := [.lit (.bool true)], args := [d1, d2] }
  | _ => none }
def fnExactDifferRow : OpenClaim := { program := "ytboandkjhdaobaa", sum := "27aeb72f824f4394fd4deeeb23584d006377033a8a779dc8726281b5c39950f3", func := "loop.example/kleenetests/laws.FnExactDiffer", spec := "fnExactDiffer", unfollowed := true, recurses := true, plainKeys := false, apart := false }
def FnExactDifferSaid : Prop := fnExactDifferRow.holds Try.pinned (OpenSpec.ofChange fnExactDifferSpec)

/-- ITS FALSE NEIGHBOUR: 'it returns false'. Refute it at one input. -/
def fnExactDifferWrong : ChangeSpec := { name := "fnExactDiffer", fn := fun _ => fun
  | [d1, d2] => { results := [.lit (.bool false)], args := [d1, d2] }
  | _ => none }
def FnExactDifferWrongFalsely : Prop := fnExactDifferRow.holds Try.pinned (OpenSpec.ofChange fnExactDifferWrong)

/-- 'laws.FnWeakTest': WHATEVER THE INPUT: true; the input reads as it did. -/
def fnWeakTestSpec : ChangeSpec := { name := "fnWeakTest", fn := fun _ => fun
  | [d] => { results := [.lit (.bool true)], args := [d] }
  | _ => none }
def fnWeakTestRow : OpenClaim := { program := "ytboandkjhdaobaa", sum := "27aeb72f824f4394fd4deeeb23584d006377033a8a779dc8726281b5c39950f3", func := "loop.example/kleenetests/laws.FnWeakTest", spec := "fnWeakTest", unfollowed := true, recurses := true, plainKeys := false, apart := false }
def FnWeakTestSaid : Prop := fnWeakTestRow.holds Try.pinned (OpenSpec.ofChange fnWeakTestSpec)

/-- ITS FALSE NEIGHBOUR: 'it returns false'. Refute it at one input. -/
def fnWeakTestWrong : ChangeSpec := { name := "fnWeakTest", fn := fun _ => fun
  | [d] => { results := [.lit (.bool false)], args := [d] }
  | _ => none }
def FnWeakTestWrongFalsely : Prop := fnWeakTestRow.holds Try.pinned (OpenSpec.ofChange fnWeakTestWrong)

/-- 'laws.FnExactEqual': WHATEVER THE INPUT: true; the input reads as it did. -/
def fnExactEqualSpec : ChangeSpec := { name := "fnExactEqual", fn := fun _ => fun
  | [d1, d2] => { results := [.lit (.bool true)], args := [d1, d2] }
  | _ => none }
def fnExactEqualRow : OpenClaim := { program := "ytboandkjhdaobaa", sum := "27aeb72f824f4394fd4deeeb23584d006377033a8a779dc8726281b5c39950f3", func := "loop.example/kleenetests/laws.FnExactEqual", spec := "fnExactEqual", unfollowed := true, recurses := true, plainKeys := false, apart := false }
def FnExactEqualSaid : Prop := fnExactEqualRow.holds Try.pinned (OpenSpec.ofChange fnExactEqualSpec)

/-- ITS FALSE NEIGHBOUR: 'it returns false'. Refute it at one input. -/
def fnExactEqualWrong : ChangeSpec := { name := "fnExactEqual", fn := fun _ => fun
  | [d1, d2] => { results := [.lit (.bool false)], args := [d1, d2] }
  | _ => none }
def FnExactEqualWrongFalsely : Prop := fnExactEqualRow.holds Try.pinned (OpenSpec.ofChange fnExactEqualWrong)

/-- 'laws.FnStrongTest': WHATEVER THE INPUT: true; the input reads as it did. -/
def fnStrongTestSpec : ChangeSpec := { name := "fnStrongTest", fn := fun _ => fun
  | [d1, d2] => { results := [.lit (.bool true)], args := [d1, d2] }
  | _ => none }
def fnStrongTestRow : OpenClaim := { program := "ytboandkjhdaobaa", sum := "27aeb72f824f4394fd4deeeb23584d006377033a8a779dc8726281b5c39950f3", func := "loop.example/kleenetests/laws.FnStrongTest", spec := "fnStrongTest", unfollowed := true, recurses := true, plainKeys := false, apart := false }
def FnStrongTestSaid : Prop := fnStrongTestRow.holds Try.pinned (OpenSpec.ofChange fnStrongTestSpec)

/-- ITS FALSE NEIGHBOUR: 'it returns false'. Refute it at one input. -/
def fnStrongTestWrong : ChangeSpec := { name := "fnStrongTest", fn := fun _ => fun
  | [d1, d2] => { results := [.lit (.bool false)], args := [d1, d2] }
  | _ => none }
def FnStrongTestWrongFalsely : Prop := fnStrongTestRow.holds Try.pinned (OpenSpec.ofChange fnStrongTestWrong)

/-- 'laws.FnExactWithin': WHATEVER THE INPUT: true; the input reads as it did. -/
def fnExactWithinSpec : ChangeSpec := { name := "fnExactWithin", fn := fun _ => fun
  | [d1, d2] => { results := [.lit (.bool true)], args := [d1, d2] }
  | _ => none }
def fnExactWithinRow : OpenClaim := { program := "ytboandkjhdaobaa", sum := "27aeb72f824f4394fd4deeeb23584d006377033a8a779dc8726281b5c39950f3", func := "loop.example/kleenetests/laws.FnExactWithin", spec := "fnExactWithin", unfollowed := true, recurses := true, plainKeys := false, apart := false }
def FnExactWithinSaid : Prop := fnExactWithinRow.holds Try.pinned (OpenSpec.ofChange fnExactWithinSpec)

/-- ITS FALSE NEIGHBOUR: 'it returns false'. Refute it at one input. -/
def fnExactWithinWrong : ChangeSpec := { name := "fnExactWithin", fn := fun _ => fun
  | [d1, d2] => { results := [.lit (.bool false)], args := [d1, d2] }
  | _ => none }
def FnExactWithinWrongFalsely : Prop := fnExactWithinRow.holds Try.pinned (OpenSpec.ofChange fnExactWithinWrong)

/- THE SECOND FORM. 'bulk': how many values and letters a reading holds, each counted each time it is reached (what is shared counts as often as it is met; a slice's spare places count too). A statement '..UptoSaid' is the law's where the arguments, and the package variables that the reading takes, are together of bulk at most 1048576: NARROWER than '..Said'. Prove '..Said' where nothing that the law and all that it calls make is longer than what came in: it says more and counts as full. Else prove '..UptoSaid'. A law counts once. -/
mutual
def uptoBulk {H : Type} : DataW H → Nat
  | .lit (.string bytes) => bytes.length + 1
  | .lit _ => 1
  | .nil => 1
  | .ptr d => uptoBulk d + 1
  | .slice elems spare => uptoBulkAll elems + uptoBulkAll spare + 1
  | .agg parts => uptoBulkAll parts + 1
  | .iface _ d => uptoBulk d + 1
  | .map entries => uptoBulkEntries entries + 1
  | .held _ => 1
def uptoBulkAll {H : Type} : List (DataW H) → Nat
  | [] => 0
  | d :: r => uptoBulk d + uptoBulkAll r
def uptoBulkEntries {H : Type} : List (Lit × DataW H) → Nat
  | [] => 0
  | x :: r => uptoBulkEntry x + uptoBulkEntries r
def uptoBulkEntry {H : Type} : Lit × DataW H → Nat
  | (.string bytes, d) => bytes.length + uptoBulk d + 1
  | (_, d) => uptoBulk d + 1
 end
def uptoSmall : (H : Type) → List (DataW H) → Bool := fun _ ds => decide (uptoBulkAll ds ≤ 1048576)
def OpenSpec.upto (s : _root_.Go.ChangeSpec) : _root_.Go.OpenSpec := { _root_.Go.OpenSpec.ofChange s with cond := some uptoSmall }

/-- 'laws.FnPairsOf', WHERE WHAT IT READS IS OF BULK AT MOST 1048576: true; the input reads as it did. -/
def fnPairsOfUptoRow : OpenClaim := { program := "ytboandkjhdaobaa", sum := "27aeb72f824f4394fd4deeeb23584d006377033a8a779dc8726281b5c39950f3", func := "loop.example/kleenetests/laws.FnPairsOf", spec := "fnPairsOf", unfollowed := true, recurses := true, plainKeys := false, apart := false, narrowed := true }
def FnPairsOfUptoSaid : Prop := fnPairsOfUptoRow.holds Try.pinned (OpenSpec.upto fnPairsOfSpec)

/-- 'laws.FnExactAutoPlus', WHERE WHAT IT READS IS OF BULK AT MOST 1048576: true; the input reads as it did. -/
def fnExactAutoPlusUptoRow : OpenClaim := { program := "ytboandkjhdaobaa", sum := "27aeb72f824f4394fd4deeeb23584d006377033a8a779dc8726281b5c39950f3", func := "loop.example/kleenetests/laws.FnExactAutoPlus", spec := "fnExactAutoPlus", unfollowed := true, recurses := true, plainKeys := false, apart := false, narrowed := true }
def FnExactAutoPlusUptoSaid : Prop := fnExactAutoPlusUptoRow.holds Try.pinned (OpenSpec.upto fnExactAutoPlusSpec)

/-- 'laws.FnEndsAt', WHERE WHAT IT READS IS OF BULK AT MOST 1048576: true; the input reads as it did. -/
def fnEndsAtUptoRow : OpenClaim := { program := "ytboandkjhdaobaa", sum := "27aeb72f824f4394fd4deeeb23584d006377033a8a779dc8726281b5c39950f3", func := "loop.example/kleenetests/laws.FnEndsAt", spec := "fnEndsAt", recurses := true, plainKeys := false, apart := false, narrowed := true }
def FnEndsAtUptoSaid : Prop := fnEndsAtUptoRow.holds Try.pinned (OpenSpec.upto fnEndsAtSpec)

/-- 'laws.FnTracesMany', WHERE WHAT IT READS IS OF BULK AT MOST 1048576: true; the input reads as it did. -/
def fnTracesManyUptoRow : OpenClaim := { program := "ytboandkjhdaobaa", sum := "27aeb72f824f4394fd4deeeb23584d006377033a8a779dc8726281b5c39950f3", func := "loop.example/kleenetests/laws.FnTracesMany", spec := "fnTracesMany", unfollowed := true, recurses := true, plainKeys := false, apart := false, narrowed := true }
def FnTracesManyUptoSaid : Prop := fnTracesManyUptoRow.holds Try.pinned (OpenSpec.upto fnTracesManySpec)

/-- 'laws.FnAutoPlus', WHERE WHAT IT READS IS OF BULK AT MOST 1048576: true; the input reads as it did. -/
def fnAutoPlusUptoRow : OpenClaim := { program := "ytboandkjhdaobaa", sum := "27aeb72f824f4394fd4deeeb23584d006377033a8a779dc8726281b5c39950f3", func := "loop.example/kleenetests/laws.FnAutoPlus", spec := "fnAutoPlus", unfollowed := true, recurses := true, plainKeys := false, apart := false, narrowed := true }
def FnAutoPlusUptoSaid : Prop := fnAutoPlusUptoRow.holds Try.pinned (OpenSpec.upto fnAutoPlusSpec)

/-- 'laws.FnExactPairsOf', WHERE WHAT IT READS IS OF BULK AT MOST 1048576: true; the input reads as it did. -/
def fnExactPairsOfUptoRow : OpenClaim := { program := "ytboandkjhdaobaa", sum := "27aeb72f824f4394fd4deeeb23584d006377033a8a779dc8726281b5c39950f3", func := "loop.example/kleenetests/laws.FnExactPairsOf", spec := "fnExactPairsOf", unfollowed := true, recurses := true, plainKeys := false, apart := false, narrowed := true }
def FnExactPairsOfUptoSaid : Prop := fnExactPairsOfUptoRow.holds Try.pinned (OpenSpec.upto fnExactPairsOfSpec)

/-- 'laws.FnExactPairsOk', WHERE WHAT IT READS IS OF BULK AT MOST 1048576: true; the input reads as it did. -/
def fnExactPairsOkUptoRow : OpenClaim := { program := "ytboandkjhdaobaa", sum := "27aeb72f824f4394fd4deeeb23584d006377033a8a779dc8726281b5c39950f3", func := "loop.example/kleenetests/laws.FnExactPairsOk", spec := "fnExactPairsOk", unfollowed := true, recurses := true, plainKeys := false, apart := false, narrowed := true }
def FnExactPairsOkUptoSaid : Prop := fnExactPairsOkUptoRow.holds Try.pinned (OpenSpec.upto fnExactPairsOkSpec)

/-- 'laws.FnTraceBy', WHERE WHAT IT READS IS OF BULK AT MOST 1048576: true; the input reads as it did. -/
def fnTraceByUptoRow : OpenClaim := { program := "ytboandkjhdaobaa", sum := "27aeb72f824f4394fd4deeeb23584d006377033a8a779dc8726281b5c39950f3", func := "loop.example/kleenetests/laws.FnTraceBy", spec := "fnTraceBy", unfollowed := true, recurses := true, plainKeys := false, apart := false, narrowed := true }
def FnTraceByUptoSaid : Prop := fnTraceByUptoRow.holds Try.pinned (OpenSpec.upto fnTraceBySpec)

/-- 'laws.FnAlive', WHERE WHAT IT READS IS OF BULK AT MOST 1048576: true; the input reads as it did. -/
def fnAliveUptoRow : OpenClaim := { program := "ytboandkjhdaobaa", sum := "27aeb72f824f4394fd4deeeb23584d006377033a8a779dc8726281b5c39950f3", func := "loop.example/kleenetests/laws.FnAlive", spec := "fnAlive", unfollowed := true, recurses := true, plainKeys := false, apart := false, narrowed := true }
def FnAliveUptoSaid : Prop := fnAliveUptoRow.holds Try.pinned (OpenSpec.upto fnAliveSpec)

/-- 'laws.FnExactDiffer', WHERE WHAT IT READS IS OF BULK AT MOST 1048576: true; the input reads as it did. -/
def fnExactDifferUptoRow : OpenClaim := { program := "ytboandkjhdaobaa", sum := "27aeb72f824f4394fd4deeeb23584d006377033a8a779dc8726281b5c39950f3", func := "loop.example/kleenetests/laws.FnExactDiffer", spec := "fnExactDiffer", unfollowed := true, recurses := true, plainKeys := false, apart := false, narrowed := true }
def FnExactDifferUptoSaid : Prop := fnExactDifferUptoRow.holds Try.pinned (OpenSpec.upto fnExactDifferSpec)

/-- 'laws.FnWeakTest', WHERE WHAT IT READS IS OF BULK AT MOST 1048576: true; the input reads as it did. -/
def fnWeakTestUptoRow : OpenClaim := { program := "ytboandkjhdaobaa", sum := "27aeb72f824f4394fd4deeeb23584d006377033a8a779dc8726281b5c39950f3", func := "loop.example/kleenetests/laws.FnWeakTest", spec := "fnWeakTest", unfollowed := true, recurses := true, plainKeys := false, apart := false, narrowed := true }
def FnWeakTestUptoSaid : Prop := fnWeakTestUptoRow.holds Try.pinned (OpenSpec.upto fnWeakTestSpec)

/-- 'laws.FnExactEqual', WHERE WHAT IT READS IS OF BULK AT MOST 1048576: true; the input reads as it did. -/
def fnExactEqualUptoRow : OpenClaim := { program := "ytboandkjhdaobaa", sum := "27aeb72f824f4394fd4deeeb23584d006377033a8a779dc8726281b5c39950f3", func := "loop.example/kleenetests/laws.FnExactEqual", spec := "fnExactEqual", unfollowed := true, recurses := true, plainKeys := false, apart := false, narrowed := true }
def FnExactEqualUptoSaid : Prop := fnExactEqualUptoRow.holds Try.pinned (OpenSpec.upto fnExactEqualSpec)

/-- 'laws.FnStrongTest', WHERE WHAT IT READS IS OF BULK AT MOST 1048576: true; the input reads as it did. -/
def fnStrongTestUptoRow : OpenClaim := { program := "ytboandkjhdaobaa", sum := "27aeb72f824f4394fd4deeeb23584d006377033a8a779dc8726281b5c39950f3", func := "loop.example/kleenetests/laws.FnStrongTest", spec := "fnStrongTest", unfollowed := true, recurses := true, plainKeys := false, apart := false, narrowed := true }
def FnStrongTestUptoSaid : Prop := fnStrongTestUptoRow.holds Try.pinned (OpenSpec.upto fnStrongTestSpec)

/-- 'laws.FnExactWithin', WHERE WHAT IT READS IS OF BULK AT MOST 1048576: true; the input reads as it did. -/
def fnExactWithinUptoRow : OpenClaim := { program := "ytboandkjhdaobaa", sum := "27aeb72f824f4394fd4deeeb23584d006377033a8a779dc8726281b5c39950f3", func := "loop.example/kleenetests/laws.FnExactWithin", spec := "fnExactWithin", unfollowed := true, recurses := true, plainKeys := false, apart := false, narrowed := true }
def FnExactWithinUptoSaid : Prop := fnExactWithinUptoRow.holds Try.pinned (OpenSpec.upto fnExactWithinSpec)

end Rows
end Go.Proofs.Ytboandkjhdaobaa
