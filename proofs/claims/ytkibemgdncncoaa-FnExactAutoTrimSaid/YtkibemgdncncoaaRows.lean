/-
  No cell of these rows narrows 'for every input' (looked for: loops, veiled, ifaces, maps, wideKeys, modest, calm, conditions, laid).
  DERIVED. THE GIVEN ROWS OF THIS SEAT. 12 by the template 'for every input the law returns true; each argument reads behind the call as it read before'; 0 by the template 'total and deterministic' (their statements: YtkibemgdncncoaaTotals.lean).
  GIVEN WITH THE SEED: the statements are not yours to turn. If you find one false, say at which input.
  Laid BY PROGRAM, IN A SANDBOX (cutbox-rows.mjs): the forced cells as the released guide's own fill.sh prints them over the translation 5d646c1606604caf… (all of the seat's roots in one cut). By AI agents, Wed Nov 11 2026. No macro, syntax, notation, axiom, sorry.
-/
import Derived.Test.YtkibemgdncncoaaChecked
import GoSem.Claim
import GoSem.ClaimJoined
import GoSem.ClaimMapViews
import Derived.JoinedTies
import Derived.KernelRfl
namespace Go.Proofs.Ytkibemgdncncoaa
/- THE CELL 'sum', in the pinned program and in every row, IS THE sha256 OF THE DUMP (.gsa) THAT YtkibemgdncncoaaProg.lean LOADS. Nothing in Lean hashes anything: it is a label: what it is worth is what the hold of that sum in a sandbox is worth. -/
noncomputable def Try.pinned : Pinned := { name := "ytkibemgdncncoaa", sum := "5d646c1606604caf9af7728d2d22e2f08b8e2163822b42ec78949502de53c735", checked := Try.checked }
namespace Rows
def none {H : Type} : Left H := { results := [], args := [] }

/-- 'laws.FnExactPartsOf': WHATEVER THE INPUT: true; the input reads as it did. -/
def fnExactPartsOfSpec : ChangeSpec := { name := "fnExactPartsOf", fn := fun _ => fun
  | [d1, d2, d3] => { results := [.lit (.bool true)], args := [d1, d2, d3] }
  | _ => none }
def fnExactPartsOfRow : OpenClaim := { program := "ytkibemgdncncoaa", sum := "5d646c1606604caf9af7728d2d22e2f08b8e2163822b42ec78949502de53c735", func := "loop.example/kleenetests/laws.FnExactPartsOf", spec := "fnExactPartsOf", unfollowed := true, recurses := true, plainKeys := false, apart := false }
def FnExactPartsOfSaid : Prop := fnExactPartsOfRow.holds Try.pinned (OpenSpec.ofChange fnExactPartsOfSpec)

/-- ITS FALSE NEIGHBOUR: 'it returns false'. Refute it at one input. -/
def fnExactPartsOfWrong : ChangeSpec := { name := "fnExactPartsOf", fn := fun _ => fun
  | [d1, d2, d3] => { results := [.lit (.bool false)], args := [d1, d2, d3] }
  | _ => none }
def FnExactPartsOfWrongFalsely : Prop := fnExactPartsOfRow.holds Try.pinned (OpenSpec.ofChange fnExactPartsOfWrong)

/-- 'laws.FnExactBeginsWith': WHATEVER THE INPUT: true; the input reads as it did. -/
def fnExactBeginsWithSpec : ChangeSpec := { name := "fnExactBeginsWith", fn := fun _ => fun
  | [d1, d2] => { results := [.lit (.bool true)], args := [d1, d2] }
  | _ => none }
def fnExactBeginsWithRow : OpenClaim := { program := "ytkibemgdncncoaa", sum := "5d646c1606604caf9af7728d2d22e2f08b8e2163822b42ec78949502de53c735", func := "loop.example/kleenetests/laws.FnExactBeginsWith", spec := "fnExactBeginsWith", unfollowed := true, recurses := true, plainKeys := false, apart := false }
def FnExactBeginsWithSaid : Prop := fnExactBeginsWithRow.holds Try.pinned (OpenSpec.ofChange fnExactBeginsWithSpec)

/-- ITS FALSE NEIGHBOUR: 'it returns false'. Refute it at one input. -/
def fnExactBeginsWithWrong : ChangeSpec := { name := "fnExactBeginsWith", fn := fun _ => fun
  | [d1, d2] => { results := [.lit (.bool false)], args := [d1, d2] }
  | _ => none }
def FnExactBeginsWithWrongFalsely : Prop := fnExactBeginsWithRow.holds Try.pinned (OpenSpec.ofChange fnExactBeginsWithWrong)

/-- 'laws.FnExactTraceBy': WHATEVER THE INPUT: true; the input reads as it did. -/
def fnExactTraceBySpec : ChangeSpec := { name := "fnExactTraceBy", fn := fun _ => fun
  | [d1, d2] => { results := [.lit (.bool true)], args := [d1, d2] }
  | _ => none }
def fnExactTraceByRow : OpenClaim := { program := "ytkibemgdncncoaa", sum := "5d646c1606604caf9af7728d2d22e2f08b8e2163822b42ec78949502de53c735", func := "loop.example/kleenetests/laws.FnExactTraceBy", spec := "fnExactTraceBy", unfollowed := true, recurses := true, plainKeys := false, apart := false }
def FnExactTraceBySaid : Prop := fnExactTraceByRow.holds Try.pinned (OpenSpec.ofChange fnExactTraceBySpec)

/-- ITS FALSE NEIGHBOUR: 'it returns false'. Refute it at one input. -/
def fnExactTraceByWrong : ChangeSpec := { name := "fnExactTraceBy", fn := fun _ => fun
  | [d1, d2] => { results := [.lit (.bool false)], args := [d1, d2] }
  | _ => none }
def FnExactTraceByWrongFalsely : Prop := fnExactTraceByRow.holds Try.pinned (OpenSpec.ofChange fnExactTraceByWrong)

/-- 'laws.FnExactAlive': WHATEVER THE INPUT: true; the input reads as it did. -/
def fnExactAliveSpec : ChangeSpec := { name := "fnExactAlive", fn := fun _ => fun
  | [d] => { results := [.lit (.bool true)], args := [d] }
  | _ => none }
def fnExactAliveRow : OpenClaim := { program := "ytkibemgdncncoaa", sum := "5d646c1606604caf9af7728d2d22e2f08b8e2163822b42ec78949502de53c735", func := "loop.example/kleenetests/laws.FnExactAlive", spec := "fnExactAlive", unfollowed := true, recurses := true, plainKeys := false, apart := false }
def FnExactAliveSaid : Prop := fnExactAliveRow.holds Try.pinned (OpenSpec.ofChange fnExactAliveSpec)

/-- ITS FALSE NEIGHBOUR: 'it returns false'. Refute it at one input. -/
def fnExactAliveWrong : ChangeSpec := { name := "fnExactAlive", fn := fun _ => fun
  | [d] => { results := [.lit (.bool false)], args := [d] }
  | _ => none }
def FnExactAliveWrongFalsely : Prop := fnExactAliveRow.holds Try.pinned (OpenSpec.ofChange fnExactAliveWrong)

/-- 'laws.FnExactDetermined': WHATEVER THE INPUT: true; the input reads as it did. -/
def fnExactDeterminedSpec : ChangeSpec := { name := "fnExactDetermined", fn := fun _ => fun
  | [d] => { results := [.lit (.bool true)], args := [d] }
  | _ => none }
def fnExactDeterminedRow : OpenClaim := { program := "ytkibemgdncncoaa", sum := "5d646c1606604caf9af7728d2d22e2f08b8e2163822b42ec78949502de53c735", func := "loop.example/kleenetests/laws.FnExactDetermined", spec := "fnExactDetermined", unfollowed := true, recurses := true, plainKeys := false, apart := false }
def FnExactDeterminedSaid : Prop := fnExactDeterminedRow.holds Try.pinned (OpenSpec.ofChange fnExactDeterminedSpec)

/-- ITS FALSE NEIGHBOUR: 'it returns false'. Refute it at one input. -/
def fnExactDeterminedWrong : ChangeSpec := { name := "fnExactDetermined", fn := fun _ => fun
  | [d] => { results := [.lit (.bool false)], args := [d] }
  | _ => none }
def FnExactDeterminedWrongFalsely : Prop := fnExactDeterminedRow.holds Try.pinned (OpenSpec.ofChange fnExactDeterminedWrong)

/-- 'laws.FnExactAllParts': WHATEVER THE INPUT: true; the input reads as it did. -/
def fnExactAllPartsSpec : ChangeSpec := { name := "fnExactAllParts", fn := fun _ => fun
  | [d] => { results := [.lit (.bool true)], args := [d] }
  | _ => none }
def fnExactAllPartsRow : OpenClaim := { program := "ytkibemgdncncoaa", sum := "5d646c1606604caf9af7728d2d22e2f08b8e2163822b42ec78949502de53c735", func := "loop.example/kleenetests/laws.FnExactAllParts", spec := "fnExactAllParts", unfollowed := true, recurses := true, plainKeys := false, apart := false }
def FnExactAllPartsSaid : Prop := fnExactAllPartsRow.holds Try.pinned (OpenSpec.ofChange fnExactAllPartsSpec)

/-- ITS FALSE NEIGHBOUR: 'it returns false'. Refute it at one input. -/
def fnExactAllPartsWrong : ChangeSpec := { name := "fnExactAllParts", fn := fun _ => fun
  | [d] => { results := [.lit (.bool false)], args := [d] }
  | _ => none }
def FnExactAllPartsWrongFalsely : Prop := fnExactAllPartsRow.holds Try.pinned (OpenSpec.ofChange fnExactAllPartsWrong)

/-- 'laws.FnExactAutoOf': WHATEVER THE INPUT: true; the input reads as it did. -/
def fnExactAutoOfSpec : ChangeSpec := { name := "fnExactAutoOf", fn := fun _ => fun
  | [d] => { results := [.lit (.bool true)], args := [d] }
  | _ => none }
def fnExactAutoOfRow : OpenClaim := { program := "ytkibemgdncncoaa", sum := "5d646c1606604caf9af7728d2d22e2f08b8e2163822b42ec78949502de53c735", func := "loop.example/kleenetests/laws.FnExactAutoOf", spec := "fnExactAutoOf", unfollowed := true, recurses := true, plainKeys := false, apart := false }
def FnExactAutoOfSaid : Prop := fnExactAutoOfRow.holds Try.pinned (OpenSpec.ofChange fnExactAutoOfSpec)

/-- ITS FALSE NEIGHBOUR: 'it returns false'. Refute it at one input. -/
def fnExactAutoOfWrong : ChangeSpec := { name := "fnExactAutoOf", fn := fun _ => fun
  | [d] => { results := [.lit (.bool false)], args := [d] }
  | _ => none }
def FnExactAutoOfWrongFalsely : Prop := fnExactAutoOfRow.holds Try.pinned (OpenSpec.ofChange fnExactAutoOfWrong)

/-- 'laws.FnExactAutoPlus': WHATEVER THE INPUT: true; the input reads as it did. -/
def fnExactAutoPlusSpec : ChangeSpec := { name := "fnExactAutoPlus", fn := fun _ => fun
  | [d1, d2] => { results := [.lit (.bool true)], args := [d1, d2] }
  | _ => none }
def fnExactAutoPlusRow : OpenClaim := { program := "ytkibemgdncncoaa", sum := "5d646c1606604caf9af7728d2d22e2f08b8e2163822b42ec78949502de53c735", func := "loop.example/kleenetests/laws.FnExactAutoPlus", spec := "fnExactAutoPlus", unfollowed := true, recurses := true, plainKeys := false, apart := false }
def FnExactAutoPlusSaid : Prop := fnExactAutoPlusRow.holds Try.pinned (OpenSpec.ofChange fnExactAutoPlusSpec)

/-- ITS FALSE NEIGHBOUR: 'it returns false'. Refute it at one input. -/
def fnExactAutoPlusWrong : ChangeSpec := { name := "fnExactAutoPlus", fn := fun _ => fun
  | [d1, d2] => { results := [.lit (.bool false)], args := [d1, d2] }
  | _ => none }
def FnExactAutoPlusWrongFalsely : Prop := fnExactAutoPlusRow.holds Try.pinned (OpenSpec.ofChange fnExactAutoPlusWrong)

/-- 'laws.FnExactAutoTrim': WHATEVER THE INPUT: true; the input reads as it did. -/
def fnExactAutoTrimSpec : ChangeSpec := { name := "fnExactAutoTrim", fn := fun _ => fun
  | [d] => { results := [.lit (.bool true)], args := [d] }
  | _ => none }
def fnExactAutoTrimRow : OpenClaim := { program := "ytkibemgdncncoaa", sum := "5d646c1606604caf9af7728d2d22e2f08b8e2163822b42ec78949502de53c735", func := "loop.example/kleenetests/laws.FnExactAutoTrim", spec := "fnExactAutoTrim", unfollowed := true, recurses := true, plainKeys := false, apart := false }
def FnExactAutoTrimSaid : Prop := fnExactAutoTrimRow.holds Try.pinned (OpenSpec.ofChange fnExactAutoTrimSpec)

/-- ITS FALSE NEIGHBOUR: 'it returns false'. Refute it at one input. -/
def fnExactAutoTrimWrong : ChangeSpec := { name := "fnExactAutoTrim", fn := fun _ => fun
  | [d] => { results := [.lit (.bool false)], args := [d] }
  | _ => none }
def FnExactAutoTrimWrongFalsely : Prop := fnExactAutoTrimRow.holds Try.pinned (OpenSpec.ofChange fnExactAutoTrimWrong)

/-- 'laws.FnExactShortTrace': WHATEVER THE INPUT: true; the input reads as it did. -/
def fnExactShortTraceSpec : ChangeSpec := { name := "fnExactShortTrace", fn := fun _ => fun
  | [d] => { results := [.lit (.bool true)], args := [d] }
  | _ => none }
def fnExactShortTraceRow : OpenClaim := { program := "ytkibemgdncncoaa", sum := "5d646c1606604caf9af7728d2d22e2f08b8e2163822b42ec78949502de53c735", func := "loop.example/kleenetests/laws.FnExactShortTrace", spec := "fnExactShortTrace", unfollowed := true, recurses := true, plainKeys := false, apart := false }
def FnExactShortTraceSaid : Prop := fnExactShortTraceRow.holds Try.pinned (OpenSpec.ofChange fnExactShortTraceSpec)

/-- ITS FALSE NEIGHBOUR: 'it returns false'. Refute it at one input. -/
def fnExactShortTraceWrong : ChangeSpec := { name := "fnExactShortTrace", fn := fun _ => fun
  | [d] => { results := [.lit (.bool false)], args := [d] }
  | _ => none }
def FnExactShortTraceWrongFalsely : Prop := fnExactShortTraceRow.holds Try.pinned (OpenSpec.ofChange fnExactShortTraceWrong)

/-- 'laws.FnEndsAt': WHATEVER THE INPUT: true; the input reads as it did. -/
def fnEndsAtSpec : ChangeSpec := { name := "fnEndsAt", fn := fun _ => fun
  | [d] => { results := [.lit (.bool true)], args := [d] }
  | _ => none }
def fnEndsAtRow : OpenClaim := { program := "ytkibemgdncncoaa", sum := "5d646c1606604caf9af7728d2d22e2f08b8e2163822b42ec78949502de53c735", func := "loop.example/kleenetests/laws.FnEndsAt", spec := "fnEndsAt", recurses := true, plainKeys := false, apart := false }
def FnEndsAtSaid : Prop := fnEndsAtRow.holds Try.pinned (OpenSpec.ofChange fnEndsAtSpec)

/-- ITS FALSE NEIGHBOUR: 'it returns false'. Refute it at one input. -/
def fnEndsAtWrong : ChangeSpec := { name := "fnEndsAt", fn := fun _ => fun
  | [d] => { results := [.lit (.bool false)], args := [d] }
  | _ => none }
def FnEndsAtWrongFalsely : Prop := fnEndsAtRow.holds Try.pinned (OpenSpec.ofChange fnEndsAtWrong)

/-- 'laws.FnTracesMany': WHATEVER THE INPUT: true; the input reads as it did. -/
def fnTracesManySpec : ChangeSpec := { name := "fnTracesMany", fn := fun _ => fun
  | [d] => { results := [.lit (.bool true)], args := [d] }
  | _ => none }
def fnTracesManyRow : OpenClaim := { program := "ytkibemgdncncoaa", sum := "5d646c1606604caf9af7728d2d22e2f08b8e2163822b42ec78949502de53c735", func := "loop.example/kleenetests/laws.FnTracesMany", spec := "fnTracesMany", unfollowed := true, recurses := true, plainKeys := false, apart := false }
def FnTracesManySaid : Prop := fnTracesManyRow.holds Try.pinned (OpenSpec.ofChange fnTracesManySpec)

/-- ITS FALSE NEIGHBOUR: 'it returns false'. Refute it at one input. -/
def fnTracesManyWrong : ChangeSpec := { name := "fnTracesMany", fn := fun _ => fun
  | [d] => { results := [.lit (.bool false)], args := [d] }
  | _ => none }
def FnTracesManyWrongFalsely : Prop := fnTracesManyRow.holds Try.pinned (OpenSpec.ofChange fnTracesManyWrong)

/- THE SECOND FORM. 'bulk': how many values and letters a reading holds, each counted each time it is reached (what is shared counts as often as it is met; a slice's spare places count too). A statement '..UptoSaid' is the law's where the arguments, and the package variables that the reading takes, are together of bulk at most 1048576: NARROWER than '..Said'. Prove '..Said' where nothing that the law and all that it calls make is longer than what came in: it says more and counts as full. Else prove '..UptoSaid'. A law counts once. -/
mutual
def uptoBulk {H : Type} : DataW H → Nat
  | .lit (.string bytes) => bytes.length + 1
  | .lit _ => 1
  | .nil => 1
  | .ptr d => uptoBulk d + 1
  | .slice elems spare => uptoBulkAll elems + uptoBulkAll spare + 1
  | .agg parts => uptoBulkAll parts + 1
  | .iface _ d => uptoBulk d + 1
  | .map entries => uptoBulkEntries entries + 1
  | .held _ => 1
def uptoBulkAll {H : Type} : List (DataW H) → Nat
  | [] => 0
  | d :: r => uptoBulk d + uptoBulkAll r
def uptoBulkEntries {H : Type} : List (Lit × DataW H) → Nat
  | [] => 0
  | x :: r => uptoBulkEntry x + uptoBulkEntries r
def uptoBulkEntry {H : Type} : Lit × DataW H → Nat
  | (.string bytes, d) => bytes.length + uptoBulk d + 1
  | (_, d) => uptoBulk d + 1
 end
def uptoSmall : (H : Type) → List (DataW H) → Bool := fun _ ds => decide (uptoBulkAll ds ≤ 1048576)
def OpenSpec.upto (s : _root_.Go.ChangeSpec) : _root_.Go.OpenSpec := { _root_.Go.OpenSpec.ofChange s with cond := some uptoSmall }

/-- 'laws.FnExactPartsOf', WHERE WHAT IT READS IS OF BULK AT MOST 1048576: true; the input reads as it did. -/
def fnExactPartsOfUptoRow : OpenClaim := { program := "ytkibemgdncncoaa", sum := "5d646c1606604caf9af7728d2d22e2f08b8e2163822b42ec78949502de53c735", func := "loop.example/kleenetests/laws.FnExactPartsOf", spec := "fnExactPartsOf", unfollowed := true, recurses := true, plainKeys := false, apart := false, narrowed := true }
def FnExactPartsOfUptoSaid : Prop := fnExactPartsOfUptoRow.holds Try.pinned (OpenSpec.upto fnExactPartsOfSpec)

/-- 'laws.FnExactBeginsWith', WHERE WHAT IT READS IS OF BULK AT MOST 1048576: true; the input reads as it did. -/
def fnExactBeginsWithUptoRow : OpenClaim := { program := "ytkibemgdncncoaa", sum := "5d646c1606604caf9af7728d2d22e2f08b8e2163822b42ec78949502de53c735", func := "loop.example/kleenetests/laws.FnExactBeginsWith", spec := "fnExactBeginsWith", unfollowed := true, recurses := true, plainKeys := false, apart := false, narrowed := true }
def FnExactBeginsWithUptoSaid : Prop := fnExactBeginsWithUptoRow.holds Try.pinned (OpenSpec.upto fnExactBeginsWithSpec)

/-- 'laws.FnExactTraceBy', WHERE WHAT IT READS IS OF BULK AT MOST 1048576: true; the input reads as it did. -/
def fnExactTraceByUptoRow : OpenClaim := { program := "ytkibemgdncncoaa", sum := "5d646c1606604caf9af7728d2d22e2f08b8e2163822b42ec78949502de53c735", func := "loop.example/kleenetests/laws.FnExactTraceBy", spec := "fnExactTraceBy", unfollowed := true, recurses := true, plainKeys := false, apart := false, narrowed := true }
def FnExactTraceByUptoSaid : Prop := fnExactTraceByUptoRow.holds Try.pinned (OpenSpec.upto fnExactTraceBySpec)

/-- 'laws.FnExactAlive', WHERE WHAT IT READS IS OF BULK AT MOST 1048576: true; the input reads as it did. -/
def fnExactAliveUptoRow : OpenClaim := { program := "ytkibemgdncncoaa", sum := "5d646c1606604caf9af7728d2d22e2f08b8e2163822b42ec78949502de53c735", func := "loop.example/kleenetests/laws.FnExactAlive", spec := "fnExactAlive", unfollowed := true, recurses := true, plainKeys := false, apart := false, narrowed := true }
def FnExactAliveUptoSaid : Prop := fnExactAliveUptoRow.holds Try.pinned (OpenSpec.upto fnExactAliveSpec)

/-- 'laws.FnExactDetermined', WHERE WHAT IT READS IS OF BULK AT MOST 1048576: true; the input reads as it did. -/
def fnExactDeterminedUptoRow : OpenClaim := { program := "ytkibemgdncncoaa", sum := "5d646c1606604caf9af7728d2d22e2f08b8e2163822b42ec78949502de53c735", func := "loop.example/kleenetests/laws.FnExactDetermined", spec := "fnExactDetermined", unfollowed := true, recurses := true, plainKeys := false, apart := false, narrowed := true }
def FnExactDeterminedUptoSaid : Prop := fnExactDeterminedUptoRow.holds Try.pinned (OpenSpec.upto fnExactDeterminedSpec)

/-- 'laws.FnExactAllParts', WHERE WHAT IT READS IS OF BULK AT MOST 1048576: true; the input reads as it did. -/
def fnExactAllPartsUptoRow : OpenClaim := { program := "ytkibemgdncncoaa", sum := "5d646c1606604caf9af7728d2d22e2f08b8e2163822b42ec78949502de53c735", func := "loop.example/kleenetests/laws.FnExactAllParts", spec := "fnExactAllParts", unfollowed := true, recurses := true, plainKeys := false, apart := false, narrowed := true }
def FnExactAllPartsUptoSaid : Prop := fnExactAllPartsUptoRow.holds Try.pinned (OpenSpec.upto fnExactAllPartsSpec)

/-- 'laws.FnExactAutoOf', WHERE WHAT IT READS IS OF BULK AT MOST 1048576: true; the input reads as it did. -/
def fnExactAutoOfUptoRow : OpenClaim := { program := "ytkibemgdncncoaa", sum := "5d646c1606604caf9af7728d2d22e2f08b8e2163822b42ec78949502de53c735", func := "loop.example/kleenetests/laws.FnExactAutoOf", spec := "fnExactAutoOf", unfollowed := true, recurses := true, plainKeys := false, apart := false, narrowed := true }
def FnExactAutoOfUptoSaid : Prop := fnExactAutoOfUptoRow.holds Try.pinned (OpenSpec.upto fnExactAutoOfSpec)

/-- 'laws.FnExactAutoPlus', WHERE WHAT IT READS IS OF BULK AT MOST 1048576: true; the input reads as it did. -/
def fnExactAutoPlusUptoRow : OpenClaim := { program := "ytkibemgdncncoaa", sum := "5d646c1606604caf9af7728d2d22e2f08b8e2163822b42ec78949502de53c735", func := "loop.example/kleenetests/laws.FnExactAutoPlus", spec := "fnExactAutoPlus", unfollowed := true, recurses := true, plainKeys := false, apart := false, narrowed := true }
def FnExactAutoPlusUptoSaid : Prop := fnExactAutoPlusUptoRow.holds Try.pinned (OpenSpec.upto fnExactAutoPlusSpec)

/-- 'laws.FnExactAutoTrim', WHERE WHAT IT READS IS OF BULK AT MOST 1048576: true; the input reads as it did. -/
def fnExactAutoTrimUptoRow : OpenClaim := { program := "ytkibemgdncncoaa", sum := "5d646c1606604caf9af7728d2d22e2f08b8e2163822b42ec78949502de53c735", func := "loop.example/kleenetests/laws.FnExactAutoTrim", spec := "fnExactAutoTrim", unfollowed := true, recurses := true, plainKeys := false, apart := false, narrowed := true }
def FnExactAutoTrimUptoSaid : Prop := fnExactAutoTrimUptoRow.holds Try.pinned (OpenSpec.upto fnExactAutoTrimSpec)

/-- 'laws.FnExactShortTrace', WHERE WHAT IT READS IS OF BULK AT MOST 1048576: true; the input reads as it did. -/
def fnExactShortTraceUptoRow : OpenClaim := { program := "ytkibemgdncncoaa", sum := "5d646c1606604caf9af7728d2d22e2f08b8e2163822b42ec78949502de53c735", func := "loop.example/kleenetests/laws.FnExactShortTrace", spec := "fnExactShortTrace", unfollowed := true, recurses := true, plainKeys := false, apart := false, narrowed := true }
def FnExactShortTraceUptoSaid : Prop := fnExactShortTraceUptoRow.holds Try.pinned (OpenSpec.upto fnExactShortTraceSpec)

/-- 'laws.FnEndsAt', WHERE WHAT IT READS IS OF BULK AT MOST 1048576: true; the input reads as it did. -/
def fnEndsAtUptoRow : OpenClaim := { program := "ytkibemgdncncoaa", sum := "5d646c1606604caf9af7728d2d22e2f08b8e2163822b42ec78949502de53c735", func := "loop.example/kleenetests/laws.FnEndsAt", spec := "fnEndsAt", recurses := true, plainKeys := false, apart := false, narrowed := true }
def FnEndsAtUptoSaid : Prop := fnEndsAtUptoRow.holds Try.pinned (OpenSpec.upto fnEndsAtSpec)

/-- 'laws.FnTracesMany', WHERE WHAT IT READS IS OF BULK AT MOST 1048576: true; the input reads as it did. -/
def fnTracesManyUptoRow : OpenClaim := { program := "ytkibemgdncncoaa", sum := "5d646c1606604caf9af7728d2d22e2f08b8e2163822b42ec78949502de53c735", func := "loop.example/kleenetests/laws.FnTracesMany", spec := "fnTracesMany", unfollowed := true, recurses := true, plainKeys := false, apart := false, narrowed := true }
def FnTracesManyUptoSaid : Prop := fnTracesManyUptoRow.holds Try.pinned (OpenSpec.upto fnTracesManySpec)

end Rows
end Go.Proofs.Ytkibemgdncncoaa
