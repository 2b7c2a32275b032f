/-
  No cell of these rows narrows 'for every input' (looked for: loops, veiled, ifaces, maps, wideKeys, modest, calm, conditions, laid).
  DERIVED. THE GIVEN ROWS OF THIS SEAT. 5 by the template 'for every input the law returns true; each argument reads behind the call as it read before'; 0 by the template 'total and deterministic' (their statements: YtmhiipmajlmlgaaTotals.lean).
  GIVEN WITH THE SEED: the statements are not yours to turn. If you find one false, say at which input.
  Laid BY PROGRAM, IN A SANDBOX (cutbox-rows.mjs): the forced cells as the released guide's own fill.sh prints them over the translation 012b164ab6a92688… (all of the seat's roots in one cut). By AI agents, Wed Nov 11 2026. No macro, syntax, notation, axiom, sorry.
-/
import Derived.Test.YtmhiipmajlmlgaaChecked
import GoSem.Claim
import GoSem.ClaimJoined
import GoSem.ClaimMapViews
import Derived.JoinedTies
import Derived.KernelRfl
namespace Go.Proofs.Ytmhiipmajlmlgaa
/- THE CELL 'sum', in the pinned program and in every row, IS THE sha256 OF THE DUMP (.gsa) THAT YtmhiipmajlmlgaaProg.lean LOADS. Nothing in Lean hashes anything: it is a label: what it is worth is what the hold of that sum in a sandbox is worth. -/
noncomputable def Try.pinned : Pinned := { name := "ytmhiipmajlmlgaa", sum := "012b164ab6a92688c6b80c46eda3219b1ecc8fba81e015a19bf1f485cb924028", checked := Try.checked }
namespace Rows
def none {H : Type} : Left H := { results := [], args := [] }

/-- 'laws.FnPairsOf': WHATEVER THE INPUT: true; the input reads as it did. -/
def fnPairsOfSpec : ChangeSpec := { name := "fnPairsOf", fn := fun _ => fun
  | [d] => { results := [.lit (.bool true)], args := [d] }
  | _ => none }
def fnPairsOfRow : OpenClaim := { program := "ytmhiipmajlmlgaa", sum := "012b164ab6a92688c6b80c46eda3219b1ecc8fba81e015a19bf1f485cb924028", func := "loop.example/kleenetests/laws.FnPairsOf", spec := "fnPairsOf", unfollowed := true, recurses := true, plainKeys := false, apart := false }
def FnPairsOfSaid : Prop := fnPairsOfRow.holds Try.pinned (OpenSpec.ofChange fnPairsOfSpec)

/-- ITS FALSE NEIGHBOUR: 'it returns false'. Refute it at one input. -/
def fnPairsOfWrong : ChangeSpec := { name := "fnPairsOf", fn := fun _ => fun
  | [d] => { results := [.lit (.bool false)], args := [d] }
  | _ => none }
def FnPairsOfWrongFalsely : Prop := fnPairsOfRow.holds Try.pinned (OpenSpec.ofChange fnPairsOfWrong)

/-- 'laws.FnEndsAt': WHATEVER THE INPUT: true; the input reads as it did. -/
def fnEndsAtSpec : ChangeSpec := { name := "fnEndsAt", fn := fun _ => fun
  | [d] => { results := [.lit (.bool true)], args := [d] }
  | _ => none }
def fnEndsAtRow : OpenClaim := { program := "ytmhiipmajlmlgaa", sum := "012b164ab6a92688c6b80c46eda3219b1ecc8fba81e015a19bf1f485cb924028", func := "loop.example/kleenetests/laws.FnEndsAt", spec := "fnEndsAt", recurses := true, plainKeys := false, apart := false }
def FnEndsAtSaid : Prop := fnEndsAtRow.holds Try.pinned (OpenSpec.ofChange fnEndsAtSpec)

/-- ITS FALSE NEIGHBOUR: 'it returns false'. Refute it at one input. -/
def fnEndsAtWrong : ChangeSpec := { name := "fnEndsAt", fn := fun _ => fun
  | [d] => { results := [.lit (.bool false)], args := [d] }
  | _ => none }
def FnEndsAtWrongFalsely : Prop := fnEndsAtRow.holds Try.pinned (OpenSpec.ofChange fnEndsAtWrong)

/-- 'laws.FnTracesMany': WHATEVER THE INPUT: true; the input reads as it did. -/
def fnTracesManySpec : ChangeSpec := { name := "fnTracesMany", fn := fun _ => fun
  | [d] => { results := [.lit (.bool true)], args := [d] }
  | _ => none }
def fnTracesManyRow : OpenClaim := { program := "ytmhiipmajlmlgaa", sum := "012b164ab6a92688c6b80c46eda3219b1ecc8fba81e015a19bf1f485cb924028", func := "loop.example/kleenetests/laws.FnTracesMany", spec := "fnTracesMany", unfollowed := true, recurses := true, plainKeys := false, apart := false }
def FnTracesManySaid : Prop := fnTracesManyRow.holds Try.pinned (OpenSpec.ofChange fnTracesManySpec)

/-- ITS FALSE NEIGHBOUR: 'it returns false'. Refute it at one input. -/
def fnTracesManyWrong : ChangeSpec := { name := "fnTracesMany", fn := fun _ => fun
  | [d] => { results := [.lit (.bool false)], args := [d] }
  | _ => none }
def FnTracesManyWrongFalsely : Prop := fnTracesManyRow.holds Try.pinned (OpenSpec.ofChange fnTracesManyWrong)

/-- 'laws.FnTraceBy': WHATEVER THE INPUT: true; the input reads as it did. -/
def fnTraceBySpec : ChangeSpec := { name := "fnTraceBy", fn := fun _ => fun
  | [d] => { results := [.lit (.bool true)], args := [d] }
  | _ => none }
def fnTraceByRow : OpenClaim := { program := "ytmhiipmajlmlgaa", sum := "012b164ab6a92688c6b80c46eda3219b1ecc8fba81e015a19bf1f485cb924028", func := "loop.example/kleenetests/laws.FnTraceBy", spec := "fnTraceBy", unfollowed := true, recurses := true, plainKeys := false, apart := false }
def FnTraceBySaid : Prop := fnTraceByRow.holds Try.pinned (OpenSpec.ofChange fnTraceBySpec)

/-- ITS FALSE NEIGHBOUR: 'it returns false'. Refute it at one input. -/
def fnTraceByWrong : ChangeSpec := { name := "fnTraceBy", fn := fun _ => fun
  | [d] => { results := [.lit (.bool false)], args := [d] }
  | _ => none }
def FnTraceByWrongFalsely : Prop := fnTraceByRow.holds Try.pinned (OpenSpec.ofChange fnTraceByWrong)

/-- 'laws.FnAlive': WHATEVER THE INPUT: true; the input reads as it did. -/
def fnAliveSpec : ChangeSpec := { name := "fnAlive", fn := fun _ => fun
  | [d] => { results := [.lit (.bool true)], args := [d] }
  | _ => none }
def fnAliveRow : OpenClaim := { program := "ytmhiipmajlmlgaa", sum := "012b164ab6a92688c6b80c46eda3219b1ecc8fba81e015a19bf1f485cb924028", func := "loop.example/kleenetests/laws.FnAlive", spec := "fnAlive", unfollowed := true, recurses := true, plainKeys := false, apart := false }
def FnAliveSaid : Prop := fnAliveRow.holds Try.pinned (OpenSpec.ofChange fnAliveSpec)

/-- ITS FALSE NEIGHBOUR: 'it returns false'. Refute it at one input. -/
def fnAliveWrong : ChangeSpec := { name := "fnAlive", fn := fun _ => fun
  | [d] => { results := [.lit (.bool false)], args := [d] }
  | _ => none }
def FnAliveWrongFalsely : Prop := fnAliveRow.holds Try.pinned (OpenSpec.ofChange fnAliveWrong)

/- THE SECOND FORM. 'bulk': how many values and letters a reading holds, each counted each time it is reached (what is shared counts as often as it is met; a slice's spare places count too). A statement '..UptoSaid' is the law's where the arguments, and the package variables that the reading takes, are together of bulk at most 1048576: NARROWER than '..Said'. Prove '..Said' where nothing that the law and all that it calls make is longer than what came in: it says more and counts as full. Else prove '..UptoSaid'. A law counts once. -/
mutual
def uptoBulk {H : Type} : DataW H → Nat
  | .lit (.string bytes) => bytes.length + 1
  | .lit _ => 1
  | .nil => 1
  | .ptr d => uptoBulk d + 1
  | .slice elems spare => uptoBulkAll elems + uptoBulkAll spare + 1
  | .agg parts => uptoBulkAll parts + 1
  | .iface _ d => uptoBulk d + 1
  | .map entries => uptoBulkEntries entries + 1
  | .held _ => 1
def uptoBulkAll {H : Type} : List (DataW H) → Nat
  | [] => 0
  | d :: r => uptoBulk d + uptoBulkAll r
def uptoBulkEntries {H : Type} : List (Lit × DataW H) → Nat
  | [] => 0
  | x :: r => uptoBulkEntry x + uptoBulkEntries r
def uptoBulkEntry {H : Type} : Lit × DataW H → Nat
  | (.string bytes, d) => bytes.length + uptoBulk d + 1
  | (_, d) => uptoBulk d + 1
 end
def uptoSmall : (H : Type) → List (DataW H) → Bool := fun _ ds => decide (uptoBulkAll ds ≤ 1048576)
def OpenSpec.upto (s : _root_.Go.ChangeSpec) : _root_.Go.OpenSpec := { _root_.Go.OpenSpec.ofChange s with cond := some uptoSmall }

/-- 'laws.FnPairsOf', WHERE WHAT IT READS IS OF BULK AT MOST 1048576: true; the input reads as it did. -/
def fnPairsOfUptoRow : OpenClaim := { program := "ytmhiipmajlmlgaa", sum := "012b164ab6a92688c6b80c46eda3219b1ecc8fba81e015a19bf1f485cb924028", func := "loop.example/kleenetests/laws.FnPairsOf", spec := "fnPairsOf", unfollowed := true, recurses := true, plainKeys := false, apart := false, narrowed := true }
def FnPairsOfUptoSaid : Prop := fnPairsOfUptoRow.holds Try.pinned (OpenSpec.upto fnPairsOfSpec)

/-- 'laws.FnEndsAt', WHERE WHAT IT READS IS OF BULK AT MOST 1048576: true; the input reads as it did. -/
def fnEndsAtUptoRow : OpenClaim := { program := "ytmhiipmajlmlgaa", sum := "012b164ab6a92688c6b80c46eda3219b1ecc8fba81e015a19bf1f485cb924028", func := "loop.example/kleenetests/laws.FnEndsAt", spec := "fnEndsAt", recurses := true, plainKeys := false, apart := false, narrowed := true }
def FnEndsAtUptoSaid : Prop := fnEndsAtUptoRow.holds Try.pinned (OpenSpec.upto fnEndsAtSpec)

/-- 'laws.FnTracesMany', WHERE WHAT IT READS IS OF BULK AT MOST 1048576: true; the input reads as it did. -/
def fnTracesManyUptoRow : OpenClaim := { program := "ytmhiipmajlmlgaa", sum := "012b164ab6a92688c6b80c46eda3219b1ecc8fba81e015a19bf1f485cb924028", func := "loop.example/kleenetests/laws.FnTracesMany", spec := "fnTracesMany", unfollowed := true, recurses := true, plainKeys := false, apart := false, narrowed := true }
def FnTracesManyUptoSaid : Prop := fnTracesManyUptoRow.holds Try.pinned (OpenSpec.upto fnTracesManySpec)

/-- 'laws.FnTraceBy', WHERE WHAT IT READS IS OF BULK AT MOST 1048576: true; the input reads as it did. -/
def fnTraceByUptoRow : OpenClaim := { program := "ytmhiipmajlmlgaa", sum := "012b164ab6a92688c6b80c46eda3219b1ecc8fba81e015a19bf1f485cb924028", func := "loop.example/kleenetests/laws.FnTraceBy", spec := "fnTraceBy", unfollowed := true, recurses := true, plainKeys := false, apart := false, narrowed := true }
def FnTraceByUptoSaid : Prop := fnTraceByUptoRow.holds Try.pinned (OpenSpec.upto fnTraceBySpec)

/-- 'laws.FnAlive', WHERE WHAT IT READS IS OF BULK AT MOST 1048576: true; the input reads as it did. -/
def fnAliveUptoRow : OpenClaim := { program := "ytmhiipmajlmlgaa", sum := "012b164ab6a92688c6b80c46eda3219b1ecc8fba81e015a19bf1f485cb924028", func := "loop.example/kleenetests/laws.FnAlive", spec := "fnAlive", unfollowed := true, recurses := true, plainKeys := false, apart := false, narrowed := true }
def FnAliveUptoSaid : Prop := fnAliveUptoRow.holds Try.pinned (OpenSpec.upto fnAliveSpec)

end Rows
end Go.Proofs.Ytmhiipmajlmlgaa
