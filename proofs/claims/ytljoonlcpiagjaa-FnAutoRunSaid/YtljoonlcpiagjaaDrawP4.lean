/- How the reference draws traces, as plain functions. No program in sight. -/
import Derived.Test.YtljoonlcpiagjaaGrpL
namespace Go.Proofs.Ytljoonlcpiagjaa
set_option linter.unusedSimpArgs false
set_option linter.unusedVariables false
set_option maxRecDepth 8000
set_option maxHeartbeats 2000000

def trkX (bs : List Nat) (q : Nat) : Nat → List Int
  | 0 => []
  | k + 1 => trkX bs q k ++ [16 + (pickX bs (q + 2 * k) 3 : Int), (pickX bs (q + 2 * k + 1) 4 : Int)]
theorem trkX_len (bs : List Nat) (q : Nat) : ∀ k, (trkX bs q k).length = 2 * k
  | 0 => rfl
  | k + 1 => by simp only [trkX, List.length_append, trkX_len bs q k, List.length_cons, List.length_nil]; omega

def fillX (out : List Int) : Nat → List Int
  | 0 => out
  | k + 1 => fillX out k ++ [16, 0]
theorem fillX_len (out : List Int) : ∀ k, (fillX out k).length = out.length + 2 * k
  | 0 => rfl
  | k + 1 => by simp only [fillX, List.length_append, fillX_len out k, List.length_cons, List.length_nil]; omega

def traceX (bs : List Nat) (p most n : Nat) : List Int × Nat :=
  let k := pickX bs (p + 1) (most + 1)
  let out := (pickX bs p 4 : Int) :: trkX bs (p + 2) k
  let o := oddX bs (p + 2 + 2 * k) n
  if o.1 then
    if pickX bs o.2 4 = 0 then ([], o.2 + 1)
    else if pickX bs o.2 4 = 1 then (out ++ [16], o.2 + 1)
    else if pickX bs o.2 4 = 2 then (out ++ [19, 0], o.2 + 1)
    else (fillX out (21 - k), o.2 + 1)
  else (out, o.2)

end Go.Proofs.Ytljoonlcpiagjaa
