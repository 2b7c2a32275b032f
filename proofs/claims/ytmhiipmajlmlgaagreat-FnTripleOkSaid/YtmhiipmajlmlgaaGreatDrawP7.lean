/- How the reference draws small expressions, two expressions that are often equal, tests to hold behind: plain functions. No program in sight. -/
import Derived.Test.YtmhiipmajlmlgaaGreatGrpL
import Derived.Test.YtmhiipmajlmlgaaGreatGrpN
namespace Go.Proofs.YtmhiipmajlmlgaaGreat
set_option linter.unusedSimpArgs false
set_option linter.unusedVariables false
set_option maxRecDepth 8000
set_option maxHeartbeats 2000000

def actsB (n : Int) : Bool := decide (16 ≤ n ∧ n ≤ 18)
def actsF (e : List Int) : Nat := (e.filter actsB).length
noncomputable def katActsI (e : List Int) : Int := if katB e = true then (actsF e : Int) else -1
theorem katActsI_yes {e : List Int} (h : katB e = true) : katActsI e = (actsF e : Int) := if_pos h
theorem katActsI_no {e : List Int} (h : katB e = false) : katActsI e = -1 := if_neg (by simp [h])

noncomputable def smallX (bs : List Nat) (p n : Nat) : List Int × Nat :=
  (if 4 < katActsI (progX bs p 3 n).1 then [16, 17, 20, 21] else (progX bs p 3 n).1, (progX bs p 3 n).2)
theorem smallX_p (bs : List Nat) (p n : Nat) : (smallX bs p n).2 ≤ p + 139 := progX_p bs p 3 n
theorem smallX_len (bs : List Nat) (p n : Nat) : (smallX bs p n).1.length ≤ 41 := by
  unfold smallX
  dsimp only
  split
  · simp
  · exact progX_len ..

noncomputable def tripX (wk : List Int → Int → Int) (bs : List Nat) (p : Nat) : Int × List Int × Int :=
  let s := smallX bs p 12
  let t := testX bs s.2 12
  if 0 ≤ wk s.1 t.1 ∧ pickX bs t.2 2 = 0 then (((wk s.1 t.1).toNat &&& pickX bs (t.2 + 1) 16 : Nat), s.1, t.1)
  else ((testX bs (if 0 ≤ wk s.1 t.1 then t.2 + 1 else t.2) 12).1, s.1, t.1)

end Go.Proofs.YtmhiipmajlmlgaaGreat
