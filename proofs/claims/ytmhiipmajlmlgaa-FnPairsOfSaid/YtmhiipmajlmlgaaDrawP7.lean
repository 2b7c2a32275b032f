/- How the reference draws small expressions, two expressions that are often equal, tests to hold behind: plain functions. No program in sight. -/
import Derived.Test.YtmhiipmajlmlgaaGrpL
import Derived.Test.YtmhiipmajlmlgaaGrpN
namespace Go.Proofs.Ytmhiipmajlmlgaa
set_option linter.unusedSimpArgs false
set_option linter.unusedVariables false
set_option maxRecDepth 8000
set_option maxHeartbeats 2000000

def actsB (n : Int) : Bool := decide (16 ≤ n ∧ n ≤ 18)
def actsF (e : List Int) : Nat := (e.filter actsB).length
noncomputable def katActsI (e : List Int) : Int := if katB e = true then (actsF e : Int) else -1
theorem katActsI_yes {e : List Int} (h : katB e = true) : katActsI e = (actsF e : Int) := if_pos h
theorem katActsI_no {e : List Int} (h : katB e = false) : katActsI e = -1 := if_neg (by simp [h])

noncomputable def smallX (bs : List Nat) (p n : Nat) : List Int × Nat :=
  (if 4 < katActsI (progX bs p 3 n).1 then [16, 17, 20, 21] else (progX bs p 3 n).1, (progX bs p 3 n).2)
theorem smallX_p (bs : List Nat) (p n : Nat) : (smallX bs p n).2 ≤ p + 139 := progX_p bs p 3 n
theorem smallX_len (bs : List Nat) (p n : Nat) : (smallX bs p n).1.length ≤ 41 := by
  unfold smallX
  dsimp only
  split
  · simp
  · exact progX_len ..

def l2J (a b : List Int) (n : Int) : List Int := a ++ (b ++ [n])
theorem l2J_len (a b : List Int) (n : Int) : (l2J a b n).length = a.length + b.length + 1 := by simp [l2J]; omega

noncomputable def lawX (bs : List Nat) (k : Nat) (e f g : List Int) (q : Nat) : List Int × List Int × Nat :=
  if k = 0 then (e ++ [21], l2J [15] (l2J e (e ++ [21]) 19) 20, q)
  else if k = 1 then (l2J e f 20 ++ [21], l2J (e ++ [21]) (l2J f (e ++ [21]) 19 ++ [21]) 19, q)
  else if k = 2 then (l2J (l2J e f 19 ++ [21]) e 19, l2J e (l2J f e 19 ++ [21]) 19, q)
  else if k = 3 then (l2J e (l2J f g 20) 19, l2J (l2J e f 19) (l2J e g 19) 20, q)
  else if k = 4 then (e, l2J e e 20, q)
  else if k = 5 then (e ++ [21] ++ [21], e ++ [21], q)
  else if k = 6 then (whL (testX bs q 0).1 e, l2J (whL (testX bs q 0).1 e) [15 - (testX bs q 0).1] 19, (testX bs q 0).2)
  else if k = 7 then (l2J e f 19, l2J f e 19, q)
  else (e, smallX bs q 14)
noncomputable def lawsX (bs : List Nat) (p : Nat) : List Int × List Int × Nat :=
  let s := smallX bs p 14
  let f := leafX bs s.2
  let g := leafX bs f.2
  if katB s.1 = true ∧ s.1.length ≤ 9 then lawX bs (pickX bs g.2 9) s.1 f.1 g.1 (g.2 + 1) else (s.1, f.1, g.2)
theorem whL_len (t : Int) (a : List Int) : (whL t a).length = a.length + 5 := by simp [whL]
theorem whB_yes {t : Int} {e : List Int} (ht : 0 ≤ t ∧ t < 16) (hk : katB e = true) (hl : e.length ≤ 9) : whB t e = true := by
  have hk' := katB_true.1 hk
  have h1 := ((KatOK.leaf (n := t) (by omega)).thn hk' (by simp; omega)).str (by simp; omega)
  have h2 := h1.thn (KatOK.leaf (n := 15 - t) (by omega)) (by simp; omega)
  unfold whB
  rw [hk, decide_eq_true (show 0 ≤ t ∧ t ≤ 15 by omega)]
  rw [Bool.true_and, Bool.true_and]
  exact katB_true.2 (by simpa [whL] using h2)
theorem lawX_len {bs : List Nat} {k : Nat} {e f g : List Int} {q : Nat} (he : e.length ≤ 9) (hf : f.length = 1) (hg : g.length = 1) : (lawX bs k e f g q).1.length ≤ 60 ∧ (lawX bs k e f g q).2.1.length ≤ 60 := by
  have h3 := smallX_len bs q 14
  unfold lawX
  repeat' split
  all_goals (simp only [l2J_len, List.length_append, List.length_cons, List.length_nil, whL_len]; omega)
theorem lawsX_len (bs : List Nat) (p : Nat) : (lawsX bs p).1.length ≤ 60 ∧ (lawsX bs p).2.1.length ≤ 60 := by
  have h1 := smallX_len bs p 14
  have h2 := leafX_len bs (smallX bs p 14).2
  have h3 := leafX_len bs (leafX bs (smallX bs p 14).2).2
  unfold lawsX
  dsimp only
  split
  · rename_i h
    exact lawX_len h.2 h2 h3
  · constructor
    · show (smallX bs p 14).1.length ≤ 60; omega
    · show (leafX bs (smallX bs p 14).2).1.length ≤ 60; omega

end Go.Proofs.Ytmhiipmajlmlgaa
