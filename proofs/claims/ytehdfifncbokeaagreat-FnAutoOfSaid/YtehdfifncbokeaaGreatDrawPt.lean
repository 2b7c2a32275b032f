/- How long what is drawn is. No program in sight. -/
import Derived.Test.YtehdfifncbokeaaGreatDrawP4
namespace Go.Proofs.YtehdfifncbokeaaGreat
set_option linter.unusedSimpArgs false
set_option linter.unusedVariables false
set_option maxRecDepth 8000
set_option maxHeartbeats 2000000

theorem traceX_len (bs : List Nat) (p n : Nat) : (traceX bs p 3 n).1.length ≤ 1000 := by
  have h1 := pickX_lt (bs := bs) (p := p + 1) (n := 3 + 1) (by omega)
  have h2 := trkX_len bs (p + 2) (pickX bs (p + 1) 4)
  have e4 : 3 + 1 = 4 := rfl
  rw [e4] at h1
  unfold traceX
  dsimp only
  rw [e4]
  repeat' split
  all_goals simp [fillX_len, h2]
  all_goals omega
theorem toldX_len (bs : List Nat) (p parts : Nat) : (toldX bs p parts).2.1.length ≤ 1000 := by
  unfold toldX
  dsimp only
  split
  · exact traceX_len ..
  split
  · exact traceX_len ..
  split
  · dsimp only
    rw [List.length_set]
    split <;> (try rw [List.length_take]) <;> omega
  · dsimp only
    split <;> (try rw [List.length_take]) <;> omega
end Go.Proofs.YtehdfifncbokeaaGreat
