/- Small joins for laws on lists of integers. -/
import Derived.Test.YtoaelngalnojiaaLaws
namespace Go.Proofs.Ytoaelngalnojiaa
open Go.RowKit

theorem eqIS_same (va vb : Value) (l : List Int) (w : World) (ha : IS w.heap.size w va l) (hb : IS w.heap.size w vb l) :
    Calls Try.prog 22 #[va, vb] w fun e w' => e = .returned (.bool true) ∧ ∃ n, w' = w.drewN n :=
  (eqIntS_any va vb l l w ha hb).mono fun e w' ⟨he, hb⟩ => ⟨by rw [he, eqI_t rfl], hb⟩

theorem toIP_is {w w' : World} {l : List Int} (hr : w'.rowIs w.heap.size 3 l.length (fun k => .int .i64 (nth l k))) (hn : l.length ≤ 1048576) {B : Nat} (hB : w.heap.size < B) :
    IS B w' (.slice (some ⟨w.heap.size, 0, none⟩) l.length l.length) l := IS.of_row hr rfl (by unfold maxLen; omega) hB

/-- A copy of a list of integers, and no more than that about the world. -/
theorem toIntS_is (v : Value) (l : List Int) (w : World) (h : IS w.heap.size w v l) (hn : l.length ≤ 1048576) :
    Calls Try.prog 20 #[v] w fun e w' => ∃ g, e = .returned (.slice (some ⟨g, 0, none⟩) l.length l.length) ∧ g = w.heap.size ∧ IS w'.heap.size w' (.slice (some ⟨g, 0, none⟩) l.length l.length) l ∧ Below w.heap.size w w' ∧ g < w'.heap.size := by
  refine (toIntS_any v l w h hn).mono ?_
  rintro e w' ⟨rfl, hs, hb, hr⟩
  exact ⟨_, rfl, rfl, toIP_is hr hn (by omega), hb, by omega⟩

end Go.Proofs.Ytoaelngalnojiaa
