/- How a code that came in reads. No condition. -/
import Derived.Test.YtcpfflnhbcbmnaaOpen
import Derived.Test.YtcpfflnhbcbmnaaGrpJ
namespace Go.Proofs.Ytcpfflnhbcbmnaa
set_option linter.unusedSimpArgs false
set_option linter.unusedVariables false
set_option maxRecDepth 8000
set_option maxHeartbeats 2000000
open Go.ChangeShapes Go.WideShapes Go.ChangeAt Go.RowKit

theorem Try_cellsB : Try.prog.cellsOf 5 = 1 := by kernel_rfl
theorem BS_open {H : Type} {enc : TypeId × Value → H} {w : World} {base : Nat} {held : Bool} {fuel : Nat} {v : Value} {x : DataW H × List MemPlace}
    (h : DataW.trod enc Try.prog w base (fun _ => true) held fuel 35 [v] = some x) : ∃ l, BS w.heap.size w v l := by
  rcases open_ints Try.underlying35 Try.underlying5 Try_cellsB h with ⟨hcs, _⟩ | ⟨a, len, cap, zs, hcs, _, hl, hm, hz, _, hcell, hwz⟩
  · obtain rfl : v = .slice none 0 0 := by simpa using hcs
    exact ⟨[], BS.nil _ _⟩
  · obtain rfl : v = .slice (some a) len cap := by simpa using hcs
    simp only [if_true] at hz
    by_cases h0 : len = 0
    · subst h0
      exact ⟨[], .nil _ _ hm, by simp, by simp⟩
    obtain ⟨b, o, rfl, hb, hc⟩ := cells_form (n := len) (by omega) (fun i hi => hcell i (by omega))
    have hlen : ((zs.take len).map Int.toNat).length = len := by simp; omega
    have hu : ∀ j, 0 ≤ zs.getD j 0 ∧ zs.getD j 0 < 256 := fun j => by
      have := range_u8 hwz j
      rw [List.getD_eq_getElem?_getD]; omega
    have := BS.of (B := w.heap.size) (w := w) (b := b) (o := o) (c := cap) (bs := (zs.take len).map Int.toNat) (by intro h; rw [h] at hlen; simp at hlen; omega) (by omega) hm (fun x hx => by
      obtain ⟨z, hz1, rfl⟩ := List.mem_map.1 hx
      obtain ⟨j, hj, rfl⟩ := List.getElem_of_mem (List.mem_of_mem_take hz1)
      have := hu j
      have e : zs.getD j 0 = zs[j] := by simp [List.getD, hj]
      omega) (fun k hk => by
      rw [hlen] at hk
      rw [hc k hk]
      have := hu k
      have hkz : k < zs.length := by omega
      have e : zs.getD k 0 = zs[k] := by simp [List.getD, hkz]
      simp only [List.getElem_map, List.getElem_take]
      rw [e] at this ⊢
      congr 2
      omega)
    rw [hlen] at this
    exact ⟨_, this⟩

end Go.Proofs.Ytcpfflnhbcbmnaa
