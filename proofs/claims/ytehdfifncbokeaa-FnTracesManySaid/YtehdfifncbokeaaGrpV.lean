/- How the arguments of a law read: the words of the row opened into plain predicates. No condition. -/
import Derived.Test.YtehdfifncbokeaaGrpA
import Derived.Test.YtehdfifncbokeaaChecked
import Derived.ProofKit
import Derived.OpenShut
import Derived.ChangeOld
import Derived.Deep.Matrix
import Derived.Lib.SmallJoins
import Derived.Test.YtehdfifncbokeaaGrpJ
import Derived.Test.YtehdfifncbokeaaTy
namespace Go.Proofs.Ytehdfifncbokeaa
set_option linter.unusedSimpArgs false
set_option linter.unusedVariables false
set_option maxRecDepth 8000
set_option maxHeartbeats 2000000
open Go.ChangeShapes Go.WideShapes Go.ChangeAt Go.RowKit

theorem Try_own : ownKnob Try.prog.godebug = none := by kernel_rfl
theorem Try_laidOut : laidOutB Try.prog = true := by kernel_rfl
theorem addr_form {w : World} {a : Addr} {k : Nat} {v : Value} (h : w.cell? (a.add k) = some v) (h0 : ∃ u, w.cell? a = some u) : ∃ b o, a = ⟨b, o, none⟩ ∧ w.cell? ⟨b, o + k, none⟩ = some v := by
  obtain ⟨b, o, s⟩ := a
  obtain ⟨u, hu⟩ := h0
  have hs : s = none := by simpa using World.cell?_spot hu
  subst hs
  refine ⟨b, o, rfl, ?_⟩
  unfold Addr.add at h
  split at h
  · rename_i hk; subst hk; simpa using h
  · exact h

theorem cells_form {w : World} {a : Addr} {n : Nat} {f : Nat → Value} (hn : 0 < n) (h : ∀ i, i < n → w.cell? (a.add i) = some (f i)) :
    ∃ b o, a = ⟨b, o, none⟩ ∧ b < w.heap.size ∧ ∀ i, i < n → w.cell? ⟨b, o + i, none⟩ = some (f i) := by
  have h00 := h 0 hn
  have h0 : ∃ u, w.cell? a = some u := ⟨_, by simpa [Addr.add] using h00⟩
  obtain ⟨b, o, rfl, hc⟩ := addr_form h00 h0
  refine ⟨b, o, rfl, World.block_lt_of_cell? _ _ hc, fun i hi => ?_⟩
  obtain ⟨b', o', e, hc'⟩ := addr_form (h i hi) h0
  injection e with e1 e2
  subst e1 e2
  exact hc'

end Go.Proofs.Ytehdfifncbokeaa

namespace Go.Proofs.Ytehdfifncbokeaa
set_option linter.unusedSimpArgs false
set_option linter.unusedVariables false
set_option maxRecDepth 8000
set_option maxHeartbeats 2000000
open Go.ChangeShapes Go.WideShapes Go.ChangeAt Go.RowKit

theorem Try_cellsB : Try.prog.cellsOf 5 = 1 := by kernel_rfl
theorem BS_open {H : Type} {enc : TypeId × Value → H} {w : World} {base : Nat} {held : Bool} {fuel : Nat} {v : Value} {x : DataW H × List MemPlace}
    (h : DataW.trod enc Try.prog w base (fun _ => true) held fuel 22 [v] = some x) : ∃ l, BS w.heap.size w v l := by
  rcases open_ints Try.underlying22 Try.underlying5 Try_cellsB h with ⟨hcs, _⟩ | ⟨a, len, cap, zs, hcs, _, hl, hm, hz, _, hcell, hwz⟩
  · obtain rfl : v = .slice none 0 0 := by simpa using hcs
    exact ⟨[], BS.nil _ _⟩
  · obtain rfl : v = .slice (some a) len cap := by simpa using hcs
    simp only [if_true] at hz
    by_cases h0 : len = 0
    · subst h0
      exact ⟨[], .nil _ _ hm, by simp, by simp⟩
    obtain ⟨b, o, rfl, hb, hc⟩ := cells_form (n := len) (by omega) (fun i hi => hcell i (by omega))
    have hlen : ((zs.take len).map Int.toNat).length = len := by simp; omega
    have hu : ∀ j, 0 ≤ zs.getD j 0 ∧ zs.getD j 0 < 256 := fun j => by
      have := range_u8 hwz j
      rw [List.getD_eq_getElem?_getD]; omega
    have := BS.of (B := w.heap.size) (w := w) (b := b) (o := o) (c := cap) (bs := (zs.take len).map Int.toNat) (by intro h; rw [h] at hlen; simp at hlen; omega) (by omega) hm (fun x hx => by
      obtain ⟨z, hz1, rfl⟩ := List.mem_map.1 hx
      obtain ⟨j, hj, rfl⟩ := List.getElem_of_mem (List.mem_of_mem_take hz1)
      have := hu j
      have e : zs.getD j 0 = zs[j] := by simp [List.getD, hj]
      omega) (fun k hk => by
      rw [hlen] at hk
      rw [hc k hk]
      have := hu k
      have hkz : k < zs.length := by omega
      have e : zs.getD k 0 = zs[k] := by simp [List.getD, hkz]
      simp only [List.getElem_map, List.getElem_take]
      rw [e] at this ⊢
      congr 2
      omega)
    rw [hlen] at this
    exact ⟨_, this⟩

end Go.Proofs.Ytehdfifncbokeaa

namespace Go.Proofs.Ytehdfifncbokeaa
set_option linter.unusedSimpArgs false
set_option linter.unusedVariables false
set_option maxRecDepth 8000
set_option maxHeartbeats 2000000
open Go Go.RowKit AV

def codeR1 (args : List AV) (r : AV) : Prop := ∃ bs : List Nat, args = [.sh (bs.map fun b : Nat => AV.num .u8 (b : Int))] ∧ bs.length ≤ 9223372036854775807 ∧ (∀ b ∈ bs, b < 256) ∧ r = .bool true
theorem code_law {f : Nat} (h : CtrOK Try.prog f (pureC codeR1)) (v0 : Value) (l0 : List Nat) (w : World) (h0 : BS w.heap.size w v0 l0) : Calls Try.prog f #[v0] w fun e w' => e = .returned (.bool true) ∧ Below w.heap.size w w' := by
  have hm : maxLen ≤ 9223372036854775807 := by decide
  refine law_of_ctr h (args := [.sh (l0.map fun b : Nat => AV.num .u8 (b : Int))]) ⟨_, rfl, Nat.le_trans h0.2.1 hm, h0.2.2, rfl⟩ rfl fun i hi => ?_
  obtain rfl : i = 0 := by simp at hi; omega
  exact h0.1
end Go.Proofs.Ytehdfifncbokeaa
