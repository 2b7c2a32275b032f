/- What AutoValid returns, of the program and of the reference: one contract each, at every argument that reads as an automaton. -/
import Derived.Test.YtmhiipmajlmlgaaGreatChecked
import Derived.Test.YtmhiipmajlmlgaaGreatGrpA
import Derived.WalkSmall
import Derived.Test.YtmhiipmajlmlgaaGreatGrpC
import Derived.Deep.RegionHeld3
namespace Go.Proofs.YtmhiipmajlmlgaaGreat
set_option linter.unusedSimpArgs false
set_option linter.unusedVariables false
set_option maxRecDepth 8000
set_option maxHeartbeats 2000000
open Go.RowKit

def inB (n lo hi : Int) : Bool := decide (lo ≤ n ∧ n ≤ hi)
end Go.Proofs.YtmhiipmajlmlgaaGreat

namespace Go.Proofs.YtmhiipmajlmlgaaGreat
set_option linter.unusedSimpArgs false
set_option linter.unusedVariables false
set_option maxRecDepth 8000
set_option maxHeartbeats 2000000
open Go.RowKit

set_option maxHeartbeats 400000 in
theorem endsOf_any (v0 v1 : Value) (D : AutoD) (set : Nat) (w : World) (hok : AutoOK D) (h0 : IS w.heap.size w v0 D.ends) (h1 : ISS w.heap.size w v1 D.next) (hset : set < 1048576) :
    Calls Tryz.prog 43 #[.agg #[v0, v1], .int .i64 set] w fun e w' => e = .returned (.int .i64 ((endF D set : Nat) : Int)) ∧ Below w.heap.size w w' := by
  obtain ⟨b0, o0, c0, b1, o1, c1, L⟩ := Lk.of hok h0 h1
  obtain rfl := L.e0
  obtain rfl := L.e1
  have hlo := hok.lo
  have hhi := hok.hi
  obtain ⟨W, hW, hbW, hsW, x0, x1, -⟩ := box2 w (.slice (some ⟨b0, o0, none⟩) D.ends.length c0) (.slice (some ⟨b1, o1, none⟩) D.ends.length c1) 27
  have LW := L.below hbW
  go_enter Tryz.func43, Tryz.ntmps43
  go_wp2
  clear hW hsW h0 h1 L
  have HL := Lib.hid (And.intro hbW LW)
  clear hbW LW
  go_loop [5, 11] (fun x i => ∃ k : Nat, k ≤ D.ends.length ∧ i = .int .i64 k ∧ x = .int .i64 ((endT D set k : Nat) : Int)) (fun _ i => D.ends.length - (intOf i).toNat)
  case atStart => exact ⟨0, by omega, rfl, rfl⟩
  case round =>
    obtain ⟨k, hk, rfl, rfl⟩ := hrel
    have hacc := hok.endT_lt set k hk
    by_cases hlt : k < D.ends.length
    · have hc := HL.out.2.c0 k hlt
      have hnx := hok.endsN_lt hlt
      have hbd : endT D set k < 1048576 := by omega
      have hbn : endsN D k < 1048576 := by omega
      have hk0 : (k : Int) < (D.ends.length : Int) := by omega
      clear hacc hnx
      have hs : endT D set (k + 1) = if set.testBit k then endT D set k ||| endsN D k else endT D set k := rfl
      by_cases hb : set.testBit k = true
      · rw [if_pos hb] at hs
        have Hs := Lib.hid hs
        clear hs
        have hbit := test_t (s := set) (k := k) (by omega) hb
        clear hb
        have hor := bits_or (endT D set k) (endsN D k) (by omega) (by omega)
        go_wp2
        go_round
        case rel => exact ⟨k + 1, by omega, by go_num, by rw [Hs.out]⟩
        case measure => simp [intOf]; omega
      · rw [if_neg hb] at hs
        have hb : set.testBit k = false := by simpa using hb
        have Hs := Lib.hid hs
        clear hs
        have hbit := test_f (s := set) (k := k) (by omega) hb
        clear hb
        go_wp2
        go_round
        case rel => exact ⟨k + 1, by omega, by go_num, by rw [Hs.out]⟩
        case measure => simp [intOf]; omega
    · obtain rfl : k = D.ends.length := by omega
      go_wp2_with fail
      go_ret
      exact ⟨rfl, HL.out.1⟩

set_option maxHeartbeats 400000 in
theorem behindSet_any (v0 v1 : Value) (D : AutoD) (set m : Nat) (w : World) (hok : AutoOK D) (h0 : IS w.heap.size w v0 D.ends) (h1 : ISS w.heap.size w v1 D.next) (hset : set < 1048576) (hm : m < 12) :
    Calls Tryz.prog 41 #[.agg #[v0, v1], .int .i64 set, .int .i64 m] w fun e w' => e = .returned (.int .i64 ((behF D set m : Nat) : Int)) ∧ Below w.heap.size w w' := by
  obtain ⟨b0, o0, c0, b1, o1, c1, L⟩ := Lk.of hok h0 h1
  obtain rfl := L.e0
  obtain rfl := L.e1
  have hlo := hok.lo
  have hhi := hok.hi
  obtain ⟨W, hW, hbW, hsW, x0, x1, -⟩ := box2 w (.slice (some ⟨b0, o0, none⟩) D.ends.length c0) (.slice (some ⟨b1, o1, none⟩) D.ends.length c1) 27
  have LW := L.below hbW
  go_enter Tryz.func41, Tryz.ntmps41
  go_wp2
  clear hW hsW h0 h1 L
  have HL := Lib.hid (And.intro hbW LW)
  clear hbW LW
  go_loop [7, 12] (fun x i => ∃ k : Nat, k ≤ D.ends.length ∧ i = .int .i64 k ∧ x = .int .i64 ((behT D set m k : Nat) : Int)) (fun _ i => D.ends.length - (intOf i).toNat)
  case atStart => exact ⟨0, by omega, rfl, rfl⟩
  case round =>
    obtain ⟨k, hk, rfl, rfl⟩ := hrel
    have hacc := hok.behT_lt set hm k hk
    by_cases hlt : k < D.ends.length
    · obtain ⟨br, or, cr, -, hr, hcr⟩ := HL.out.2.c1 k hlt
      have hc := hcr m hm
      have hnx := hok.nextN_lt hlt hm
      have hpow := hok.pow_le
      clear hcr
      have hbd : behT D set m k < 1048576 := by omega
      have hbn : nextN D k m < 1048576 := by omega
      have hk0 : (k : Int) < (D.ends.length : Int) := by omega
      have hm0 : (m : Int) < 12 := by omega
      clear hpow
      clear hacc hnx
      have hs : behT D set m (k + 1) = if set.testBit k then behT D set m k ||| nextN D k m else behT D set m k := rfl
      by_cases hb : set.testBit k = true
      · rw [if_pos hb] at hs
        have Hs := Lib.hid hs
        clear hs
        have hbit := test_t (s := set) (k := k) (by omega) hb
        clear hb
        have hor := bits_or (behT D set m k) (nextN D k m) (by omega) (by omega)
        go_wp2
        go_round
        case rel => exact ⟨k + 1, by omega, by go_num, by rw [Hs.out]⟩
        case measure => simp [intOf]; omega
      · rw [if_neg hb] at hs
        have hb : set.testBit k = false := by simpa using hb
        have Hs := Lib.hid hs
        clear hs
        have hbit := test_f (s := set) (k := k) (by omega) hb
        clear hb
        go_wp2
        go_round
        case rel => exact ⟨k + 1, by omega, by go_num, by rw [Hs.out]⟩
        case measure => simp [intOf]; omega
    · obtain rfl : k = D.ends.length := by omega
      go_wp2_with fail
      go_ret
      exact ⟨rfl, HL.out.1⟩

end Go.Proofs.YtmhiipmajlmlgaaGreat

namespace Go.Proofs.YtmhiipmajlmlgaaGreat
set_option linter.unusedSimpArgs false
set_option linter.unusedVariables false
set_option maxRecDepth 8000
set_option maxHeartbeats 2000000
open Go.RowKit

end Go.Proofs.YtmhiipmajlmlgaaGreat

namespace Go.Proofs.YtmhiipmajlmlgaaGreat
set_option linter.unusedSimpArgs false
set_option linter.unusedVariables false
set_option maxRecDepth 8000
set_option maxHeartbeats 2000000
open Go.RowKit

end Go.Proofs.YtmhiipmajlmlgaaGreat

namespace Go.Proofs.YtmhiipmajlmlgaaGreat
set_option linter.unusedSimpArgs false
set_option linter.unusedVariables false
set_option maxRecDepth 8000
set_option maxHeartbeats 2000000
open Go.RowKit

end Go.Proofs.YtmhiipmajlmlgaaGreat

namespace Go.Proofs.YtmhiipmajlmlgaaGreat
set_option linter.unusedSimpArgs false
set_option linter.unusedVariables false
set_option maxRecDepth 8000
set_option maxHeartbeats 2000000
open Go.RowKit

end Go.Proofs.YtmhiipmajlmlgaaGreat
