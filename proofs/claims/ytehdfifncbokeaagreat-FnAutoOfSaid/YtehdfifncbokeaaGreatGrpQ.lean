/- What AutoValid returns, of the program and of the reference: one contract each, at every argument that reads as an automaton. -/
import Derived.Test.YtehdfifncbokeaaGreatChecked
import Derived.Test.YtehdfifncbokeaaGreatGrpA
import Derived.WalkSmall
import Derived.Test.YtehdfifncbokeaaGreatGrpC
import Derived.Deep.RegionHeld3
namespace Go.Proofs.YtehdfifncbokeaaGreat
set_option linter.unusedSimpArgs false
set_option linter.unusedVariables false
set_option maxRecDepth 8000
set_option maxHeartbeats 2000000
open Go.RowKit

def inB (n lo hi : Int) : Bool := decide (lo ≤ n ∧ n ≤ hi)
theorem inB_t {n lo hi : Int} (h : lo ≤ n ∧ n ≤ hi) : inB n lo hi = true := by simp [inB, h]
theorem inB_f {n lo hi : Int} (h : ¬ (lo ≤ n ∧ n ≤ hi)) : inB n lo hi = false := by simp only [inB, h, decide_false]
theorem implTestValid_any (n : Int) (w : World) :
    Calls Tryz.prog 38 #[.int .i64 n] w fun e w' => e = .returned (.bool (inB n 0 15)) ∧ w = w' := by
  by_cases h1 : 0 ≤ n <;> by_cases h2 : n ≤ 15 <;>
  (go_enter Tryz.func38, Tryz.ntmps38
   go_wp2
   go_ret
   exact ⟨ret_bool (by simp [inB, *]), rfl⟩)

def okTo (D : AutoD) (k : Nat) : Prop := ∀ i, i < k → (0 ≤ nth D.ends i ∧ nth D.ends i ≤ 15) ∧ (nthL D.next i).length = 12 ∧ ∀ j, j < 12 → 0 ≤ nth (nthL D.next i) j ∧ nth (nthL D.next i) j ≤ 2 ^ D.ends.length - 1
def setsTo (D : AutoD) (k m : Nat) : Prop := ∀ j, j < m → 0 ≤ nth (nthL D.next k) j ∧ nth (nthL D.next k) j ≤ 2 ^ D.ends.length - 1
theorem okTo_zero (D : AutoD) : okTo D 0 := fun _ h => absurd h (by omega)
theorem setsTo_zero (D : AutoD) (k : Nat) : setsTo D k 0 := fun _ h => absurd h (by omega)
theorem setsTo_succ {D : AutoD} {k m : Nat} (h : setsTo D k m) (h1 : 0 ≤ nth (nthL D.next k) m ∧ nth (nthL D.next k) m ≤ 2 ^ D.ends.length - 1) : setsTo D k (m + 1) := fun j hj => by
  by_cases e : j = m
  · subst e; exact h1
  · exact h j (by omega)
theorem okTo_succ {D : AutoD} {k : Nat} (h : okTo D k) (h1 : 0 ≤ nth D.ends k ∧ nth D.ends k ≤ 15) (h2 : (nthL D.next k).length = 12) (h3 : setsTo D k 12) : okTo D (k + 1) := fun j hj => by
  by_cases e : j = k
  · subst e; exact ⟨h1, h2, h3⟩
  · exact h j (by omega)
theorem okTo_all {D : AutoD} (hlo : 1 ≤ D.ends.length) (hhi : D.ends.length ≤ 10) (hn : D.next.length = D.ends.length) (h : okTo D D.ends.length) : autoOKB D = true :=
  autoOKB_true.2 ⟨hlo, hhi, hn, fun k hk => (h k hk).1, fun k hk => (h k hk).2.1, fun k hk => (h k hk).2.2⟩

set_option maxHeartbeats 400000 in
theorem implAutoValid (v0 v1 : Value) (D : AutoD) (w : World) (h0 : IS w.heap.size w v0 D.ends) (h1 : ISS w.heap.size w v1 D.next) :
    Calls Tryz.prog 14 #[.agg #[v0, v1]] w fun e w' => e = .returned (.bool (autoOKB D)) ∧ Below w.heap.size w w' := by
  obtain ⟨A0, c0, rfl, hl0, hm0, hA0⟩ := h0
  obtain ⟨A1, c1, rfl, hl1, hm1, hA1⟩ := h1
  unfold maxLen at hm0 hm1
  by_cases hlo : 1 ≤ D.ends.length ∧ D.ends.length ≤ 10
  case neg =>
    by_cases hlo1 : 1 ≤ D.ends.length
    all_goals
      go_enter Tryz.func14, Tryz.ntmps14
      go_wp2
      go_ret
      exact ⟨ret_bool (autoOKB_false.2 fun h => hlo ⟨h.lo, h.hi⟩).symm, (Below.refl _ _).alloc (Nat.le_refl _) _⟩
  obtain ⟨hlo, hhi⟩ := hlo
  by_cases hn : D.next.length = D.ends.length
  case neg =>
    have hne : ((D.next.length : Int) != (D.ends.length : Int)) = true := by rw [bne_iff_ne]; omega
    go_enter Tryz.func14, Tryz.ntmps14
    go_wp2
    go_ret
    exact ⟨ret_bool (autoOKB_false.2 fun h => hn h.len).symm, (Below.refl _ _).alloc (Nat.le_refl _) _⟩
  have hne : ((D.next.length : Int) != (D.ends.length : Int)) = false := by rw [bne_eq_false_iff_eq]; omega
  obtain ⟨b0, o0, rfl, hb0, hc0⟩ := hA0 (by omega)
  obtain ⟨b1, o1, rfl, hb1, hc1⟩ := hA1 (by omega)
  have HC0 := Lib.hid hc0
  have HC1 := Lib.hid hc1
  have HN := Lib.hid hn
  clear hc0 hc1 hA0 hA1 hn
  go_enter Tryz.func14, Tryz.ntmps14
  go_wp2
  clear hne
  obtain ⟨W, hW, hbW, hsW, x0, x1, -⟩ := box2 w (.slice (some ⟨b0, o0, none⟩) D.ends.length c0) (.slice (some ⟨b1, o1, none⟩) D.next.length c1) 27
  rw [hW]
  have hszW : w.heap.size + 1 ≤ W.heap.size := by omega
  clear hW hsW
  have HX := Lib.hid (And.intro hbW (And.intro x0 x1))
  have hkcs : ∀ k, k < D.ends.length → W.cell? ⟨b0, o0 + k, none⟩ = some (.int .i64 (nth D.ends k)) := fun k hk => below_at hbW hb0 (HC0.out k hk)
  have HK0 := Lib.hid hkcs
  clear hbW x0 x1 hkcs
  go_loop [24] (fun i => ∃ k : Nat, k ≤ D.ends.length ∧ i = .int .i64 k ∧ okTo D k)
    (fun i => D.ends.length - (intOf i).toNat)
  case atStart => exact ⟨0, Nat.zero_le _, rfl, okTo_zero D⟩
  case round =>
    obtain ⟨k, hk, rfl, hok⟩ := hrel
    have Hok := Lib.hid hok
    clear hok
    by_cases hlt : k < D.ends.length
    · have hkc := HK0.out k hlt
      obtain ⟨u, hkr, hi⟩ := HC1.out k (by have := HN.out; omega)
      replace hkr := below_at HX.out.1 hb1 hkr
      replace hi := hi.below HX.out.1
      obtain ⟨-, x0, x1⟩ := HX.out
      obtain ⟨Ar, cr, rfl, hlr, hmr, hAr⟩ := hi
      unfold maxLen at hmr
      have HAr := Lib.hid hAr
      clear hAr
      have hk1 : (k : Int) < (D.next.length : Int) := by have := HN.out; omega
      have hk2 : (k : Int) < (D.ends.length : Int) := by omega
      by_cases hv : 0 ≤ nth D.ends k ∧ nth D.ends k ≤ 15
      case neg =>
        have hB : inB (nth D.ends k) 0 15 = false := inB_f hv
        go_wp2_with ((go_at_call 38; refine (implTestValid_any _ _).mono ?_; rintro e w' ⟨rfl, rfl⟩))
        go_ret
        exact ⟨ret_bool (autoOKB_false.2 fun h => hv (h.ends k hlt)).symm, HX.out.1⟩
      have hB : inB (nth D.ends k) 0 15 = true := inB_t hv
      by_cases hr : (nthL D.next k).length = 12
      case neg =>
        have hne : (((nthL D.next k).length : Int) != 12) = true := by rw [bne_iff_ne]; omega
        go_wp2_with ((go_at_call 38; refine (implTestValid_any _ _).mono ?_; rintro e w' ⟨rfl, rfl⟩))
        go_ret
        exact ⟨ret_bool (autoOKB_false.2 fun h => hr (h.rows k hlt)).symm, HX.out.1⟩
      have hne : (((nthL D.next k).length : Int) != 12) = false := by rw [bne_eq_false_iff_eq]; omega
      obtain ⟨br, or, rfl, hbr, hcr⟩ := HAr.out (by omega)
      have HCR := Lib.hid hcr
      have HR := Lib.hid hr
      clear hcr hr
      have hrr : 12 ≤ (nthL D.next k).length := by have := HR.out; omega
      go_wp2_with ((go_at_call 38; refine (implTestValid_any _ _).mono ?_; rintro e w' ⟨rfl, rfl⟩))
      have HKK := Lib.hid (And.intro hkc (And.intro hkr (And.intro x0 x1)))
      clear hne hB hkc hkr x0 x1
      go_loop [49] (fun i => ∃ j : Nat, j ≤ (nthL D.next k).length ∧ i = .int .i64 j ∧ setsTo D k j)
        (fun i => (nthL D.next k).length - (intOf i).toNat)
      case atStart => exact ⟨0, by omega, rfl, setsTo_zero D k⟩
      case round =>
        obtain ⟨j, hj, rfl, hs⟩ := hrel
        have Hs := Lib.hid hs
        clear hs
        by_cases hlt2 : j < (nthL D.next k).length
        · have hrc := HCR.out j (by omega)
          have hjr : (j : Int) < ((nthL D.next k).length : Int) := by omega
          have hp := shl_one D.ends.length hhi
          have hw1 : IntKind.i64.wrap (2 ^ D.ends.length) = 2 ^ D.ends.length := IntWalk.i64_in _ (by omega)
          by_cases hv2 : 0 ≤ nth (nthL D.next k) j
          · by_cases hv3 : nth (nthL D.next k) j < 2 ^ D.ends.length
            · go_wp2
              go_round
              case rel => exact ⟨j + 1, by omega, by go_num, setsTo_succ Hs.out ⟨hv2, by omega⟩⟩
              case measure => simp [intOf]; omega
            · go_wp2
              go_ret
              exact ⟨ret_bool (autoOKB_false.2 fun h => by have := h.sets k hlt j (by have := HR.out; omega); omega).symm, HX.out.1⟩
          · go_wp2
            go_ret
            exact ⟨ret_bool (autoOKB_false.2 fun h => by have := h.sets k hlt j (by have := HR.out; omega); omega).symm, HX.out.1⟩
        · obtain rfl : j = (nthL D.next k).length := by omega
          go_wp2_with fail
          go_round
          case rel => exact ⟨k + 1, by omega, by go_num, okTo_succ Hok.out hv HR.out (by have := Hs.out; rw [HR.out] at this; exact this)⟩
          case measure => simp [intOf]; omega
    · obtain rfl : k = D.ends.length := by omega
      go_wp2_with fail
      go_ret
      exact ⟨ret_bool (okTo_all hlo hhi HN.out Hok.out).symm, HX.out.1⟩

end Go.Proofs.YtehdfifncbokeaaGreat

namespace Go.Proofs.YtehdfifncbokeaaGreat
set_option linter.unusedSimpArgs false
set_option linter.unusedVariables false
set_option maxRecDepth 8000
set_option maxHeartbeats 2000000
open Go.RowKit

theorem holds_any (s k : Nat) (hk : k < 64) (hs : s < 1048576) (w : World) :
    Calls Tryz.prog 34 #[.int .i64 s, .int .i64 k] w fun e w' => e = .returned (.bool (s.testBit k)) ∧ w = w' := by
  cases h : s.testBit k
  · have hb := test_f (by omega) h
    go_enter Tryz.func34, Tryz.ntmps34
    go_wp2
    go_ret
    exact ⟨rfl, rfl⟩
  · have hb := test_t (by omega) h
    go_enter Tryz.func34, Tryz.ntmps34
    go_wp2
    go_ret
    exact ⟨rfl, rfl⟩

theorem isAtom_any (n : Int) (w : World) :
    Calls Tryz.prog 62 #[.int .i64 n] w fun e w' => e = .returned (.bool (inB n 0 3)) ∧ w = w' := by
  by_cases h1 : 0 ≤ n <;> by_cases h2 : n ≤ 3 <;>
  (go_enter Tryz.func62, Tryz.ntmps62
   go_wp2
   go_ret
   exact ⟨ret_bool (by simp [inB, *]), rfl⟩)

theorem isAct_any (n : Int) (w : World) :
    Calls Tryz.prog 44 #[.int .i64 n] w fun e w' => e = .returned (.bool (inB n 16 18)) ∧ w = w' := by
  by_cases h1 : 16 ≤ n <;> by_cases h2 : n ≤ 18 <;>
  (go_enter Tryz.func44, Tryz.ntmps44
   go_wp2
   go_ret
   exact ⟨ret_bool (by simp [inB, *]), rfl⟩)

theorem move_any (a b : Int) (ha : 0 ≤ a) (ha' : a ≤ 3) (hb : 16 ≤ b) (hb' : b ≤ 18) (w : World) :
    Calls Tryz.prog 21 #[.int .i64 a, .int .i64 b] w fun e w' => e = .returned (.int .i64 (3 * a + b - 16)) ∧ w = w' := by
  go_enter Tryz.func21, Tryz.ntmps21
  go_wp2
  go_ret
  exact ⟨rfl, rfl⟩

set_option maxHeartbeats 400000 in
theorem endsOf_any (v0 v1 : Value) (D : AutoD) (set : Nat) (w : World) (hok : AutoOK D) (h0 : IS w.heap.size w v0 D.ends) (h1 : ISS w.heap.size w v1 D.next) (hset : set < 1048576) :
    Calls Tryz.prog 35 #[.agg #[v0, v1], .int .i64 set] w fun e w' => e = .returned (.int .i64 ((endF D set : Nat) : Int)) ∧ Below w.heap.size w w' := by
  obtain ⟨b0, o0, c0, b1, o1, c1, L⟩ := Lk.of hok h0 h1
  obtain rfl := L.e0
  obtain rfl := L.e1
  have hlo := hok.lo
  have hhi := hok.hi
  obtain ⟨W, hW, hbW, hsW, x0, x1, -⟩ := box2 w (.slice (some ⟨b0, o0, none⟩) D.ends.length c0) (.slice (some ⟨b1, o1, none⟩) D.ends.length c1) 27
  have LW := L.below hbW
  go_enter Tryz.func35, Tryz.ntmps35
  go_wp2
  clear hW hsW h0 h1 L
  have HL := Lib.hid (And.intro hbW LW)
  clear hbW LW
  go_loop [5, 11] (fun x i => ∃ k : Nat, k ≤ D.ends.length ∧ i = .int .i64 k ∧ x = .int .i64 ((endT D set k : Nat) : Int)) (fun _ i => D.ends.length - (intOf i).toNat)
  case atStart => exact ⟨0, by omega, rfl, rfl⟩
  case round =>
    obtain ⟨k, hk, rfl, rfl⟩ := hrel
    have hacc := hok.endT_lt set k hk
    by_cases hlt : k < D.ends.length
    · have hc := HL.out.2.c0 k hlt
      have hnx := hok.endsN_lt hlt
      have hbd : endT D set k < 1048576 := by omega
      have hbn : endsN D k < 1048576 := by omega
      have hk0 : (k : Int) < (D.ends.length : Int) := by omega
      clear hacc hnx
      have hs : endT D set (k + 1) = if set.testBit k then endT D set k ||| endsN D k else endT D set k := rfl
      by_cases hb : set.testBit k = true
      · rw [if_pos hb] at hs
        have Hs := Lib.hid hs
        clear hs
        have hbit := test_t (s := set) (k := k) (by omega) hb
        clear hb
        have hor := bits_or (endT D set k) (endsN D k) (by omega) (by omega)
        go_wp2
        go_round
        case rel => exact ⟨k + 1, by omega, by go_num, by rw [Hs.out]⟩
        case measure => simp [intOf]; omega
      · rw [if_neg hb] at hs
        have hb : set.testBit k = false := by simpa using hb
        have Hs := Lib.hid hs
        clear hs
        have hbit := test_f (s := set) (k := k) (by omega) hb
        clear hb
        go_wp2
        go_round
        case rel => exact ⟨k + 1, by omega, by go_num, by rw [Hs.out]⟩
        case measure => simp [intOf]; omega
    · obtain rfl : k = D.ends.length := by omega
      go_wp2_with fail
      go_ret
      exact ⟨rfl, HL.out.1⟩

set_option maxHeartbeats 400000 in
theorem behindSet_any (v0 v1 : Value) (D : AutoD) (set m : Nat) (w : World) (hok : AutoOK D) (h0 : IS w.heap.size w v0 D.ends) (h1 : ISS w.heap.size w v1 D.next) (hset : set < 1048576) (hm : m < 12) :
    Calls Tryz.prog 33 #[.agg #[v0, v1], .int .i64 set, .int .i64 m] w fun e w' => e = .returned (.int .i64 ((behF D set m : Nat) : Int)) ∧ Below w.heap.size w w' := by
  obtain ⟨b0, o0, c0, b1, o1, c1, L⟩ := Lk.of hok h0 h1
  obtain rfl := L.e0
  obtain rfl := L.e1
  have hlo := hok.lo
  have hhi := hok.hi
  obtain ⟨W, hW, hbW, hsW, x0, x1, -⟩ := box2 w (.slice (some ⟨b0, o0, none⟩) D.ends.length c0) (.slice (some ⟨b1, o1, none⟩) D.ends.length c1) 27
  have LW := L.below hbW
  go_enter Tryz.func33, Tryz.ntmps33
  go_wp2
  clear hW hsW h0 h1 L
  have HL := Lib.hid (And.intro hbW LW)
  clear hbW LW
  go_loop [7, 12] (fun x i => ∃ k : Nat, k ≤ D.ends.length ∧ i = .int .i64 k ∧ x = .int .i64 ((behT D set m k : Nat) : Int)) (fun _ i => D.ends.length - (intOf i).toNat)
  case atStart => exact ⟨0, by omega, rfl, rfl⟩
  case round =>
    obtain ⟨k, hk, rfl, rfl⟩ := hrel
    have hacc := hok.behT_lt set hm k hk
    by_cases hlt : k < D.ends.length
    · obtain ⟨br, or, cr, -, hr, hcr⟩ := HL.out.2.c1 k hlt
      have hc := hcr m hm
      have hnx := hok.nextN_lt hlt hm
      have hpow := hok.pow_le
      clear hcr
      have hbd : behT D set m k < 1048576 := by omega
      have hbn : nextN D k m < 1048576 := by omega
      have hk0 : (k : Int) < (D.ends.length : Int) := by omega
      have hm0 : (m : Int) < 12 := by omega
      clear hpow
      clear hacc hnx
      have hs : behT D set m (k + 1) = if set.testBit k then behT D set m k ||| nextN D k m else behT D set m k := rfl
      by_cases hb : set.testBit k = true
      · rw [if_pos hb] at hs
        have Hs := Lib.hid hs
        clear hs
        have hbit := test_t (s := set) (k := k) (by omega) hb
        clear hb
        have hor := bits_or (behT D set m k) (nextN D k m) (by omega) (by omega)
        go_wp2
        go_round
        case rel => exact ⟨k + 1, by omega, by go_num, by rw [Hs.out]⟩
        case measure => simp [intOf]; omega
      · rw [if_neg hb] at hs
        have hb : set.testBit k = false := by simpa using hb
        have Hs := Lib.hid hs
        clear hs
        have hbit := test_f (s := set) (k := k) (by omega) hb
        clear hb
        go_wp2
        go_round
        case rel => exact ⟨k + 1, by omega, by go_num, by rw [Hs.out]⟩
        case measure => simp [intOf]; omega
    · obtain rfl : k = D.ends.length := by omega
      go_wp2_with fail
      go_ret
      exact ⟨rfl, HL.out.1⟩

end Go.Proofs.YtehdfifncbokeaaGreat

namespace Go.Proofs.YtehdfifncbokeaaGreat
set_option linter.unusedSimpArgs false
set_option linter.unusedVariables false
set_option maxRecDepth 8000
set_option maxHeartbeats 2000000
open Go.RowKit

end Go.Proofs.YtehdfifncbokeaaGreat

namespace Go.Proofs.YtehdfifncbokeaaGreat
set_option linter.unusedSimpArgs false
set_option linter.unusedVariables false
set_option maxRecDepth 8000
set_option maxHeartbeats 2000000
open Go.RowKit

end Go.Proofs.YtehdfifncbokeaaGreat

namespace Go.Proofs.YtehdfifncbokeaaGreat
set_option linter.unusedSimpArgs false
set_option linter.unusedVariables false
set_option maxRecDepth 8000
set_option maxHeartbeats 2000000
open Go.RowKit

set_option maxHeartbeats 400000 in
theorem implTraceValid (v : Value) (t : List Int) (w : World) (h : IS w.heap.size w v t) :
    Calls Tryz.prog 32 #[v] w fun e w' => e = .returned (.bool (traceOKB t)) ∧ w = w' := by
  obtain ⟨A, c, rfl, hl, hm, hA⟩ := h
  unfold maxLen at hm
  have HA := Lib.hid hA
  clear hA
  by_cases hodd : t.length % 2 = 1
  case neg =>
    have hp : ((t.length : Int) % 2 != 1) = true := by rw [bne_iff_ne]; omega
    clear HA
    go_enter Tryz.func32, Tryz.ntmps32
    go_wp2
    go_ret
    exact ⟨ret_bool (traceOKB_false.2 fun h => hodd h.odd).symm, rfl⟩
  have hp : ((t.length : Int) % 2 != 1) = false := by rw [bne_eq_false_iff_eq]; omega
  have HO := Lib.hid hodd
  clear hodd
  by_cases h41 : t.length ≤ 41
  case neg =>
    clear HA
    go_enter Tryz.func32, Tryz.ntmps32
    go_wp2
    go_ret
    exact ⟨ret_bool (traceOKB_false.2 fun h => h41 h.len).symm, rfl⟩
  go_enter Tryz.func32, Tryz.ntmps32
  go_wp2
  go_loop [16] (fun i => ∃ k : Nat, k ≤ t.length ∧ i = .int .i64 k ∧ trTo t k) (fun i => t.length - (intOf i).toNat)
  case atStart => exact ⟨0, by omega, rfl, trTo_zero t⟩
  case round =>
    obtain ⟨k, hk, rfl, hr⟩ := hrel
    have HR := Lib.hid hr
    clear hr
    by_cases hlt : k < t.length
    · obtain ⟨b, o, rfl, hb, hc⟩ := HA.out (by omega)
      have hkc := hc k hlt
      have hki : (k : Int) < (t.length : Int) := by omega
      clear hc HA
      by_cases hpar : k % 2 = 0
      · have q0 : ((k : Int) % 2 == 0) = true := by rw [beq_iff_eq]; omega
        have q1 : ((k : Int) % 2 == 1) = false := by rw [beq_eq_false_iff_ne]; omega
        have HP := Lib.hid hpar
        clear hpar
        by_cases hv : 0 ≤ nth t k ∧ nth t k ≤ 3
        · have hB : inB (nth t k) 0 3 = true := inB_t hv
          have HV := Lib.hid hv
          clear hv
          go_wp2_with ((go_at_call 62; refine (isAtom_any _ _).mono ?_; rintro e w' ⟨rfl, rfl⟩))
          go_round
          case rel => exact ⟨k + 1, by omega, by go_num, trTo_succ HR.out ⟨fun _ => HV.out, fun e => absurd HP.out (by omega)⟩⟩
          case measure => simp [intOf]; omega
        · have hB : inB (nth t k) 0 3 = false := inB_f hv
          have HV := Lib.hid hv
          clear hv
          go_wp2_with ((go_at_call 62; refine (isAtom_any _ _).mono ?_; rintro e w' ⟨rfl, rfl⟩))
          go_ret
          exact ⟨ret_bool (traceOKB_false.2 fun h => HV.out ((h.to k hlt).1 HP.out)).symm, rfl⟩
      · have q0 : ((k : Int) % 2 == 0) = false := by rw [beq_eq_false_iff_ne]; omega
        have q1 : ((k : Int) % 2 == 1) = true := by rw [beq_iff_eq]; omega
        have HP := Lib.hid (show k % 2 = 1 by omega)
        clear hpar
        by_cases hv : 16 ≤ nth t k ∧ nth t k ≤ 18
        · have hB : inB (nth t k) 16 18 = true := inB_t hv
          have HV := Lib.hid hv
          clear hv
          go_wp2_with ((go_at_call 44; refine (isAct_any _ _).mono ?_; rintro e w' ⟨rfl, rfl⟩))
          go_round
          case rel => exact ⟨k + 1, by omega, by go_num, trTo_succ HR.out ⟨fun e => absurd HP.out (by omega), fun _ => HV.out⟩⟩
          case measure => simp [intOf]; omega
        · have hB : inB (nth t k) 16 18 = false := inB_f hv
          have HV := Lib.hid hv
          clear hv
          go_wp2_with ((go_at_call 44; refine (isAct_any _ _).mono ?_; rintro e w' ⟨rfl, rfl⟩))
          go_ret
          exact ⟨ret_bool (traceOKB_false.2 fun h => HV.out ((h.to k hlt).2 HP.out)).symm, rfl⟩
    · obtain rfl : k = t.length := by omega
      go_wp2
      go_ret
      exact ⟨ret_bool (traceOKB_true.2 (TraceOK.of HO.out h41 HR.out)).symm, rfl⟩

end Go.Proofs.YtehdfifncbokeaaGreat

namespace Go.Proofs.YtehdfifncbokeaaGreat
set_option linter.unusedSimpArgs false
set_option linter.unusedVariables false
set_option maxRecDepth 8000
set_option maxHeartbeats 2000000
open Go.RowKit

set_option maxHeartbeats 1000000 in
theorem implAutoRun (v0 v1 vt : Value) (D : AutoD) (t : List Int) (w : World) (h0 : IS w.heap.size w v0 D.ends) (h1 : ISS w.heap.size w v1 D.next) (ht : IS w.heap.size w vt t) :
    Calls Tryz.prog 11 #[.agg #[v0, v1], vt] w fun e w' => e = .returned (.bool (runB D t)) ∧ Below w.heap.size w w' := by
  by_cases hok : AutoOK D
  case neg =>
    have hB := autoOKB_false.2 hok
    obtain ⟨W, hW, hbW, hsW, x0, x1, -⟩ := box2 w v0 v1 27
    go_enter Tryz.func11, Tryz.ntmps11
    go_wp2_with fail
    clear hW
    refine (implAutoValid _ _ D _ ((h0.below hbW).mono (by omega)) ((h1.below hbW).mono (by omega))).mono ?_
    rintro e w1 ⟨rfl, hb1⟩
    go_wp2
    go_ret
    exact ⟨ret_bool (if_neg (fun h => hok h.1)).symm, hbW.trans (hb1.mono (by omega))⟩
  have hB := autoOKB_true.2 hok
  by_cases htr : TraceOK t
  case neg =>
    have hT := traceOKB_false.2 htr
    obtain ⟨W, hW, hbW, hsW, x0, x1, -⟩ := box2 w v0 v1 27
    go_enter Tryz.func11, Tryz.ntmps11
    go_wp2_with fail
    clear hW
    refine (implAutoValid _ _ D _ ((h0.below hbW).mono (by omega)) ((h1.below hbW).mono (by omega))).mono ?_
    rintro e w1 ⟨rfl, hb1⟩
    have hz1 := hb1.size
    have hbw1 : Below w.heap.size w w1 := hbW.trans (hb1.mono (by omega))
    go_wp2_with (go_at_call 32; refine (implTraceValid _ t _ ((ht.below hbw1).mono (by omega))).mono ?_; rintro e w' ⟨rfl, rfl⟩)
    go_ret
    exact ⟨ret_bool (if_neg (fun h => htr h.2)).symm, hbw1⟩
  have hT := traceOKB_true.2 htr
  have hR : runB D t = runF D t := if_pos ⟨hok, htr⟩
  have HRB := Lib.hid hR
  clear hR
  have hodd := htr.odd
  have hlen := htr.len
  obtain ⟨A, c, rfl, hl, hm, hA⟩ := id ht
  unfold maxLen at hm
  obtain ⟨bt, ot, rfl, hbt, hct⟩ := hA (by omega)
  have HT := Lib.hid hct
  have HODD := Lib.hid hodd
  clear hct hA hodd
  obtain ⟨W, hW, hbW, hsW, x0, x1, -⟩ := box2 w v0 v1 27
  go_enter Tryz.func11, Tryz.ntmps11
  go_wp2_with fail
  clear hW
  refine (implAutoValid _ _ D _ ((h0.below hbW).mono (by omega)) ((h1.below hbW).mono (by omega))).mono ?_
  rintro e w1 ⟨rfl, hb1⟩
  have hz1 := hb1.size
  have hbw1 : Below w.heap.size w w1 := hbW.trans (hb1.mono (by omega))
  replace x0 := below_at hb1 (by omega) x0
  replace x1 := below_at hb1 (by omega) x1
  go_wp2_with (go_at_call 32; refine (implTraceValid _ t _ ((ht.below hbw1).mono (by omega))).mono ?_; rintro e w' ⟨rfl, rfl⟩)
  clear hB hT
  have HX := Lib.hid (And.intro hbw1 (And.intro x0 x1))
  clear hbw1 x0 x1 hb1 hbW
  go_loopw [5, 6] (fun x i wr => ∃ j a : Nat, Hid (a = 2 * j) ∧ a < t.length ∧ i = .int .i64 a ∧ x = .int .i64 ((runT D t j : Nat) : Int) ∧ Below (w.heap.size + 1) w1 wr) (fun _ i _ => t.length - (intOf i).toNat)
  case atStart => exact ⟨0, 0, rfl, by have := HODD.out; omega, rfl, rfl, Below.refl _ _⟩
  case round =>
    obtain ⟨j, a, Ha, hal, rfl, rfl, hb⟩ := hrel
    have hzr := hb.size
    have hrl := runT_lt hok htr j (by have := Ha.out; omega)
    have hr20 : runT D t j < 1048576 := by have := hok.pow_le; omega
    clear hrl
    have x0 := below_at hb (by omega) HX.out.2.1
    have x1 := below_at hb (by omega) HX.out.2.2
    have hbw : Below w.heap.size w wr := HX.out.1.trans (hb.mono (by omega))
    have HB := Lib.hid (And.intro hbw hb)
    have hszr : w.heap.size < wr.heap.size := by omega
    by_cases hlt : a + 1 < t.length
    · have hai : (a : Int) + 1 < (t.length : Int) := by omega
      have s1 : IntKind.i64.wrap ((a : Int) + 1) = (a : Int) + 1 := IntWalk.i64_in _ (by omega)
      have s2 : (0 : Int) ≤ (a : Int) + 1 := by omega
      have s3 : ((a : Int) + 1).toNat = a + 1 := by omega
      have hmv := htr.mv (j := j) (by have := Ha.out; omega)
      have hb1 := htr.atoms j (by have := Ha.out; omega)
      have hb2 := htr.acts j (by have := Ha.out; omega)
      rw [← Ha.out] at hmv hb1 hb2
      obtain ⟨hmv, hm12⟩ := hmv
      obtain ⟨hp1, hp2⟩ := hb1
      obtain ⟨hq1, hq2⟩ := hb2
      have HM := Lib.hid hmv
      have hmw : IntKind.i64.wrap (IntKind.i64.wrap (IntKind.i64.wrap (3 * nth t a) + nth t (a + 1)) - 16) = (mvN t j : Int) := by
        rw [IntWalk.i64_in (3 * nth t a) (by omega), IntWalk.i64_in (3 * nth t a + nth t (a + 1)) (by omega), IntWalk.i64_in _ (by omega), hmv]
      have HMW := Lib.hid hmw
      clear hmw hmv
      have hc1 := below_at hbw hbt (HT.out a hal)
      have hc2 := below_at hbw hbt (HT.out (a + 1) hlt)
      clear hbw hb
      go_wp2_with fail
      go_region_held3 (fun w' => w'.cell? ⟨w.heap.size, 0, none⟩ = some v0 ∧ w'.cell? ⟨w.heap.size, 1, none⟩ = some v1 ∧ w'.cell? ⟨bt, ot + a, none⟩ = some (.int .i64 (nth t a)) ∧ w'.cell? ⟨bt, ot + (a + 1), none⟩ = some (.int .i64 (nth t (a + 1)))) (go_keep)
        (first
          | (go_at_call 21
             refine (move_any _ _ hp1 hp2 hq1 hq2 _).mono ?_
             rw [HM.out]
             rintro e w' ⟨rfl, rfl⟩)
          | (go_at_call 33
             refine (behindSet_any _ _ D (runT D t j) (mvN t j) _ hok ((h0.below HB.out.1.drew).mono (by show _ ≤ wr.heap.size; omega)) ((h1.below HB.out.1.drew).mono (by show _ ≤ wr.heap.size; omega)) hr20 hm12).mono ?_
             rintro e w3 ⟨rfl, hb3⟩
             have hb3' : Below wr.heap.size wr w3 := (Below.refl _ _).drew.trans hb3
             replace x0 := below_at hb3' (by omega) x0
             replace x1 := below_at hb3' (by omega) x1
             replace hc1 := below_at hb3' (by omega) hc1
             replace hc2 := below_at hb3' (by omega) hc2
             have H3 := Lib.hid (HB.out.2.trans (hb3'.mono (by omega)))
             clear hb3 hb3'))
      go_wp2
      go_roundw
      case rel => exact ⟨j + 1, a + 2, by have := Ha.out; show a + 2 = 2 * (j + 1); omega, by have := Ha.out; have := HODD.out; omega, by go_num, rfl, H3.out⟩
      case measure => simp [intOf]; omega
    · have hai : ¬ (a : Int) + 1 < (t.length : Int) := by omega
      have hj : j = t.length / 2 := by have := Ha.out; have := HODD.out; omega
      have hla := htr.atoms j (by have := Ha.out; omega)
      have h2j : 2 * j = t.length - 1 := by have := Ha.out; have := HODD.out; omega
      rw [h2j] at hla
      obtain ⟨z, hz⟩ : ∃ z : Nat, t.length - 1 = z := ⟨_, rfl⟩
      have hc1 := below_at hbw hbt (HT.out z (by omega))
      rw [hz] at hla
      obtain ⟨q, hq⟩ : ∃ q : Nat, nth t z = q := ⟨(nth t z).toNat, by omega⟩
      have hq4 : q ≤ 3 := by omega
      rw [hq] at hc1
      have hF : runF D t = (endF D (runT D t j)).testBit q := by unfold runF; rw [hz, hq, Int.toNat_natCast, hj]
      have HF := Lib.hid hF
      have hel := hok.endF_lt (runT D t j)
      have s1 : IntKind.i64.wrap ((t.length : Int) - 1) = (z : Int) := by rw [IntWalk.i64_in _ (by omega)]; omega
      have hlen2 : (z : Int) < (t.length : Int) := by omega
      clear hF hq hla hj h2j hbw hb hz
      go_wp2_with fail
      go_region_held3 (fun w' => w'.cell? ⟨w.heap.size, 0, none⟩ = some v0 ∧ w'.cell? ⟨w.heap.size, 1, none⟩ = some v1 ∧ w'.cell? ⟨bt, ot + z, none⟩ = some (.int .i64 q)) (go_keep)
        (first
          | (go_at_call 35
             refine (endsOf_any _ _ D (runT D t j) _ hok ((h0.below HB.out.1.drew).mono (by show _ ≤ wr.heap.size; omega)) ((h1.below HB.out.1.drew).mono (by show _ ≤ wr.heap.size; omega)) hr20).mono ?_
             rintro e w3 ⟨rfl, hb3⟩
             have hb3' : Below wr.heap.size wr w3 := (Below.refl _ _).drew.trans hb3
             replace x0 := below_at hb3' (by omega) x0
             replace x1 := below_at hb3' (by omega) x1
             replace hc1 := below_at hb3' (by omega) hc1
             have H3 := Lib.hid (HB.out.1.trans (hb3'.mono (by omega)))
             clear hb3 hb3')
          | (go_at_call 34
             refine (holds_any (endF D (runT D t j)) q (by omega) (by omega) _).mono ?_
             rintro e w' ⟨rfl, rfl⟩))
      go_wp2
      go_ret
      exact ⟨ret_bool (by rw [HRB.out, HF.out]), H3.out⟩

end Go.Proofs.YtehdfifncbokeaaGreat
