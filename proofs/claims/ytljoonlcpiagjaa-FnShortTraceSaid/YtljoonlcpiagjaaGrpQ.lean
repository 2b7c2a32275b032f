/- What AutoValid returns, of the program and of the reference: one contract each, at every argument that reads as an automaton. -/
import Derived.Test.YtljoonlcpiagjaaChecked
import Derived.Test.YtljoonlcpiagjaaGrpA
import Derived.WalkSmall
import Derived.Test.YtljoonlcpiagjaaGrpC
import Derived.Deep.RegionHeld3
namespace Go.Proofs.Ytljoonlcpiagjaa
set_option linter.unusedSimpArgs false
set_option linter.unusedVariables false
set_option maxRecDepth 8000
set_option maxHeartbeats 2000000
open Go.RowKit

def inB (n lo hi : Int) : Bool := decide (lo ≤ n ∧ n ≤ hi)
theorem inB_t {n lo hi : Int} (h : lo ≤ n ∧ n ≤ hi) : inB n lo hi = true := by simp [inB, h]
theorem inB_f {n lo hi : Int} (h : ¬ (lo ≤ n ∧ n ≤ hi)) : inB n lo hi = false := by simp only [inB, h, decide_false]
theorem l1In_any (n lo hi : Int) (w : World) :
    Calls Try.prog 76 #[.int .i64 n, .int .i64 lo, .int .i64 hi] w fun e w' => e = .returned (.bool (inB n lo hi)) ∧ w = w' := by
  by_cases h1 : lo ≤ n <;> by_cases h2 : n ≤ hi <;>
  (go_enter Try.func76, Try.ntmps76
   go_wp2
   go_ret
   exact ⟨ret_bool (by simp [inB, *]), rfl⟩)

theorem specTestValid_any (n : Int) (w : World) :
    Calls Try.prog 77 #[.int .i64 n] w fun e w' => e = .returned (.bool (inB n 0 15)) ∧ w = w' := by
  go_enter Try.func77, Try.ntmps77
  go_wp2_with (go_at_call 76; refine (l1In_any _ _ _ _).mono ?_; rintro e w' ⟨rfl, rfl⟩)
  go_ret
  exact ⟨rfl, rfl⟩

theorem implTestValid_any (n : Int) (w : World) :
    Calls Try.prog 86 #[.int .i64 n] w fun e w' => e = .returned (.bool (inB n 0 15)) ∧ w = w' := by
  by_cases h1 : 0 ≤ n <;> by_cases h2 : n ≤ 15 <;>
  (go_enter Try.func86, Try.ntmps86
   go_wp2
   go_ret
   exact ⟨ret_bool (by simp [inB, *]), rfl⟩)

def okTo (D : AutoD) (k : Nat) : Prop := ∀ i, i < k → (0 ≤ nth D.ends i ∧ nth D.ends i ≤ 15) ∧ (nthL D.next i).length = 12 ∧ ∀ j, j < 12 → 0 ≤ nth (nthL D.next i) j ∧ nth (nthL D.next i) j ≤ 2 ^ D.ends.length - 1
def setsTo (D : AutoD) (k m : Nat) : Prop := ∀ j, j < m → 0 ≤ nth (nthL D.next k) j ∧ nth (nthL D.next k) j ≤ 2 ^ D.ends.length - 1
theorem okTo_zero (D : AutoD) : okTo D 0 := fun _ h => absurd h (by omega)
theorem setsTo_zero (D : AutoD) (k : Nat) : setsTo D k 0 := fun _ h => absurd h (by omega)
theorem setsTo_succ {D : AutoD} {k m : Nat} (h : setsTo D k m) (h1 : 0 ≤ nth (nthL D.next k) m ∧ nth (nthL D.next k) m ≤ 2 ^ D.ends.length - 1) : setsTo D k (m + 1) := fun j hj => by
  by_cases e : j = m
  · subst e; exact h1
  · exact h j (by omega)
theorem okTo_succ {D : AutoD} {k : Nat} (h : okTo D k) (h1 : 0 ≤ nth D.ends k ∧ nth D.ends k ≤ 15) (h2 : (nthL D.next k).length = 12) (h3 : setsTo D k 12) : okTo D (k + 1) := fun j hj => by
  by_cases e : j = k
  · subst e; exact ⟨h1, h2, h3⟩
  · exact h j (by omega)
theorem okTo_all {D : AutoD} (hlo : 1 ≤ D.ends.length) (hhi : D.ends.length ≤ 10) (hn : D.next.length = D.ends.length) (h : okTo D D.ends.length) : autoOKB D = true :=
  autoOKB_true.2 ⟨hlo, hhi, hn, fun k hk => (h k hk).1, fun k hk => (h k hk).2.1, fun k hk => (h k hk).2.2⟩

set_option maxHeartbeats 400000 in
theorem specAutoValid (v0 v1 : Value) (D : AutoD) (w : World) (h0 : IS w.heap.size w v0 D.ends) (h1 : ISS w.heap.size w v1 D.next) :
    Calls Try.prog 19 #[.agg #[v0, v1]] w fun e w' => e = .returned (.bool (autoOKB D)) ∧ Below w.heap.size w w' := by
  obtain ⟨A0, c0, rfl, hl0, hm0, hA0⟩ := h0
  obtain ⟨A1, c1, rfl, hl1, hm1, hA1⟩ := h1
  unfold maxLen at hm0 hm1
  by_cases hlo : 1 ≤ D.ends.length ∧ D.ends.length ≤ 10
  case neg =>
    have hB : inB (D.ends.length : Int) 1 10 = false := inB_f (by omega)
    go_enter Try.func19, Try.ntmps19
    go_wp2_with (go_at_call 76; refine (l1In_any _ _ _ _).mono ?_; rintro e w' ⟨rfl, rfl⟩)
    go_ret
    exact ⟨ret_bool (autoOKB_false.2 fun h => hlo ⟨h.lo, h.hi⟩).symm, (Below.refl _ _).alloc (Nat.le_refl _) _⟩
  obtain ⟨hlo, hhi⟩ := hlo
  have hB : inB (D.ends.length : Int) 1 10 = true := inB_t (by omega)
  by_cases hn : D.next.length = D.ends.length
  case neg =>
    have hne : ((D.next.length : Int) != (D.ends.length : Int)) = true := by rw [bne_iff_ne]; omega
    go_enter Try.func19, Try.ntmps19
    go_wp2_with (go_at_call 76; refine (l1In_any _ _ _ _).mono ?_; rintro e w' ⟨rfl, rfl⟩)
    go_ret
    exact ⟨ret_bool (autoOKB_false.2 fun h => hn h.len).symm, (Below.refl _ _).alloc (Nat.le_refl _) _⟩
  have hne : ((D.next.length : Int) != (D.ends.length : Int)) = false := by rw [bne_eq_false_iff_eq]; omega
  obtain ⟨b0, o0, rfl, hb0, hc0⟩ := hA0 (by omega)
  obtain ⟨b1, o1, rfl, hb1, hc1⟩ := hA1 (by omega)
  have HC0 := Lib.hid hc0
  have HC1 := Lib.hid hc1
  have HN := Lib.hid hn
  clear hc0 hc1 hA0 hA1 hn
  go_enter Try.func19, Try.ntmps19
  go_wp2_with (go_at_call 76; refine (l1In_any _ _ _ _).mono ?_; rintro e w' ⟨rfl, rfl⟩)
  clear hB hne
  obtain ⟨W, hW, hbW, hsW, x0, x1, -⟩ := box2 w (.slice (some ⟨b0, o0, none⟩) D.ends.length c0) (.slice (some ⟨b1, o1, none⟩) D.next.length c1) 26
  rw [hW]
  have hszW : w.heap.size + 1 ≤ W.heap.size := by omega
  clear hW hsW
  have HX := Lib.hid (And.intro hbW (And.intro x0 x1))
  clear hbW x0 x1
  go_loopw [4] (fun i wr => ∃ k : Nat, k ≤ D.ends.length ∧ i = .int .i64 k ∧ Below (w.heap.size + 1) W wr ∧ okTo D k)
    (fun i _ => D.ends.length - (intOf i).toNat)
  case atStart => exact ⟨0, Nat.zero_le _, rfl, Below.refl _ _, okTo_zero D⟩
  case round =>
    obtain ⟨k, hk, rfl, hb, hok⟩ := hrel
    have hbw : Below w.heap.size w wr := HX.out.1.trans (hb.mono (by omega))
    by_cases hlt : k < D.ends.length
    · have hkc := below_at hbw hb0 (HC0.out k hlt)
      obtain ⟨u, hkr, hi⟩ := HC1.out k (by have := HN.out; omega)
      replace hkr := below_at hbw hb1 hkr
      replace hi := hi.below hbw
      have x0 := below_at hb (by omega) HX.out.2.1
      have x1 := below_at hb (by omega) HX.out.2.2
      obtain ⟨Ar, cr, rfl, hlr, hmr, hAr⟩ := hi
      have hk1 : (k : Int) < (D.next.length : Int) := by have := HN.out; omega
      by_cases hv : 0 ≤ nth D.ends k ∧ nth D.ends k ≤ 15
      case neg =>
        have hB : inB (nth D.ends k) 0 15 = false := inB_f hv
        go_wp2_with (go_at_call 77; refine (specTestValid_any _ _).mono ?_; rintro e w' ⟨rfl, rfl⟩)
        go_ret
        exact ⟨ret_bool (autoOKB_false.2 fun h => hv (h.ends k hlt)).symm, hbw⟩
      have hB : inB (nth D.ends k) 0 15 = true := inB_t hv
      by_cases hr : (nthL D.next k).length = 12
      case neg =>
        have hne : (((nthL D.next k).length : Int) != 12) = true := by rw [bne_iff_ne]; omega
        go_wp2_with (go_at_call 77; refine (specTestValid_any _ _).mono ?_; rintro e w' ⟨rfl, rfl⟩)
        go_ret
        exact ⟨ret_bool (autoOKB_false.2 fun h => hr (h.rows k hlt)).symm, hbw⟩
      have hne : (((nthL D.next k).length : Int) != 12) = false := by rw [bne_eq_false_iff_eq]; omega
      obtain ⟨br, or, rfl, hbr, hcr⟩ := hAr (by omega)
      have HCR := Lib.hid hcr
      have HR := Lib.hid hr
      clear hcr hAr hr
      have hrr : 12 ≤ (nthL D.next k).length := by have := HR.out; omega
      go_wp2_with (go_at_call 77; refine (specTestValid_any _ _).mono ?_; rintro e w' ⟨rfl, rfl⟩)
      have HK := Lib.hid (And.intro hkc (And.intro hkr (And.intro x0 x1)))
      clear hne hB hkc hkr x0 x1
      obtain ⟨wo, rfl⟩ : ∃ wo : World, wo = wr := ⟨_, rfl⟩
      go_loopw [5] (fun i wr => ∃ j : Nat, j ≤ 12 ∧ i = .int .i64 j ∧ Below (w.heap.size + 1) wo wr ∧ setsTo D k j)
        (fun i _ => 12 - (intOf i).toNat)
      case atStart => exact ⟨0, by omega, rfl, Below.refl _ _, setsTo_zero D k⟩
      case round =>
        obtain ⟨j, hj, rfl, hb2, hs⟩ := hrel
        have hbw2 : Below w.heap.size wo wr := hb2.mono (by omega)
        by_cases hlt2 : j < 12
        · have hrc := below_at hbw2 hbr (HCR.out j (by omega))
          have hkr := below_at hbw2 hb1 HK.out.2.1
          have x1 := below_at hb2 (by omega) HK.out.2.2.2
          have hjr : (j : Int) < ((nthL D.next k).length : Int) := by omega
          have hp := shl_one D.ends.length hhi
          have hw1 : IntKind.i64.wrap (2 ^ D.ends.length) = 2 ^ D.ends.length := IntWalk.i64_in _ (by omega)
          have hw2 : IntKind.i64.wrap (2 ^ D.ends.length - 1) = 2 ^ D.ends.length - 1 := IntWalk.i64_in _ (by omega)
          by_cases hv2 : 0 ≤ nth (nthL D.next k) j ∧ nth (nthL D.next k) j ≤ 2 ^ D.ends.length - 1
          · have hB : inB (nth (nthL D.next k) j) 0 (2 ^ D.ends.length - 1) = true := inB_t hv2
            go_wp2_with fail
            go_quiet ((go_at_call 76; exact qsame (l1In_any _ _ _ _)))
            go_wp2
            go_roundw
            case rel => exact ⟨j + 1, by omega, by go_num, below_drewN hb2 _, setsTo_succ hs hv2⟩
            case measure => simp [intOf]; omega
          · have hB : inB (nth (nthL D.next k) j) 0 (2 ^ D.ends.length - 1) = false := inB_f hv2
            go_wp2_with fail
            go_quiet ((go_at_call 76; exact qsame (l1In_any _ _ _ _)))
            go_wp2
            go_ret
            exact ⟨ret_bool (autoOKB_false.2 fun h => hv2 (h.sets k hlt j hlt2)).symm, below_drewN (hbw.trans hbw2) _⟩
        · obtain rfl : j = 12 := by omega
          go_wp2_with fail
          go_roundw
          case rel => exact ⟨k + 1, by omega, by go_num, hb.trans hb2, okTo_succ hok hv HR.out hs⟩
          case measure => simp [intOf]; omega
    · obtain rfl : k = D.ends.length := by omega
      go_wp2_with fail
      go_ret
      exact ⟨ret_bool (okTo_all hlo hhi HN.out hok).symm, hbw⟩
set_option maxHeartbeats 400000 in
theorem implAutoValid (v0 v1 : Value) (D : AutoD) (w : World) (h0 : IS w.heap.size w v0 D.ends) (h1 : ISS w.heap.size w v1 D.next) :
    Calls Try.prog 29 #[.agg #[v0, v1]] w fun e w' => e = .returned (.bool (autoOKB D)) ∧ Below w.heap.size w w' := by
  obtain ⟨A0, c0, rfl, hl0, hm0, hA0⟩ := h0
  obtain ⟨A1, c1, rfl, hl1, hm1, hA1⟩ := h1
  unfold maxLen at hm0 hm1
  by_cases hlo : 1 ≤ D.ends.length ∧ D.ends.length ≤ 10
  case neg =>
    by_cases hlo1 : 1 ≤ D.ends.length
    all_goals
      go_enter Try.func29, Try.ntmps29
      go_wp2
      go_ret
      exact ⟨ret_bool (autoOKB_false.2 fun h => hlo ⟨h.lo, h.hi⟩).symm, (Below.refl _ _).alloc (Nat.le_refl _) _⟩
  obtain ⟨hlo, hhi⟩ := hlo
  by_cases hn : D.next.length = D.ends.length
  case neg =>
    have hne : ((D.next.length : Int) != (D.ends.length : Int)) = true := by rw [bne_iff_ne]; omega
    go_enter Try.func29, Try.ntmps29
    go_wp2
    go_ret
    exact ⟨ret_bool (autoOKB_false.2 fun h => hn h.len).symm, (Below.refl _ _).alloc (Nat.le_refl _) _⟩
  have hne : ((D.next.length : Int) != (D.ends.length : Int)) = false := by rw [bne_eq_false_iff_eq]; omega
  obtain ⟨b0, o0, rfl, hb0, hc0⟩ := hA0 (by omega)
  obtain ⟨b1, o1, rfl, hb1, hc1⟩ := hA1 (by omega)
  have HC0 := Lib.hid hc0
  have HC1 := Lib.hid hc1
  have HN := Lib.hid hn
  clear hc0 hc1 hA0 hA1 hn
  go_enter Try.func29, Try.ntmps29
  go_wp2
  clear hne
  obtain ⟨W, hW, hbW, hsW, x0, x1, -⟩ := box2 w (.slice (some ⟨b0, o0, none⟩) D.ends.length c0) (.slice (some ⟨b1, o1, none⟩) D.next.length c1) 26
  rw [hW]
  have hszW : w.heap.size + 1 ≤ W.heap.size := by omega
  clear hW hsW
  have HX := Lib.hid (And.intro hbW (And.intro x0 x1))
  have hkcs : ∀ k, k < D.ends.length → W.cell? ⟨b0, o0 + k, none⟩ = some (.int .i64 (nth D.ends k)) := fun k hk => below_at hbW hb0 (HC0.out k hk)
  have HK0 := Lib.hid hkcs
  clear hbW x0 x1 hkcs
  go_loop [24] (fun i => ∃ k : Nat, k ≤ D.ends.length ∧ i = .int .i64 k ∧ okTo D k)
    (fun i => D.ends.length - (intOf i).toNat)
  case atStart => exact ⟨0, Nat.zero_le _, rfl, okTo_zero D⟩
  case round =>
    obtain ⟨k, hk, rfl, hok⟩ := hrel
    have Hok := Lib.hid hok
    clear hok
    by_cases hlt : k < D.ends.length
    · have hkc := HK0.out k hlt
      obtain ⟨u, hkr, hi⟩ := HC1.out k (by have := HN.out; omega)
      replace hkr := below_at HX.out.1 hb1 hkr
      replace hi := hi.below HX.out.1
      obtain ⟨-, x0, x1⟩ := HX.out
      obtain ⟨Ar, cr, rfl, hlr, hmr, hAr⟩ := hi
      unfold maxLen at hmr
      have HAr := Lib.hid hAr
      clear hAr
      have hk1 : (k : Int) < (D.next.length : Int) := by have := HN.out; omega
      have hk2 : (k : Int) < (D.ends.length : Int) := by omega
      by_cases hv : 0 ≤ nth D.ends k ∧ nth D.ends k ≤ 15
      case neg =>
        have hB : inB (nth D.ends k) 0 15 = false := inB_f hv
        go_wp2_with ((go_at_call 86; refine (implTestValid_any _ _).mono ?_; rintro e w' ⟨rfl, rfl⟩))
        go_ret
        exact ⟨ret_bool (autoOKB_false.2 fun h => hv (h.ends k hlt)).symm, HX.out.1⟩
      have hB : inB (nth D.ends k) 0 15 = true := inB_t hv
      by_cases hr : (nthL D.next k).length = 12
      case neg =>
        have hne : (((nthL D.next k).length : Int) != 12) = true := by rw [bne_iff_ne]; omega
        go_wp2_with ((go_at_call 86; refine (implTestValid_any _ _).mono ?_; rintro e w' ⟨rfl, rfl⟩))
        go_ret
        exact ⟨ret_bool (autoOKB_false.2 fun h => hr (h.rows k hlt)).symm, HX.out.1⟩
      have hne : (((nthL D.next k).length : Int) != 12) = false := by rw [bne_eq_false_iff_eq]; omega
      obtain ⟨br, or, rfl, hbr, hcr⟩ := HAr.out (by omega)
      have HCR := Lib.hid hcr
      have HR := Lib.hid hr
      clear hcr hr
      have hrr : 12 ≤ (nthL D.next k).length := by have := HR.out; omega
      go_wp2_with ((go_at_call 86; refine (implTestValid_any _ _).mono ?_; rintro e w' ⟨rfl, rfl⟩))
      have HKK := Lib.hid (And.intro hkc (And.intro hkr (And.intro x0 x1)))
      clear hne hB hkc hkr x0 x1
      go_loop [49] (fun i => ∃ j : Nat, j ≤ (nthL D.next k).length ∧ i = .int .i64 j ∧ setsTo D k j)
        (fun i => (nthL D.next k).length - (intOf i).toNat)
      case atStart => exact ⟨0, by omega, rfl, setsTo_zero D k⟩
      case round =>
        obtain ⟨j, hj, rfl, hs⟩ := hrel
        have Hs := Lib.hid hs
        clear hs
        by_cases hlt2 : j < (nthL D.next k).length
        · have hrc := HCR.out j (by omega)
          have hjr : (j : Int) < ((nthL D.next k).length : Int) := by omega
          have hp := shl_one D.ends.length hhi
          have hw1 : IntKind.i64.wrap (2 ^ D.ends.length) = 2 ^ D.ends.length := IntWalk.i64_in _ (by omega)
          by_cases hv2 : 0 ≤ nth (nthL D.next k) j
          · by_cases hv3 : nth (nthL D.next k) j < 2 ^ D.ends.length
            · go_wp2
              go_round
              case rel => exact ⟨j + 1, by omega, by go_num, setsTo_succ Hs.out ⟨hv2, by omega⟩⟩
              case measure => simp [intOf]; omega
            · go_wp2
              go_ret
              exact ⟨ret_bool (autoOKB_false.2 fun h => by have := h.sets k hlt j (by have := HR.out; omega); omega).symm, HX.out.1⟩
          · go_wp2
            go_ret
            exact ⟨ret_bool (autoOKB_false.2 fun h => by have := h.sets k hlt j (by have := HR.out; omega); omega).symm, HX.out.1⟩
        · obtain rfl : j = (nthL D.next k).length := by omega
          go_wp2_with fail
          go_round
          case rel => exact ⟨k + 1, by omega, by go_num, okTo_succ Hok.out hv HR.out (by have := Hs.out; rw [HR.out] at this; exact this)⟩
          case measure => simp [intOf]; omega
    · obtain rfl : k = D.ends.length := by omega
      go_wp2_with fail
      go_ret
      exact ⟨ret_bool (okTo_all hlo hhi HN.out Hok.out).symm, HX.out.1⟩

end Go.Proofs.Ytljoonlcpiagjaa

namespace Go.Proofs.Ytljoonlcpiagjaa
set_option linter.unusedSimpArgs false
set_option linter.unusedVariables false
set_option maxRecDepth 8000
set_option maxHeartbeats 2000000
open Go.RowKit

theorem l1Bit_any (s k : Nat) (hk : k < 64) (w : World) :
    Calls Try.prog 74 #[.int .i64 s, .int .i64 k] w fun e w' => e = .returned (.int .i64 (bitN s k)) ∧ w = w' := by
  go_enter Try.func74, Try.ntmps74
  go_wp2
  go_ret
  refine ⟨ret_int ?_, rfl⟩
  rw [← bitN_eq, shr_nat]
  exact Int.tmod_eq_emod_of_nonneg (Int.natCast_nonneg _)

theorem holds_any (s k : Nat) (hk : k < 64) (hs : s < 1048576) (w : World) :
    Calls Try.prog 84 #[.int .i64 s, .int .i64 k] w fun e w' => e = .returned (.bool (s.testBit k)) ∧ w = w' := by
  cases h : s.testBit k
  · have hb := test_f (by omega) h
    go_enter Try.func84, Try.ntmps84
    go_wp2
    go_ret
    exact ⟨rfl, rfl⟩
  · have hb := test_t (by omega) h
    go_enter Try.func84, Try.ntmps84
    go_wp2
    go_ret
    exact ⟨rfl, rfl⟩

theorem isAtom_any (n : Int) (w : World) :
    Calls Try.prog 91 #[.int .i64 n] w fun e w' => e = .returned (.bool (inB n 0 3)) ∧ w = w' := by
  by_cases h1 : 0 ≤ n <;> by_cases h2 : n ≤ 3 <;>
  (go_enter Try.func91, Try.ntmps91
   go_wp2
   go_ret
   exact ⟨ret_bool (by simp [inB, *]), rfl⟩)

theorem isAct_any (n : Int) (w : World) :
    Calls Try.prog 92 #[.int .i64 n] w fun e w' => e = .returned (.bool (inB n 16 18)) ∧ w = w' := by
  by_cases h1 : 16 ≤ n <;> by_cases h2 : n ≤ 18 <;>
  (go_enter Try.func92, Try.ntmps92
   go_wp2
   go_ret
   exact ⟨ret_bool (by simp [inB, *]), rfl⟩)

theorem move_any (a b : Int) (ha : 0 ≤ a) (ha' : a ≤ 3) (hb : 16 ≤ b) (hb' : b ≤ 18) (w : World) :
    Calls Try.prog 83 #[.int .i64 a, .int .i64 b] w fun e w' => e = .returned (.int .i64 (3 * a + b - 16)) ∧ w = w' := by
  go_enter Try.func83, Try.ntmps83
  go_wp2
  go_ret
  exact ⟨rfl, rfl⟩

set_option maxHeartbeats 400000 in
theorem l1Both_any (a b : Nat) (ha : a < 1048576) (w : World) :
    Calls Try.prog 72 #[.int .i64 a, .int .i64 b] w fun e w' => e = .returned (.int .i64 ((a &&& b : Nat) : Int)) ∧ w = w' := by
  have hx : (a &&& b) ≤ a := Nat.and_le_left
  go_enter Try.func72, Try.ntmps72
  go_wp2
  go_loop [5, 6] (fun x i => ∃ k : Nat, k ≤ 20 ∧ i = .int .i64 k ∧ x = .int .i64 (lowN (a &&& b) k)) (fun _ i => 21 - (intOf i).toNat)
  case atStart => exact ⟨0, by omega, rfl, by simp [lowN_zero]⟩
  case round =>
    obtain ⟨k, hk, rfl, rfl⟩ := hrel
    have hpb := pow_bd20 hk
    have hpi := pow_int k
    have hw : IntKind.i64.wrap (2 ^ k) = 2 ^ k := IntWalk.i64_in _ (by omega)
    have hm := lowN_le (a &&& b) k
    by_cases hc1 : (2 : Int) ^ k ≤ (a : Int)
    · by_cases hc2 : (2 : Int) ^ k ≤ (b : Int)
      · have hk20 : k < 20 := by
          rcases Nat.lt_or_ge k 20 with h | h
          · exact h
          · have h1 : 2 ^ 20 ≤ 2 ^ k := Nat.pow_le_pow_right (by omega) h
            have h2 := le_pow hc1
            exfalso; revert h1 h2; generalize 2 ^ k = z; intro h1 h2; omega
        have hs := lowN_succ (a &&& b) k
        have hm1 := lowN_le (a &&& b) (k + 1)
        have q1 : IntKind.i64.wrap ((bitN a k : Int) * (bitN b k : Int)) = (bitN (a &&& b) k : Int) := by
          rw [← Int.natCast_mul, bitN_and]; exact wrap_nat (by have := bitN_le (a &&& b) k; omega)
        have q2 : IntKind.i64.wrap ((bitN (a &&& b) k : Int) * 2 ^ k) = ((bitN (a &&& b) k * 2 ^ k : Nat) : Int) := by
          rw [hpi, ← Int.natCast_mul]; exact wrap_nat (by omega)
        have q3 : IntKind.i64.wrap ((lowN (a &&& b) k : Int) + (bitN (a &&& b) k : Int) * 2 ^ k) = (lowN (a &&& b) (k + 1) : Int) := by
          rw [hpi, ← Int.natCast_mul, ← Int.natCast_add, ← hs]; exact wrap_nat (by omega)
        clear hpi hs
        go_wp2_with ((go_at_call 74; refine (l1Bit_any _ _ (by omega) _).mono ?_; rintro e w' ⟨rfl, rfl⟩))
        go_round
        case rel => exact ⟨k + 1, by omega, by go_num, rfl⟩
        case measure => simp [intOf]; omega
      · clear hpi
        go_wp2
        go_ret
        exact ⟨ret_int (by rw [lowN_lt (lt_pow (by have : (a &&& b) ≤ b := Nat.and_le_right; omega))]), rfl⟩
    · clear hpi
      go_wp2
      go_ret
      exact ⟨ret_int (by rw [lowN_lt (lt_pow (by omega))]), rfl⟩

theorem l1Either_any (a b : Nat) (ha : a < 1048576) (hb : b < 1048576) (w : World) :
    Calls Try.prog 71 #[.int .i64 a, .int .i64 b] w fun e w' => e = .returned (.int .i64 ((a ||| b : Nat) : Int)) ∧ w = w' := by
  have h := or_add_and a b
  have h1 : (a &&& b) ≤ a := Nat.and_le_left
  have h2 : (a &&& b) ≤ b := Nat.and_le_right
  have hs : (a : Int) + b - ((a &&& b : Nat) : Int) = ((a ||| b : Nat) : Int) := by omega
  clear h
  go_enter Try.func71, Try.ntmps71
  go_wp2_with ((go_at_call 72; refine (l1Both_any _ _ ha _).mono ?_; rintro e w' ⟨rfl, rfl⟩))
  go_ret
  exact ⟨rfl, rfl⟩

set_option maxHeartbeats 400000 in
theorem l5Ends_any (v0 v1 : Value) (D : AutoD) (set : Nat) (w : World) (hok : AutoOK D) (h0 : IS w.heap.size w v0 D.ends) (h1 : ISS w.heap.size w v1 D.next) (hset : set < 1048576) :
    Calls Try.prog 89 #[.agg #[v0, v1], .int .i64 set] w fun e w' => e = .returned (.int .i64 ((endF D set : Nat) : Int)) ∧ Below w.heap.size w w' := by
  obtain ⟨b0, o0, c0, b1, o1, c1, L⟩ := Lk.of hok h0 h1
  obtain rfl := L.e0
  obtain rfl := L.e1
  have hlo := hok.lo
  have hhi := hok.hi
  obtain ⟨W, hW, hbW, hsW, x0, x1, -⟩ := box2 w (.slice (some ⟨b0, o0, none⟩) D.ends.length c0) (.slice (some ⟨b1, o1, none⟩) D.ends.length c1) 26
  have LW := L.below hbW
  go_enter Try.func89, Try.ntmps89
  go_wp2

  clear hW hsW h0 h1 L
  have HL := Lib.hid (And.intro hbW LW)
  clear hbW LW
  go_loop [5, 6] (fun x i => ∃ k : Nat, k ≤ D.ends.length ∧ i = .int .i64 k ∧ x = .int .i64 ((endT D set k : Nat) : Int)) (fun _ i => D.ends.length - (intOf i).toNat)
  case atStart => exact ⟨0, by omega, rfl, rfl⟩
  case round =>
    obtain ⟨k, hk, rfl, rfl⟩ := hrel
    have hacc := hok.endT_lt set k hk
    by_cases hlt : k < D.ends.length
    · have hc := HL.out.2.c0 k hlt
      have hnx := hok.endsN_lt hlt
      have hbd : endT D set k < 1048576 := by omega
      have hbn : endsN D k < 1048576 := by omega
      have hk0 : (k : Int) < (D.ends.length : Int) := by omega
      clear hacc hnx
      have hs : endT D set (k + 1) = if set.testBit k then endT D set k ||| endsN D k else endT D set k := rfl
      by_cases hb : set.testBit k = true
      · rw [if_pos hb] at hs
        have Hs := Lib.hid hs
        clear hs
        have hbit := bitN_t hb
        clear hb
        go_wp2_with (first | (go_at_call 74; refine (l1Bit_any _ _ (by omega) _).mono ?_; rintro e w' ⟨rfl, rfl⟩) | (go_at_call 71; refine (l1Either_any _ _ hbd hbn _).mono ?_; rintro e w' ⟨rfl, rfl⟩))
        go_round
        case rel => exact ⟨k + 1, by omega, by go_num, by rw [Hs.out]⟩
        case measure => simp [intOf]; omega
      · rw [if_neg hb] at hs
        have hb : set.testBit k = false := by simpa using hb
        have Hs := Lib.hid hs
        clear hs
        have hbit := bitN_f hb
        clear hb
        go_wp2_with ((go_at_call 74; refine (l1Bit_any _ _ (by omega) _).mono ?_; rintro e w' ⟨rfl, rfl⟩))
        go_round
        case rel => exact ⟨k + 1, by omega, by go_num, by rw [Hs.out]⟩
        case measure => simp [intOf]; omega
    · obtain rfl : k = D.ends.length := by omega
      go_wp2_with fail
      go_ret
      exact ⟨rfl, HL.out.1⟩

set_option maxHeartbeats 400000 in
theorem l5Step_any (v0 v1 : Value) (D : AutoD) (set m : Nat) (w : World) (hok : AutoOK D) (h0 : IS w.heap.size w v0 D.ends) (h1 : ISS w.heap.size w v1 D.next) (hset : set < 1048576) (hm : m < 12) :
    Calls Try.prog 88 #[.agg #[v0, v1], .int .i64 set, .int .i64 m] w fun e w' => e = .returned (.int .i64 ((behF D set m : Nat) : Int)) ∧ Below w.heap.size w w' := by
  obtain ⟨b0, o0, c0, b1, o1, c1, L⟩ := Lk.of hok h0 h1
  obtain rfl := L.e0
  obtain rfl := L.e1
  have hlo := hok.lo
  have hhi := hok.hi
  obtain ⟨W, hW, hbW, hsW, x0, x1, -⟩ := box2 w (.slice (some ⟨b0, o0, none⟩) D.ends.length c0) (.slice (some ⟨b1, o1, none⟩) D.ends.length c1) 26
  have LW := L.below hbW
  go_enter Try.func88, Try.ntmps88
  go_wp2

  clear hW hsW h0 h1 L
  have HL := Lib.hid (And.intro hbW LW)
  clear hbW LW
  go_loop [7, 8] (fun x i => ∃ k : Nat, k ≤ D.ends.length ∧ i = .int .i64 k ∧ x = .int .i64 ((behT D set m k : Nat) : Int)) (fun _ i => D.ends.length - (intOf i).toNat)
  case atStart => exact ⟨0, by omega, rfl, rfl⟩
  case round =>
    obtain ⟨k, hk, rfl, rfl⟩ := hrel
    have hacc := hok.behT_lt set hm k hk
    by_cases hlt : k < D.ends.length
    · obtain ⟨br, or, cr, -, hr, hcr⟩ := HL.out.2.c1 k hlt
      have hc := hcr m hm
      have hnx := hok.nextN_lt hlt hm
      have hpow := hok.pow_le
      clear hcr
      have hbd : behT D set m k < 1048576 := by omega
      have hbn : nextN D k m < 1048576 := by omega
      have hk0 : (k : Int) < (D.ends.length : Int) := by omega
      have hm0 : (m : Int) < 12 := by omega
      clear hpow
      clear hacc hnx
      have hs : behT D set m (k + 1) = if set.testBit k then behT D set m k ||| nextN D k m else behT D set m k := rfl
      by_cases hb : set.testBit k = true
      · rw [if_pos hb] at hs
        have Hs := Lib.hid hs
        clear hs
        have hbit := bitN_t hb
        clear hb
        go_wp2_with (first | (go_at_call 74; refine (l1Bit_any _ _ (by omega) _).mono ?_; rintro e w' ⟨rfl, rfl⟩) | (go_at_call 71; refine (l1Either_any _ _ hbd hbn _).mono ?_; rintro e w' ⟨rfl, rfl⟩))
        go_round
        case rel => exact ⟨k + 1, by omega, by go_num, by rw [Hs.out]⟩
        case measure => simp [intOf]; omega
      · rw [if_neg hb] at hs
        have hb : set.testBit k = false := by simpa using hb
        have Hs := Lib.hid hs
        clear hs
        have hbit := bitN_f hb
        clear hb
        go_wp2_with ((go_at_call 74; refine (l1Bit_any _ _ (by omega) _).mono ?_; rintro e w' ⟨rfl, rfl⟩))
        go_round
        case rel => exact ⟨k + 1, by omega, by go_num, by rw [Hs.out]⟩
        case measure => simp [intOf]; omega
    · obtain rfl : k = D.ends.length := by omega
      go_wp2_with fail
      go_ret
      exact ⟨rfl, HL.out.1⟩

set_option maxHeartbeats 400000 in
theorem endsOf_any (v0 v1 : Value) (D : AutoD) (set : Nat) (w : World) (hok : AutoOK D) (h0 : IS w.heap.size w v0 D.ends) (h1 : ISS w.heap.size w v1 D.next) (hset : set < 1048576) :
    Calls Try.prog 85 #[.agg #[v0, v1], .int .i64 set] w fun e w' => e = .returned (.int .i64 ((endF D set : Nat) : Int)) ∧ Below w.heap.size w w' := by
  obtain ⟨b0, o0, c0, b1, o1, c1, L⟩ := Lk.of hok h0 h1
  obtain rfl := L.e0
  obtain rfl := L.e1
  have hlo := hok.lo
  have hhi := hok.hi
  obtain ⟨W, hW, hbW, hsW, x0, x1, -⟩ := box2 w (.slice (some ⟨b0, o0, none⟩) D.ends.length c0) (.slice (some ⟨b1, o1, none⟩) D.ends.length c1) 26
  have LW := L.below hbW
  go_enter Try.func85, Try.ntmps85
  go_wp2

  clear hW hsW h0 h1 L
  have HL := Lib.hid (And.intro hbW LW)
  clear hbW LW
  go_loop [5, 11] (fun x i => ∃ k : Nat, k ≤ D.ends.length ∧ i = .int .i64 k ∧ x = .int .i64 ((endT D set k : Nat) : Int)) (fun _ i => D.ends.length - (intOf i).toNat)
  case atStart => exact ⟨0, by omega, rfl, rfl⟩
  case round =>
    obtain ⟨k, hk, rfl, rfl⟩ := hrel
    have hacc := hok.endT_lt set k hk
    by_cases hlt : k < D.ends.length
    · have hc := HL.out.2.c0 k hlt
      have hnx := hok.endsN_lt hlt
      have hbd : endT D set k < 1048576 := by omega
      have hbn : endsN D k < 1048576 := by omega
      have hk0 : (k : Int) < (D.ends.length : Int) := by omega
      clear hacc hnx
      have hs : endT D set (k + 1) = if set.testBit k then endT D set k ||| endsN D k else endT D set k := rfl
      by_cases hb : set.testBit k = true
      · rw [if_pos hb] at hs
        have Hs := Lib.hid hs
        clear hs
        have hbit := test_t (s := set) (k := k) (by omega) hb
        clear hb
        have hor := bits_or (endT D set k) (endsN D k) (by omega) (by omega)
        go_wp2
        go_round
        case rel => exact ⟨k + 1, by omega, by go_num, by rw [Hs.out]⟩
        case measure => simp [intOf]; omega
      · rw [if_neg hb] at hs
        have hb : set.testBit k = false := by simpa using hb
        have Hs := Lib.hid hs
        clear hs
        have hbit := test_f (s := set) (k := k) (by omega) hb
        clear hb
        go_wp2
        go_round
        case rel => exact ⟨k + 1, by omega, by go_num, by rw [Hs.out]⟩
        case measure => simp [intOf]; omega
    · obtain rfl : k = D.ends.length := by omega
      go_wp2_with fail
      go_ret
      exact ⟨rfl, HL.out.1⟩

set_option maxHeartbeats 400000 in
theorem behindSet_any (v0 v1 : Value) (D : AutoD) (set m : Nat) (w : World) (hok : AutoOK D) (h0 : IS w.heap.size w v0 D.ends) (h1 : ISS w.heap.size w v1 D.next) (hset : set < 1048576) (hm : m < 12) :
    Calls Try.prog 82 #[.agg #[v0, v1], .int .i64 set, .int .i64 m] w fun e w' => e = .returned (.int .i64 ((behF D set m : Nat) : Int)) ∧ Below w.heap.size w w' := by
  obtain ⟨b0, o0, c0, b1, o1, c1, L⟩ := Lk.of hok h0 h1
  obtain rfl := L.e0
  obtain rfl := L.e1
  have hlo := hok.lo
  have hhi := hok.hi
  obtain ⟨W, hW, hbW, hsW, x0, x1, -⟩ := box2 w (.slice (some ⟨b0, o0, none⟩) D.ends.length c0) (.slice (some ⟨b1, o1, none⟩) D.ends.length c1) 26
  have LW := L.below hbW
  go_enter Try.func82, Try.ntmps82
  go_wp2

  clear hW hsW h0 h1 L
  have HL := Lib.hid (And.intro hbW LW)
  clear hbW LW
  go_loop [7, 12] (fun x i => ∃ k : Nat, k ≤ D.ends.length ∧ i = .int .i64 k ∧ x = .int .i64 ((behT D set m k : Nat) : Int)) (fun _ i => D.ends.length - (intOf i).toNat)
  case atStart => exact ⟨0, by omega, rfl, rfl⟩
  case round =>
    obtain ⟨k, hk, rfl, rfl⟩ := hrel
    have hacc := hok.behT_lt set hm k hk
    by_cases hlt : k < D.ends.length
    · obtain ⟨br, or, cr, -, hr, hcr⟩ := HL.out.2.c1 k hlt
      have hc := hcr m hm
      have hnx := hok.nextN_lt hlt hm
      have hpow := hok.pow_le
      clear hcr
      have hbd : behT D set m k < 1048576 := by omega
      have hbn : nextN D k m < 1048576 := by omega
      have hk0 : (k : Int) < (D.ends.length : Int) := by omega
      have hm0 : (m : Int) < 12 := by omega
      clear hpow
      clear hacc hnx
      have hs : behT D set m (k + 1) = if set.testBit k then behT D set m k ||| nextN D k m else behT D set m k := rfl
      by_cases hb : set.testBit k = true
      · rw [if_pos hb] at hs
        have Hs := Lib.hid hs
        clear hs
        have hbit := test_t (s := set) (k := k) (by omega) hb
        clear hb
        have hor := bits_or (behT D set m k) (nextN D k m) (by omega) (by omega)
        go_wp2
        go_round
        case rel => exact ⟨k + 1, by omega, by go_num, by rw [Hs.out]⟩
        case measure => simp [intOf]; omega
      · rw [if_neg hb] at hs
        have hb : set.testBit k = false := by simpa using hb
        have Hs := Lib.hid hs
        clear hs
        have hbit := test_f (s := set) (k := k) (by omega) hb
        clear hb
        go_wp2
        go_round
        case rel => exact ⟨k + 1, by omega, by go_num, by rw [Hs.out]⟩
        case measure => simp [intOf]; omega
    · obtain rfl : k = D.ends.length := by omega
      go_wp2_with fail
      go_ret
      exact ⟨rfl, HL.out.1⟩

end Go.Proofs.Ytljoonlcpiagjaa

namespace Go.Proofs.Ytljoonlcpiagjaa
set_option linter.unusedSimpArgs false
set_option linter.unusedVariables false
set_option maxRecDepth 8000
set_option maxHeartbeats 2000000
open Go.RowKit

open Classical in
noncomputable def liveI (D : AutoD) : Int := if AutoOK D then (liveF D : Int) else -1
theorem liveI_no {D : AutoD} (h : ¬ AutoOK D) : liveI D = -1 := if_neg h
theorem liveI_yes {D : AutoD} (h : AutoOK D) : liveI D = (liveF D : Int) := if_pos h

end Go.Proofs.Ytljoonlcpiagjaa

namespace Go.Proofs.Ytljoonlcpiagjaa
set_option linter.unusedSimpArgs false
set_option linter.unusedVariables false
set_option maxRecDepth 8000
set_option maxHeartbeats 2000000
open Go.RowKit

def liveM (D : AutoD) (k s m : Nat) : Bool := decide (0 < endsN D k) || anyM D k s m
theorem liveM_succ (D : AutoD) (k s m : Nat) : liveM D k s (m + 1) = (liveM D k s m || decide (0 < nextN D k m &&& s)) := by
  unfold liveM; rw [anyM, Bool.or_assoc]
theorem liveM_all (D : AutoD) (k s : Nat) : liveM D k s 12 = liveC D k s := rfl
theorem lvT_succ (D : AutoD) (s k : Nat) : lvT D s (k + 1) = if liveC D k (lvT D s k) then lvT D s k ||| 2 ^ k else lvT D s k := rfl
theorem lvI_succ (D : AutoD) (j : Nat) : lvI D (j + 1) = lvT D (lvI D j) D.ends.length := rfl

set_option maxHeartbeats 1000000 in
theorem specAutoLive (v0 v1 : Value) (D : AutoD) (w : World) (h0 : IS w.heap.size w v0 D.ends) (h1 : ISS w.heap.size w v1 D.next) :
    Calls Try.prog 37 #[.agg #[v0, v1]] w fun e w' => e = .returned (.int .i64 (liveI D)) ∧ Below w.heap.size w w' := by
  by_cases hok : AutoOK D
  case neg =>
    have hB := autoOKB_false.2 hok
    obtain ⟨W, hW, hbW, hsW, x0, x1, -⟩ := box2 w v0 v1 26
    go_enter Try.func37, Try.ntmps37
    go_wp2_with fail
    clear hW
    refine (specAutoValid _ _ D _ ((h0.below hbW).mono (by omega)) ((h1.below hbW).mono (by omega))).mono ?_
    rintro e w1 ⟨rfl, hb1⟩
    go_wp2
    go_ret
    exact ⟨ret_int (liveI_no hok).symm, hbW.trans (hb1.mono (by omega))⟩
  have hB := autoOKB_true.2 hok
  obtain ⟨b0, o0, c0, b1, o1, c1, L⟩ := Lk.of hok h0 h1
  obtain rfl := L.e0
  obtain rfl := L.e1
  have hlo := hok.lo
  have hhi := hok.hi
  obtain ⟨W, hW, hbW, hsW, x0, x1, -⟩ := box2 w (.slice (some ⟨b0, o0, none⟩) D.ends.length c0) (.slice (some ⟨b1, o1, none⟩) D.ends.length c1) 26
  go_enter Try.func37, Try.ntmps37
  go_wp2_with fail
  clear hW
  refine (specAutoValid _ _ D _ ((h0.below hbW).mono (by omega)) ((h1.below hbW).mono (by omega))).mono ?_
  rintro e w1 ⟨rfl, hb1⟩
  have hz1 := hb1.size
  replace x0 := below_at hb1 (by omega) x0
  replace x1 := below_at hb1 (by omega) x1
  have hbw1 : Below w.heap.size w w1 := hbW.trans (hb1.mono (by omega))
  have L1 := L.below hbw1
  clear L h0 h1 hb1 hbW
  go_wp2_with fail
  have HX := Lib.hid (And.intro hbw1 L1)
  clear hbw1 L1
  have hpow := hok.pow_le
  go_loop [3, 4] (fun x i => ∃ j : Nat, j ≤ D.ends.length + 1 ∧ x = .int .i64 ((lvI D j : Nat) : Int) ∧ i = .int .i64 j) (fun _ i => D.ends.length + 1 - (intOf i).toNat)
  case atStart => exact ⟨0, by omega, rfl, rfl⟩
  case round =>
    obtain ⟨j, hj, rfl, rfl⟩ := hrel
    have hs := lvI_lt D j
    by_cases hlt : j ≤ D.ends.length
    · have hji : (j : Int) ≤ (D.ends.length : Int) := by omega
      go_wp2_with fail
      go_loop [3, 5] (fun x i => ∃ k : Nat, k ≤ D.ends.length ∧ x = .int .i64 ((lvT D (lvI D j) k : Nat) : Int) ∧ i = .int .i64 k) (fun _ i => D.ends.length - (intOf i).toNat)
      case atStart => exact ⟨0, by omega, rfl, rfl⟩
      case round =>
        obtain ⟨k, hk, rfl, rfl⟩ := hrel
        have hs2 := lvT_lt D hs k hk
        generalize hsv : lvT D (lvI D j) k = s at *
        have Hsv := Lib.hid hsv
        clear hsv
        have hsl : s < 1024 := by omega
        by_cases hlt2 : k < D.ends.length
        · have hki : (k : Int) < (D.ends.length : Int) := by omega
          have hkc := HX.out.2.c0 k hlt2
          obtain ⟨br, or, cr, -, hkr, hcr⟩ := HX.out.2.c1 k hlt2
          have HCR := Lib.hid hcr
          clear hcr
          have hel := hok.endsN_lt hlt2
          go_wp2_with fail
          go_loop [6, 7] (fun x i => ∃ m : Nat, m ≤ 12 ∧ x = .bool (liveM D k s m) ∧ i = .int .i64 m) (fun _ i => 12 - (intOf i).toNat)
          case atStart => exact ⟨0, by omega, congrArg Value.bool (by simp [liveM, anyM]), rfl⟩
          case round =>
            obtain ⟨m, hm, rfl, rfl⟩ := hrel
            by_cases hlt3 : m < 12
            · have hc := HCR.out m hlt3
              have hnl := hok.nextN_lt hlt2 hlt3
              have hn20 : nextN D k m < 1048576 := by omega
              clear hnl
              have hsu := liveM_succ D k s m
              have HS := Lib.hid hsu
              clear hsu
              cases hb : liveM D k s m
              · rw [hb] at HS
                clear hb
                by_cases hp : 0 < nextN D k m &&& s
                all_goals
                  go_wp2_with ((go_at_call 72; refine (l1Both_any _ _ hn20 _).mono ?_; rintro e w' ⟨rfl, rfl⟩))
                  go_round
                  case rel => exact ⟨m + 1, by omega, congrArg Value.bool (by rw [HS.out]; simp; omega), by go_num⟩
                  case measure => simp [intOf]; omega
              · rw [hb] at HS
                clear hb
                go_wp2
                go_round
                case rel => exact ⟨m + 1, by omega, congrArg Value.bool (by rw [HS.out]; rfl), by go_num⟩
                case measure => simp [intOf]; omega
            · obtain rfl : m = 12 := by omega
              have hall : liveM D k s 12 = liveC D k s := liveM_all D k s
              rw [hall]
              have hsu := lvT_succ D (lvI D j) k
              rw [Hsv.out] at hsu
              have HS := Lib.hid hsu
              clear hsu hall
              have hpb := pow_bd10 (k := k) (by omega)
              have hw1 : IntKind.i64.wrap (2 ^ k) = ((2 ^ k : Nat) : Int) := by rw [← pow_int]; exact IntWalk.i64_in _ (by omega)
              have hp20 : 2 ^ k < 1048576 := pow_lt20 (by omega)
              cases hb : liveC D k s
              · rw [hb] at HS
                clear hb
                go_wp2
                go_round
                case rel => exact ⟨k + 1, by omega, by rw [HS.out]; rfl, by go_num⟩
                case measure => simp [intOf]; omega
              · rw [hb] at HS
                clear hb
                go_wp2_with fail
                rw [show (2 : Int) ^ k = ((2 ^ k : Nat) : Int) from pow_int k]
                refine (l1Either_any s (2 ^ k) (by omega) hp20 _).mono ?_
                rintro e w' ⟨rfl, rfl⟩
                go_wp2
                go_round
                case rel => exact ⟨k + 1, by omega, by rw [HS.out]; rfl, by go_num⟩
                case measure => simp [intOf]; omega
        · obtain rfl : k = D.ends.length := by omega
          go_wp2
          go_round
          case rel => exact ⟨j + 1, by omega, by rw [lvI_succ, Hsv.out], by go_num⟩
          case measure => simp [intOf]; omega
    · obtain rfl : j = D.ends.length + 1 := by omega
      go_wp2
      go_ret
      exact ⟨ret_int (by rw [liveI_yes hok]; rfl), HX.out.1⟩

theorem liveFn_any (x s b : Nat) (w : World) (hx : x < 1048576) (hc : w.cell? ⟨b, 0, none⟩ = some (.int .i64 s)) :
    Calls Try.prog 116 #[.int .i64 x, .pointer (some ⟨b, 0, none⟩)] w fun e w' => e = .returned (.bool (decide (0 < x &&& s))) ∧ w = w' := by
  have hb := bits_and x s (by omega)
  by_cases h : 0 < x &&& s
  · have hn : (((x &&& s : Nat) : Int) != 0) = true := by rw [bne_iff_ne]; omega
    go_enter Try.func116, Try.ntmps116
    go_wp2
    go_ret
    exact ⟨ret_bool (by simp; omega), rfl⟩
  · have hn : (((x &&& s : Nat) : Int) != 0) = false := by rw [bne_eq_false_iff_eq]; omega
    go_enter Try.func116, Try.ntmps116
    go_wp2
    go_ret
    exact ⟨ret_bool (by simp; omega), rfl⟩

def Enters (g : Nat) : Prop := ∀ (args : Array Value) (w : World), Sem.run Try.prog (callFunc g args) w = .ok (.enter g args) w
def IdxPost (w : World) (l : List Int) (p : Int → Bool) (e : Ending) (w' : World) : Prop :=
  w = w' ∧ ∃ r : Int, e = .returned (.int .i64 r) ∧ ((r = -1 ∧ ∀ k, k < l.length → p (nth l k) = false) ∨ ∃ k : Nat, r = k ∧ k < l.length ∧ p (nth l k) = true ∧ ∀ j, j < k → p (nth l j) = false)
set_option maxHeartbeats 400000 in
theorem indexFuncI_any (g : Nat) (cap v : Value) (l : List Int) (p : Int → Bool) (w : World) (h : IS w.heap.size w v l) (hg : Enters g)
    (hf : ∀ k, k < l.length → Calls Try.prog g #[.int .i64 (nth l k), cap] w fun e w' => e = .returned (.bool (p (nth l k))) ∧ w = w') :
    Calls Try.prog 137 #[v, .func (.func g) #[] #[cap]] w (IdxPost w l p) := by
  obtain ⟨A, c, rfl, hl, hm, hA⟩ := h
  unfold maxLen at hm
  have HA := Lib.hid hA
  have HF := Lib.hid hf
  unfold Enters at hg
  clear hA hf
  go_enter Try.func137, Try.ntmps137
  go_wp2
  go_loop [8] (fun i => ∃ k : Nat, k ≤ l.length ∧ i = .int .i64 k ∧ ∀ j, j < k → p (nth l j) = false) (fun i => l.length - (intOf i).toNat)
  case atStart => exact ⟨0, by omega, rfl, fun j hj => absurd hj (by omega)⟩
  case round =>
    obtain ⟨k, hk, rfl, hr⟩ := hrel
    have HR := Lib.hid hr
    clear hr
    by_cases hlt : k < l.length
    · obtain ⟨b, o, rfl, hb, hc⟩ := HA.out (by omega)
      have hkc := hc k hlt
      have hki : (k : Int) < (l.length : Int) := by omega
      clear hc HA
      cases hp : p (nth l k)
      · go_wp2_with fail
        refine (HF.out k hlt).mono ?_
        rintro e w' ⟨rfl, rfl⟩
        go_wp2
        go_round
        case rel => exact ⟨k + 1, by omega, by go_num, fun j hj => by
          by_cases e : j = k
          · subst e; exact hp
          · exact HR.out j (by omega)⟩
        case measure => simp [intOf]; omega
      · go_wp2_with fail
        refine (HF.out k hlt).mono ?_
        rintro e w' ⟨rfl, rfl⟩
        go_wp2
        go_ret
        exact ⟨rfl, k, rfl, .inr ⟨k, rfl, hlt, hp, HR.out⟩⟩
    · obtain rfl : k = l.length := by omega
      go_wp2
      go_ret
      exact ⟨rfl, -1, rfl, .inl ⟨rfl, HR.out⟩⟩

theorem enters_live : Enters 116 := fun _ _ => by kernel_rfl

def anyT (l : List Int) (p : Int → Bool) : Nat → Bool
  | 0 => false
  | k + 1 => anyT l p k || p (nth l k)
theorem anyT_f {l : List Int} {p : Int → Bool} : ∀ k, (∀ j, j < k → p (nth l j) = false) → anyT l p k = false
  | 0, _ => rfl
  | k + 1, h => by rw [anyT, anyT_f k (fun j hj => h j (by omega)), h k (by omega)]; rfl
theorem anyT_t {l : List Int} {p : Int → Bool} {i : Nat} (hp : p (nth l i) = true) : ∀ k, i < k → anyT l p k = true
  | 0, h => absurd h (by omega)
  | k + 1, h => by
    rw [anyT, Bool.or_eq_true]
    by_cases e : i = k
    · subst e; exact .inr hp
    · exact .inl (anyT_t hp k (by omega))
theorem containsFuncI_any (g : Nat) (cap v : Value) (l : List Int) (p : Int → Bool) (w : World) (h : IS w.heap.size w v l) (hg : Enters g)
    (hf : ∀ k, k < l.length → Calls Try.prog g #[.int .i64 (nth l k), cap] w fun e w' => e = .returned (.bool (p (nth l k))) ∧ w = w') :
    Calls Try.prog 115 #[v, .func (.func g) #[] #[cap]] w fun e w' => e = .returned (.bool (anyT l p l.length)) ∧ w = w' := by
  go_enter Try.func115, Try.ntmps115
  go_wp2_with fail
  refine (indexFuncI_any g cap v l p w h hg hf).mono ?_
  rintro e w' ⟨rfl, r, rfl, hr⟩
  rcases hr with ⟨rfl, hr⟩ | ⟨k, rfl, hk, hp, hr⟩
  · go_wp2
    go_ret
    exact ⟨ret_bool (by rw [anyT_f _ hr]), rfl⟩
  · clear hr
    go_wp2
    go_ret
    exact ⟨ret_bool (by rw [anyT_t hp _ hk]), rfl⟩

theorem anyT_anyM {D : AutoD} (hok : AutoOK D) {k s : Nat} (hk : k < D.ends.length) : ∀ m, m ≤ 12 → anyT (nthL D.next k) (fun x => decide (0 < x.toNat &&& s)) m = anyM D k s m
  | 0, _ => rfl
  | m + 1, hm => by
    rw [anyT, anyM, anyT_anyM hok hk m (by omega)]
    rfl
theorem anyT_live {D : AutoD} (hok : AutoOK D) {k s : Nat} (hk : k < D.ends.length) (he : endsN D k = 0) : anyT (nthL D.next k) (fun x => decide (0 < x.toNat &&& s)) (nthL D.next k).length = liveC D k s := by
  rw [hok.rows k hk, anyT_anyM hok hk 12 (by omega)]
  simp [liveC, he]
theorem liveC_end {D : AutoD} {k s : Nat} (he : 0 < endsN D k) : liveC D k s = true := by simp [liveC, he]
theorem nvT_succ (D : AutoD) (s k : Nat) : nvT D s (k + 1) = if liveC D k s then nvT D s k ||| 2 ^ k else nvT D s k := rfl

set_option maxHeartbeats 1000000 in
theorem live_any (v0 v1 : Value) (D : AutoD) (w : World) (hok : AutoOK D) (h0 : IS w.heap.size w v0 D.ends) (h1 : ISS w.heap.size w v1 D.next) :
    Calls Try.prog 69 #[.agg #[v0, v1]] w fun e w' => e = .returned (.int .i64 ((liveF D : Nat) : Int)) ∧ Below w.heap.size w w' := by
  obtain ⟨b0, o0, c0, b1, o1, c1, L⟩ := Lk.of hok h0 h1
  obtain rfl := L.e0
  obtain rfl := L.e1
  have hlo := hok.lo
  have hhi := hok.hi
  go_enter Try.func69, Try.ntmps69
  go_wp2_with fail
  obtain ⟨W, hW⟩ : ∃ W, (w.alloc (.cells #[.slice (some ⟨b0, o0, none⟩) D.ends.length c0, .slice (some ⟨b1, o1, none⟩) D.ends.length c1] 26)).alloc (.cells #[.int .i64 0] 3) = W := ⟨_, rfl⟩
  have hbW : Below w.heap.size w W := hW ▸ (((Below.refl _ _).alloc (Nat.le_refl _) _).alloc (by simp) _)
  have bX : Blk W w.heap.size 26 #[.slice (some ⟨b0, o0, none⟩) D.ends.length c0, .slice (some ⟨b1, o1, none⟩) D.ends.length c1] := hW ▸ (Blk.new w _ _).alloc _
  have bS : Blk W (w.heap.size + 1) 3 #[.int .i64 ((0 : Nat) : Int)] := hW ▸ (by have := Blk.new (w.alloc (.cells #[.slice (some ⟨b0, o0, none⟩) D.ends.length c0, .slice (some ⟨b1, o1, none⟩) D.ends.length c1] 26)) 3 #[.int .i64 0]; simpa using this)
  have hszW : W.heap.size = w.heap.size + 2 := by rw [← hW]; simp
  rw [hW]
  clear hW
  have HX := Lib.hid (And.intro hbW (And.intro bX (And.intro h0 (And.intro h1 L))))
  clear hbW bX h0 h1 L
  have hpow := hok.pow_le
  go_loopw [] (fun wr => ∃ s : Nat, s < 2 ^ D.ends.length ∧ Forced D s ∧ Below (w.heap.size + 1) W wr ∧ Blk wr (w.heap.size + 1) 3 #[.int .i64 s] ∧ wr.heap.size = w.heap.size + 2)
    (fun wr => 1024 - (intOf ((wr.cell? ⟨w.heap.size + 1, 0, none⟩).getD undef)).toNat)
  case atStart => exact ⟨0, Nat.two_pow_pos _, forced_zero D, Below.refl _ _, bS, hszW⟩
  case round =>
    obtain ⟨s, hs, hfo, hb, bS, hzr⟩ := hrel
    have hsl : s < 1024 := by omega
    obtain ⟨hbW, bX, h0, h1, L⟩ := HX.out
    have hbw : Below w.heap.size w wr := hbW.trans (hb.mono (by omega))
    have Lr := L.below hbw
    have x0 := (bX.below hb (by omega)).cell0
    have x1 := (bX.below hb (by omega)).cell1
    have sc := bS.one
    have sf := bS.frozen 0
    have HR := Lib.hid (And.intro hbw (And.intro hb (And.intro bS (And.intro Lr (And.intro hfo (And.intro hs hzr))))))
    clear hbW bX h0 h1 L hbw Lr bS hfo hs hb
    go_wp2_with fail
    go_loop [4, 11] (fun x i => ∃ k : Nat, k ≤ D.ends.length ∧ x = .int .i64 ((nvT D s k : Nat) : Int) ∧ i = .int .i64 k) (fun _ i => D.ends.length - (intOf i).toNat)
    case atStart => exact ⟨0, by omega, rfl, rfl⟩
    case round =>
      obtain ⟨k, hk, rfl, rfl⟩ := hrel
      obtain ⟨hbw, hb, bS, Lr, hfo, hs, -⟩ := HR.out
      have hnl := nvT_lt D hs k hk
      have hn20 : nvT D s k < 1048576 := by omega
      by_cases hlt : k < D.ends.length
      · have hki : (k : Int) < (D.ends.length : Int) := by omega
        have hkc := Lr.c0 k hlt
        obtain ⟨br, or, cr, -, hkr, -⟩ := Lr.c1 k hlt
        have hIS := (Lr.c2 k hlt _ hkr).mono (B' := wr.heap.size) (by omega)
        have hpb := pow_bd10 (k := k) (by omega)
        have hw1 : IntKind.i64.wrap (2 ^ k) = 2 ^ k := IntWalk.i64_in _ (by omega)
        have hp20 : 2 ^ k < 1048576 := pow_lt20 (by omega)
        have hor := bits_or (nvT D s k) (2 ^ k) (by omega) (by omega)
        rw [← pow_int] at hor
        have HS := Lib.hid (nvT_succ D s k)
        have HI := Lib.hid (And.intro hIS hp20)
        clear hIS hp20 hbw hb bS Lr hfo hs hnl
        by_cases he : endsN D k = 0
        · have hne : ((endsN D k : Int) != 0) = false := by rw [bne_eq_false_iff_eq]; omega
          have hal := anyT_live hok (s := s) hlt he
          have HAL := Lib.hid hal
          have HE := Lib.hid he
          clear hal he
          go_wp2_with fail
          refine (containsFuncI_any 116 _ _ (nthL D.next k) (fun x => decide (0 < x.toNat &&& s)) _ HI.out.1 enters_live (fun m hm => ?_)).mono ?_
          · have hm12 : m < 12 := by rw [hok.rows k hlt] at hm; exact hm
            rw [hok.nextN_eq hlt hm12]
            refine (liveFn_any (nextN D k m) s (w.heap.size + 1) _ (by have := hok.nextN_lt hlt hm12; omega) sc).mono ?_
            rintro e w' ⟨rfl, rfl⟩
            exact ⟨by simp, rfl⟩
          rw [HAL.out]
          rintro e w' ⟨rfl, rfl⟩
          cases hc : liveC D k s
          all_goals
            rw [hc] at HS
            clear hc
            go_wp2
            go_round
            case rel => exact ⟨k + 1, by omega, by rw [HS.out]; rfl, by go_num⟩
            case measure => simp [intOf]; omega
        · have hne : ((endsN D k : Int) != 0) = true := by rw [bne_iff_ne]; omega
          have hc := liveC_end (D := D) (k := k) (s := s) (by omega)
          rw [hc] at HS
          clear hc he
          go_wp2
          go_round
          case rel => exact ⟨k + 1, by omega, by rw [HS.out]; rfl, by go_num⟩
          case measure => simp [intOf]; omega
      · obtain rfl : k = D.ends.length := by omega
        have hsub := (nvT_sub D s D.ends.length).le
        by_cases he : nvT D s D.ends.length = s
        · have heq : ((nvT D s D.ends.length : Int) == (s : Int)) = true := by rw [he]; exact beq_self_eq_true _
          have HE := Lib.hid he
          clear he
          go_wp2
          go_ret
          exact ⟨ret_int (by rw [← nvT_done hfo HE.out]), hbw⟩
        · have heq : ((nvT D s D.ends.length : Int) == (s : Int)) = false := by rw [beq_eq_false_iff_ne]; omega
          have HE := Lib.hid he
          clear he
          go_wp2
          go_roundw
          case rel => exact ⟨nvT D s D.ends.length, hnl, nvT_forced hfo _ (Nat.le_refl _), hb.setCell (p := ⟨w.heap.size + 1, 0, none⟩) (by simp) _, bS.set_ 0 _, by simp [World.setCell, hzr]⟩
          case measure =>
            have := HE.out
            have e1 : (wr.setCell ⟨w.heap.size + 1, 0, none⟩ (.int .i64 ((nvT D s D.ends.length : Nat) : Int))).cell? ⟨w.heap.size + 1, 0, none⟩ = some (.int .i64 ((nvT D s D.ends.length : Nat) : Int)) := (bS.set_ 0 _).one
            simp [intOf, e1, sc]; omega

theorem implAutoLive (v0 v1 : Value) (D : AutoD) (w : World) (h0 : IS w.heap.size w v0 D.ends) (h1 : ISS w.heap.size w v1 D.next) :
    Calls Try.prog 24 #[.agg #[v0, v1]] w fun e w' => e = .returned (.int .i64 (liveI D)) ∧ Below w.heap.size w w' := by
  by_cases hok : AutoOK D
  case neg =>
    have hB := autoOKB_false.2 hok
    obtain ⟨W, hW, hbW, hsW, x0, x1, -⟩ := box2 w v0 v1 26
    go_enter Try.func24, Try.ntmps24
    go_wp2_with fail
    clear hW
    refine (implAutoValid _ _ D _ ((h0.below hbW).mono (by omega)) ((h1.below hbW).mono (by omega))).mono ?_
    rintro e w1 ⟨rfl, hb1⟩
    go_wp2
    go_ret
    exact ⟨ret_int (liveI_no hok).symm, hbW.trans (hb1.mono (by omega))⟩
  have hB := autoOKB_true.2 hok
  obtain ⟨W, hW, hbW, hsW, x0, x1, -⟩ := box2 w v0 v1 26
  go_enter Try.func24, Try.ntmps24
  go_wp2_with fail
  clear hW
  refine (implAutoValid _ _ D _ ((h0.below hbW).mono (by omega)) ((h1.below hbW).mono (by omega))).mono ?_
  rintro e w1 ⟨rfl, hb1⟩
  have hz1 := hb1.size
  replace x0 := below_at hb1 (by omega) x0
  replace x1 := below_at hb1 (by omega) x1
  have hbw1 : Below w.heap.size w w1 := hbW.trans (hb1.mono (by omega))
  go_wp2_with fail
  refine (live_any _ _ D _ hok ((h0.below hbw1).mono (by omega)) ((h1.below hbw1).mono (by omega))).mono ?_
  rintro e w2 ⟨rfl, hb2⟩
  go_wp2
  go_ret
  exact ⟨ret_int (liveI_yes hok).symm, hbw1.trans (hb2.mono (by omega))⟩

end Go.Proofs.Ytljoonlcpiagjaa

namespace Go.Proofs.Ytljoonlcpiagjaa
set_option linter.unusedSimpArgs false
set_option linter.unusedVariables false
set_option maxRecDepth 8000
set_option maxHeartbeats 2000000
open Go.RowKit

set_option maxHeartbeats 400000 in
theorem specTraceValid (v : Value) (t : List Int) (w : World) (h : IS w.heap.size w v t) :
    Calls Try.prog 32 #[v] w fun e w' => e = .returned (.bool (traceOKB t)) ∧ w = w' := by
  obtain ⟨A, c, rfl, hl, hm, hA⟩ := h
  unfold maxLen at hm
  have HA := Lib.hid hA
  clear hA
  go_enter Try.func32, Try.ntmps32
  go_wp2
  go_loop [3] (fun i => ∃ k : Nat, k ≤ t.length ∧ i = .int .i64 k ∧ trTo t k) (fun i => t.length - (intOf i).toNat)
  case atStart => exact ⟨0, by omega, rfl, trTo_zero t⟩
  case round =>
    obtain ⟨k, hk, rfl, hr⟩ := hrel
    have HR := Lib.hid hr
    clear hr
    by_cases hlt : k < t.length
    · obtain ⟨b, o, rfl, hb, hc⟩ := HA.out (by omega)
      have hkc := hc k hlt
      have hki : (k : Int) < (t.length : Int) := by omega
      clear hc HA
      by_cases hpar : k % 2 = 0
      · have q0 : ((k : Int) % 2 == 0) = true := by rw [beq_iff_eq]; omega
        have q1 : ((k : Int) % 2 == 1) = false := by rw [beq_eq_false_iff_ne]; omega
        have HP := Lib.hid hpar
        clear hpar
        by_cases hv : 0 ≤ nth t k ∧ nth t k ≤ 3
        · have hB : inB (nth t k) 0 3 = true := inB_t hv
          have HV := Lib.hid hv
          clear hv
          go_wp2_with ((go_at_call 76; refine (l1In_any _ _ _ _).mono ?_; rintro e w' ⟨rfl, rfl⟩))
          go_round
          case rel => exact ⟨k + 1, by omega, by go_num, trTo_succ HR.out ⟨fun _ => HV.out, fun e => absurd HP.out (by omega)⟩⟩
          case measure => simp [intOf]; omega
        · have hB : inB (nth t k) 0 3 = false := inB_f hv
          have HV := Lib.hid hv
          clear hv
          go_wp2_with ((go_at_call 76; refine (l1In_any _ _ _ _).mono ?_; rintro e w' ⟨rfl, rfl⟩))
          go_ret
          exact ⟨ret_bool (traceOKB_false.2 fun h => HV.out ((h.to k hlt).1 HP.out)).symm, rfl⟩
      · have q0 : ((k : Int) % 2 == 0) = false := by rw [beq_eq_false_iff_ne]; omega
        have q1 : ((k : Int) % 2 == 1) = true := by rw [beq_iff_eq]; omega
        have HP := Lib.hid (show k % 2 = 1 by omega)
        clear hpar
        by_cases hv : 16 ≤ nth t k ∧ nth t k ≤ 18
        · have hB : inB (nth t k) 16 18 = true := inB_t hv
          have HV := Lib.hid hv
          clear hv
          go_wp2_with ((go_at_call 76; refine (l1In_any _ _ _ _).mono ?_; rintro e w' ⟨rfl, rfl⟩))
          go_round
          case rel => exact ⟨k + 1, by omega, by go_num, trTo_succ HR.out ⟨fun e => absurd HP.out (by omega), fun _ => HV.out⟩⟩
          case measure => simp [intOf]; omega
        · have hB : inB (nth t k) 16 18 = false := inB_f hv
          have HV := Lib.hid hv
          clear hv
          go_wp2_with ((go_at_call 76; refine (l1In_any _ _ _ _).mono ?_; rintro e w' ⟨rfl, rfl⟩))
          go_ret
          exact ⟨ret_bool (traceOKB_false.2 fun h => HV.out ((h.to k hlt).2 HP.out)).symm, rfl⟩
    · obtain rfl : k = t.length := by omega
      by_cases hodd : t.length % 2 = 1
      · have q1 : ((t.length : Int) % 2 == 1) = true := by rw [beq_iff_eq]; omega
        have HO := Lib.hid hodd
        clear hodd
        by_cases h41 : t.length ≤ 41
        · go_wp2
          go_ret
          exact ⟨ret_bool (by rw [traceOKB_true.2 (TraceOK.of HO.out h41 HR.out)]; simp; omega), rfl⟩
        · go_wp2
          go_ret
          exact ⟨ret_bool (by rw [traceOKB_false.2 fun h => h41 h.len]; simp; omega), rfl⟩
      · have q1 : ((t.length : Int) % 2 == 1) = false := by rw [beq_eq_false_iff_ne]; omega
        have HO := Lib.hid hodd
        clear hodd
        go_wp2
        go_ret
        exact ⟨ret_bool (traceOKB_false.2 fun h => HO.out h.odd).symm, rfl⟩

set_option maxHeartbeats 400000 in
theorem implTraceValid (v : Value) (t : List Int) (w : World) (h : IS w.heap.size w v t) :
    Calls Try.prog 81 #[v] w fun e w' => e = .returned (.bool (traceOKB t)) ∧ w = w' := by
  obtain ⟨A, c, rfl, hl, hm, hA⟩ := h
  unfold maxLen at hm
  have HA := Lib.hid hA
  clear hA
  by_cases hodd : t.length % 2 = 1
  case neg =>
    have hp : ((t.length : Int) % 2 != 1) = true := by rw [bne_iff_ne]; omega
    clear HA
    go_enter Try.func81, Try.ntmps81
    go_wp2
    go_ret
    exact ⟨ret_bool (traceOKB_false.2 fun h => hodd h.odd).symm, rfl⟩
  have hp : ((t.length : Int) % 2 != 1) = false := by rw [bne_eq_false_iff_eq]; omega
  have HO := Lib.hid hodd
  clear hodd
  by_cases h41 : t.length ≤ 41
  case neg =>
    clear HA
    go_enter Try.func81, Try.ntmps81
    go_wp2
    go_ret
    exact ⟨ret_bool (traceOKB_false.2 fun h => h41 h.len).symm, rfl⟩
  go_enter Try.func81, Try.ntmps81
  go_wp2
  go_loop [16] (fun i => ∃ k : Nat, k ≤ t.length ∧ i = .int .i64 k ∧ trTo t k) (fun i => t.length - (intOf i).toNat)
  case atStart => exact ⟨0, by omega, rfl, trTo_zero t⟩
  case round =>
    obtain ⟨k, hk, rfl, hr⟩ := hrel
    have HR := Lib.hid hr
    clear hr
    by_cases hlt : k < t.length
    · obtain ⟨b, o, rfl, hb, hc⟩ := HA.out (by omega)
      have hkc := hc k hlt
      have hki : (k : Int) < (t.length : Int) := by omega
      clear hc HA
      by_cases hpar : k % 2 = 0
      · have q0 : ((k : Int) % 2 == 0) = true := by rw [beq_iff_eq]; omega
        have q1 : ((k : Int) % 2 == 1) = false := by rw [beq_eq_false_iff_ne]; omega
        have HP := Lib.hid hpar
        clear hpar
        by_cases hv : 0 ≤ nth t k ∧ nth t k ≤ 3
        · have hB : inB (nth t k) 0 3 = true := inB_t hv
          have HV := Lib.hid hv
          clear hv
          go_wp2_with ((go_at_call 91; refine (isAtom_any _ _).mono ?_; rintro e w' ⟨rfl, rfl⟩))
          go_round
          case rel => exact ⟨k + 1, by omega, by go_num, trTo_succ HR.out ⟨fun _ => HV.out, fun e => absurd HP.out (by omega)⟩⟩
          case measure => simp [intOf]; omega
        · have hB : inB (nth t k) 0 3 = false := inB_f hv
          have HV := Lib.hid hv
          clear hv
          go_wp2_with ((go_at_call 91; refine (isAtom_any _ _).mono ?_; rintro e w' ⟨rfl, rfl⟩))
          go_ret
          exact ⟨ret_bool (traceOKB_false.2 fun h => HV.out ((h.to k hlt).1 HP.out)).symm, rfl⟩
      · have q0 : ((k : Int) % 2 == 0) = false := by rw [beq_eq_false_iff_ne]; omega
        have q1 : ((k : Int) % 2 == 1) = true := by rw [beq_iff_eq]; omega
        have HP := Lib.hid (show k % 2 = 1 by omega)
        clear hpar
        by_cases hv : 16 ≤ nth t k ∧ nth t k ≤ 18
        · have hB : inB (nth t k) 16 18 = true := inB_t hv
          have HV := Lib.hid hv
          clear hv
          go_wp2_with ((go_at_call 92; refine (isAct_any _ _).mono ?_; rintro e w' ⟨rfl, rfl⟩))
          go_round
          case rel => exact ⟨k + 1, by omega, by go_num, trTo_succ HR.out ⟨fun e => absurd HP.out (by omega), fun _ => HV.out⟩⟩
          case measure => simp [intOf]; omega
        · have hB : inB (nth t k) 16 18 = false := inB_f hv
          have HV := Lib.hid hv
          clear hv
          go_wp2_with ((go_at_call 92; refine (isAct_any _ _).mono ?_; rintro e w' ⟨rfl, rfl⟩))
          go_ret
          exact ⟨ret_bool (traceOKB_false.2 fun h => HV.out ((h.to k hlt).2 HP.out)).symm, rfl⟩
    · obtain rfl : k = t.length := by omega
      go_wp2
      go_ret
      exact ⟨ret_bool (traceOKB_true.2 (TraceOK.of HO.out h41 HR.out)).symm, rfl⟩

end Go.Proofs.Ytljoonlcpiagjaa

namespace Go.Proofs.Ytljoonlcpiagjaa
set_option linter.unusedSimpArgs false
set_option linter.unusedVariables false
set_option maxRecDepth 8000
set_option maxHeartbeats 2000000
open Go.RowKit

set_option maxHeartbeats 1000000 in
theorem specAutoRun (v0 v1 vt : Value) (D : AutoD) (t : List Int) (w : World) (h0 : IS w.heap.size w v0 D.ends) (h1 : ISS w.heap.size w v1 D.next) (ht : IS w.heap.size w vt t) :
    Calls Try.prog 31 #[.agg #[v0, v1], vt] w fun e w' => e = .returned (.bool (runB D t)) ∧ Below w.heap.size w w' := by
  by_cases hok : AutoOK D
  case neg =>
    have hB := autoOKB_false.2 hok
    obtain ⟨W, hW, hbW, hsW, x0, x1, -⟩ := box2 w v0 v1 26
    go_enter Try.func31, Try.ntmps31
    go_wp2_with fail
    clear hW
    refine (specAutoValid _ _ D _ ((h0.below hbW).mono (by omega)) ((h1.below hbW).mono (by omega))).mono ?_
    rintro e w1 ⟨rfl, hb1⟩
    go_wp2
    go_ret
    exact ⟨ret_bool (if_neg (fun h => hok h.1)).symm, hbW.trans (hb1.mono (by omega))⟩
  have hB := autoOKB_true.2 hok
  by_cases htr : TraceOK t
  case neg =>
    have hT := traceOKB_false.2 htr
    obtain ⟨W, hW, hbW, hsW, x0, x1, -⟩ := box2 w v0 v1 26
    go_enter Try.func31, Try.ntmps31
    go_wp2_with fail
    clear hW
    refine (specAutoValid _ _ D _ ((h0.below hbW).mono (by omega)) ((h1.below hbW).mono (by omega))).mono ?_
    rintro e w1 ⟨rfl, hb1⟩
    have hz1 := hb1.size
    have hbw1 : Below w.heap.size w w1 := hbW.trans (hb1.mono (by omega))
    go_wp2_with (go_at_call 32; refine (specTraceValid _ t _ ((ht.below hbw1).mono (by omega))).mono ?_; rintro e w' ⟨rfl, rfl⟩)
    go_ret
    exact ⟨ret_bool (if_neg (fun h => htr h.2)).symm, hbw1⟩
  have hT := traceOKB_true.2 htr
  have hR : runB D t = runF D t := if_pos ⟨hok, htr⟩
  have HRB := Lib.hid hR
  clear hR
  have hodd := htr.odd
  have hlen := htr.len
  obtain ⟨A, c, rfl, hl, hm, hA⟩ := id ht
  unfold maxLen at hm
  obtain ⟨bt, ot, rfl, hbt, hct⟩ := hA (by omega)
  have HT := Lib.hid hct
  have HODD := Lib.hid hodd
  clear hct hA hodd
  obtain ⟨W, hW, hbW, hsW, x0, x1, -⟩ := box2 w v0 v1 26
  go_enter Try.func31, Try.ntmps31
  go_wp2_with fail
  clear hW
  refine (specAutoValid _ _ D _ ((h0.below hbW).mono (by omega)) ((h1.below hbW).mono (by omega))).mono ?_
  rintro e w1 ⟨rfl, hb1⟩
  have hz1 := hb1.size
  have hbw1 : Below w.heap.size w w1 := hbW.trans (hb1.mono (by omega))
  replace x0 := below_at hb1 (by omega) x0
  replace x1 := below_at hb1 (by omega) x1
  go_wp2_with (go_at_call 32; refine (specTraceValid _ t _ ((ht.below hbw1).mono (by omega))).mono ?_; rintro e w' ⟨rfl, rfl⟩)
  clear hB hT
  have HX := Lib.hid (And.intro hbw1 (And.intro x0 x1))
  clear hbw1 x0 x1 hb1 hbW
  go_loopw [5, 6] (fun x i wr => ∃ j a : Nat, Hid (a = 2 * j) ∧ a < t.length ∧ i = .int .i64 a ∧ x = .int .i64 ((runT D t j : Nat) : Int) ∧ Below (w.heap.size + 1) w1 wr) (fun _ i _ => t.length - (intOf i).toNat)
  case atStart => exact ⟨0, 0, rfl, by have := HODD.out; omega, rfl, rfl, Below.refl _ _⟩
  case round =>
    obtain ⟨j, a, Ha, hal, rfl, rfl, hb⟩ := hrel
    have hzr := hb.size
    have hrl := runT_lt hok htr j (by have := Ha.out; omega)
    have hr20 : runT D t j < 1048576 := by have := hok.pow_le; omega
    clear hrl
    have x0 := below_at hb (by omega) HX.out.2.1
    have x1 := below_at hb (by omega) HX.out.2.2
    have hbw : Below w.heap.size w wr := HX.out.1.trans (hb.mono (by omega))
    have HB := Lib.hid (And.intro hbw hb)
    have hszr : w.heap.size < wr.heap.size := by omega
    by_cases hlt : a + 1 < t.length
    · have hai : (a : Int) + 1 < (t.length : Int) := by omega
      have s1 : IntKind.i64.wrap ((a : Int) + 1) = (a : Int) + 1 := IntWalk.i64_in _ (by omega)
      have s2 : (0 : Int) ≤ (a : Int) + 1 := by omega
      have s3 : ((a : Int) + 1).toNat = a + 1 := by omega
      have hmv := htr.mv (j := j) (by have := Ha.out; omega)
      have hb1 := htr.atoms j (by have := Ha.out; omega)
      have hb2 := htr.acts j (by have := Ha.out; omega)
      rw [← Ha.out] at hmv hb1 hb2
      obtain ⟨hmv, hm12⟩ := hmv
      obtain ⟨hp1, hp2⟩ := hb1
      obtain ⟨hq1, hq2⟩ := hb2
      have HM := Lib.hid hmv
      have hmw : IntKind.i64.wrap (IntKind.i64.wrap (IntKind.i64.wrap (3 * nth t a) + nth t (a + 1)) - 16) = (mvN t j : Int) := by
        rw [IntWalk.i64_in (3 * nth t a) (by omega), IntWalk.i64_in (3 * nth t a + nth t (a + 1)) (by omega), IntWalk.i64_in _ (by omega), hmv]
      have HMW := Lib.hid hmw
      clear hmw hmv
      have hc1 := below_at hbw hbt (HT.out a hal)
      have hc2 := below_at hbw hbt (HT.out (a + 1) hlt)
      clear hbw hb
      go_wp2_with fail
      go_region_held3 (fun w' => w'.cell? ⟨w.heap.size, 0, none⟩ = some v0 ∧ w'.cell? ⟨w.heap.size, 1, none⟩ = some v1 ∧ w'.cell? ⟨bt, ot + a, none⟩ = some (.int .i64 (nth t a)) ∧ w'.cell? ⟨bt, ot + (a + 1), none⟩ = some (.int .i64 (nth t (a + 1)))) (go_keep)
        (first
          | (go_at_call 88
             rw [HMW.out]
             refine (l5Step_any _ _ D (runT D t j) (mvN t j) _ hok ((h0.below HB.out.1.drew).mono (by show _ ≤ wr.heap.size; omega)) ((h1.below HB.out.1.drew).mono (by show _ ≤ wr.heap.size; omega)) hr20 hm12).mono ?_
             rintro e w3 ⟨rfl, hb3⟩
             have hb3' : Below wr.heap.size wr w3 := (Below.refl _ _).drew.trans hb3
             replace x0 := below_at hb3' (by omega) x0
             replace x1 := below_at hb3' (by omega) x1
             replace hc1 := below_at hb3' (by omega) hc1
             replace hc2 := below_at hb3' (by omega) hc2
             have H3 := Lib.hid (HB.out.2.trans (hb3'.mono (by omega)))
             clear hb3 hb3'))
      go_wp2
      go_roundw
      case rel => exact ⟨j + 1, a + 2, by have := Ha.out; show a + 2 = 2 * (j + 1); omega, by have := Ha.out; have := HODD.out; omega, by go_num, rfl, H3.out⟩
      case measure => simp [intOf]; omega
    · have hai : ¬ (a : Int) + 1 < (t.length : Int) := by omega
      have hj : j = t.length / 2 := by have := Ha.out; have := HODD.out; omega
      have hla := htr.atoms j (by have := Ha.out; omega)
      have h2j : 2 * j = t.length - 1 := by have := Ha.out; have := HODD.out; omega
      rw [h2j] at hla
      obtain ⟨z, hz⟩ : ∃ z : Nat, t.length - 1 = z := ⟨_, rfl⟩
      have hc1 := below_at hbw hbt (HT.out z (by omega))
      rw [hz] at hla
      obtain ⟨q, hq⟩ : ∃ q : Nat, nth t z = q := ⟨(nth t z).toNat, by omega⟩
      have hq4 : q ≤ 3 := by omega
      rw [hq] at hc1
      have hF : runF D t = (endF D (runT D t j)).testBit q := by unfold runF; rw [hz, hq, Int.toNat_natCast, hj]
      have HF := Lib.hid hF
      have hel := hok.endF_lt (runT D t j)
      have s1 : IntKind.i64.wrap ((t.length : Int) - 1) = (z : Int) := by rw [IntWalk.i64_in _ (by omega)]; omega
      have hlen2 : (z : Int) < (t.length : Int) := by omega
      clear hF hq hla hj h2j hbw hb hz
      go_wp2_with fail
      go_region_held3 (fun w' => w'.cell? ⟨w.heap.size, 0, none⟩ = some v0 ∧ w'.cell? ⟨w.heap.size, 1, none⟩ = some v1 ∧ w'.cell? ⟨bt, ot + z, none⟩ = some (.int .i64 q)) (go_keep)
        (first
          | (go_at_call 89
             refine (l5Ends_any _ _ D (runT D t j) _ hok ((h0.below HB.out.1.drew).mono (by show _ ≤ wr.heap.size; omega)) ((h1.below HB.out.1.drew).mono (by show _ ≤ wr.heap.size; omega)) hr20).mono ?_
             rintro e w3 ⟨rfl, hb3⟩
             have hb3' : Below wr.heap.size wr w3 := (Below.refl _ _).drew.trans hb3
             replace x0 := below_at hb3' (by omega) x0
             replace x1 := below_at hb3' (by omega) x1
             replace hc1 := below_at hb3' (by omega) hc1
             have H3 := Lib.hid (HB.out.1.trans (hb3'.mono (by omega)))
             clear hb3 hb3')
          | (go_at_call 74
             refine (l1Bit_any (endF D (runT D t j)) q (by omega) _).mono ?_
             rintro e w' ⟨rfl, rfl⟩))
      cases hbit : (endF D (runT D t j)).testBit q
      · have hb0 := bitN_f hbit
        rw [hbit] at HF
        clear hbit
        go_wp2
        go_ret
        exact ⟨ret_bool (by rw [HRB.out, HF.out]; first | rfl | (rw [hb0]; rfl)), H3.out⟩
      · have hb0 := bitN_t hbit
        rw [hbit] at HF
        clear hbit
        go_wp2
        go_ret
        exact ⟨ret_bool (by rw [HRB.out, HF.out]; first | rfl | (rw [hb0]; rfl)), H3.out⟩

set_option maxHeartbeats 1000000 in
theorem implAutoRun (v0 v1 vt : Value) (D : AutoD) (t : List Int) (w : World) (h0 : IS w.heap.size w v0 D.ends) (h1 : ISS w.heap.size w v1 D.next) (ht : IS w.heap.size w vt t) :
    Calls Try.prog 23 #[.agg #[v0, v1], vt] w fun e w' => e = .returned (.bool (runB D t)) ∧ Below w.heap.size w w' := by
  by_cases hok : AutoOK D
  case neg =>
    have hB := autoOKB_false.2 hok
    obtain ⟨W, hW, hbW, hsW, x0, x1, -⟩ := box2 w v0 v1 26
    go_enter Try.func23, Try.ntmps23
    go_wp2_with fail
    clear hW
    refine (implAutoValid _ _ D _ ((h0.below hbW).mono (by omega)) ((h1.below hbW).mono (by omega))).mono ?_
    rintro e w1 ⟨rfl, hb1⟩
    go_wp2
    go_ret
    exact ⟨ret_bool (if_neg (fun h => hok h.1)).symm, hbW.trans (hb1.mono (by omega))⟩
  have hB := autoOKB_true.2 hok
  by_cases htr : TraceOK t
  case neg =>
    have hT := traceOKB_false.2 htr
    obtain ⟨W, hW, hbW, hsW, x0, x1, -⟩ := box2 w v0 v1 26
    go_enter Try.func23, Try.ntmps23
    go_wp2_with fail
    clear hW
    refine (implAutoValid _ _ D _ ((h0.below hbW).mono (by omega)) ((h1.below hbW).mono (by omega))).mono ?_
    rintro e w1 ⟨rfl, hb1⟩
    have hz1 := hb1.size
    have hbw1 : Below w.heap.size w w1 := hbW.trans (hb1.mono (by omega))
    go_wp2_with (go_at_call 81; refine (implTraceValid _ t _ ((ht.below hbw1).mono (by omega))).mono ?_; rintro e w' ⟨rfl, rfl⟩)
    go_ret
    exact ⟨ret_bool (if_neg (fun h => htr h.2)).symm, hbw1⟩
  have hT := traceOKB_true.2 htr
  have hR : runB D t = runF D t := if_pos ⟨hok, htr⟩
  have HRB := Lib.hid hR
  clear hR
  have hodd := htr.odd
  have hlen := htr.len
  obtain ⟨A, c, rfl, hl, hm, hA⟩ := id ht
  unfold maxLen at hm
  obtain ⟨bt, ot, rfl, hbt, hct⟩ := hA (by omega)
  have HT := Lib.hid hct
  have HODD := Lib.hid hodd
  clear hct hA hodd
  obtain ⟨W, hW, hbW, hsW, x0, x1, -⟩ := box2 w v0 v1 26
  go_enter Try.func23, Try.ntmps23
  go_wp2_with fail
  clear hW
  refine (implAutoValid _ _ D _ ((h0.below hbW).mono (by omega)) ((h1.below hbW).mono (by omega))).mono ?_
  rintro e w1 ⟨rfl, hb1⟩
  have hz1 := hb1.size
  have hbw1 : Below w.heap.size w w1 := hbW.trans (hb1.mono (by omega))
  replace x0 := below_at hb1 (by omega) x0
  replace x1 := below_at hb1 (by omega) x1
  go_wp2_with (go_at_call 81; refine (implTraceValid _ t _ ((ht.below hbw1).mono (by omega))).mono ?_; rintro e w' ⟨rfl, rfl⟩)
  clear hB hT
  have HX := Lib.hid (And.intro hbw1 (And.intro x0 x1))
  clear hbw1 x0 x1 hb1 hbW
  go_loopw [5, 6] (fun x i wr => ∃ j a : Nat, Hid (a = 2 * j) ∧ a < t.length ∧ i = .int .i64 a ∧ x = .int .i64 ((runT D t j : Nat) : Int) ∧ Below (w.heap.size + 1) w1 wr) (fun _ i _ => t.length - (intOf i).toNat)
  case atStart => exact ⟨0, 0, rfl, by have := HODD.out; omega, rfl, rfl, Below.refl _ _⟩
  case round =>
    obtain ⟨j, a, Ha, hal, rfl, rfl, hb⟩ := hrel
    have hzr := hb.size
    have hrl := runT_lt hok htr j (by have := Ha.out; omega)
    have hr20 : runT D t j < 1048576 := by have := hok.pow_le; omega
    clear hrl
    have x0 := below_at hb (by omega) HX.out.2.1
    have x1 := below_at hb (by omega) HX.out.2.2
    have hbw : Below w.heap.size w wr := HX.out.1.trans (hb.mono (by omega))
    have HB := Lib.hid (And.intro hbw hb)
    have hszr : w.heap.size < wr.heap.size := by omega
    by_cases hlt : a + 1 < t.length
    · have hai : (a : Int) + 1 < (t.length : Int) := by omega
      have s1 : IntKind.i64.wrap ((a : Int) + 1) = (a : Int) + 1 := IntWalk.i64_in _ (by omega)
      have s2 : (0 : Int) ≤ (a : Int) + 1 := by omega
      have s3 : ((a : Int) + 1).toNat = a + 1 := by omega
      have hmv := htr.mv (j := j) (by have := Ha.out; omega)
      have hb1 := htr.atoms j (by have := Ha.out; omega)
      have hb2 := htr.acts j (by have := Ha.out; omega)
      rw [← Ha.out] at hmv hb1 hb2
      obtain ⟨hmv, hm12⟩ := hmv
      obtain ⟨hp1, hp2⟩ := hb1
      obtain ⟨hq1, hq2⟩ := hb2
      have HM := Lib.hid hmv
      have hmw : IntKind.i64.wrap (IntKind.i64.wrap (IntKind.i64.wrap (3 * nth t a) + nth t (a + 1)) - 16) = (mvN t j : Int) := by
        rw [IntWalk.i64_in (3 * nth t a) (by omega), IntWalk.i64_in (3 * nth t a + nth t (a + 1)) (by omega), IntWalk.i64_in _ (by omega), hmv]
      have HMW := Lib.hid hmw
      clear hmw hmv
      have hc1 := below_at hbw hbt (HT.out a hal)
      have hc2 := below_at hbw hbt (HT.out (a + 1) hlt)
      clear hbw hb
      go_wp2_with fail
      go_region_held3 (fun w' => w'.cell? ⟨w.heap.size, 0, none⟩ = some v0 ∧ w'.cell? ⟨w.heap.size, 1, none⟩ = some v1 ∧ w'.cell? ⟨bt, ot + a, none⟩ = some (.int .i64 (nth t a)) ∧ w'.cell? ⟨bt, ot + (a + 1), none⟩ = some (.int .i64 (nth t (a + 1)))) (go_keep)
        (first
          | (go_at_call 83
             refine (move_any _ _ hp1 hp2 hq1 hq2 _).mono ?_
             rw [HM.out]
             rintro e w' ⟨rfl, rfl⟩)
          | (go_at_call 82
             refine (behindSet_any _ _ D (runT D t j) (mvN t j) _ hok ((h0.below HB.out.1.drew).mono (by show _ ≤ wr.heap.size; omega)) ((h1.below HB.out.1.drew).mono (by show _ ≤ wr.heap.size; omega)) hr20 hm12).mono ?_
             rintro e w3 ⟨rfl, hb3⟩
             have hb3' : Below wr.heap.size wr w3 := (Below.refl _ _).drew.trans hb3
             replace x0 := below_at hb3' (by omega) x0
             replace x1 := below_at hb3' (by omega) x1
             replace hc1 := below_at hb3' (by omega) hc1
             replace hc2 := below_at hb3' (by omega) hc2
             have H3 := Lib.hid (HB.out.2.trans (hb3'.mono (by omega)))
             clear hb3 hb3'))
      go_wp2
      go_roundw
      case rel => exact ⟨j + 1, a + 2, by have := Ha.out; show a + 2 = 2 * (j + 1); omega, by have := Ha.out; have := HODD.out; omega, by go_num, rfl, H3.out⟩
      case measure => simp [intOf]; omega
    · have hai : ¬ (a : Int) + 1 < (t.length : Int) := by omega
      have hj : j = t.length / 2 := by have := Ha.out; have := HODD.out; omega
      have hla := htr.atoms j (by have := Ha.out; omega)
      have h2j : 2 * j = t.length - 1 := by have := Ha.out; have := HODD.out; omega
      rw [h2j] at hla
      obtain ⟨z, hz⟩ : ∃ z : Nat, t.length - 1 = z := ⟨_, rfl⟩
      have hc1 := below_at hbw hbt (HT.out z (by omega))
      rw [hz] at hla
      obtain ⟨q, hq⟩ : ∃ q : Nat, nth t z = q := ⟨(nth t z).toNat, by omega⟩
      have hq4 : q ≤ 3 := by omega
      rw [hq] at hc1
      have hF : runF D t = (endF D (runT D t j)).testBit q := by unfold runF; rw [hz, hq, Int.toNat_natCast, hj]
      have HF := Lib.hid hF
      have hel := hok.endF_lt (runT D t j)
      have s1 : IntKind.i64.wrap ((t.length : Int) - 1) = (z : Int) := by rw [IntWalk.i64_in _ (by omega)]; omega
      have hlen2 : (z : Int) < (t.length : Int) := by omega
      clear hF hq hla hj h2j hbw hb hz
      go_wp2_with fail
      go_region_held3 (fun w' => w'.cell? ⟨w.heap.size, 0, none⟩ = some v0 ∧ w'.cell? ⟨w.heap.size, 1, none⟩ = some v1 ∧ w'.cell? ⟨bt, ot + z, none⟩ = some (.int .i64 q)) (go_keep)
        (first
          | (go_at_call 85
             refine (endsOf_any _ _ D (runT D t j) _ hok ((h0.below HB.out.1.drew).mono (by show _ ≤ wr.heap.size; omega)) ((h1.below HB.out.1.drew).mono (by show _ ≤ wr.heap.size; omega)) hr20).mono ?_
             rintro e w3 ⟨rfl, hb3⟩
             have hb3' : Below wr.heap.size wr w3 := (Below.refl _ _).drew.trans hb3
             replace x0 := below_at hb3' (by omega) x0
             replace x1 := below_at hb3' (by omega) x1
             replace hc1 := below_at hb3' (by omega) hc1
             have H3 := Lib.hid (HB.out.1.trans (hb3'.mono (by omega)))
             clear hb3 hb3')
          | (go_at_call 84
             refine (holds_any (endF D (runT D t j)) q (by omega) (by omega) _).mono ?_
             rintro e w' ⟨rfl, rfl⟩))
      go_wp2
      go_ret
      exact ⟨ret_bool (by rw [HRB.out, HF.out]), H3.out⟩

end Go.Proofs.Ytljoonlcpiagjaa
