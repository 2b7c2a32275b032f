/- What AutoValid returns, of the program and of the reference: one contract each, at every argument that reads as an automaton. -/
import Derived.Test.YtcpfflnhbcbmnaaChecked
import Derived.Test.YtcpfflnhbcbmnaaGrpA
import Derived.WalkSmall
namespace Go.Proofs.Ytcpfflnhbcbmnaa
set_option linter.unusedSimpArgs false
set_option linter.unusedVariables false
set_option maxRecDepth 8000
set_option maxHeartbeats 2000000
open Go.RowKit

def inB (n lo hi : Int) : Bool := decide (lo ≤ n ∧ n ≤ hi)
theorem inB_t {n lo hi : Int} (h : lo ≤ n ∧ n ≤ hi) : inB n lo hi = true := by simp [inB, h]
theorem inB_f {n lo hi : Int} (h : ¬ (lo ≤ n ∧ n ≤ hi)) : inB n lo hi = false := by simp only [inB, h, decide_false]
theorem inB_iff {n lo hi : Int} : inB n lo hi = true ↔ lo ≤ n ∧ n ≤ hi := by simp [inB]

theorem l1In_any (n lo hi : Int) (w : World) :
    Calls Try.prog 81 #[.int .i64 n, .int .i64 lo, .int .i64 hi] w fun e w' => e = .returned (.bool (inB n lo hi)) ∧ w = w' := by
  by_cases h1 : lo ≤ n <;> by_cases h2 : n ≤ hi <;>
  (go_enter Try.func81, Try.ntmps81
   go_wp2
   go_ret
   exact ⟨ret_bool (by simp [inB, *]), rfl⟩)

theorem specTestValid_any (n : Int) (w : World) :
    Calls Try.prog 65 #[.int .i64 n] w fun e w' => e = .returned (.bool (inB n 0 15)) ∧ w = w' := by
  go_enter Try.func65, Try.ntmps65
  go_wp2_with (go_at_call 81; refine (l1In_any _ _ _ _).mono ?_; rintro e w' ⟨rfl, rfl⟩)
  go_ret
  exact ⟨rfl, rfl⟩

theorem implTestValid_any (n : Int) (w : World) :
    Calls Try.prog 36 #[.int .i64 n] w fun e w' => e = .returned (.bool (inB n 0 15)) ∧ w = w' := by
  by_cases h1 : 0 ≤ n <;> by_cases h2 : n ≤ 15 <;>
  (go_enter Try.func36, Try.ntmps36
   go_wp2
   go_ret
   exact ⟨ret_bool (by simp [inB, *]), rfl⟩)


def okTo (D : AutoD) (k : Nat) : Prop := ∀ i, i < k → (0 ≤ nth D.ends i ∧ nth D.ends i ≤ 15) ∧ (nthL D.next i).length = 12 ∧ ∀ j, j < 12 → 0 ≤ nth (nthL D.next i) j ∧ nth (nthL D.next i) j ≤ 2 ^ D.ends.length - 1
def setsTo (D : AutoD) (k m : Nat) : Prop := ∀ j, j < m → 0 ≤ nth (nthL D.next k) j ∧ nth (nthL D.next k) j ≤ 2 ^ D.ends.length - 1
theorem okTo_zero (D : AutoD) : okTo D 0 := fun _ h => absurd h (by omega)
theorem setsTo_zero (D : AutoD) (k : Nat) : setsTo D k 0 := fun _ h => absurd h (by omega)
theorem setsTo_succ {D : AutoD} {k m : Nat} (h : setsTo D k m) (h1 : 0 ≤ nth (nthL D.next k) m ∧ nth (nthL D.next k) m ≤ 2 ^ D.ends.length - 1) : setsTo D k (m + 1) := fun j hj => by
  by_cases e : j = m
  · subst e; exact h1
  · exact h j (by omega)
theorem okTo_succ {D : AutoD} {k : Nat} (h : okTo D k) (h1 : 0 ≤ nth D.ends k ∧ nth D.ends k ≤ 15) (h2 : (nthL D.next k).length = 12) (h3 : setsTo D k 12) : okTo D (k + 1) := fun j hj => by
  by_cases e : j = k
  · subst e; exact ⟨h1, h2, h3⟩
  · exact h j (by omega)
theorem okTo_all {D : AutoD} (hlo : 1 ≤ D.ends.length) (hhi : D.ends.length ≤ 10) (hn : D.next.length = D.ends.length) (h : okTo D D.ends.length) : autoOKB D = true :=
  autoOKB_true.2 ⟨hlo, hhi, hn, fun k hk => (h k hk).1, fun k hk => (h k hk).2.1, fun k hk => (h k hk).2.2⟩

set_option maxHeartbeats 400000 in
theorem specAutoValid (v0 v1 : Value) (D : AutoD) (w : World) (h0 : IS w.heap.size w v0 D.ends) (h1 : ISS w.heap.size w v1 D.next) :
    Calls Try.prog 30 #[.agg #[v0, v1]] w fun e w' => e = .returned (.bool (autoOKB D)) ∧ Below w.heap.size w w' := by
  obtain ⟨A0, c0, rfl, hl0, hm0, hA0⟩ := h0
  obtain ⟨A1, c1, rfl, hl1, hm1, hA1⟩ := h1
  unfold maxLen at hm0 hm1
  by_cases hlo : 1 ≤ D.ends.length ∧ D.ends.length ≤ 10
  case neg =>
    have hB : inB (D.ends.length : Int) 1 10 = false := inB_f (by omega)
    go_enter Try.func30, Try.ntmps30
    go_wp2_with (go_at_call 81; refine (l1In_any _ _ _ _).mono ?_; rintro e w' ⟨rfl, rfl⟩)
    go_ret
    exact ⟨ret_bool (autoOKB_false.2 fun h => hlo ⟨h.lo, h.hi⟩).symm, (Below.refl _ _).alloc (Nat.le_refl _) _⟩
  obtain ⟨hlo, hhi⟩ := hlo
  have hB : inB (D.ends.length : Int) 1 10 = true := inB_t (by omega)
  by_cases hn : D.next.length = D.ends.length
  case neg =>
    have hne : ((D.next.length : Int) != (D.ends.length : Int)) = true := by rw [bne_iff_ne]; omega
    go_enter Try.func30, Try.ntmps30
    go_wp2_with (go_at_call 81; refine (l1In_any _ _ _ _).mono ?_; rintro e w' ⟨rfl, rfl⟩)
    go_ret
    exact ⟨ret_bool (autoOKB_false.2 fun h => hn h.len).symm, (Below.refl _ _).alloc (Nat.le_refl _) _⟩
  have hne : ((D.next.length : Int) != (D.ends.length : Int)) = false := by rw [bne_eq_false_iff_eq]; omega
  obtain ⟨b0, o0, rfl, hb0, hc0⟩ := hA0 (by omega)
  obtain ⟨b1, o1, rfl, hb1, hc1⟩ := hA1 (by omega)
  have HC0 := Lib.hid hc0
  have HC1 := Lib.hid hc1
  have HN := Lib.hid hn
  clear hc0 hc1 hA0 hA1 hn
  go_enter Try.func30, Try.ntmps30
  go_wp2_with (go_at_call 81; refine (l1In_any _ _ _ _).mono ?_; rintro e w' ⟨rfl, rfl⟩)
  clear hB hne
  obtain ⟨W, hW, hbW, hsW, x0, x1, -⟩ := box2 w (.slice (some ⟨b0, o0, none⟩) D.ends.length c0) (.slice (some ⟨b1, o1, none⟩) D.next.length c1) 37
  rw [hW]
  have hszW : w.heap.size + 1 ≤ W.heap.size := by omega
  clear hW hsW
  have HX := Lib.hid (And.intro hbW (And.intro x0 x1))
  clear hbW x0 x1
  go_loopw [4] (fun i wr => ∃ k : Nat, k ≤ D.ends.length ∧ i = .int .i64 k ∧ Below (w.heap.size + 1) W wr ∧ okTo D k)
    (fun i _ => D.ends.length - (intOf i).toNat)
  case atStart => exact ⟨0, Nat.zero_le _, rfl, Below.refl _ _, okTo_zero D⟩
  case round =>
    obtain ⟨k, hk, rfl, hb, hok⟩ := hrel
    have hbw : Below w.heap.size w wr := HX.out.1.trans (hb.mono (by omega))
    by_cases hlt : k < D.ends.length
    · have hkc := below_at hbw hb0 (HC0.out k hlt)
      obtain ⟨u, hkr, hi⟩ := HC1.out k (by have := HN.out; omega)
      replace hkr := below_at hbw hb1 hkr
      replace hi := hi.below hbw
      have x0 := below_at hb (by omega) HX.out.2.1
      have x1 := below_at hb (by omega) HX.out.2.2
      obtain ⟨Ar, cr, rfl, hlr, hmr, hAr⟩ := hi
      have hk1 : (k : Int) < (D.next.length : Int) := by have := HN.out; omega
      by_cases hv : 0 ≤ nth D.ends k ∧ nth D.ends k ≤ 15
      case neg =>
        have hB : inB (nth D.ends k) 0 15 = false := inB_f hv
        go_wp2_with (go_at_call 65; refine (specTestValid_any _ _).mono ?_; rintro e w' ⟨rfl, rfl⟩)
        go_ret
        exact ⟨ret_bool (autoOKB_false.2 fun h => hv (h.ends k hlt)).symm, hbw⟩
      have hB : inB (nth D.ends k) 0 15 = true := inB_t hv
      by_cases hr : (nthL D.next k).length = 12
      case neg =>
        have hne : (((nthL D.next k).length : Int) != 12) = true := by rw [bne_iff_ne]; omega
        go_wp2_with (go_at_call 65; refine (specTestValid_any _ _).mono ?_; rintro e w' ⟨rfl, rfl⟩)
        go_ret
        exact ⟨ret_bool (autoOKB_false.2 fun h => hr (h.rows k hlt)).symm, hbw⟩
      have hne : (((nthL D.next k).length : Int) != 12) = false := by rw [bne_eq_false_iff_eq]; omega
      obtain ⟨br, or, rfl, hbr, hcr⟩ := hAr (by omega)
      have HCR := Lib.hid hcr
      have HR := Lib.hid hr
      clear hcr hAr hr
      have hrr : 12 ≤ (nthL D.next k).length := by have := HR.out; omega
      go_wp2_with (go_at_call 65; refine (specTestValid_any _ _).mono ?_; rintro e w' ⟨rfl, rfl⟩)
      have HK := Lib.hid (And.intro hkc (And.intro hkr (And.intro x0 x1)))
      clear hne hB hkc hkr x0 x1
      obtain ⟨wo, rfl⟩ : ∃ wo : World, wo = wr := ⟨_, rfl⟩
      go_loopw [5] (fun i wr => ∃ j : Nat, j ≤ 12 ∧ i = .int .i64 j ∧ Below (w.heap.size + 1) wo wr ∧ setsTo D k j)
        (fun i _ => 12 - (intOf i).toNat)
      case atStart => exact ⟨0, by omega, rfl, Below.refl _ _, setsTo_zero D k⟩
      case round =>
        obtain ⟨j, hj, rfl, hb2, hs⟩ := hrel
        have hbw2 : Below w.heap.size wo wr := hb2.mono (by omega)
        by_cases hlt2 : j < 12
        · have hrc := below_at hbw2 hbr (HCR.out j (by omega))
          have hkr := below_at hbw2 hb1 HK.out.2.1
          have x1 := below_at hb2 (by omega) HK.out.2.2.2
          have hjr : (j : Int) < ((nthL D.next k).length : Int) := by omega
          have hp := shl_one D.ends.length hhi
          have hw1 : IntKind.i64.wrap (2 ^ D.ends.length) = 2 ^ D.ends.length := IntWalk.i64_in _ (by omega)
          have hw2 : IntKind.i64.wrap (2 ^ D.ends.length - 1) = 2 ^ D.ends.length - 1 := IntWalk.i64_in _ (by omega)
          by_cases hv2 : 0 ≤ nth (nthL D.next k) j ∧ nth (nthL D.next k) j ≤ 2 ^ D.ends.length - 1
          · have hB : inB (nth (nthL D.next k) j) 0 (2 ^ D.ends.length - 1) = true := inB_t hv2
            go_wp2_with fail
            go_quiet ((go_at_call 81; exact qsame (l1In_any _ _ _ _)))
            go_wp2
            go_roundw
            case rel => exact ⟨j + 1, by omega, by go_num, below_drewN hb2 _, setsTo_succ hs hv2⟩
            case measure => simp [intOf]; omega
          · have hB : inB (nth (nthL D.next k) j) 0 (2 ^ D.ends.length - 1) = false := inB_f hv2
            go_wp2_with fail
            go_quiet ((go_at_call 81; exact qsame (l1In_any _ _ _ _)))
            go_wp2
            go_ret
            exact ⟨ret_bool (autoOKB_false.2 fun h => hv2 (h.sets k hlt j hlt2)).symm, below_drewN (hbw.trans hbw2) _⟩
        · obtain rfl : j = 12 := by omega
          go_wp2_with fail
          go_roundw
          case rel => exact ⟨k + 1, by omega, by go_num, hb.trans hb2, okTo_succ hok hv HR.out hs⟩
          case measure => simp [intOf]; omega
    · obtain rfl : k = D.ends.length := by omega
      go_wp2_with fail
      go_ret
      exact ⟨ret_bool (okTo_all hlo hhi HN.out hok).symm, hbw⟩
set_option maxHeartbeats 400000 in
theorem implAutoValid (v0 v1 : Value) (D : AutoD) (w : World) (h0 : IS w.heap.size w v0 D.ends) (h1 : ISS w.heap.size w v1 D.next) :
    Calls Try.prog 29 #[.agg #[v0, v1]] w fun e w' => e = .returned (.bool (autoOKB D)) ∧ Below w.heap.size w w' := by
  obtain ⟨A0, c0, rfl, hl0, hm0, hA0⟩ := h0
  obtain ⟨A1, c1, rfl, hl1, hm1, hA1⟩ := h1
  unfold maxLen at hm0 hm1
  by_cases hlo : 1 ≤ D.ends.length ∧ D.ends.length ≤ 10
  case neg =>
    by_cases hlo1 : 1 ≤ D.ends.length
    all_goals
      go_enter Try.func29, Try.ntmps29
      go_wp2
      go_ret
      exact ⟨ret_bool (autoOKB_false.2 fun h => hlo ⟨h.lo, h.hi⟩).symm, (Below.refl _ _).alloc (Nat.le_refl _) _⟩
  obtain ⟨hlo, hhi⟩ := hlo
  by_cases hn : D.next.length = D.ends.length
  case neg =>
    have hne : ((D.next.length : Int) != (D.ends.length : Int)) = true := by rw [bne_iff_ne]; omega
    go_enter Try.func29, Try.ntmps29
    go_wp2
    go_ret
    exact ⟨ret_bool (autoOKB_false.2 fun h => hn h.len).symm, (Below.refl _ _).alloc (Nat.le_refl _) _⟩
  have hne : ((D.next.length : Int) != (D.ends.length : Int)) = false := by rw [bne_eq_false_iff_eq]; omega
  obtain ⟨b0, o0, rfl, hb0, hc0⟩ := hA0 (by omega)
  obtain ⟨b1, o1, rfl, hb1, hc1⟩ := hA1 (by omega)
  have HC0 := Lib.hid hc0
  have HC1 := Lib.hid hc1
  have HN := Lib.hid hn
  clear hc0 hc1 hA0 hA1 hn
  go_enter Try.func29, Try.ntmps29
  go_wp2
  clear hne
  obtain ⟨W, hW, hbW, hsW, x0, x1, -⟩ := box2 w (.slice (some ⟨b0, o0, none⟩) D.ends.length c0) (.slice (some ⟨b1, o1, none⟩) D.next.length c1) 37
  rw [hW]
  have hszW : w.heap.size + 1 ≤ W.heap.size := by omega
  clear hW hsW
  have HX := Lib.hid (And.intro hbW (And.intro x0 x1))
  have hkcs : ∀ k, k < D.ends.length → W.cell? ⟨b0, o0 + k, none⟩ = some (.int .i64 (nth D.ends k)) := fun k hk => below_at hbW hb0 (HC0.out k hk)
  have HK0 := Lib.hid hkcs
  clear hbW x0 x1 hkcs
  go_loop [24] (fun i => ∃ k : Nat, k ≤ D.ends.length ∧ i = .int .i64 k ∧ okTo D k)
    (fun i => D.ends.length - (intOf i).toNat)
  case atStart => exact ⟨0, Nat.zero_le _, rfl, okTo_zero D⟩
  case round =>
    obtain ⟨k, hk, rfl, hok⟩ := hrel
    have Hok := Lib.hid hok
    clear hok
    by_cases hlt : k < D.ends.length
    · have hkc := HK0.out k hlt
      obtain ⟨u, hkr, hi⟩ := HC1.out k (by have := HN.out; omega)
      replace hkr := below_at HX.out.1 hb1 hkr
      replace hi := hi.below HX.out.1
      obtain ⟨-, x0, x1⟩ := HX.out
      obtain ⟨Ar, cr, rfl, hlr, hmr, hAr⟩ := hi
      unfold maxLen at hmr
      have HAr := Lib.hid hAr
      clear hAr
      have hk1 : (k : Int) < (D.next.length : Int) := by have := HN.out; omega
      have hk2 : (k : Int) < (D.ends.length : Int) := by omega
      by_cases hv : 0 ≤ nth D.ends k ∧ nth D.ends k ≤ 15
      case neg =>
        have hB : inB (nth D.ends k) 0 15 = false := inB_f hv
        go_wp2_with ((go_at_call 36; refine (implTestValid_any _ _).mono ?_; rintro e w' ⟨rfl, rfl⟩))
        go_ret
        exact ⟨ret_bool (autoOKB_false.2 fun h => hv (h.ends k hlt)).symm, HX.out.1⟩
      have hB : inB (nth D.ends k) 0 15 = true := inB_t hv
      by_cases hr : (nthL D.next k).length = 12
      case neg =>
        have hne : (((nthL D.next k).length : Int) != 12) = true := by rw [bne_iff_ne]; omega
        go_wp2_with ((go_at_call 36; refine (implTestValid_any _ _).mono ?_; rintro e w' ⟨rfl, rfl⟩))
        go_ret
        exact ⟨ret_bool (autoOKB_false.2 fun h => hr (h.rows k hlt)).symm, HX.out.1⟩
      have hne : (((nthL D.next k).length : Int) != 12) = false := by rw [bne_eq_false_iff_eq]; omega
      obtain ⟨br, or, rfl, hbr, hcr⟩ := HAr.out (by omega)
      have HCR := Lib.hid hcr
      have HR := Lib.hid hr
      clear hcr hr
      have hrr : 12 ≤ (nthL D.next k).length := by have := HR.out; omega
      go_wp2_with ((go_at_call 36; refine (implTestValid_any _ _).mono ?_; rintro e w' ⟨rfl, rfl⟩))
      have HKK := Lib.hid (And.intro hkc (And.intro hkr (And.intro x0 x1)))
      clear hne hB hkc hkr x0 x1
      go_loop [49] (fun i => ∃ j : Nat, j ≤ (nthL D.next k).length ∧ i = .int .i64 j ∧ setsTo D k j)
        (fun i => (nthL D.next k).length - (intOf i).toNat)
      case atStart => exact ⟨0, by omega, rfl, setsTo_zero D k⟩
      case round =>
        obtain ⟨j, hj, rfl, hs⟩ := hrel
        have Hs := Lib.hid hs
        clear hs
        by_cases hlt2 : j < (nthL D.next k).length
        · have hrc := HCR.out j (by omega)
          have hjr : (j : Int) < ((nthL D.next k).length : Int) := by omega
          have hp := shl_one D.ends.length hhi
          have hw1 : IntKind.i64.wrap (2 ^ D.ends.length) = 2 ^ D.ends.length := IntWalk.i64_in _ (by omega)
          by_cases hv2 : 0 ≤ nth (nthL D.next k) j
          · by_cases hv3 : nth (nthL D.next k) j < 2 ^ D.ends.length
            · go_wp2
              go_round
              case rel => exact ⟨j + 1, by omega, by go_num, setsTo_succ Hs.out ⟨hv2, by omega⟩⟩
              case measure => simp [intOf]; omega
            · go_wp2
              go_ret
              exact ⟨ret_bool (autoOKB_false.2 fun h => by have := h.sets k hlt j (by have := HR.out; omega); omega).symm, HX.out.1⟩
          · go_wp2
            go_ret
            exact ⟨ret_bool (autoOKB_false.2 fun h => by have := h.sets k hlt j (by have := HR.out; omega); omega).symm, HX.out.1⟩
        · obtain rfl : j = (nthL D.next k).length := by omega
          go_wp2_with fail
          go_round
          case rel => exact ⟨k + 1, by omega, by go_num, okTo_succ Hok.out hv HR.out (by have := Hs.out; rw [HR.out] at this; exact this)⟩
          case measure => simp [intOf]; omega
    · obtain rfl : k = D.ends.length := by omega
      go_wp2_with fail
      go_ret
      exact ⟨ret_bool (okTo_all hlo hhi HN.out Hok.out).symm, HX.out.1⟩

end Go.Proofs.Ytcpfflnhbcbmnaa
