/- What AutoReach returns, of the program and of the reference: one contract each, at every automaton. -/
import Derived.Test.YtcpfflnhbcbmnaaAutoF
import Derived.Test.YtcpfflnhbcbmnaaGrpC
namespace Go.Proofs.Ytcpfflnhbcbmnaa
set_option linter.unusedSimpArgs false
set_option linter.unusedVariables false
set_option maxRecDepth 8000
set_option maxHeartbeats 2000000
open Go.RowKit

open Classical in
noncomputable def reachI (D : AutoD) : Int := if AutoOK D then (reachF D : Int) else -1
theorem reachI_no {D : AutoD} (h : ¬ AutoOK D) : reachI D = -1 := if_neg h
theorem reachI_yes {D : AutoD} (h : AutoOK D) : reachI D = (reachF D : Int) := if_pos h
open Classical in
noncomputable def liveI (D : AutoD) : Int := if AutoOK D then (liveF D : Int) else -1
theorem liveI_no {D : AutoD} (h : ¬ AutoOK D) : liveI D = -1 := if_neg h
theorem liveI_yes {D : AutoD} (h : AutoOK D) : liveI D = (liveF D : Int) := if_pos h

set_option maxHeartbeats 1000000 in
theorem specAutoReach (v0 v1 : Value) (D : AutoD) (w : World) (h0 : IS w.heap.size w v0 D.ends) (h1 : ISS w.heap.size w v1 D.next) :
    Calls Try.prog 42 #[.agg #[v0, v1]] w fun e w' => e = .returned (.int .i64 (reachI D)) ∧ Below w.heap.size w w' := by
  by_cases hok : AutoOK D
  case neg =>
    have hB := autoOKB_false.2 hok
    obtain ⟨W, hW, hbW, hsW, x0, x1, -⟩ := box2 w v0 v1 37
    go_enter Try.func42, Try.ntmps42
    go_wp2_with fail
    clear hW
    refine (specAutoValid _ _ D _ ((h0.below hbW).mono (by omega)) ((h1.below hbW).mono (by omega))).mono ?_
    rintro e w1 ⟨rfl, hb1⟩
    go_wp2
    go_ret
    exact ⟨ret_int (reachI_no hok).symm, hbW.trans (hb1.mono (by omega))⟩
  have hB := autoOKB_true.2 hok
  obtain ⟨W, hW, hbW, hsW, x0, x1, -⟩ := box2 w v0 v1 37
  go_enter Try.func42, Try.ntmps42
  go_wp2_with fail
  clear hW
  refine (specAutoValid _ _ D _ ((h0.below hbW).mono (by omega)) ((h1.below hbW).mono (by omega))).mono ?_
  rintro e w1 ⟨rfl, hb1⟩
  have hz1 := hb1.size
  replace x0 := below_at hb1 (by omega) x0
  replace x1 := below_at hb1 (by omega) x1
  have hbw1 : Below w.heap.size w w1 := hbW.trans (hb1.mono (by omega))
  go_wp2_with fail
  have HX := Lib.hid (And.intro hbw1 (And.intro x0 x1))
  clear hbw1 x0 x1 hb1 hbW
  go_loopw [3] (fun x wr => ∃ s f : Nat, x = .int .i64 s ∧ s < 2 ^ D.ends.length ∧ rIter D f s = reachF D ∧ 1024 ≤ f + s ∧ Below (w.heap.size + 1) w1 wr) (fun x _ => 1024 - (intOf x).toNat)
  case atStart => exact ⟨1, 1024, rfl, two_le hok, rfl, by omega, Below.refl _ _⟩
  case round =>
    obtain ⟨s, f, rfl, hs, hf, hfs, hb⟩ := hrel
    have HF := Lib.hid (And.intro hf hfs)
    clear hf hfs
    have hpow := hok.pow_le
    have hsl : s < 1024 := by omega
    have hzr := hb.size
    have x0 := below_at hb (by omega) HX.out.2.1
    have x1 := below_at hb (by omega) HX.out.2.2
    have hbw : Below w.heap.size w wr := HX.out.1.trans (hb.mono (by omega))
    have HP := Lib.hid (And.intro hs hpow)
    clear hs hpow
    go_wp2_with fail
    obtain ⟨wo, rfl⟩ : ∃ wo : World, wo = wr := ⟨_, rfl⟩
    have HY := Lib.hid (And.intro hbw (And.intro x0 x1))
    clear hbw x0 x1
    go_loopw [4, 5] (fun x i wr => ∃ m : Nat, m ≤ 12 ∧ x = .int .i64 ((rT D s m : Nat) : Int) ∧ i = .int .i64 m ∧ Below (w.heap.size + 1) wo wr) (fun _ i _ => 12 - (intOf i).toNat)
    case atStart => exact ⟨0, by omega, rfl, rfl, Below.refl _ _⟩
    case round =>
      obtain ⟨m, hm, rfl, rfl, hb2⟩ := hrel
      have hzr2 := hb2.size
      have hbw2 : Below w.heap.size w wr := HY.out.1.trans (hb2.mono (by omega))
      have hrl := rT_lt hok HP.out.1 m hm
      have hr20 : rT D s m < 1048576 := by have := HP.out.2; omega
      clear hrl
      by_cases hlt : m < 12
      · have x0 := below_at hb2 (by omega) HY.out.2.1
        have x1 := below_at hb2 (by omega) HY.out.2.2
        have hbl := hok.behF_lt s hlt
        have hb20 : behF D s m < 1048576 := by have := HP.out.2; omega
        clear hbl
        have hor := bits_or (rT D s m) (behF D s m) (by omega) (by omega)
        go_wp2_with fail
        refine (l5Step_any _ _ D s m _ hok ((h0.below hbw2).mono (by omega)) ((h1.below hbw2).mono (by omega)) (by omega) hlt).mono ?_
        rintro e w3 ⟨rfl, hb3⟩
        go_wp2_with ((go_at_call 68; refine (l1Either_any _ _ hr20 hb20 _).mono ?_; rintro e w' ⟨rfl, rfl⟩))
        go_roundw
        case rel => exact ⟨m + 1, by omega, rfl, by go_num, hb2.trans (hb3.mono (by omega))⟩
        case measure => simp [intOf]; omega
      · obtain rfl : m = 12 := by omega
        have hsub := (rT_sub D s 12).le
        by_cases he : rT D s 12 = s
        · have heq : ((rT D s 12 : Int) == (s : Int)) = true := by rw [he]; exact beq_self_eq_true _
          have HE := Lib.hid he
          clear he
          go_wp2
          go_ret
          refine ⟨ret_int ?_, hbw2⟩
          have hf := HF.out
          rw [reachI_yes hok, Int.natCast_inj, ← hf.1]
          obtain ⟨f', rfl⟩ : ∃ f', f = f' + 1 := ⟨f - 1, by omega⟩
          unfold rIter
          rw [if_pos HE.out]
        · have heq : ((rT D s 12 : Int) == (s : Int)) = false := by rw [beq_eq_false_iff_ne]; omega
          have HE := Lib.hid he
          clear he
          go_wp2
          go_roundw
          case rel =>
            have hf := HF.out
            obtain ⟨f', rfl⟩ : ∃ f', f = f' + 1 := ⟨f - 1, by omega⟩
            have h1 := hf.1
            unfold rIter at h1
            rw [if_neg HE.out] at h1
            have := HE.out
            exact ⟨rT D s 12, f', rfl, rT_lt hok HP.out.1 12 (by omega), h1, by omega, hb.trans hb2⟩
          case measure => have := HE.out; simp [intOf]; omega

set_option maxHeartbeats 1000000 in
theorem reach_any (v0 v1 : Value) (D : AutoD) (w : World) (hok : AutoOK D) (h0 : IS w.heap.size w v0 D.ends) (h1 : ISS w.heap.size w v1 D.next) :
    Calls Try.prog 95 #[.agg #[v0, v1]] w fun e w' => e = .returned (.int .i64 ((reachF D : Nat) : Int)) ∧ Below w.heap.size w w' := by
  obtain ⟨W, hW, hbW, hsW, x0, x1, -⟩ := box2 w v0 v1 37
  go_enter Try.func95, Try.ntmps95
  go_wp2_with fail
  clear hW
  have HX := Lib.hid (And.intro hbW (And.intro x0 x1))
  clear hbW x0 x1
  go_loopw [3] (fun x wr => ∃ s f : Nat, x = .int .i64 s ∧ s < 2 ^ D.ends.length ∧ rIter D f s = reachF D ∧ 1024 ≤ f + s ∧ Below (w.heap.size + 1) W wr) (fun x _ => 1024 - (intOf x).toNat)
  case atStart => exact ⟨1, 1024, rfl, two_le hok, rfl, by omega, Below.refl _ _⟩
  case round =>
    obtain ⟨s, f, rfl, hs, hf, hfs, hb⟩ := hrel
    have HF := Lib.hid (And.intro hf hfs)
    clear hf hfs
    have hpow := hok.pow_le
    have hsl : s < 1024 := by omega
    have hzr := hb.size
    have x0 := below_at hb (by omega) HX.out.2.1
    have x1 := below_at hb (by omega) HX.out.2.2
    have hbw : Below w.heap.size w wr := HX.out.1.trans (hb.mono (by omega))
    have HP := Lib.hid (And.intro hs hpow)
    clear hs hpow
    go_wp2_with fail
    obtain ⟨wo, rfl⟩ : ∃ wo : World, wo = wr := ⟨_, rfl⟩
    have HY := Lib.hid (And.intro hbw (And.intro x0 x1))
    clear hbw x0 x1
    go_loopw [4, 7] (fun x i wr => ∃ m : Nat, m ≤ 12 ∧ x = .int .i64 ((rT D s m : Nat) : Int) ∧ i = .int .i64 m ∧ Below (w.heap.size + 1) wo wr) (fun _ i _ => 12 - (intOf i).toNat)
    case atStart => exact ⟨0, by omega, rfl, rfl, Below.refl _ _⟩
    case round =>
      obtain ⟨m, hm, rfl, rfl, hb2⟩ := hrel
      have hzr2 := hb2.size
      have hbw2 : Below w.heap.size w wr := HY.out.1.trans (hb2.mono (by omega))
      have hrl := rT_lt hok HP.out.1 m hm
      have hr20 : rT D s m < 1048576 := by have := HP.out.2; omega
      clear hrl
      by_cases hlt : m < 12
      · have x0 := below_at hb2 (by omega) HY.out.2.1
        have x1 := below_at hb2 (by omega) HY.out.2.2
        have hbl := hok.behF_lt s hlt
        have hb20 : behF D s m < 1048576 := by have := HP.out.2; omega
        clear hbl
        have hor := bits_or (rT D s m) (behF D s m) (by omega) (by omega)
        go_wp2_with fail
        refine (behindSet_any _ _ D s m _ hok ((h0.below hbw2).mono (by omega)) ((h1.below hbw2).mono (by omega)) (by omega) hlt).mono ?_
        rintro e w3 ⟨rfl, hb3⟩
        go_wp2_with fail
        go_roundw
        case rel => exact ⟨m + 1, by omega, rfl, by go_num, hb2.trans (hb3.mono (by omega))⟩
        case measure => simp [intOf]; omega
      · obtain rfl : m = 12 := by omega
        have hsub := (rT_sub D s 12).le
        by_cases he : rT D s 12 = s
        · have heq : ((rT D s 12 : Int) == (s : Int)) = true := by rw [he]; exact beq_self_eq_true _
          have HE := Lib.hid he
          clear he
          go_wp2
          go_ret
          refine ⟨ret_int ?_, hbw2⟩
          have hf := HF.out
          rw [Int.natCast_inj, ← hf.1]
          obtain ⟨f', rfl⟩ : ∃ f', f = f' + 1 := ⟨f - 1, by omega⟩
          unfold rIter
          rw [if_pos HE.out]
        · have heq : ((rT D s 12 : Int) == (s : Int)) = false := by rw [beq_eq_false_iff_ne]; omega
          have HE := Lib.hid he
          clear he
          go_wp2
          go_roundw
          case rel =>
            have hf := HF.out
            obtain ⟨f', rfl⟩ : ∃ f', f = f' + 1 := ⟨f - 1, by omega⟩
            have h1 := hf.1
            unfold rIter at h1
            rw [if_neg HE.out] at h1
            have := HE.out
            exact ⟨rT D s 12, f', rfl, rT_lt hok HP.out.1 12 (by omega), h1, by omega, hb.trans hb2⟩
          case measure => have := HE.out; simp [intOf]; omega

theorem implAutoReach (v0 v1 : Value) (D : AutoD) (w : World) (h0 : IS w.heap.size w v0 D.ends) (h1 : ISS w.heap.size w v1 D.next) :
    Calls Try.prog 41 #[.agg #[v0, v1]] w fun e w' => e = .returned (.int .i64 (reachI D)) ∧ Below w.heap.size w w' := by
  by_cases hok : AutoOK D
  case neg =>
    have hB := autoOKB_false.2 hok
    obtain ⟨W, hW, hbW, hsW, x0, x1, -⟩ := box2 w v0 v1 37
    go_enter Try.func41, Try.ntmps41
    go_wp2_with fail
    clear hW
    refine (implAutoValid _ _ D _ ((h0.below hbW).mono (by omega)) ((h1.below hbW).mono (by omega))).mono ?_
    rintro e w1 ⟨rfl, hb1⟩
    go_wp2
    go_ret
    exact ⟨ret_int (reachI_no hok).symm, hbW.trans (hb1.mono (by omega))⟩
  have hB := autoOKB_true.2 hok
  obtain ⟨W, hW, hbW, hsW, x0, x1, -⟩ := box2 w v0 v1 37
  go_enter Try.func41, Try.ntmps41
  go_wp2_with fail
  clear hW
  refine (implAutoValid _ _ D _ ((h0.below hbW).mono (by omega)) ((h1.below hbW).mono (by omega))).mono ?_
  rintro e w1 ⟨rfl, hb1⟩
  have hz1 := hb1.size
  replace x0 := below_at hb1 (by omega) x0
  replace x1 := below_at hb1 (by omega) x1
  have hbw1 : Below w.heap.size w w1 := hbW.trans (hb1.mono (by omega))
  go_wp2_with fail
  refine (reach_any _ _ D _ hok ((h0.below hbw1).mono (by omega)) ((h1.below hbw1).mono (by omega))).mono ?_
  rintro e w2 ⟨rfl, hb2⟩
  go_wp2
  go_ret
  exact ⟨ret_int (reachI_yes hok).symm, hbw1.trans (hb2.mono (by omega))⟩

end Go.Proofs.Ytcpfflnhbcbmnaa
