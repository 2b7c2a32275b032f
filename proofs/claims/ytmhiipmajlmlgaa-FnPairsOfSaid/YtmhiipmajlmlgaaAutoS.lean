/- What StatesEnd and StatesBehind return, of the program and of the reference: one contract a function, at all arguments. -/
import Derived.Test.YtmhiipmajlmlgaaGrpQ
import Derived.Deep.RegionHeld3
namespace Go.Proofs.Ytmhiipmajlmlgaa
set_option linter.unusedSimpArgs false
set_option linter.unusedVariables false
set_option maxRecDepth 8000
set_option maxHeartbeats 2000000
open Go.RowKit

open Classical in
noncomputable def stBeh (D : AutoD) (set atom act : Int) : Int :=
  if AutoOK D ∧ (0 ≤ set ∧ set < 2 ^ D.ends.length) ∧ (0 ≤ atom ∧ atom ≤ 3) ∧ (16 ≤ act ∧ act ≤ 18) then (behF D set.toNat (3 * atom + act - 16).toNat : Int) else -1
theorem stBeh_no {D : AutoD} {set atom act : Int} (h : ¬ AutoOK D) : stBeh D set atom act = -1 := if_neg fun h' => h h'.1
theorem stBeh_set {D : AutoD} {set atom act : Int} (h : ¬ (0 ≤ set ∧ set < 2 ^ D.ends.length)) : stBeh D set atom act = -1 := if_neg fun h' => h h'.2.1
theorem stBeh_atom {D : AutoD} {set atom act : Int} (h : ¬ (0 ≤ atom ∧ atom ≤ 3)) : stBeh D set atom act = -1 := if_neg fun h' => h h'.2.2.1
theorem stBeh_act {D : AutoD} {set atom act : Int} (h : ¬ (16 ≤ act ∧ act ≤ 18)) : stBeh D set atom act = -1 := if_neg fun h' => h h'.2.2.2
theorem stBeh_yes {D : AutoD} {set m : Nat} {atom act : Int} (h : AutoOK D) (h1 : (set : Int) < 2 ^ D.ends.length) (h2 : 0 ≤ atom ∧ atom ≤ 3) (h3 : 16 ≤ act ∧ act ≤ 18) (hm : 3 * atom + act - 16 = m) :
    stBeh D set atom act = (behF D set m : Int) := by
  unfold stBeh; rw [if_pos ⟨h, ⟨by omega, h1⟩, h2, h3⟩, Int.toNat_natCast, hm, Int.toNat_natCast]

theorem hasSet_any (v0 v1 : Value) (D : AutoD) (set : Int) (w : World) (hok : AutoOK D) (h0 : IS w.heap.size w v0 D.ends) (h1 : ISS w.heap.size w v1 D.next) :
    Calls Try.prog 51 #[.agg #[v0, v1], .int .i64 set] w fun e w' => e = .returned (.bool (inB set 0 (2 ^ D.ends.length - 1))) ∧ Below w.heap.size w w' := by
  obtain ⟨b0, o0, c0, b1, o1, c1, L⟩ := Lk.of hok h0 h1
  obtain rfl := L.e0
  obtain rfl := L.e1
  have hlo := hok.lo
  have hhi := hok.hi
  have hpb := pow_bd10 hhi
  have hw1 : IntKind.i64.wrap (2 ^ D.ends.length) = 2 ^ D.ends.length := IntWalk.i64_in _ (by omega)
  clear L h0 h1
  by_cases hs : 0 ≤ set
  · by_cases hs2 : set < 2 ^ D.ends.length
    all_goals
      go_enter Try.func51, Try.ntmps51
      go_wp2
      go_ret
      exact ⟨ret_bool (by simp [inB]; omega), (Below.refl _ _).alloc (Nat.le_refl _) _⟩
  · go_enter Try.func51, Try.ntmps51
    go_wp2
    go_ret
    exact ⟨ret_bool (by simp [inB]; omega), (Below.refl _ _).alloc (Nat.le_refl _) _⟩

set_option maxHeartbeats 400000 in
theorem implStatesBehind (v0 v1 : Value) (D : AutoD) (set atom act : Int) (w : World) (h0 : IS w.heap.size w v0 D.ends) (h1 : ISS w.heap.size w v1 D.next) :
    Calls Try.prog 15 #[.agg #[v0, v1], .int .i64 set, .int .i64 atom, .int .i64 act] w fun e w' => e = .returned (.int .i64 (stBeh D set atom act)) ∧ Below w.heap.size w w' := by
  by_cases hok : AutoOK D
  case neg =>
    have hB := autoOKB_false.2 hok
    obtain ⟨W, hW, hbW, hsW, x0, x1, -⟩ := box2 w v0 v1 31
    go_enter Try.func15, Try.ntmps15
    go_wp2_with fail
    clear hW
    refine (implAutoValid _ _ D _ ((h0.below hbW).mono (by omega)) ((h1.below hbW).mono (by omega))).mono ?_
    rintro e w1 ⟨rfl, hb1⟩
    go_wp2
    go_ret
    exact ⟨ret_int (stBeh_no hok).symm, hbW.trans (hb1.mono (by omega))⟩
  have hB := autoOKB_true.2 hok
  obtain ⟨b0, o0, c0, b1, o1, c1, L⟩ := Lk.of hok h0 h1
  obtain rfl := L.e0
  obtain rfl := L.e1
  have hlo := hok.lo
  have hhi := hok.hi
  have hpb := pow_bd10 hhi
  have hw1 : IntKind.i64.wrap (2 ^ D.ends.length) = 2 ^ D.ends.length := IntWalk.i64_in _ (by omega)
  have hw2 : IntKind.i64.wrap (2 ^ D.ends.length - 1) = 2 ^ D.ends.length - 1 := IntWalk.i64_in _ (by omega)
  clear L
  by_cases hs : 0 ≤ set ∧ set < 2 ^ D.ends.length
  case neg =>
    have hS : inB set 0 (2 ^ D.ends.length - 1) = false := inB_f (by omega)
    obtain ⟨W, hW, hbW, hsW, x0, x1, -⟩ := box2 w (.slice (some ⟨b0, o0, none⟩) D.ends.length c0) (.slice (some ⟨b1, o1, none⟩) D.ends.length c1) 31
    go_enter Try.func15, Try.ntmps15
    go_wp2_with fail
    clear hW
    refine (implAutoValid _ _ D _ ((h0.below hbW).mono (by omega)) ((h1.below hbW).mono (by omega))).mono ?_
    rintro e w1 ⟨rfl, hb1⟩
    have hz1 := hb1.size
    replace x0 := below_at hb1 (by omega) x0
    replace x1 := below_at hb1 (by omega) x1
    have hbw1 : Below w.heap.size w w1 := hbW.trans (hb1.mono (by omega))
    go_wp2_with fail
    refine (hasSet_any _ _ D _ _ hok ((h0.below hbw1).mono (by omega)) ((h1.below hbw1).mono (by omega))).mono ?_
    rintro e w2 ⟨rfl, hb2⟩
    have hz2 := hb2.size
    replace x0 := below_at hb2 (by omega) x0
    replace x1 := below_at hb2 (by omega) x1
    have hbw2 : Below w.heap.size w w2 := hbw1.trans (hb2.mono (by omega))
    go_wp2_with (first | (go_at_call 52; refine (isAtom_any _ _).mono ?_; rintro e w' ⟨rfl, rfl⟩) | (go_at_call 53; refine (isAct_any _ _).mono ?_; rintro e w' ⟨rfl, rfl⟩))
    go_ret
    exact ⟨ret_int (stBeh_set hs).symm, hbw2⟩
  have hS : inB set 0 (2 ^ D.ends.length - 1) = true := inB_t (by omega)
  obtain ⟨s, rfl⟩ : ∃ s : Nat, set = s := ⟨set.toNat, by omega⟩
  have hsl : s < 1048576 := by omega
  by_cases ha : 0 ≤ atom ∧ atom ≤ 3
  case neg =>
    have hA : inB atom 0 3 = false := inB_f ha
    obtain ⟨W, hW, hbW, hsW, x0, x1, -⟩ := box2 w (.slice (some ⟨b0, o0, none⟩) D.ends.length c0) (.slice (some ⟨b1, o1, none⟩) D.ends.length c1) 31
    go_enter Try.func15, Try.ntmps15
    go_wp2_with fail
    clear hW
    refine (implAutoValid _ _ D _ ((h0.below hbW).mono (by omega)) ((h1.below hbW).mono (by omega))).mono ?_
    rintro e w1 ⟨rfl, hb1⟩
    have hz1 := hb1.size
    replace x0 := below_at hb1 (by omega) x0
    replace x1 := below_at hb1 (by omega) x1
    have hbw1 : Below w.heap.size w w1 := hbW.trans (hb1.mono (by omega))
    go_wp2_with fail
    refine (hasSet_any _ _ D _ _ hok ((h0.below hbw1).mono (by omega)) ((h1.below hbw1).mono (by omega))).mono ?_
    rintro e w2 ⟨rfl, hb2⟩
    have hz2 := hb2.size
    replace x0 := below_at hb2 (by omega) x0
    replace x1 := below_at hb2 (by omega) x1
    have hbw2 : Below w.heap.size w w2 := hbw1.trans (hb2.mono (by omega))
    go_wp2_with (first | (go_at_call 52; refine (isAtom_any _ _).mono ?_; rintro e w' ⟨rfl, rfl⟩) | (go_at_call 53; refine (isAct_any _ _).mono ?_; rintro e w' ⟨rfl, rfl⟩))
    go_ret
    exact ⟨ret_int (stBeh_atom ha).symm, hbw2⟩
  have hA : inB atom 0 3 = true := inB_t ha
  by_cases hc : 16 ≤ act ∧ act ≤ 18
  case neg =>
    have hC : inB act 16 18 = false := inB_f hc
    obtain ⟨W, hW, hbW, hsW, x0, x1, -⟩ := box2 w (.slice (some ⟨b0, o0, none⟩) D.ends.length c0) (.slice (some ⟨b1, o1, none⟩) D.ends.length c1) 31
    go_enter Try.func15, Try.ntmps15
    go_wp2_with fail
    clear hW
    refine (implAutoValid _ _ D _ ((h0.below hbW).mono (by omega)) ((h1.below hbW).mono (by omega))).mono ?_
    rintro e w1 ⟨rfl, hb1⟩
    have hz1 := hb1.size
    replace x0 := below_at hb1 (by omega) x0
    replace x1 := below_at hb1 (by omega) x1
    have hbw1 : Below w.heap.size w w1 := hbW.trans (hb1.mono (by omega))
    go_wp2_with fail
    refine (hasSet_any _ _ D _ _ hok ((h0.below hbw1).mono (by omega)) ((h1.below hbw1).mono (by omega))).mono ?_
    rintro e w2 ⟨rfl, hb2⟩
    have hz2 := hb2.size
    replace x0 := below_at hb2 (by omega) x0
    replace x1 := below_at hb2 (by omega) x1
    have hbw2 : Below w.heap.size w w2 := hbw1.trans (hb2.mono (by omega))
    go_wp2_with (first | (go_at_call 52; refine (isAtom_any _ _).mono ?_; rintro e w' ⟨rfl, rfl⟩) | (go_at_call 53; refine (isAct_any _ _).mono ?_; rintro e w' ⟨rfl, rfl⟩))
    go_ret
    exact ⟨ret_int (stBeh_act hc).symm, hbw2⟩
  have hC : inB act 16 18 = true := inB_t hc
  obtain ⟨ha1, ha2⟩ := ha
  obtain ⟨hc1, hc2⟩ := hc
  obtain ⟨m, hm⟩ : ∃ m : Nat, 3 * atom + act - 16 = m := ⟨(3 * atom + act - 16).toNat, by omega⟩
  have hR := stBeh_yes hok hs.2 ⟨ha1, ha2⟩ ⟨hc1, hc2⟩ hm
  have hm12 : m < 12 := by omega
  have HR := Lib.hid hR
  clear hR
  obtain ⟨W, hW, hbW, hsW, x0, x1, -⟩ := box2 w (.slice (some ⟨b0, o0, none⟩) D.ends.length c0) (.slice (some ⟨b1, o1, none⟩) D.ends.length c1) 31
  go_enter Try.func15, Try.ntmps15
  go_wp2_with fail
  clear hW
  refine (implAutoValid _ _ D _ ((h0.below hbW).mono (by omega)) ((h1.below hbW).mono (by omega))).mono ?_
  rintro e w1 ⟨rfl, hb1⟩
  have hz1 := hb1.size
  replace x0 := below_at hb1 (by omega) x0
  replace x1 := below_at hb1 (by omega) x1
  have hbw1 : Below w.heap.size w w1 := hbW.trans (hb1.mono (by omega))
  go_wp2_with fail
  refine (hasSet_any _ _ D _ _ hok ((h0.below hbw1).mono (by omega)) ((h1.below hbw1).mono (by omega))).mono ?_
  rintro e w2 ⟨rfl, hb2⟩
  have hz2 := hb2.size
  replace x0 := below_at hb2 (by omega) x0
  replace x1 := below_at hb2 (by omega) x1
  have hbw2 : Below w.heap.size w w2 := hbw1.trans (hb2.mono (by omega))
  go_wp2_with (first | (go_at_call 52; refine (isAtom_any _ _).mono ?_; rintro e w' ⟨rfl, rfl⟩) | (go_at_call 53; refine (isAct_any _ _).mono ?_; rintro e w' ⟨rfl, rfl⟩))
  go_region_held3 (fun w' => w'.cell? ⟨w.heap.size, 0, none⟩ = some (.slice (some ⟨b0, o0, none⟩) D.ends.length c0) ∧ w'.cell? ⟨w.heap.size, 1, none⟩ = some (.slice (some ⟨b1, o1, none⟩) D.ends.length c1)) (go_keep)
    (first
      | (go_at_call 47
         refine (move_any _ _ ha1 ha2 hc1 hc2 _).mono ?_
         rw [hm]
         rintro e w' ⟨rfl, rfl⟩)
      | (go_at_call 54
         refine (behindSet_any _ _ D s m _ hok ((h0.below hbw2.drew).mono (by show _ ≤ w2.heap.size; omega)) ((h1.below hbw2.drew).mono (by show _ ≤ w2.heap.size; omega)) hsl hm12).mono ?_
         rintro e w3 ⟨rfl, hb3⟩
         have hz3 : w2.heap.size ≤ w3.heap.size := hb3.size
         have hb3' : Below w2.heap.size w2 w3 := (Below.refl _ _).drew.trans hb3
         replace x0 := below_at hb3' (by omega) x0
         replace x1 := below_at hb3' (by omega) x1
         have hbw3 : Below w.heap.size w w3 := hbw2.trans (hb3'.mono (by omega))
         clear hb3 hb3'))
  go_wp2
  go_ret
  exact ⟨ret_int HR.out.symm, hbw3⟩

end Go.Proofs.Ytmhiipmajlmlgaa
