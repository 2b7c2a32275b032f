/- What AutoRun returns, of the program and of the reference: one contract each, at every automaton and list of numbers. -/
import Derived.Test.YtoaelngalnojiaaTrace
import Derived.Deep.RegionHeld3
namespace Go.Proofs.Ytoaelngalnojiaa
open Go.RowKit

set_option maxHeartbeats 1000000 in
theorem specAutoRun (v0 v1 vt : Value) (D : AutoD) (t : List Int) (w : World) (h0 : IS w.heap.size w v0 D.ends) (h1 : ISS w.heap.size w v1 D.next) (ht : IS w.heap.size w vt t) :
    Calls Try.prog 31 #[.agg #[v0, v1], vt] w fun e w' => e = .returned (.bool (runB D t)) ∧ Below w.heap.size w w' := by
  by_cases hok : AutoOK D
  case neg =>
    have hB := autoOKB_false.2 hok
    obtain ⟨W, hW, hbW, hsW, x0, x1, -⟩ := box2 w v0 v1 28
    go_enter Try.func31, Try.ntmps31
    go_wp2_with fail
    clear hW
    refine (specAutoValid _ _ D _ ((h0.below hbW).mono (by omega)) ((h1.below hbW).mono (by omega))).mono ?_
    rintro e w1 ⟨rfl, hb1⟩
    go_wp2
    go_ret
    exact ⟨ret_bool (if_neg (fun h => hok h.1)).symm, hbW.trans (hb1.mono (by omega))⟩
  have hB := autoOKB_true.2 hok
  by_cases htr : TraceOK t
  case neg =>
    have hT := traceOKB_false.2 htr
    obtain ⟨W, hW, hbW, hsW, x0, x1, -⟩ := box2 w v0 v1 28
    go_enter Try.func31, Try.ntmps31
    go_wp2_with fail
    clear hW
    refine (specAutoValid _ _ D _ ((h0.below hbW).mono (by omega)) ((h1.below hbW).mono (by omega))).mono ?_
    rintro e w1 ⟨rfl, hb1⟩
    have hz1 := hb1.size
    have hbw1 : Below w.heap.size w w1 := hbW.trans (hb1.mono (by omega))
    go_wp2_with (go_at_call 68; refine (specTraceValid _ t _ ((ht.below hbw1).mono (by omega))).mono ?_; rintro e w' ⟨rfl, rfl⟩)
    go_ret
    exact ⟨ret_bool (if_neg (fun h => htr h.2)).symm, hbw1⟩
  have hT := traceOKB_true.2 htr
  have hR : runB D t = runF D t := if_pos ⟨hok, htr⟩
  have HRB := Lib.hid hR
  clear hR
  have hodd := htr.odd
  have hlen := htr.len
  obtain ⟨A, c, rfl, hl, hm, hA⟩ := id ht
  unfold maxLen at hm
  obtain ⟨bt, ot, rfl, hbt, hct⟩ := hA (by omega)
  have HT := Lib.hid hct
  have HODD := Lib.hid hodd
  clear hct hA hodd
  obtain ⟨W, hW, hbW, hsW, x0, x1, -⟩ := box2 w v0 v1 28
  go_enter Try.func31, Try.ntmps31
  go_wp2_with fail
  clear hW
  refine (specAutoValid _ _ D _ ((h0.below hbW).mono (by omega)) ((h1.below hbW).mono (by omega))).mono ?_
  rintro e w1 ⟨rfl, hb1⟩
  have hz1 := hb1.size
  have hbw1 : Below w.heap.size w w1 := hbW.trans (hb1.mono (by omega))
  replace x0 := below_at hb1 (by omega) x0
  replace x1 := below_at hb1 (by omega) x1
  go_wp2_with (go_at_call 68; refine (specTraceValid _ t _ ((ht.below hbw1).mono (by omega))).mono ?_; rintro e w' ⟨rfl, rfl⟩)
  clear hB hT
  have HX := Lib.hid (And.intro hbw1 (And.intro x0 x1))
  clear hbw1 x0 x1 hb1 hbW
  go_loopw [5, 6] (fun x i wr => ∃ j a : Nat, Hid (a = 2 * j) ∧ a < t.length ∧ i = .int .i64 a ∧ x = .int .i64 ((runT D t j : Nat) : Int) ∧ Below (w.heap.size + 1) w1 wr) (fun _ i _ => t.length - (intOf i).toNat)
  case atStart => exact ⟨0, 0, rfl, by have := HODD.out; omega, rfl, rfl, Below.refl _ _⟩
  case round =>
    obtain ⟨j, a, Ha, hal, rfl, rfl, hb⟩ := hrel
    have hzr := hb.size
    have hrl := runT_lt hok htr j (by have := Ha.out; omega)
    have hr20 : runT D t j < 1048576 := by have := hok.pow_le; omega
    clear hrl
    have x0 := below_at hb (by omega) HX.out.2.1
    have x1 := below_at hb (by omega) HX.out.2.2
    have hbw : Below w.heap.size w wr := HX.out.1.trans (hb.mono (by omega))
    have HB := Lib.hid (And.intro hbw hb)
    have hszr : w.heap.size < wr.heap.size := by omega
    by_cases hlt : a + 1 < t.length
    · have hai : (a : Int) + 1 < (t.length : Int) := by omega
      have s1 : IntKind.i64.wrap ((a : Int) + 1) = (a : Int) + 1 := IntWalk.i64_in _ (by omega)
      have s2 : (0 : Int) ≤ (a : Int) + 1 := by omega
      have s3 : ((a : Int) + 1).toNat = a + 1 := by omega
      have hmv := htr.mv (j := j) (by have := Ha.out; omega)
      have hb1 := htr.atoms j (by have := Ha.out; omega)
      have hb2 := htr.acts j (by have := Ha.out; omega)
      rw [← Ha.out] at hmv hb1 hb2
      obtain ⟨hmv, hm12⟩ := hmv
      obtain ⟨hp1, hp2⟩ := hb1
      obtain ⟨hq1, hq2⟩ := hb2
      have HM := Lib.hid hmv
      have hmw : IntKind.i64.wrap (IntKind.i64.wrap (IntKind.i64.wrap (3 * nth t a) + nth t (a + 1)) - 16) = (mvN t j : Int) := by
        rw [IntWalk.i64_in (3 * nth t a) (by omega), IntWalk.i64_in (3 * nth t a + nth t (a + 1)) (by omega), IntWalk.i64_in _ (by omega), hmv]
      have HMW := Lib.hid hmw
      clear hmw hmv
      have hc1 := below_at hbw hbt (HT.out a hal)
      have hc2 := below_at hbw hbt (HT.out (a + 1) hlt)
      clear hbw hb
      go_wp2_with fail
      go_region_held3 (fun w' => w'.cell? ⟨w.heap.size, 0, none⟩ = some v0 ∧ w'.cell? ⟨w.heap.size, 1, none⟩ = some v1 ∧ w'.cell? ⟨bt, ot + a, none⟩ = some (.int .i64 (nth t a)) ∧ w'.cell? ⟨bt, ot + (a + 1), none⟩ = some (.int .i64 (nth t (a + 1)))) (go_keep)
        (first
          | (go_at_call 59
             rw [HMW.out]
             refine (l5Step_any _ _ D (runT D t j) (mvN t j) _ hok ((h0.below HB.out.1.drew).mono (by show _ ≤ wr.heap.size; omega)) ((h1.below HB.out.1.drew).mono (by show _ ≤ wr.heap.size; omega)) hr20 hm12).mono ?_
             rintro e w3 ⟨rfl, hb3⟩
             have hb3' : Below wr.heap.size wr w3 := (Below.refl _ _).drew.trans hb3
             replace x0 := below_at hb3' (by omega) x0
             replace x1 := below_at hb3' (by omega) x1
             replace hc1 := below_at hb3' (by omega) hc1
             replace hc2 := below_at hb3' (by omega) hc2
             have H3 := Lib.hid (HB.out.2.trans (hb3'.mono (by omega)))
             clear hb3 hb3'))
      go_wp2
      go_roundw
      case rel => exact ⟨j + 1, a + 2, by have := Ha.out; show a + 2 = 2 * (j + 1); omega, by have := Ha.out; have := HODD.out; omega, by go_num, rfl, H3.out⟩
      case measure => simp [intOf]; omega
    · have hai : ¬ (a : Int) + 1 < (t.length : Int) := by omega
      have hj : j = t.length / 2 := by have := Ha.out; have := HODD.out; omega
      have hla := htr.atoms j (by have := Ha.out; omega)
      have h2j : 2 * j = t.length - 1 := by have := Ha.out; have := HODD.out; omega
      rw [h2j] at hla
      obtain ⟨z, hz⟩ : ∃ z : Nat, t.length - 1 = z := ⟨_, rfl⟩
      have hc1 := below_at hbw hbt (HT.out z (by omega))
      rw [hz] at hla
      obtain ⟨q, hq⟩ : ∃ q : Nat, nth t z = q := ⟨(nth t z).toNat, by omega⟩
      have hq4 : q ≤ 3 := by omega
      rw [hq] at hc1
      have hF : runF D t = (endF D (runT D t j)).testBit q := by unfold runF; rw [hz, hq, Int.toNat_natCast, hj]
      have HF := Lib.hid hF
      have hel := hok.endF_lt (runT D t j)
      have s1 : IntKind.i64.wrap ((t.length : Int) - 1) = (z : Int) := by rw [IntWalk.i64_in _ (by omega)]; omega
      have hlen2 : (z : Int) < (t.length : Int) := by omega
      clear hF hq hla hj h2j hbw hb hz
      go_wp2_with fail
      go_region_held3 (fun w' => w'.cell? ⟨w.heap.size, 0, none⟩ = some v0 ∧ w'.cell? ⟨w.heap.size, 1, none⟩ = some v1 ∧ w'.cell? ⟨bt, ot + z, none⟩ = some (.int .i64 q)) (go_keep)
        (first
          | (go_at_call 56
             refine (l5Ends_any _ _ D (runT D t j) _ hok ((h0.below HB.out.1.drew).mono (by show _ ≤ wr.heap.size; omega)) ((h1.below HB.out.1.drew).mono (by show _ ≤ wr.heap.size; omega)) hr20).mono ?_
             rintro e w3 ⟨rfl, hb3⟩
             have hb3' : Below wr.heap.size wr w3 := (Below.refl _ _).drew.trans hb3
             replace x0 := below_at hb3' (by omega) x0
             replace x1 := below_at hb3' (by omega) x1
             replace hc1 := below_at hb3' (by omega) hc1
             have H3 := Lib.hid (HB.out.1.trans (hb3'.mono (by omega)))
             clear hb3 hb3')
          | (go_at_call 69
             refine (l1Bit_any (endF D (runT D t j)) q (by omega) _).mono ?_
             rintro e w' ⟨rfl, rfl⟩))
      cases hbit : (endF D (runT D t j)).testBit q
      · have hb0 := bitN_f hbit
        rw [hbit] at HF
        clear hbit
        go_wp2
        go_ret
        exact ⟨ret_bool (by rw [HRB.out, HF.out]; first | rfl | (rw [hb0]; rfl)), H3.out⟩
      · have hb0 := bitN_t hbit
        rw [hbit] at HF
        clear hbit
        go_wp2
        go_ret
        exact ⟨ret_bool (by rw [HRB.out, HF.out]; first | rfl | (rw [hb0]; rfl)), H3.out⟩

set_option maxHeartbeats 1000000 in
theorem implAutoRun (v0 v1 vt : Value) (D : AutoD) (t : List Int) (w : World) (h0 : IS w.heap.size w v0 D.ends) (h1 : ISS w.heap.size w v1 D.next) (ht : IS w.heap.size w vt t) :
    Calls Try.prog 32 #[.agg #[v0, v1], vt] w fun e w' => e = .returned (.bool (runB D t)) ∧ Below w.heap.size w w' := by
  by_cases hok : AutoOK D
  case neg =>
    have hB := autoOKB_false.2 hok
    obtain ⟨W, hW, hbW, hsW, x0, x1, -⟩ := box2 w v0 v1 28
    go_enter Try.func32, Try.ntmps32
    go_wp2_with fail
    clear hW
    refine (implAutoValid _ _ D _ ((h0.below hbW).mono (by omega)) ((h1.below hbW).mono (by omega))).mono ?_
    rintro e w1 ⟨rfl, hb1⟩
    go_wp2
    go_ret
    exact ⟨ret_bool (if_neg (fun h => hok h.1)).symm, hbW.trans (hb1.mono (by omega))⟩
  have hB := autoOKB_true.2 hok
  by_cases htr : TraceOK t
  case neg =>
    have hT := traceOKB_false.2 htr
    obtain ⟨W, hW, hbW, hsW, x0, x1, -⟩ := box2 w v0 v1 28
    go_enter Try.func32, Try.ntmps32
    go_wp2_with fail
    clear hW
    refine (implAutoValid _ _ D _ ((h0.below hbW).mono (by omega)) ((h1.below hbW).mono (by omega))).mono ?_
    rintro e w1 ⟨rfl, hb1⟩
    have hz1 := hb1.size
    have hbw1 : Below w.heap.size w w1 := hbW.trans (hb1.mono (by omega))
    go_wp2_with (go_at_call 70; refine (implTraceValid _ t _ ((ht.below hbw1).mono (by omega))).mono ?_; rintro e w' ⟨rfl, rfl⟩)
    go_ret
    exact ⟨ret_bool (if_neg (fun h => htr h.2)).symm, hbw1⟩
  have hT := traceOKB_true.2 htr
  have hR : runB D t = runF D t := if_pos ⟨hok, htr⟩
  have HRB := Lib.hid hR
  clear hR
  have hodd := htr.odd
  have hlen := htr.len
  obtain ⟨A, c, rfl, hl, hm, hA⟩ := id ht
  unfold maxLen at hm
  obtain ⟨bt, ot, rfl, hbt, hct⟩ := hA (by omega)
  have HT := Lib.hid hct
  have HODD := Lib.hid hodd
  clear hct hA hodd
  obtain ⟨W, hW, hbW, hsW, x0, x1, -⟩ := box2 w v0 v1 28
  go_enter Try.func32, Try.ntmps32
  go_wp2_with fail
  clear hW
  refine (implAutoValid _ _ D _ ((h0.below hbW).mono (by omega)) ((h1.below hbW).mono (by omega))).mono ?_
  rintro e w1 ⟨rfl, hb1⟩
  have hz1 := hb1.size
  have hbw1 : Below w.heap.size w w1 := hbW.trans (hb1.mono (by omega))
  replace x0 := below_at hb1 (by omega) x0
  replace x1 := below_at hb1 (by omega) x1
  go_wp2_with (go_at_call 70; refine (implTraceValid _ t _ ((ht.below hbw1).mono (by omega))).mono ?_; rintro e w' ⟨rfl, rfl⟩)
  clear hB hT
  have HX := Lib.hid (And.intro hbw1 (And.intro x0 x1))
  clear hbw1 x0 x1 hb1 hbW
  go_loopw [5, 6] (fun x i wr => ∃ j a : Nat, Hid (a = 2 * j) ∧ a < t.length ∧ i = .int .i64 a ∧ x = .int .i64 ((runT D t j : Nat) : Int) ∧ Below (w.heap.size + 1) w1 wr) (fun _ i _ => t.length - (intOf i).toNat)
  case atStart => exact ⟨0, 0, rfl, by have := HODD.out; omega, rfl, rfl, Below.refl _ _⟩
  case round =>
    obtain ⟨j, a, Ha, hal, rfl, rfl, hb⟩ := hrel
    have hzr := hb.size
    have hrl := runT_lt hok htr j (by have := Ha.out; omega)
    have hr20 : runT D t j < 1048576 := by have := hok.pow_le; omega
    clear hrl
    have x0 := below_at hb (by omega) HX.out.2.1
    have x1 := below_at hb (by omega) HX.out.2.2
    have hbw : Below w.heap.size w wr := HX.out.1.trans (hb.mono (by omega))
    have HB := Lib.hid (And.intro hbw hb)
    have hszr : w.heap.size < wr.heap.size := by omega
    by_cases hlt : a + 1 < t.length
    · have hai : (a : Int) + 1 < (t.length : Int) := by omega
      have s1 : IntKind.i64.wrap ((a : Int) + 1) = (a : Int) + 1 := IntWalk.i64_in _ (by omega)
      have s2 : (0 : Int) ≤ (a : Int) + 1 := by omega
      have s3 : ((a : Int) + 1).toNat = a + 1 := by omega
      have hmv := htr.mv (j := j) (by have := Ha.out; omega)
      have hb1 := htr.atoms j (by have := Ha.out; omega)
      have hb2 := htr.acts j (by have := Ha.out; omega)
      rw [← Ha.out] at hmv hb1 hb2
      obtain ⟨hmv, hm12⟩ := hmv
      obtain ⟨hp1, hp2⟩ := hb1
      obtain ⟨hq1, hq2⟩ := hb2
      have HM := Lib.hid hmv
      have hmw : IntKind.i64.wrap (IntKind.i64.wrap (IntKind.i64.wrap (3 * nth t a) + nth t (a + 1)) - 16) = (mvN t j : Int) := by
        rw [IntWalk.i64_in (3 * nth t a) (by omega), IntWalk.i64_in (3 * nth t a + nth t (a + 1)) (by omega), IntWalk.i64_in _ (by omega), hmv]
      have HMW := Lib.hid hmw
      clear hmw hmv
      have hc1 := below_at hbw hbt (HT.out a hal)
      have hc2 := below_at hbw hbt (HT.out (a + 1) hlt)
      clear hbw hb
      go_wp2_with fail
      go_region_held3 (fun w' => w'.cell? ⟨w.heap.size, 0, none⟩ = some v0 ∧ w'.cell? ⟨w.heap.size, 1, none⟩ = some v1 ∧ w'.cell? ⟨bt, ot + a, none⟩ = some (.int .i64 (nth t a)) ∧ w'.cell? ⟨bt, ot + (a + 1), none⟩ = some (.int .i64 (nth t (a + 1)))) (go_keep)
        (first
          | (go_at_call 63
             refine (move_any _ _ hp1 hp2 hq1 hq2 _).mono ?_
             rw [HM.out]
             rintro e w' ⟨rfl, rfl⟩)
          | (go_at_call 62
             refine (behindSet_any _ _ D (runT D t j) (mvN t j) _ hok ((h0.below HB.out.1.drew).mono (by show _ ≤ wr.heap.size; omega)) ((h1.below HB.out.1.drew).mono (by show _ ≤ wr.heap.size; omega)) hr20 hm12).mono ?_
             rintro e w3 ⟨rfl, hb3⟩
             have hb3' : Below wr.heap.size wr w3 := (Below.refl _ _).drew.trans hb3
             replace x0 := below_at hb3' (by omega) x0
             replace x1 := below_at hb3' (by omega) x1
             replace hc1 := below_at hb3' (by omega) hc1
             replace hc2 := below_at hb3' (by omega) hc2
             have H3 := Lib.hid (HB.out.2.trans (hb3'.mono (by omega)))
             clear hb3 hb3'))
      go_wp2
      go_roundw
      case rel => exact ⟨j + 1, a + 2, by have := Ha.out; show a + 2 = 2 * (j + 1); omega, by have := Ha.out; have := HODD.out; omega, by go_num, rfl, H3.out⟩
      case measure => simp [intOf]; omega
    · have hai : ¬ (a : Int) + 1 < (t.length : Int) := by omega
      have hj : j = t.length / 2 := by have := Ha.out; have := HODD.out; omega
      have hla := htr.atoms j (by have := Ha.out; omega)
      have h2j : 2 * j = t.length - 1 := by have := Ha.out; have := HODD.out; omega
      rw [h2j] at hla
      obtain ⟨z, hz⟩ : ∃ z : Nat, t.length - 1 = z := ⟨_, rfl⟩
      have hc1 := below_at hbw hbt (HT.out z (by omega))
      rw [hz] at hla
      obtain ⟨q, hq⟩ : ∃ q : Nat, nth t z = q := ⟨(nth t z).toNat, by omega⟩
      have hq4 : q ≤ 3 := by omega
      rw [hq] at hc1
      have hF : runF D t = (endF D (runT D t j)).testBit q := by unfold runF; rw [hz, hq, Int.toNat_natCast, hj]
      have HF := Lib.hid hF
      have hel := hok.endF_lt (runT D t j)
      have s1 : IntKind.i64.wrap ((t.length : Int) - 1) = (z : Int) := by rw [IntWalk.i64_in _ (by omega)]; omega
      have hlen2 : (z : Int) < (t.length : Int) := by omega
      clear hF hq hla hj h2j hbw hb hz
      go_wp2_with fail
      go_region_held3 (fun w' => w'.cell? ⟨w.heap.size, 0, none⟩ = some v0 ∧ w'.cell? ⟨w.heap.size, 1, none⟩ = some v1 ∧ w'.cell? ⟨bt, ot + z, none⟩ = some (.int .i64 q)) (go_keep)
        (first
          | (go_at_call 58
             refine (endsOf_any _ _ D (runT D t j) _ hok ((h0.below HB.out.1.drew).mono (by show _ ≤ wr.heap.size; omega)) ((h1.below HB.out.1.drew).mono (by show _ ≤ wr.heap.size; omega)) hr20).mono ?_
             rintro e w3 ⟨rfl, hb3⟩
             have hb3' : Below wr.heap.size wr w3 := (Below.refl _ _).drew.trans hb3
             replace x0 := below_at hb3' (by omega) x0
             replace x1 := below_at hb3' (by omega) x1
             replace hc1 := below_at hb3' (by omega) hc1
             have H3 := Lib.hid (HB.out.1.trans (hb3'.mono (by omega)))
             clear hb3 hb3')
          | (go_at_call 71
             refine (holds_any (endF D (runT D t j)) q (by omega) (by omega) _).mono ?_
             rintro e w' ⟨rfl, rfl⟩))
      go_wp2
      go_ret
      exact ⟨ret_bool (by rw [HRB.out, HF.out]), H3.out⟩

end Go.Proofs.Ytoaelngalnojiaa
