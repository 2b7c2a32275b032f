/- The laws FnExactAutoReach, FnExactAutoLive, walked: each returns true and leaves what was there. -/
import Derived.Test.YtoaelngalnojiaaAutoL
import Derived.Test.YtoaelngalnojiaaLaws
import Derived.Deep.RegionHeld3
namespace Go.Proofs.Ytoaelngalnojiaa
open Go.RowKit

set_option maxHeartbeats 400000 in
theorem fnExactAutoReach (v0 v1 : Value) (D : AutoD) (w : World) (h0 : IS w.heap.size w v0 D.ends) (h1 : ISS w.heap.size w v1 D.next) :
    Calls Try.prog 8 #[.agg #[v0, v1]] w fun e w' => e = .returned (.bool true) ∧ Below w.heap.size w w' := by
  go_enter Try.func8, Try.ntmps8
  go_wp2_with fail
  obtain ⟨W, hW, hbW, hsW, x0, x1, bx⟩ := box2 w v0 v1 25
  rw [hW]
  clear hW
  refine (szAuto_any v0 v1 D W ((h0.below hbW).mono (by omega)) ((h1.below hbW).mono (by omega))).mono ?_
  rintro e w1 ⟨hb1, r, rfl, hr⟩
  have HR := Lib.hid hr
  clear hr
  have bx1 : Blk w1 w.heap.size 25 #[v0, v1] := (show Blk W _ _ _ from bx).below hb1 (by omega)
  have hbw1 : Below w.heap.size w w1 := hbW.trans (hb1.mono (by omega))
  have hz1 : w.heap.size + 1 ≤ w1.heap.size := by have := hb1.size; omega
  clear hb1 bx x0 x1 hbW hsW
  have x0 := bx1.cell0
  have x1 := bx1.cell1
  by_cases hr0 : r < 0
  · go_wp2
    go_ret
    exact ⟨rfl, hbw1⟩
  have hs : SmallA D := let h := HR.out (by omega); ⟨h.1, h.2.1, h.2.2⟩
  go_wp2_with fail
  refine (toAuto_any _ D _ ⟨_, _, rfl, (h0.below hbw1).mono (by omega), (h1.below hbw1).mono (by omega)⟩ hs).mono ?_
  rintro e w2 ⟨g0, g1, rfl, hc2, hg0, hg1, hg2, hb2⟩
  have hz2 := hb2.size
  replace x0 := below_at hb2 (by omega) x0
  replace x1 := below_at hb2 (by omega) x1
  have hbw2 : Below w.heap.size w w2 := hbw1.trans (hb2.mono (by omega))
  go_wp2_with fail
  refine (specAutoReach _ _ D _ (hc2.is0 hs (by omega)) (hc2.is1 hs hg2)).mono ?_
  rintro e w3 ⟨rfl, hb3⟩
  have hz3 := hb3.size
  replace x0 := below_at hb3 (by omega) x0
  replace x1 := below_at hb3 (by omega) x1
  have hbw3 : Below w.heap.size w w3 := hbw2.trans (hb3.mono (by omega))
  clear hc2 hg0 hg1 hg2
  go_wp2_with fail
  refine (toAuto_any _ D _ ⟨_, _, rfl, (h0.below hbw3).mono (by omega), (h1.below hbw3).mono (by omega)⟩ hs).mono ?_
  rintro e w4 ⟨g2, g3, rfl, hc4, hg2, hg3, hg4, hb4⟩
  have hz4 := hb4.size
  replace x0 := below_at hb4 (by omega) x0
  replace x1 := below_at hb4 (by omega) x1
  have hbw4 : Below w.heap.size w w4 := hbw3.trans (hb4.mono (by omega))
  go_wp2_with fail
  obtain ⟨W5, hW5, hbW5, hsW5, y0, y1, by_⟩ := box2 w4 (.slice (some ⟨g2, 0, none⟩) D.ends.length D.ends.length) (.slice (some ⟨g3, 0, none⟩) D.next.length D.next.length) 28
  rw [hW5]
  clear hW5
  have hc5 := hc4.below hbW5 (by omega) hg4
  refine (implAutoReach _ _ D _ (hc5.is0 hs (by omega)) (hc5.is1 hs (by omega))).mono ?_
  rintro e w6 ⟨rfl, hb6⟩
  have hz6 := hb6.size
  have hb46 : Below w4.heap.size w4 w6 := hbW5.trans (hb6.mono (by omega))
  replace x0 := below_at hb46 (by omega) x0
  replace x1 := below_at hb46 (by omega) x1
  replace y0 := below_at hb6 (by omega) y0
  replace y1 := below_at hb6 (by omega) y1
  have hc6 := hc5.below hb6 (by omega) (by omega)
  have hbw6 : Below w.heap.size w w6 := hbw4.trans (hb46.mono (by omega))
  have hlt : w4.heap.size < w6.heap.size := by omega
  have HB := Lib.hid (And.intro hbw6 hc6)
  have hsW := Lib.hid hsW5
  clear hbw6 hc6 hc5 hc4 hb46 hb6 hbW5 by_ hsW5
  go_wp2_with fail

  have hx : w.heap.size < w6.heap.size := by omega
  go_region_held3 (fun w' => w'.cell? ⟨w.heap.size, 0, none⟩ = some v0 ∧ w'.cell? ⟨w.heap.size, 1, none⟩ = some v1 ∧ w'.cell? ⟨w4.heap.size, 0, none⟩ = some (.slice (some ⟨g2, 0, none⟩) D.ends.length D.ends.length) ∧
      w'.cell? ⟨w4.heap.size, 1, none⟩ = some (.slice (some ⟨g3, 0, none⟩) D.next.length D.next.length)) (go_keep)
    (first
      | (go_at_call 16
         refine (toAuto_any _ D _ ⟨_, _, rfl, (h0.below HB.out.1.drew).mono (by show _ ≤ w6.heap.size; omega), (h1.below HB.out.1.drew).mono (by show _ ≤ w6.heap.size; omega)⟩ hs).mono ?_
         rintro e w7 ⟨g4, g5, rfl, hc7, hg4', hg5, hg6, hb7⟩
         have hz7 : w6.heap.size ≤ w7.heap.size := hb7.size
         have hb7' : Below w6.heap.size w6 w7 := (Below.refl _ _).drew.trans hb7
         replace x0 := below_at hb7' (by omega) x0
         replace x1 := below_at hb7' (by omega) x1
         replace y0 := below_at hb7' (by omega) y0
         replace y1 := below_at hb7' (by omega) y1
         have HC := Lib.hid (And.intro hb7' (And.intro hc7 hg6))
         clear hc7 hb7 hb7' hg6)
      | (go_at_call 18
         obtain ⟨hb7, hc7, hg6⟩ := HC.out
         have hc8 := HB.out.2.below hb7 (by omega) (by omega)
         refine (eqAuto_same _ _ D _ ⟨_, _, rfl, hc8.is0 hs (by omega), hc8.is1 hs (by omega)⟩ ⟨_, _, rfl, hc7.is0 hs (by omega), hc7.is1 hs (by omega)⟩).mono ?_
         rintro e w8 ⟨rfl, hb8⟩
         have hb8' := HB.out.1.trans ((hb7.mono (by omega)).trans (hb8.mono (by omega)))
         clear hc8 hb7 hc7 hg6
         replace x0 := below_at hb8 (by omega) x0
         replace x1 := below_at hb8 (by omega) x1
         replace y0 := below_at hb8 (by omega) y0
         replace y1 := below_at hb8 (by omega) y1))
  go_wp2
  go_ret
  exact ⟨rfl, hb8'⟩


set_option maxHeartbeats 400000 in
theorem fnExactAutoLive (v0 v1 : Value) (D : AutoD) (w : World) (h0 : IS w.heap.size w v0 D.ends) (h1 : ISS w.heap.size w v1 D.next) :
    Calls Try.prog 7 #[.agg #[v0, v1]] w fun e w' => e = .returned (.bool true) ∧ Below w.heap.size w w' := by
  go_enter Try.func7, Try.ntmps7
  go_wp2_with fail
  obtain ⟨W, hW, hbW, hsW, x0, x1, bx⟩ := box2 w v0 v1 25
  rw [hW]
  clear hW
  refine (szAuto_any v0 v1 D W ((h0.below hbW).mono (by omega)) ((h1.below hbW).mono (by omega))).mono ?_
  rintro e w1 ⟨hb1, r, rfl, hr⟩
  have HR := Lib.hid hr
  clear hr
  have bx1 : Blk w1 w.heap.size 25 #[v0, v1] := (show Blk W _ _ _ from bx).below hb1 (by omega)
  have hbw1 : Below w.heap.size w w1 := hbW.trans (hb1.mono (by omega))
  have hz1 : w.heap.size + 1 ≤ w1.heap.size := by have := hb1.size; omega
  clear hb1 bx x0 x1 hbW hsW
  have x0 := bx1.cell0
  have x1 := bx1.cell1
  by_cases hr0 : r < 0
  · go_wp2
    go_ret
    exact ⟨rfl, hbw1⟩
  have hs : SmallA D := let h := HR.out (by omega); ⟨h.1, h.2.1, h.2.2⟩
  go_wp2_with fail
  refine (toAuto_any _ D _ ⟨_, _, rfl, (h0.below hbw1).mono (by omega), (h1.below hbw1).mono (by omega)⟩ hs).mono ?_
  rintro e w2 ⟨g0, g1, rfl, hc2, hg0, hg1, hg2, hb2⟩
  have hz2 := hb2.size
  replace x0 := below_at hb2 (by omega) x0
  replace x1 := below_at hb2 (by omega) x1
  have hbw2 : Below w.heap.size w w2 := hbw1.trans (hb2.mono (by omega))
  go_wp2_with fail
  refine (specAutoLive _ _ D _ (hc2.is0 hs (by omega)) (hc2.is1 hs hg2)).mono ?_
  rintro e w3 ⟨rfl, hb3⟩
  have hz3 := hb3.size
  replace x0 := below_at hb3 (by omega) x0
  replace x1 := below_at hb3 (by omega) x1
  have hbw3 : Below w.heap.size w w3 := hbw2.trans (hb3.mono (by omega))
  clear hc2 hg0 hg1 hg2
  go_wp2_with fail
  refine (toAuto_any _ D _ ⟨_, _, rfl, (h0.below hbw3).mono (by omega), (h1.below hbw3).mono (by omega)⟩ hs).mono ?_
  rintro e w4 ⟨g2, g3, rfl, hc4, hg2, hg3, hg4, hb4⟩
  have hz4 := hb4.size
  replace x0 := below_at hb4 (by omega) x0
  replace x1 := below_at hb4 (by omega) x1
  have hbw4 : Below w.heap.size w w4 := hbw3.trans (hb4.mono (by omega))
  go_wp2_with fail
  obtain ⟨W5, hW5, hbW5, hsW5, y0, y1, by_⟩ := box2 w4 (.slice (some ⟨g2, 0, none⟩) D.ends.length D.ends.length) (.slice (some ⟨g3, 0, none⟩) D.next.length D.next.length) 28
  rw [hW5]
  clear hW5
  have hc5 := hc4.below hbW5 (by omega) hg4
  refine (implAutoLive _ _ D _ (hc5.is0 hs (by omega)) (hc5.is1 hs (by omega))).mono ?_
  rintro e w6 ⟨rfl, hb6⟩
  have hz6 := hb6.size
  have hb46 : Below w4.heap.size w4 w6 := hbW5.trans (hb6.mono (by omega))
  replace x0 := below_at hb46 (by omega) x0
  replace x1 := below_at hb46 (by omega) x1
  replace y0 := below_at hb6 (by omega) y0
  replace y1 := below_at hb6 (by omega) y1
  have hc6 := hc5.below hb6 (by omega) (by omega)
  have hbw6 : Below w.heap.size w w6 := hbw4.trans (hb46.mono (by omega))
  have hlt : w4.heap.size < w6.heap.size := by omega
  have HB := Lib.hid (And.intro hbw6 hc6)
  have hsW := Lib.hid hsW5
  clear hbw6 hc6 hc5 hc4 hb46 hb6 hbW5 by_ hsW5
  go_wp2_with fail

  have hx : w.heap.size < w6.heap.size := by omega
  go_region_held3 (fun w' => w'.cell? ⟨w.heap.size, 0, none⟩ = some v0 ∧ w'.cell? ⟨w.heap.size, 1, none⟩ = some v1 ∧ w'.cell? ⟨w4.heap.size, 0, none⟩ = some (.slice (some ⟨g2, 0, none⟩) D.ends.length D.ends.length) ∧
      w'.cell? ⟨w4.heap.size, 1, none⟩ = some (.slice (some ⟨g3, 0, none⟩) D.next.length D.next.length)) (go_keep)
    (first
      | (go_at_call 16
         refine (toAuto_any _ D _ ⟨_, _, rfl, (h0.below HB.out.1.drew).mono (by show _ ≤ w6.heap.size; omega), (h1.below HB.out.1.drew).mono (by show _ ≤ w6.heap.size; omega)⟩ hs).mono ?_
         rintro e w7 ⟨g4, g5, rfl, hc7, hg4', hg5, hg6, hb7⟩
         have hz7 : w6.heap.size ≤ w7.heap.size := hb7.size
         have hb7' : Below w6.heap.size w6 w7 := (Below.refl _ _).drew.trans hb7
         replace x0 := below_at hb7' (by omega) x0
         replace x1 := below_at hb7' (by omega) x1
         replace y0 := below_at hb7' (by omega) y0
         replace y1 := below_at hb7' (by omega) y1
         have HC := Lib.hid (And.intro hb7' (And.intro hc7 hg6))
         clear hc7 hb7 hb7' hg6)
      | (go_at_call 18
         obtain ⟨hb7, hc7, hg6⟩ := HC.out
         have hc8 := HB.out.2.below hb7 (by omega) (by omega)
         refine (eqAuto_same _ _ D _ ⟨_, _, rfl, hc8.is0 hs (by omega), hc8.is1 hs (by omega)⟩ ⟨_, _, rfl, hc7.is0 hs (by omega), hc7.is1 hs (by omega)⟩).mono ?_
         rintro e w8 ⟨rfl, hb8⟩
         have hb8' := HB.out.1.trans ((hb7.mono (by omega)).trans (hb8.mono (by omega)))
         clear hc8 hb7 hc7 hg6
         replace x0 := below_at hb8 (by omega) x0
         replace x1 := below_at hb8 (by omega) x1
         replace y0 := below_at hb8 (by omega) y0
         replace y1 := below_at hb8 (by omega) y1))
  go_wp2
  go_ret
  exact ⟨rfl, hb8'⟩


end Go.Proofs.Ytoaelngalnojiaa
