/- The law FnExactAutoRun, walked: it returns true and leaves what was there. -/
import Derived.Test.YtoaelngalnojiaaAutoN
import Derived.Test.YtoaelngalnojiaaLaws
namespace Go.Proofs.Ytoaelngalnojiaa
open Go.RowKit

theorem eqIntS_same (va vb : Value) (l : List Int) (w : World) (ha : IS w.heap.size w va l) (hb : IS w.heap.size w vb l) :
    Calls Try.prog 22 #[va, vb] w fun e w' => e = .returned (.bool true) ∧ ∃ n, w' = w.drewN n :=
  (eqIntS_any va vb l l w ha hb).mono fun e w' ⟨he, hb⟩ => ⟨by rw [he, eqI_t rfl], hb⟩

theorem ToIPost.is {w w' : World} {l : List Int} (hr : w'.rowIs w.heap.size 3 l.length (fun k => .int .i64 (nth l k))) (hn : l.length ≤ 1048576) {B : Nat} (hB : w.heap.size < B) :
    IS B w' (.slice (some ⟨w.heap.size, 0, none⟩) l.length l.length) l := IS.of_row hr rfl (by unfold maxLen; omega) hB

set_option maxHeartbeats 1000000 in
theorem fnExactAutoRun (v0 v1 : Value) (D : AutoD) (vt : Value) (t : List Int) (w : World) (h0 : IS w.heap.size w v0 D.ends) (h1 : ISS w.heap.size w v1 D.next) (ht : IS w.heap.size w vt t) :
    Calls Try.prog 9 #[.agg #[v0, v1], vt] w fun e w' => e = .returned (.bool true) ∧ Below w.heap.size w w' := by
  obtain ⟨A, c, rfl, hl, hm, -⟩ := id ht
  by_cases hn : t.length ≤ 1048576
  case neg =>
    go_enter Try.func9, Try.ntmps9
    go_wp2
    go_ret
    exact ⟨rfl, (Below.refl _ _).alloc (Nat.le_refl _) _⟩
  go_enter Try.func9, Try.ntmps9
  go_wp2_with fail
  obtain ⟨W, hW, hbW, hsW, x0, x1, bx⟩ := box2 w v0 v1 25
  rw [hW]
  clear hW
  refine (szAuto_any v0 v1 D W ((h0.below hbW).mono (by omega)) ((h1.below hbW).mono (by omega))).mono ?_
  rintro e w1 ⟨hb1, r, rfl, hr⟩
  have HR := Lib.hid hr
  clear hr
  have bx1 : Blk w1 w.heap.size 25 #[v0, v1] := (show Blk W _ _ _ from bx).below hb1 (by omega)
  have hbw1 : Below w.heap.size w w1 := hbW.trans (hb1.mono (by omega))
  have hz1 : w.heap.size + 1 ≤ w1.heap.size := by have := hb1.size; omega
  clear hb1 bx x0 x1 hbW hsW
  have x0 := bx1.cell0
  have x1 := bx1.cell1
  by_cases hr0 : r < 0
  · go_wp2
    go_ret
    exact ⟨rfl, hbw1⟩
  have hs : SmallA D := let h := HR.out (by omega); ⟨h.1, h.2.1, h.2.2⟩
  go_wp2_with fail
  refine (toAuto_any _ D _ ⟨_, _, rfl, (h0.below hbw1).mono (by omega), (h1.below hbw1).mono (by omega)⟩ hs).mono ?_
  rintro e w2 ⟨g0, g1, rfl, hc2, hg0, hg1, hg2, hb2⟩
  have hz2 := hb2.size
  replace x0 := below_at hb2 (by omega) x0
  replace x1 := below_at hb2 (by omega) x1
  have hbw2 : Below w.heap.size w w2 := hbw1.trans (hb2.mono (by omega))
  go_wp2_with fail
  refine (toIntS_any _ t _ ((ht.below hbw2).mono (by omega)) hn).mono ?_
  rintro e w2' ⟨rfl, hs2', hb2', hr2'⟩
  have hz2' := hb2'.size
  replace x0 := below_at hb2' (by omega) x0
  replace x1 := below_at hb2' (by omega) x1
  have hbw2' : Below w.heap.size w w2' := hbw2.trans (hb2'.mono (by omega))
  have hc2' := hc2.below hb2' (by omega) hg2
  go_wp2_with fail
  refine (specAutoRun _ _ _ D t _ (hc2'.is0 hs (by omega)) (hc2'.is1 hs (by omega)) (ToIPost.is hr2' hn (by omega))).mono ?_
  rintro e w3 ⟨rfl, hb3⟩
  have hz3 := hb3.size
  replace x0 := below_at hb3 (by omega) x0
  replace x1 := below_at hb3 (by omega) x1
  have hbw3 : Below w.heap.size w w3 := hbw2'.trans (hb3.mono (by omega))
  clear hc2 hc2' hr2' hs2' hg0 hg1 hg2
  go_wp2_with fail
  refine (toAuto_any _ D _ ⟨_, _, rfl, (h0.below hbw3).mono (by omega), (h1.below hbw3).mono (by omega)⟩ hs).mono ?_
  rintro e w4 ⟨g2, g3, rfl, hc4, hg2, hg3, hg4, hb4⟩
  have hz4 := hb4.size
  replace x0 := below_at hb4 (by omega) x0
  replace x1 := below_at hb4 (by omega) x1
  have hbw4 : Below w.heap.size w w4 := hbw3.trans (hb4.mono (by omega))
  go_wp2_with fail
  obtain ⟨W5, hW5, hbW5, hsW5, y0, y1, by_⟩ := box2 w4 (.slice (some ⟨g2, 0, none⟩) D.ends.length D.ends.length) (.slice (some ⟨g3, 0, none⟩) D.next.length D.next.length) 28
  rw [hW5]
  have hlW5 : w4.heap.size < W5.heap.size := by omega
  clear hW5 hsW5
  have hc5 := hc4.below hbW5 (by omega) hg4
  have hbw5 : Below w.heap.size w W5 := hbw4.trans (hbW5.mono (by omega))
  refine (toIntS_any _ t _ ((ht.below hbw5).mono (by omega)) hn).mono ?_
  rintro e w5' ⟨rfl, hs5', hb5', hr5'⟩
  have hz5' := hb5'.size
  replace y0 := below_at hb5' (by omega) y0
  replace y1 := below_at hb5' (by omega) y1
  have hc5' := hc5.below hb5' (by omega) (by omega)
  go_wp2_with fail
  refine (implAutoRun _ _ _ D t _ (hc5'.is0 hs (by omega)) (hc5'.is1 hs (by omega)) (ToIPost.is hr5' hn (by omega))).mono ?_
  rintro e w6 ⟨rfl, hb6⟩
  have hz6 := hb6.size
  have hb46 : Below w4.heap.size w4 w6 := hbW5.trans ((hb5'.mono (by omega)).trans (hb6.mono (by omega)))
  replace x0 := below_at hb46 (by omega) x0
  replace x1 := below_at hb46 (by omega) x1
  replace y0 := below_at hb6 (by omega) y0
  replace y1 := below_at hb6 (by omega) y1
  have hc6 := hc5'.below hb6 (by omega) (by omega)
  have ht6 := (ToIPost.is hr5' hn (show W5.heap.size < w5'.heap.size by omega)).below hb6
  have hbw6 : Below w.heap.size w w6 := hbw4.trans (hb46.mono (by omega))
  have hlt : w4.heap.size < w6.heap.size := by omega
  have HB := Lib.hid (And.intro hbw6 (And.intro hc6 ht6))
  have hg4' : g3 + D.next.length < w6.heap.size := by omega
  have hg2' : g2 < w6.heap.size := by omega
  have hh5 : w5'.heap.size ≤ w6.heap.size := hz6
  clear hbw6 hc6 hc5 hc4 hb46 hb6 hbW5 by_ hc5' hr5' hs5' hb5' ht6 hg4 hz5' hbw5
  go_wp2_with fail
  have hx : w.heap.size < w6.heap.size := by omega
  go_region_held3 (fun w' => w'.cell? ⟨w.heap.size, 0, none⟩ = some v0 ∧ w'.cell? ⟨w.heap.size, 1, none⟩ = some v1 ∧ w'.cell? ⟨w4.heap.size, 0, none⟩ = some (.slice (some ⟨g2, 0, none⟩) D.ends.length D.ends.length) ∧
      w'.cell? ⟨w4.heap.size, 1, none⟩ = some (.slice (some ⟨g3, 0, none⟩) D.next.length D.next.length)) (go_keep)
    (first
      | (go_at_call 16
         refine (toAuto_any _ D _ ⟨_, _, rfl, (h0.below HB.out.1.drew).mono (by show _ ≤ w6.heap.size; omega), (h1.below HB.out.1.drew).mono (by show _ ≤ w6.heap.size; omega)⟩ hs).mono ?_
         rintro e w7 ⟨g4, g5, rfl, hc7, hg4', hg5, hg6, hb7⟩
         have hz7 : w6.heap.size ≤ w7.heap.size := hb7.size
         have hb7' : Below w6.heap.size w6 w7 := (Below.refl _ _).drew.trans hb7
         replace x0 := below_at hb7' (by omega) x0
         replace x1 := below_at hb7' (by omega) x1
         replace y0 := below_at hb7' (by omega) y0
         replace y1 := below_at hb7' (by omega) y1
         have HC := Lib.hid (And.intro hb7' (And.intro hc7 hg6))
         clear hc7 hb7 hb7' hg6)
      | (go_at_call 18
         obtain ⟨hb7, hc7, hg6⟩ := HC.out
         have hc8 := HB.out.2.1.below hb7 (by omega) (by omega)
         refine (eqAuto_same _ _ D _ ⟨_, _, rfl, hc8.is0 hs (by omega), hc8.is1 hs (by omega)⟩ ⟨_, _, rfl, hc7.is0 hs (by omega), hc7.is1 hs (by omega)⟩).mono ?_
         rintro e w8 ⟨rfl, hb8⟩
         have hz8 := hb8.size
         have hb8' := HB.out.1.trans ((hb7.mono (by omega)).trans (hb8.mono (by omega)))
         have ht8 := (HB.out.2.2.mono hh5).below (hb7.trans (hb8.mono (by omega)))
         clear hc8 hc7 hg6
         have H8 := Lib.hid (And.intro hb8' ht8)
         clear hb8' ht8 hb7
         replace x0 := below_at hb8 (by omega) x0
         replace x1 := below_at hb8 (by omega) x1
         replace y0 := below_at hb8 (by omega) y0
         replace y1 := below_at hb8 (by omega) y1))
  have hz68 : w6.heap.size ≤ w8.heap.size := by omega
  go_wp2_with fail
  refine (toIntS_any _ t _ ((ht.below H8.out.1).mono (by omega)) hn).mono ?_
  rintro e w9 ⟨rfl, hs9, hb9, hr9⟩
  have hz9 := hb9.size
  go_wp2_with fail
  refine (eqIntS_same _ _ t _ ((H8.out.2.mono (by omega)).below hb9 |>.mono (by omega)) (ToIPost.is hr9 hn (by omega))).mono ?_
  rintro e w10 ⟨rfl, n, rfl⟩
  go_wp2
  go_ret
  exact ⟨rfl, below_drewN (H8.out.1.trans (hb9.mono (by omega))) _⟩

end Go.Proofs.Ytoaelngalnojiaa
