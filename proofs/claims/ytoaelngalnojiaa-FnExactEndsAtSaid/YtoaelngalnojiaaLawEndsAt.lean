/- The law FnExactEndsAt, walked: it returns true and leaves what was there. -/
import Derived.Test.YtoaelngalnojiaaEndsI
import Derived.Test.YtoaelngalnojiaaLawsS
namespace Go.Proofs.Ytoaelngalnojiaa
open Go.RowKit

set_option maxHeartbeats 1000000 in
theorem fnExactEndsAt (v : Value) (l : List Int) (w : World) (h : IS w.heap.size w v l) :
    Calls Try.prog 4 #[v] w fun e w' => e = .returned (.bool true) ∧ Below w.heap.size w w' := by
  obtain ⟨A, c, rfl, hl, hm, -⟩ := id h
  by_cases hn : l.length ≤ 1048576
  case neg =>
    go_enter Try.func4, Try.ntmps4
    go_wp2
    go_ret
    exact ⟨rfl, Below.refl _ _⟩
  obtain ⟨z, hz⟩ := endsAt_some l
  go_enter Try.func4, Try.ntmps4
  go_wp2_with fail
  refine (toIntS_is _ l _ h hn).mono ?_
  rintro e w1 ⟨g1, rfl, hg1, hi1, hb1, hz1⟩
  clear hg1
  have hs1 := hb1.size
  go_wp2_with fail
  refine (specEndsAt _ l z _ hi1 hz).mono ?_
  rintro e w2 ⟨rfl, n1, rfl⟩
  go_wp2_with fail
  have hb2 : Below w.heap.size w (w1.drewN n1) := below_drewN hb1 n1
  obtain ⟨w2, hw2⟩ : ∃ w2, w1.drewN n1 = w2 := ⟨_, rfl⟩
  rw [hw2] at hb2 ⊢
  have hs2 := hb2.size
  clear hw2
  refine (toIntS_is _ l _ ((h.below hb2).mono hs2) hn).mono ?_
  rintro e w3 ⟨g3, rfl, hg3, hi3, hb3, hz3⟩
  clear hg3
  have hs3 := hb3.size
  go_wp2_with fail
  refine (implEndsAt _ l z _ hi3 hz).mono ?_
  rintro e w4 ⟨rfl, hb4⟩
  have hs4 := hb4.size
  have hb5 : Below w.heap.size w w4 := hb2.trans ((hb3.mono hs2).trans (hb4.mono (by omega)))
  have hi4 := (hi3.below hb4).mono hs4
  go_wp2_with fail
  refine (toIntS_is _ l _ ((h.below hb5).mono (by omega)) hn).mono ?_
  rintro e w6 ⟨g6, rfl, hg6, hi6, hb6, hz6⟩
  have hs6 := hb6.size
  clear hg6
  go_wp2_with fail
  refine (eqIS_same _ _ l _ ((hi4.below hb6).mono hs6) hi6).mono ?_
  rintro e w7 ⟨rfl, n7, rfl⟩
  go_wp2
  go_ret
  exact ⟨rfl, below_drewN (hb5.trans (hb6.mono (by omega))) _⟩

end Go.Proofs.Ytoaelngalnojiaa
