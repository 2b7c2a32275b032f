/- What the program's EndsAt returns: it goes through the steps on a stack. -/
import Derived.Test.YtoaelngalnojiaaEnds
import Derived.Test.YtoaelngalnojiaaOwn
namespace Go.Proofs.Ytoaelngalnojiaa
open Go.RowKit

set_option maxHeartbeats 2000000 in
theorem ends_any (v : Value) (x : Ex) (e : List Int) (w : World) (hx : x.wf) (he : e = x.steps) (h40 : e.length ≤ 40) (h : IS w.heap.size w v e) :
    Calls Try.prog 55 #[v] w fun r w' => r = .returned (.int .i64 ((endX x : Nat) : Int)) ∧ Below w.heap.size w w' := by
  have hrun : runS e [] = some [x] := by rw [he]; exact runS_steps x hx []
  obtain ⟨A, c, rfl, hl, hm, hA⟩ := h
  unfold maxLen at hm
  have HA := Lib.hid hA
  have HR := Lib.hid hrun
  clear hA hrun he hx
  go_enter Try.func55, Try.ntmps55
  go_wp2
  go_loopw [3, 9] (fun s i wr => ∃ (k : Nat) (st : List Ex), i = .int .i64 k ∧ k ≤ e.length ∧ runS (e.take k) [] = some st ∧ allWf st ∧ wr.ownsRow w.heap.size 3 1 s st.length (vals st) ∧ Below w.heap.size w wr) (fun _ i _ => e.length - (intOf i).toNat)
  case atStart => exact ⟨0, [], rfl, by omega, rfl, trivial, World.ownsRow_nil _ _ _ _, Below.refl _ _⟩
  case round =>
    obtain ⟨k, st, rfl, hk, hst, hwf, hown, hbw⟩ := hrel
    have hdl := depthAt_le ⟨st, hst, rfl⟩ hk
    have hz := hbw.size
    by_cases hlt : k < e.length
    · obtain ⟨bb, o, rfl, hb, hc⟩ := HA.out (by omega)
      have hkc := below_at hbw hb (hc k hlt)
      have hki : (k : Int) < (e.length : Int) := by omega
      obtain ⟨st', hp, hst'⟩ := runS_take hlt hst HR.out
      have HB := Lib.hid (And.intro hst' (And.intro ((push_flat hp).2 hwf) hwf))
      clear hc HA hst hst' hwf
      rcases push_inv hp with ⟨hn0, hn18, rfl⟩ | ⟨hn, a, b, r, rfl, rfl⟩ | ⟨hn, a, b, r, rfl, rfl⟩ | ⟨hn, a, r, rfl, rfl⟩
      · obtain ⟨A', cap, rfl, hc1, hc2⟩ := own_form hown
        unfold maxLen at hc2
        clear hp
        by_cases h15 : nth e k ≤ 15
        · have hB : inB (nth e k) 16 18 = false := inB_f (by omega)
          have hv : ((endX (.leaf (nth e k)) : Nat) : Int) = nth e k := by simp only [endX, if_pos h15]; omega
          have HV := Lib.hid hv
          clear hv
          go_wp2_with (first | (go_at_call 61; refine (isAct_any _ _).mono ?_; rintro e w' ⟨rfl, rfl⟩) | (at_builtin; refine wpList_app1 rfl _ _ rfl rfl hown rfl (by omega) (by omega) ?_; intro v' w3 hown3 hb3))
          go_roundw
          case rel => exact ⟨k + 1, _, by go_num, by omega, HB.out.1, HB.out.2.1, by have := HV.out; simpa only [vals, this, List.length_cons] using hown3, hbw.trans hb3⟩
          case measure => simp [intOf]; omega
        · have hB : inB (nth e k) 16 18 = true := inB_t (by omega)
          have hv : ((endX (.leaf (nth e k)) : Nat) : Int) = 0 := by simp only [endX, if_neg h15]; rfl
          have HV := Lib.hid hv
          clear hv
          go_wp2_with (first | (go_at_call 61; refine (isAct_any _ _).mono ?_; rintro e w' ⟨rfl, rfl⟩) | (at_builtin; refine wpList_app1 rfl _ _ rfl rfl hown rfl (by omega) (by omega) ?_; intro v' w3 hown3 hb3))
          go_roundw
          case rel => exact ⟨k + 1, _, by go_num, by omega, HB.out.1, HB.out.2.1, by have := HV.out; simpa only [vals, this, List.length_cons] using hown3, hbw.trans hb3⟩
          case measure => simp [intOf]; omega
      · obtain ⟨g, cap, rfl, hc1, hc2, hc3, hc4⟩ := own_some hown (by simp)
        obtain ⟨m, hm0⟩ : ∃ m, m = r.length := ⟨_, rfl⟩
        have c0 : wr.cell? ⟨g, m, none⟩ = some (.int .i64 ((endX a : Nat) : Int)) := by rw [hm0, hown.cellAt _ (by simp only [List.length_cons]; omega), vals, List.getElem?_append_left (by rw [vals_len, List.length_cons]; omega), vals_top]
        have c1 : wr.cell? ⟨g, m + 1, none⟩ = some (.int .i64 ((endX b : Nat) : Int)) := by rw [hm0, hown.cellAt _ (by simp only [List.length_cons]; omega)]; exact vals_top b (a :: r)
        have hown2 : wr.ownsRow w.heap.size 3 1 (.slice (some ⟨g, 0, none⟩) m cap) m (vals r) := by
          rw [hm0]
          exact ownsRow_pop (last := [.int .i64 ((endX a : Nat) : Int)]) (by rw [vals_len]; omega) (ownsRow_pop (last := [.int .i64 ((endX b : Nat) : Int)]) (by simp [vals_len]) hown)
        have ea := endX_lt HB.out.2.2.2.1
        have eb := endX_lt HB.out.2.2.1
        simp only [List.length_cons] at hc1 hdl ⊢
        rw [← hm0] at hc1 hdl ⊢
        have HM := Lib.hid hm0
        clear hp hown hm0
        have hB : inB (nth e k) 16 18 = false := inB_f (by omega)
        rw [hn] at hkc hB
        unfold maxLen at hc2
        obtain ⟨q, hq⟩ : ∃ q, q = m + 1 := ⟨_, rfl⟩
        rw [← hq] at c1
        have e0 : (0 : Int) ≤ (m : Int) := by omega
        have e1 : (m : Int) ≤ (cap : Int) := by omega
        have e2 : IntKind.i64.wrap ((m : Int) + 1 + 1 - 2) = m := by rw [IntWalk.i64_in _ (by omega)]; omega
        have e3 : IntKind.i64.wrap ((m : Int) + 1) = q := by rw [IntWalk.i64_in _ (by omega)]; omega
        have e4 : (m : Int) < (m : Int) + 1 + 1 := by omega
        have e5 : (q : Int) < (m : Int) + 1 + 1 := by omega
        have e6 : (0 : Int) ≤ (q : Int) := by omega
        clear hq
        go_wp2_with ((go_at_call 61; refine (isAct_any _ _).mono ?_; rintro e w' ⟨rfl, rfl⟩))
        have hbit := bits_and (endX a) (endX b) (by omega)
        go_region_law ((refine step_app1 (by rfl) _ _ (by rfl) (by rfl) ((hown2.alloc _).drew) (by rfl) (heap_alloc_new wr _) (by omega) (by simp; omega) ?_; intro g' cap' w3 hown3 hb3))
        all_goals
          have hb4 : Below w.heap.size w w3 := hbw.trans ((((Below.refl _ _).alloc hz _).drew).trans hb3)
          clear hb3
          go_wp2
          go_roundw
          case rel => exact ⟨k + 1, _, by go_num, by omega, HB.out.1, HB.out.2.1, by have := HM.out; subst this; exact hown3, hb4⟩
          case measure => simp [intOf]; omega
      · obtain ⟨g, cap, rfl, hc1, hc2, hc3, hc4⟩ := own_some hown (by simp)
        obtain ⟨m, hm0⟩ : ∃ m, m = r.length := ⟨_, rfl⟩
        have c0 : wr.cell? ⟨g, m, none⟩ = some (.int .i64 ((endX a : Nat) : Int)) := by rw [hm0, hown.cellAt _ (by simp only [List.length_cons]; omega), vals, List.getElem?_append_left (by rw [vals_len, List.length_cons]; omega), vals_top]
        have c1 : wr.cell? ⟨g, m + 1, none⟩ = some (.int .i64 ((endX b : Nat) : Int)) := by rw [hm0, hown.cellAt _ (by simp only [List.length_cons]; omega)]; exact vals_top b (a :: r)
        have hown2 : wr.ownsRow w.heap.size 3 1 (.slice (some ⟨g, 0, none⟩) m cap) m (vals r) := by
          rw [hm0]
          exact ownsRow_pop (last := [.int .i64 ((endX a : Nat) : Int)]) (by rw [vals_len]; omega) (ownsRow_pop (last := [.int .i64 ((endX b : Nat) : Int)]) (by simp [vals_len]) hown)
        have ea := endX_lt HB.out.2.2.2.1
        have eb := endX_lt HB.out.2.2.1
        simp only [List.length_cons] at hc1 hdl ⊢
        rw [← hm0] at hc1 hdl ⊢
        have HM := Lib.hid hm0
        clear hp hown hm0
        have hB : inB (nth e k) 16 18 = false := inB_f (by omega)
        rw [hn] at hkc hB
        unfold maxLen at hc2
        obtain ⟨q, hq⟩ : ∃ q, q = m + 1 := ⟨_, rfl⟩
        rw [← hq] at c1
        have e0 : (0 : Int) ≤ (m : Int) := by omega
        have e1 : (m : Int) ≤ (cap : Int) := by omega
        have e2 : IntKind.i64.wrap ((m : Int) + 1 + 1 - 2) = m := by rw [IntWalk.i64_in _ (by omega)]; omega
        have e3 : IntKind.i64.wrap ((m : Int) + 1) = q := by rw [IntWalk.i64_in _ (by omega)]; omega
        have e4 : (m : Int) < (m : Int) + 1 + 1 := by omega
        have e5 : (q : Int) < (m : Int) + 1 + 1 := by omega
        have e6 : (0 : Int) ≤ (q : Int) := by omega
        clear hq
        go_wp2_with ((go_at_call 61; refine (isAct_any _ _).mono ?_; rintro e w' ⟨rfl, rfl⟩))
        have hbit := bits_or (endX a) (endX b) (by omega) (by omega)
        go_region_law ((refine step_app1 (by rfl) _ _ (by rfl) (by rfl) ((hown2.alloc _).drew) (by rfl) (heap_alloc_new wr _) (by omega) (by simp; omega) ?_; intro g' cap' w3 hown3 hb3))
        all_goals
          have hb4 : Below w.heap.size w w3 := hbw.trans ((((Below.refl _ _).alloc hz _).drew).trans hb3)
          clear hb3
          go_wp2
          go_roundw
          case rel => exact ⟨k + 1, _, by go_num, by omega, HB.out.1, HB.out.2.1, by have := HM.out; subst this; exact hown3, hb4⟩
          case measure => simp [intOf]; omega
      · obtain ⟨g, cap, rfl, hc1, hc2, hc3, hc4⟩ := own_some hown (by simp)
        obtain ⟨m, hm0⟩ : ∃ m, m = r.length := ⟨_, rfl⟩
        have c0 : wr.cell? ⟨g, m, none⟩ = some (.int .i64 ((endX a : Nat) : Int)) := by rw [hm0, hown.cellAt _ (by simp only [List.length_cons]; omega)]; exact vals_top a r
        have f0 : wr.frozen? ⟨g, m, none⟩ = false := hown.frozenAt m
        have hst2 := hown.stored m (.int .i64 15)
        have hset : (vals (a :: r)).set m (.int .i64 15) = vals (.str a :: r) := by
          rw [hm0, ← vals_len r]
          simp [vals, endX]
        rw [hset] at hst2
        have hbs : Below w.heap.size wr (wr.setCell ⟨g, m, none⟩ (.int .i64 15)) := Below.grown (Below.refl _ _) hst2.2 hz fun k hk => by injection hk with hk; omega
        have HM := Lib.hid (And.intro hst2.1 hbs)
        simp only [List.length_cons] at hc1 hdl ⊢
        rw [← hm0] at hc1 hdl ⊢
        have HL := Lib.hid hm0
        clear hp hown hm0 hst2 hbs hset
        have hB : inB (nth e k) 16 18 = false := inB_f (by omega)
        rw [hn] at hkc hB
        unfold maxLen at hc2
        go_wp2_with ((go_at_call 61; refine (isAct_any _ _).mono ?_; rintro e w' ⟨rfl, rfl⟩))
        go_roundw
        case rel => exact ⟨k + 1, _, by go_num, by omega, HB.out.1, HB.out.2.1, by have := HM.out.1; have e := HL.out; subst e; exact this, hbw.trans HM.out.2⟩
        case measure => simp [intOf]; omega
    · obtain rfl : k = e.length := by omega
      rw [List.take_length] at hst
      have hsx := HR.out
      rw [hst] at hsx
      injection hsx with hsx
      subst hsx
      obtain ⟨g, cap, rfl, hc1, hc2, hc3, hc4⟩ := own_some hown (by simp)
      have hc0 := hown.cellAt 0 (by simp)
      have hc0' : wr.cell? ⟨g, 0, none⟩ = some (.int .i64 ((endX x : Nat) : Int)) := hc0
      simp only [List.length_cons, List.length_nil] at hc1 ⊢
      clear hc0 hown hst HR
      go_wp2
      go_ret
      exact ⟨rfl, hbw⟩

theorem implEndsAt (v : Value) (l : List Int) (z : Int) (w : World) (h : IS w.heap.size w v l) (hz : endsAt l z) :
    Calls Try.prog 21 #[v] w fun e w' => e = .returned (.int .i64 z) ∧ Below w.heap.size w w' := by
  rcases hz with ⟨hk, rfl⟩ | ⟨x, hx, rfl, hx40, rfl⟩
  · have hb := katB_false.2 hk
    have hK := implKatValid v l w h
    rw [hb] at hK
    go_enter Try.func21, Try.ntmps21
    go_wp2_with ((go_at_call 54; refine (hK).mono ?_; rintro e w' ⟨rfl, rfl⟩))
    go_ret
    exact ⟨rfl, Below.refl _ _⟩
  · have hb := katB_true.2 (KatOK.of hx hx40)
    have hK := implKatValid v _ w h
    rw [hb] at hK
    go_enter Try.func21, Try.ntmps21
    go_wp2_with fail
    refine hK.mono ?_
    rintro e w' ⟨rfl, rfl⟩
    go_wp2_with fail
    refine (ends_any v x _ w hx rfl hx40 h).mono ?_
    rintro e w' ⟨rfl, hb⟩
    go_wp2
    go_ret
    exact ⟨rfl, hb⟩

theorem endsAt_some (l : List Int) : ∃ z, endsAt l z := by
  by_cases h : KatOK l
  · obtain ⟨x, h1, h2, h3⟩ := h.ex
    exact ⟨_, .inr ⟨x, h1, h2, h3, rfl⟩⟩
  · exact ⟨_, .inl ⟨h, rfl⟩⟩

end Go.Proofs.Ytoaelngalnojiaa
