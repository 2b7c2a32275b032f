/- What the helper functions of the exact laws compute (sizes, copies, comparisons): one contract each. -/
import Derived.Test.YtoaelngalnojiaaChecked
import Derived.Test.YtoaelngalnojiaaBase
import Derived.WalkSmall
namespace Go.Proofs.Ytoaelngalnojiaa
open Go.RowKit

theorem Try_info3 : (Try.prog.info? 3).map (fun i => (i.zero, i.size, i.bytes)) = some (some (.int .i64 0), 1, 8) := by kernel_rfl

theorem Try_info22 : (Try.prog.info? 22).map (fun i => (i.zero, i.size, i.bytes)) = some (some (.slice none 0 0), 1, 24) := by kernel_rfl

def szR (left : Int) (n : Nat) : Int := if left - n < 0 then -1 else left - n
theorem szIntS_any (A : Option Addr) (n c : Nat) (left : Int) (w : World) (h0 : 0 ≤ left) (h1 : left ≤ 1048576) (hn : n ≤ maxLen) :
    Calls Try.prog 45 #[.slice A n c, .int .i64 left] w fun e w' => e = .returned (.int .i64 (szR left n)) ∧ w = w' := by
  unfold maxLen at hn
  by_cases h : left - n < 0
  all_goals
    go_enter Try.func45, Try.ntmps45
    go_wp2
    go_ret
    refine ⟨ret_int (by unfold szR; split <;> omega), rfl⟩

def SzPost (w : World) (left : Int) (ll : List (List Int)) (e : Ending) (w' : World) : Prop :=
  w = w' ∧ ∃ r, e = .returned (.int .i64 r) ∧ -1 ≤ r ∧ (0 ≤ r → r ≤ left ∧ ll.length ≤ 1048576 ∧ ∀ k, k < ll.length → (nthL ll k).length ≤ 1048576)
set_option maxHeartbeats 400000 in
theorem szIntSS_any (v : Value) (ll : List (List Int)) (left : Int) (w : World) (h : ISS w.heap.size w v ll) (h0 : 0 ≤ left) (h1 : left ≤ 1048576) :
    Calls Try.prog 46 #[v, .int .i64 left] w (SzPost w left ll) := by
  obtain ⟨A, c, rfl, hl, hm, hA⟩ := h
  unfold maxLen at hm
  have HA := Lib.hid hA
  clear hA
  by_cases hs : left - ll.length < 0
  · go_enter Try.func46, Try.ntmps46
    go_wp2
    go_ret
    exact ⟨rfl, -1, rfl, by omega, fun h => absurd h (by omega)⟩
  · go_enter Try.func46, Try.ntmps46
    go_wp2
    go_loop [1, 5] (fun s i => ∃ (k : Nat) (x : Int), k ≤ ll.length ∧ i = .int .i64 k ∧ s = .int .i64 x ∧ 0 ≤ x ∧ x ≤ left ∧ ∀ j, j < k → (nthL ll j).length ≤ 1048576) (fun _ i => ll.length - (intOf i).toNat)
    case atStart => exact ⟨0, _, by omega, rfl, rfl, by omega, by omega, fun j hj => absurd hj (by omega)⟩
    case round =>
      obtain ⟨k, x, hk, rfl, rfl, hx0, hx1, hr⟩ := hrel
      have HR := Lib.hid hr
      clear hr
      by_cases hlt : k < ll.length
      · obtain ⟨b, o, rfl, hb, hc⟩ := HA.out (by omega)
        obtain ⟨u, hkc, hi⟩ := hc k hlt
        obtain ⟨A', c', rfl, hl', hm', -⟩ := hi
        clear hc HA
        have hkl : (k : Int) < (ll.length : Int) := by omega
        by_cases hz : x - (nthL ll k).length < 0
        · have hsz : szR x (nthL ll k).length = -1 := by simp [szR, hz]
          go_wp2_with ((go_at_call 45; refine (szIntS_any _ _ _ _ _ (by omega) (by omega) (by omega)).mono ?_; rintro e w' ⟨rfl, rfl⟩))
          go_ret
          exact ⟨rfl, -1, rfl, by omega, fun h => absurd h (by omega)⟩
        · have hsz : szR x (nthL ll k).length = x - (nthL ll k).length := by simp [szR, hz]
          go_wp2_with ((go_at_call 45; refine (szIntS_any _ _ _ _ _ (by omega) (by omega) (by omega)).mono ?_; rintro e w' ⟨rfl, rfl⟩))
          go_round
          case rel => exact ⟨k + 1, x - (nthL ll k).length, by omega, by go_num, rfl, by omega, by omega, fun j hj => by
            by_cases e : j = k
            · subst e; omega
            · exact HR.out j (by omega)⟩
          case measure => simp [intOf]; omega
      · go_wp2
        go_ret
        exact ⟨rfl, x, rfl, by omega, fun _ => ⟨by omega, by omega, fun j hj => HR.out j (by omega)⟩⟩

def SzAPost (w : World) (D : AutoD) (e : Ending) (w' : World) : Prop :=
  Below w.heap.size w w' ∧ ∃ r, e = .returned (.int .i64 r) ∧ (0 ≤ r → D.ends.length ≤ 1048576 ∧ D.next.length ≤ 1048576 ∧ ∀ k, k < D.next.length → (nthL D.next k).length ≤ 1048576)
theorem szAuto_any (v0 v1 : Value) (D : AutoD) (w : World) (h0 : IS w.heap.size w v0 D.ends) (h1 : ISS w.heap.size w v1 D.next) :
    Calls Try.prog 14 #[.agg #[v0, v1], .int .i64 1048576] w (SzAPost w D) := by
  obtain ⟨A0, c0, rfl, hl0, hm0, -⟩ := h0
  obtain ⟨A1, c1, rfl, -⟩ := id h1
  by_cases hz : (1048576 : Int) - D.ends.length < 0
  · have hsz : szR 1048576 D.ends.length = -1 := by simp only [szR, hz, if_true]
    go_enter Try.func14, Try.ntmps14
    go_wp2_with ((go_at_call 45; refine (szIntS_any _ _ _ _ _ (by omega) (by omega) (by omega)).mono ?_; rintro e w' ⟨rfl, rfl⟩))
    go_ret
    exact ⟨(Below.refl _ _).alloc (Nat.le_refl _) _, -1, rfl, fun h => absurd h (by omega)⟩
  · have hsz : szR 1048576 D.ends.length = 1048576 - D.ends.length := by simp only [szR, hz, if_false]
    go_enter Try.func14, Try.ntmps14
    go_wp2_with ((go_at_call 45; refine (szIntS_any _ _ _ _ _ (by omega) (by omega) (by omega)).mono ?_; rintro e w' ⟨rfl, rfl⟩))
    refine (szIntSS_any _ D.next _ _ ((h1.below ((Below.refl _ _).alloc (Nat.le_refl _) _)).mono (by simp)) (by omega) (by omega)).mono ?_
    rintro e w' ⟨rfl, r, rfl, hr1, hr⟩
    have HR := Lib.hid hr
    clear hr hsz
    by_cases hr0 : r < 0
    · go_wp2
      go_ret
      exact ⟨(Below.refl _ _).alloc (Nat.le_refl _) _, -1, rfl, fun h => absurd h (by omega)⟩
    · go_wp2
      go_ret
      exact ⟨(Below.refl _ _).alloc (Nat.le_refl _) _, r, rfl, fun h => ⟨by omega, (HR.out h).2⟩⟩

def ToIPost (w : World) (l : List Int) (e : Ending) (w' : World) : Prop :=
  e = .returned (.slice (some ⟨w.heap.size, 0, none⟩) l.length l.length) ∧ w'.heap.size = w.heap.size + 1 ∧ Below w.heap.size w w' ∧ w'.rowIs w.heap.size 3 l.length (fun k => .int .i64 (nth l k))
set_option maxHeartbeats 400000 in
theorem toIntS_any (v : Value) (l : List Int) (w : World) (h : IS w.heap.size w v l) (hn : l.length ≤ 1048576) :
    Calls Try.prog 20 #[v] w (ToIPost w l) := by
  obtain ⟨A, c, rfl, hl, hm, hA⟩ := h
  have HA := Lib.hid hA
  clear hA
  have hmk := run_make_row' (P := Try.prog) 22 3 (.int .i64 0) 8 Try.underlying22 Try_info3 rfl .i64 .i64 l.length (by omega) (by omega)
  go_enter Try.func20, Try.ntmps20
  go_wp2
  clear hmk
  go_loopw [4] (fun i wr => ∃ k : Nat, k ≤ l.length ∧ i = .int .i64 k ∧ Below w.heap.size w wr ∧ wr.heap.size = w.heap.size + 1 ∧ wr.rowIs w.heap.size 3 l.length (fun j => .int .i64 (if j < k then nth l j else 0)))
    (fun i _ => l.length - (intOf i).toNat)
  case atStart => exact ⟨0, by omega, rfl, (Below.refl _ _).alloc (Nat.le_refl _) _, by simp, (World.rowIs_made w _ _ _).congr (fun j _ => by simp)⟩
  case round =>
    obtain ⟨k, hk, rfl, hb, hs, hrow⟩ := hrel
    by_cases hlt : k < l.length
    · obtain ⟨b, o, rfl, hbl, hc⟩ := HA.out (by omega)
      have hkc := below_at hb hbl (hc k hlt)
      have hkl : (k : Int) < (l.length : Int) := by omega
      have hst := hrow.cell hlt
      have hfr := hrow.frozen k
      have HS := Lib.hid (And.intro hs hrow)
      clear hc hs hrow HA
      go_wp2
      go_roundw
      case rel =>
        refine ⟨k + 1, by omega, by go_num, hb.setCell (Nat.le_refl _) _, by simp [HS.out.1], (HS.out.2.set k _).congr (fun j hj => ?_)⟩
        by_cases e : j = k
        · subst e; simp
        · simp only [e, if_false]
          by_cases hjk : j < k
          · rw [if_pos hjk, if_pos (by omega)]
          · rw [if_neg hjk, if_neg (by omega)]
      case measure => simp [intOf]; omega
    · obtain rfl : k = l.length := by omega
      have HS := Lib.hid (And.intro hs hrow)
      clear hs hrow
      go_wp2
      go_ret
      exact ⟨rfl, HS.out.1, hb, HS.out.2.congr (fun j hj => by rw [if_pos hj])⟩

def ToIIPost (w : World) (ll : List (List Int)) (e : Ending) (w' : World) : Prop :=
  e = .returned (.slice (some ⟨w.heap.size, 0, none⟩) ll.length ll.length) ∧ w'.heap.size = w.heap.size + 1 + ll.length ∧ Below w.heap.size w w' ∧
  w'.rowIs w.heap.size 22 ll.length (fun j => .slice (some ⟨w.heap.size + 1 + j, 0, none⟩) (nthL ll j).length (nthL ll j).length) ∧
  ∀ j, j < ll.length → w'.rowIs (w.heap.size + 1 + j) 3 (nthL ll j).length (fun k => .int .i64 (nth (nthL ll j) k))
set_option maxHeartbeats 400000 in
theorem toIntSS_any (v : Value) (ll : List (List Int)) (w : World) (h : ISS w.heap.size w v ll) (hn : ll.length ≤ 1048576) (hr : ∀ k, k < ll.length → (nthL ll k).length ≤ 1048576) :
    Calls Try.prog 49 #[v] w (ToIIPost w ll) := by
  obtain ⟨A, c, rfl, hl, hm, hA⟩ := h
  have HA := Lib.hid hA
  have HR := Lib.hid hr
  clear hA hr
  have hmk := run_make_row' (P := Try.prog) 23 22 (.slice none 0 0) 24 Try.underlying23 Try_info22 rfl .i64 .i64 ll.length (by omega) (by omega)
  go_enter Try.func49, Try.ntmps49
  go_wp2
  clear hmk
  go_loopw [4] (fun i wr => ∃ k : Nat, k ≤ ll.length ∧ i = .int .i64 k ∧ Below w.heap.size w wr ∧ wr.heap.size = w.heap.size + 1 + k ∧
      wr.rowIs w.heap.size 22 ll.length (fun j => if j < k then .slice (some ⟨w.heap.size + 1 + j, 0, none⟩) (nthL ll j).length (nthL ll j).length else .slice none 0 0) ∧
      ∀ j, j < k → wr.rowIs (w.heap.size + 1 + j) 3 (nthL ll j).length (fun x => .int .i64 (nth (nthL ll j) x)))
    (fun i _ => ll.length - (intOf i).toNat)
  case atStart => exact ⟨0, by omega, rfl, (Below.refl _ _).alloc (Nat.le_refl _) _, by simp, (World.rowIs_made w _ _ _).congr (fun j _ => by simp), fun j hj => absurd hj (by omega)⟩
  case round =>
    obtain ⟨k, hk, rfl, hb, hs, hrow, hrows⟩ := hrel
    have HS := Lib.hid (And.intro hs (And.intro hrow hrows))
    clear hs hrow hrows
    by_cases hlt : k < ll.length
    · obtain ⟨b, o, rfl, hbl, hc⟩ := HA.out (by omega)
      obtain ⟨u, hku, hi⟩ := hc k hlt
      have hkc := below_at hb hbl hku
      have hkl : (k : Int) < (ll.length : Int) := by omega
      clear hc HA hku
      have hgs : w.heap.size < wr.heap.size := by have := HS.out.1; omega
      go_wp2_with fail
      refine (toIntS_any _ (nthL ll k) _ ((hi.below hb).mono (by omega)) (HR.out k hlt)).mono ?_
      rintro e w1 ⟨rfl, hs1, hb1, hr1⟩
      have hrow1 := HS.out.2.1.of_block (hb1.block w.heap.size hgs)
      have hst := hrow1.cell hlt
      have hfr := hrow1.frozen k
      have H1 := Lib.hid (And.intro hs1 (And.intro hb1 (And.intro hr1 hrow1)))
      clear hs1 hb1 hr1 hrow1
      go_wp2
      go_roundw
      case rel =>
        obtain ⟨hs1, hb1, hr1, hrow1⟩ := H1.out
        have hs := HS.out.1
        rw [hs] at hr1
        refine ⟨k + 1, by omega, by go_num, (hb.trans (hb1.mono (by omega))).setCell (Nat.le_refl _) _, by simp [hs1, hs]; omega, (hrow1.set k _).congr (fun j hj => ?_), fun j hj => ?_⟩
        · by_cases e : j = k
          · subst e; simp [hs]
          · simp only [e, if_false]
            by_cases hjk : j < k
            · rw [if_pos hjk, if_pos (by omega)]
            · rw [if_neg hjk, if_neg (by omega)]
        · refine World.rowIs.setOther ?_ (by show w.heap.size + 1 + j ≠ w.heap.size; omega) _
          by_cases e : j = k
          · subst e; exact hr1
          · exact (HS.out.2.2 j (by omega)).of_block (hb1.block _ (by omega))
      case measure => simp [intOf]; omega
    · obtain rfl : k = ll.length := by omega
      go_wp2
      go_ret
      exact ⟨rfl, HS.out.1, hb, HS.out.2.1.congr (fun j hj => by rw [if_pos hj]), HS.out.2.2⟩

set_option maxHeartbeats 400000 in
theorem eqIntS_any (va vb : Value) (l m : List Int) (w : World) (ha : IS w.heap.size w va l) (hb : IS w.heap.size w vb m) :
    Calls Try.prog 22 #[va, vb] w fun e w' => e = .returned (.bool (eqI l m)) ∧ ∃ n, w' = w.drewN n := by
  obtain ⟨A, c, rfl, hl, hm, hA⟩ := ha
  obtain ⟨B, d, rfl, hl', hm', hB⟩ := hb
  unfold maxLen at hm hm'
  have HA := Lib.hid hA
  have HB := Lib.hid hB
  clear hA hB
  by_cases hlen : l.length = m.length
  case neg =>
    have hne : ((l.length : Int) != (m.length : Int)) = true := by rw [bne_iff_ne]; omega
    go_enter Try.func22, Try.ntmps22
    go_wp2
    go_ret
    exact ⟨ret_bool (eqI_f (fun e => hlen (by rw [e]))).symm, 0, rfl⟩
  have hne : ((l.length : Int) != (m.length : Int)) = false := by rw [bne_eq_false_iff_eq]; omega
  have HL := Lib.hid hlen
  clear hlen
  go_enter Try.func22, Try.ntmps22
  go_wp2
  clear hne
  go_loopw [5] (fun i wr => ∃ k : Nat, k ≤ l.length ∧ i = .int .i64 k ∧ (∃ n, wr = w.drewN n) ∧ ∀ j, j < k → nth l j = nth m j) (fun i _ => l.length - (intOf i).toNat)
  case atStart => exact ⟨0, by omega, rfl, ⟨0, rfl⟩, fun j hj => absurd hj (by omega)⟩
  case round =>
    obtain ⟨k, hk, rfl, ⟨n, rfl⟩, hr⟩ := hrel
    have HR := Lib.hid hr
    clear hr
    obtain ⟨W, hW⟩ : ∃ W, w.drewN n = W := ⟨_, rfl⟩
    have HW := Lib.hid hW
    by_cases hlt : k < l.length
    · obtain ⟨b, o, rfl, hbl, hc⟩ := HA.out (by omega)
      obtain ⟨b', o', rfl, hbl', hc'⟩ := HB.out (by have := HL.out; omega)
      have hkc : W.cell? ⟨b, o + k, none⟩ = some (.int .i64 (nth l k)) := by rw [← hW]; exact hc k hlt
      have hkc' : W.cell? ⟨b', o' + k, none⟩ = some (.int .i64 (nth m k)) := by rw [← hW]; exact hc' k (by have := HL.out; omega)
      have hkl : (k : Int) < (l.length : Int) := by omega
      have hkl' : (k : Int) < (m.length : Int) := by have := HL.out; omega
      clear hc hc' HA HB
      rw [hW]
      clear hW
      by_cases he : nth l k = nth m k
      · have hne : (nth l k != nth m k) = false := by rw [bne_eq_false_iff_eq]; exact he
        have HE := Lib.hid he
        clear he
        go_wp2_with fail
        go_quiet (fail)
        go_wp2
        go_roundw
        case rel => exact ⟨k + 1, by omega, by go_num, ⟨n + nq, by rw [← HW.out, World.drewN_drewN]⟩, fun j hj => by
          by_cases e : j = k
          · subst e; exact HE.out
          · exact HR.out j (by omega)⟩
        case measure => simp [intOf]; omega
      · have hne : (nth l k != nth m k) = true := by rw [bne_iff_ne]; exact he
        have HE := Lib.hid he
        clear he
        go_wp2_with fail
        go_quiet (fail)
        go_wp2
        go_ret
        exact ⟨ret_bool (eqI_f (fun e => HE.out (by rw [e]))).symm, n + nq, by rw [← HW.out, World.drewN_drewN]⟩
    · obtain rfl : k = l.length := by omega
      rw [hW]
      clear hW
      go_wp2
      go_ret
      exact ⟨ret_bool (eqI_t (nth_ext HL.out HR.out)).symm, n, HW.out.symm⟩

set_option maxHeartbeats 400000 in
theorem eqIntSS_any (va vb : Value) (l m : List (List Int)) (w : World) (ha : ISS w.heap.size w va l) (hb : ISS w.heap.size w vb m) :
    Calls Try.prog 51 #[va, vb] w fun e w' => e = .returned (.bool (eqII l m)) ∧ ∃ n, w' = w.drewN n := by
  obtain ⟨A, c, rfl, hl, hm, hA⟩ := ha
  obtain ⟨B, d, rfl, hl', hm', hB⟩ := hb
  unfold maxLen at hm hm'
  have HA := Lib.hid hA
  have HB := Lib.hid hB
  clear hA hB
  by_cases hlen : l.length = m.length
  case neg =>
    have hne : ((l.length : Int) != (m.length : Int)) = true := by rw [bne_iff_ne]; omega
    go_enter Try.func51, Try.ntmps51
    go_wp2
    go_ret
    exact ⟨ret_bool (eqII_f (fun e => hlen (by rw [e]))).symm, 0, rfl⟩
  have hne : ((l.length : Int) != (m.length : Int)) = false := by rw [bne_eq_false_iff_eq]; omega
  have HL := Lib.hid hlen
  clear hlen
  go_enter Try.func51, Try.ntmps51
  go_wp2
  clear hne
  go_loopw [5] (fun i wr => ∃ k : Nat, k ≤ l.length ∧ i = .int .i64 k ∧ (∃ n, wr = w.drewN n) ∧ ∀ j, j < k → nthL l j = nthL m j) (fun i _ => l.length - (intOf i).toNat)
  case atStart => exact ⟨0, by omega, rfl, ⟨0, rfl⟩, fun j hj => absurd hj (by omega)⟩
  case round =>
    obtain ⟨k, hk, rfl, ⟨n, rfl⟩, hr⟩ := hrel
    have HR := Lib.hid hr
    clear hr
    obtain ⟨W, hW⟩ : ∃ W, w.drewN n = W := ⟨_, rfl⟩
    have HW := Lib.hid hW
    by_cases hlt : k < l.length
    · obtain ⟨b, o, rfl, hbl, hc⟩ := HA.out (by omega)
      obtain ⟨b', o', rfl, hbl', hc'⟩ := HB.out (by have := HL.out; omega)
      obtain ⟨u, hu, hi⟩ := hc k hlt
      obtain ⟨u', hu', hi'⟩ := hc' k (by have := HL.out; omega)
      have hkc : W.cell? ⟨b, o + k, none⟩ = some u := by rw [← hW]; exact hu
      have hkc' : W.cell? ⟨b', o' + k, none⟩ = some u' := by rw [← hW]; exact hu'
      have hI : IS w.heap.size W u (nthL l k) := by rw [← hW]; exact hi
      have hI' : IS w.heap.size W u' (nthL m k) := by rw [← hW]; exact hi'
      have hkl : (k : Int) < (l.length : Int) := by omega
      have hkl' : (k : Int) < (m.length : Int) := by have := HL.out; omega
      have hsz : w.heap.size ≤ W.heap.size := by rw [← hW]; exact Nat.le_refl _
      clear hc hc' HA HB hu hu' hi hi'
      rw [hW]
      clear hW
      by_cases he : nthL l k = nthL m k
      · have hne : eqI (nthL l k) (nthL m k) = true := eqI_t he
        have HE := Lib.hid he
        clear he
        go_wp2_with fail
        go_quiet ((go_at_call 22; exact qdraw (eqIntS_any _ _ _ _ _ (hI.mono hsz) (hI'.mono hsz))))
        go_wp2
        go_roundw
        case rel => exact ⟨k + 1, by omega, by go_num, ⟨n + nq, by rw [← HW.out, World.drewN_drewN]⟩, fun j hj => by
          by_cases e : j = k
          · subst e; exact HE.out
          · exact HR.out j (by omega)⟩
        case measure => simp [intOf]; omega
      · have hne : eqI (nthL l k) (nthL m k) = false := eqI_f he
        have HE := Lib.hid he
        clear he
        go_wp2_with fail
        go_quiet ((go_at_call 22; exact qdraw (eqIntS_any _ _ _ _ _ (hI.mono hsz) (hI'.mono hsz))))
        go_wp2
        go_ret
        exact ⟨ret_bool (eqII_f (fun e => HE.out (by rw [e]))).symm, n + nq, by rw [← HW.out, World.drewN_drewN]⟩
    · obtain rfl : k = l.length := by omega
      rw [hW]
      clear hW
      go_wp2
      go_ret
      exact ⟨ret_bool (eqII_t (nthL_ext HL.out HR.out)).symm, n, HW.out.symm⟩

/-- A fresh copy of the automaton D lies here: its ends in block g0, its rows in block g1, row j in block g1 + 1 + j. -/
structure AutoC (w : World) (D : AutoD) (g0 g1 : Nat) : Prop where
  e : w.rowIs g0 3 D.ends.length (fun k => .int .i64 (nth D.ends k))
  n : w.rowIs g1 22 D.next.length (fun j => .slice (some ⟨g1 + 1 + j, 0, none⟩) (nthL D.next j).length (nthL D.next j).length)
  r : ∀ j, j < D.next.length → w.rowIs (g1 + 1 + j) 3 (nthL D.next j).length (fun k => .int .i64 (nth (nthL D.next j) k))

/-- The sizes that szAuto lets in. -/
structure SmallA (D : AutoD) : Prop where
  e : D.ends.length ≤ 1048576
  n : D.next.length ≤ 1048576
  r : ∀ k, k < D.next.length → (nthL D.next k).length ≤ 1048576

theorem AutoC.is0 {w : World} {D : AutoD} {g0 g1 B : Nat} (h : AutoC w D g0 g1) (hs : SmallA D) (h0 : g0 < B) : IS B w (.slice (some ⟨g0, 0, none⟩) D.ends.length D.ends.length) D.ends :=
  IS.of_row h.e rfl (by have := hs.e; unfold maxLen; omega) h0
theorem AutoC.is1 {w : World} {D : AutoD} {g0 g1 B : Nat} (h : AutoC w D g0 g1) (hs : SmallA D) (h1 : g1 + D.next.length < B) : ISS B w (.slice (some ⟨g1, 0, none⟩) D.next.length D.next.length) D.next := by
  refine ⟨_, _, rfl, Nat.le_refl _, by have := hs.n; unfold maxLen; omega, fun hl => ⟨g1, 0, rfl, by omega, fun k hk => ?_⟩⟩
  rw [Nat.zero_add]
  exact ⟨_, h.n.cell hk, IS.of_row (h.r k hk) rfl (by have := hs.r k hk; unfold maxLen; omega) (by omega)⟩
theorem AutoC.below {w w' : World} {D : AutoD} {g0 g1 B : Nat} (h : AutoC w D g0 g1) (hb : Below B w w') (h0 : g0 < B) (h1 : g1 + D.next.length < B) : AutoC w' D g0 g1 :=
  ⟨h.e.of_block (hb.block _ h0), h.n.of_block (hb.block _ (by omega)), fun j hj => (h.r j hj).of_block (hb.block _ (by omega))⟩

def ToAPost (w : World) (D : AutoD) (e : Ending) (w' : World) : Prop :=
  ∃ g0 g1, e = .returned (.agg #[.slice (some ⟨g0, 0, none⟩) D.ends.length D.ends.length, .slice (some ⟨g1, 0, none⟩) D.next.length D.next.length]) ∧
    AutoC w' D g0 g1 ∧ w.heap.size ≤ g0 ∧ g0 < g1 ∧ g1 + D.next.length < w'.heap.size ∧ Below w.heap.size w w'
set_option maxHeartbeats 400000 in
theorem toAuto_any (v : Value) (D : AutoD) (w : World) (h : AutoV w.heap.size w v D) (hs : SmallA D) :
    Calls Try.prog 16 #[v] w (ToAPost w D) := by
  obtain ⟨v0, v1, rfl, h0, h1⟩ := h
  go_enter Try.func16, Try.ntmps16
  go_wp2_with fail
  refine (toIntS_any _ D.ends _ ((h0.below ((((Below.refl _ _).alloc (Nat.le_refl _) _).alloc (by simp) _).alloc (by simp <;> omega) _)).mono (by simp <;> omega)) hs.e).mono ?_
  rintro e w1 ⟨rfl, hs1, hb1, hr1⟩
  have hW : Below w.heap.size w (((w.alloc (.cells #[v0, v1] 25)).alloc (.cells #[.slice none 0 0, .slice none 0 0] 28)).alloc (.cells #[.slice none 0 0, .slice none 0 0] 28)) :=
    (((Below.refl _ _).alloc (Nat.le_refl _) _).alloc (by simp) _).alloc (by simp <;> omega) _
  have b0 : Blk w1 w.heap.size 25 #[v0, v1] := Blk.below (((Blk.new w _ _).alloc _).alloc _) hb1 (by simp <;> omega)
  have b1 : Blk w1 (w.heap.size + 1) 28 #[.slice none 0 0, .slice none 0 0] := Blk.below (by have := (Blk.new (w.alloc (.cells #[v0, v1] 25)) 28 #[.slice none 0 0, .slice none 0 0]).alloc (.cells #[.slice none 0 0, .slice none 0 0] 28); simpa using this) hb1 (by simp <;> omega)
  have b2 : Blk w1 (w.heap.size + 2) 28 #[.slice none 0 0, .slice none 0 0] := Blk.below (by have := Blk.new ((w.alloc (.cells #[v0, v1] 25)).alloc (.cells #[.slice none 0 0, .slice none 0 0] 28)) 28 #[.slice none 0 0, .slice none 0 0]; simpa using this) hb1 (by simp <;> omega)
  have hz1 : w1.heap.size = w.heap.size + 4 := by rw [hs1]; simp
  have hr1' : w1.rowIs (w.heap.size + 3) 3 D.ends.length (fun k => .int .i64 (nth D.ends k)) := by simpa using hr1
  have hbw1 : Below w.heap.size w w1 := hW.trans (hb1.mono (by simp <;> omega))
  clear hs1 hb1 hr1 hW
  have H1 := Lib.hid (And.intro hz1 (And.intro hr1' (And.intro b0 (And.intro b1 (And.intro b2 hbw1)))))
  have c0 := b0.cell0
  have c1 := b0.cell1
  have d0 := b2.cell0
  have f0 := b2.frozen 0
  clear hz1 hr1' hbw1 b0 b1 b2
  go_wp2_with fail
  clear c0 c1 d0 f0
  generalize hw2 : World.setCell w1 _ _ = w2
  obtain ⟨hz1, hr1, b0, b1, b2, hbw1⟩ := H1.out
  have b0' : Blk w2 _ _ _ := hw2 ▸ b0.far (p := ⟨w.heap.size + 2, 0, none⟩) (by simp) _
  have b1' : Blk w2 _ _ _ := hw2 ▸ b1.far (p := ⟨w.heap.size + 2, 0, none⟩) (by simp) _
  have b2' : Blk w2 _ _ _ := hw2 ▸ b2.set_ 0 _
  have hr2 : w2.rowIs _ _ _ _ := hw2 ▸ hr1.setOther (a := ⟨w.heap.size + 2, 0, none⟩) (by simp) _
  have hbw2 : Below w.heap.size w w2 := hw2 ▸ hbw1.setCell (p := ⟨w.heap.size + 2, 0, none⟩) (by simp) _
  have hz2 : w2.heap.size = w.heap.size + 4 := by rw [← hw2]; simp [World.setCell, hz1]
  clear hz1 hr1 b0 b1 b2 hbw1 H1
  refine (toIntSS_any _ D.next _ ((h1.below hbw2).mono (by omega)) hs.n hs.r).mono ?_
  rintro e w3 ⟨rfl, hs3, hb3, hr3, hrr3⟩
  have b1 := b1'.below hb3 (by omega)
  have b2 := b2'.below hb3 (by omega)
  have c0 := (b0'.below hb3 (by omega)).cell0
  have c1 := (b0'.below hb3 (by omega)).cell1
  have r0 := b1.cell0
  have r1 := b1.cell1
  have d0 : w3.cell? ⟨w.heap.size + 2, 0, none⟩ = _ := b2.cell 0
  have d1 : w3.cell? ⟨w.heap.size + 2, 1, none⟩ = some (.slice none 0 0) := b2.cell 1
  have f0 := b2.frozen 0
  have f1 := b2.frozen 1
  have g0 := b1.frozen 0
  have g1 := b1.frozen 1
  have hr4 := hr2.of_block (hb3.block _ (by omega))
  have hbw3 := hbw2.trans (hb3.mono (by omega))
  have H3 := Lib.hid (And.intro hz2 (And.intro hs3 (And.intro hr3 (And.intro hrr3 (And.intro hr4 hbw3)))))
  simp at d0
  clear hz2 hs3 hr3 hrr3 hr4 hbw3 b1 b2 b0' b1' b2' hr2 hbw2 hb3 h0 h1
  go_wp2_with fail
  obtain ⟨hz2, hs3, hr3, hrr3, hr4, hbw3⟩ := H3.out
  refine bodyPost_ret (v := .agg #[.slice (some ⟨w.heap.size + 3, 0, none⟩) D.ends.length D.ends.length, .slice (some ⟨w2.heap.size, 0, none⟩) D.next.length D.next.length]) (by simp [results, Try.results16, go_sem, r0, r1]) rfl ?_
  refine ⟨w.heap.size + 3, w2.heap.size, rfl, ⟨?_, ?_, fun j hj => ?_⟩, by omega, by omega, by simp [World.setCell, hs3], ?_⟩
  · exact ((hr4.setOther (by simp) _).setOther (by simp) _).setOther (by simp) _
  · exact ((hr3.setOther (by simp; omega) _).setOther (by simp; omega) _).setOther (by simp; omega) _
  · exact (((hrr3 j hj).setOther (by simp; omega) _).setOther (by simp; omega) _).setOther (by simp; omega) _
  · exact ((hbw3.setCell (by simp <;> omega) _).setCell (by simp) _).setCell (by simp) _

theorem eqAuto_any (va vb : Value) (D E : AutoD) (w : World) (ha : AutoV w.heap.size w va D) (hb : AutoV w.heap.size w vb E) :
    Calls Try.prog 18 #[va, vb] w fun e w' => e = .returned (.bool (eqI D.ends E.ends && eqII D.next E.next)) ∧ Below w.heap.size w w' := by
  obtain ⟨a0, a1, rfl, ha0, ha1⟩ := ha
  obtain ⟨b0, b1, rfl, hb0, hb1⟩ := hb
  have hW : Below w.heap.size w ((w.alloc (.cells #[a0, a1] 28)).alloc (.cells #[b0, b1] 28)) := ((Below.refl _ _).alloc (Nat.le_refl _) _).alloc (by simp) _
  have Hb := Lib.hid hW
  clear hW
  cases h1 : eqI D.ends E.ends
  · go_enter Try.func18, Try.ntmps18
    go_wp2_with fail
    refine (eqIntS_any _ _ _ _ _ ((ha0.below Hb.out).mono (by simp; omega)) ((hb0.below Hb.out).mono (by simp; omega))).mono ?_
    rintro e w' ⟨rfl, n, rfl⟩
    go_wp2
    go_ret
    exact ⟨ret_bool (by simp), below_drewN Hb.out _⟩
  · cases h2 : eqII D.next E.next
    all_goals
      go_enter Try.func18, Try.ntmps18
      go_wp2_with fail
      refine (eqIntS_any _ _ _ _ _ ((ha0.below Hb.out).mono (by simp; omega)) ((hb0.below Hb.out).mono (by simp; omega))).mono ?_
      rintro e w' ⟨rfl, n, rfl⟩
      go_wp2_with fail
      refine (eqIntSS_any _ _ D.next E.next _ ((ha1.below (below_drewN Hb.out _)).mono (by simp; omega)) ((hb1.below (below_drewN Hb.out _)).mono (by simp; omega))).mono ?_
      rintro e w' ⟨rfl, n', rfl⟩
      go_wp2
      go_ret
      exact ⟨ret_bool (by simp), below_drewN Hb.out _⟩

theorem eqAuto_same (va vb : Value) (D : AutoD) (w : World) (ha : AutoV w.heap.size w va D) (hb : AutoV w.heap.size w vb D) :
    Calls Try.prog 18 #[va, vb] w fun e w' => e = .returned (.bool true) ∧ Below w.heap.size w w' :=
  (eqAuto_any va vb D D w ha hb).mono fun e w' ⟨he, hb⟩ => ⟨by rw [he, eqI_t rfl, eqII_t rfl]; rfl, hb⟩

end Go.Proofs.Ytoaelngalnojiaa
