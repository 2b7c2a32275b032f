/- What EndsAt returns, of the program and of the reference: one contract each, at every list of numbers. -/
import Derived.Test.YtoaelngalnojiaaKat
import Derived.Test.YtoaelngalnojiaaAutoF
import Derived.Test.YtoaelngalnojiaaEndsP
import Derived.StillTailTactics
import Derived.WalkSmall
namespace Go.Proofs.Ytoaelngalnojiaa
open Go.RowKit

set_option maxHeartbeats 400000 in
theorem l2Span_any (v : Value) (e L : List Int) (b : Ex) (last : Int) (w : World) (h : IS w.heap.size w v e) (hs : SpanAt e L (L.length + b.steps.length) [b]) (hl : last = L.length + b.steps.length - 1) :
    Calls Try.prog 85 #[v, .int .i64 last] w fun e w' => e = .returned (.int .i64 (L.length : Int)) ∧ w = w' := by
  obtain ⟨A, c, rfl, hlc, hm, hA⟩ := h
  unfold maxLen at hm
  have hle := hs.le
  have hbp := b.steps_pos
  obtain ⟨K, hK⟩ : ∃ K, K = L.length + b.steps.length := ⟨_, rfl⟩
  rw [← hK] at hs hle
  have hl' : last = (K : Int) - 1 := by omega
  have hK0 : 1 ≤ K := by omega
  have HA := Lib.hid hA
  have HS := Lib.hid hs
  subst hl'
  clear hA hs hl hbp hK
  go_enter Try.func85, Try.ntmps85
  go_wp2
  go_loop [5, 6] (fun x i => ∃ (m k : Nat), i = .int .i64 k ∧ x = .int .i64 m ∧ ∃ ys : List Ex, ys.length = m ∧ SpanAt e L k ys) (fun _ i => (intOf i).toNat)
  case atStart => exact ⟨1, K, by first | rfl | go_num | (congr 1; omega), rfl, [b], rfl, HS.out⟩
  case round =>
    obtain ⟨m, k, rfl, rfl, ys, hy, hsp⟩ := hrel
    have hk := hsp.le
    have hyk := hsp.len
    match ys, hy, hsp with
    | [], hy, hsp =>
      have hkL := hsp.nil
      have HH := Lib.hid hkL
      have hm0 : (m : Int) ≤ 0 := by simp at hy; omega
      clear hy hsp hkL hyk
      go_wp2
      go_ret
      exact ⟨ret_int (by rw [HH.out]), rfl⟩
    | y :: r, hy, hsp =>
      obtain ⟨j, rfl, hop, htk, hsp'⟩ := hsp.cons
      have htk2 := takesN_le y.op
      obtain ⟨q, rfl⟩ : ∃ q, m = q + 1 := ⟨r.length, by simp at hy; omega⟩
      have hr : r.length = q := by simpa using hy
      have hq : q + takesN y.op ≤ j := by have := hsp'.len; rw [List.length_append, ← htk, hr] at this; omega
      obtain ⟨bb, o, rfl, hb, hc⟩ := HA.out (by omega)
      have hkc := hc j (by omega)
      rw [hop] at hkc
      have hj : (j : Int) < (e.length : Int) := by omega
      have H1 := Lib.hid (And.intro htk (And.intro hsp' hr))
      clear hc HA htk hsp' hsp hr hy hop hyk
      have hd : ((j + 1 : Nat) : Int) - 1 = j := by omega
      go_wp2_with ((go_at_call 79; refine (l2Takes_any _ _).mono ?_; rintro e w' ⟨rfl, rfl⟩))
      go_round
      case rel => exact ⟨q + takesN y.op, j, by first | rfl | go_num | (congr 1; omega), by first | rfl | go_num | (congr 1; omega), y.kids ++ r, by rw [List.length_append, ← H1.out.1, H1.out.2.2]; omega, H1.out.2.1⟩
      case measure => simp [intOf]

theorem IS.drewN {B : Nat} {w : World} {v : Value} {l : List Int} (h : IS B w v l) (n : Nat) : IS B (w.drewN n) v l := h

set_option maxHeartbeats 400000 in
theorem l2Halves_any (v : Value) (a b : Ex) (n : Int) (w : World) (hb : b.wf) (h : IS w.heap.size w v (a.steps ++ (b.steps ++ [n]))) :
    Calls Try.prog 80 #[v] w fun e w' => ∃ va vb, e = .returned (.tuple #[va, vb]) ∧ IS w.heap.size w va a.steps ∧ IS w.heap.size w vb b.steps ∧ ∃ n, w' = w.drewN n := by
  have hI := h
  obtain ⟨A, c, rfl, hlc, hm, hA⟩ := h
  have hap := a.steps_pos
  have hbp := b.steps_pos
  obtain ⟨la, hla⟩ : ∃ la, la = a.steps.length := ⟨_, rfl⟩
  obtain ⟨T, hT⟩ : ∃ T, T = a.steps.length + b.steps.length := ⟨_, rfl⟩
  have hlen : (a.steps ++ (b.steps ++ [n])).length = T + 1 := by simp [hT]; omega
  obtain ⟨bb, o, rfl, hbb, hc⟩ := hA (by omega)
  have hsp : SpanAt (a.steps ++ (b.steps ++ [n])) a.steps (a.steps.length + b.steps.length) [b] := ⟨by omega, by simp [flat, List.take_append, List.take_of_length_le], hb, trivial⟩
  have HA := Lib.hid hc
  have HL := Lib.hid (And.intro hla (And.intro hT hlen))
  have hS := l2Span_any (.slice (some ⟨bb, o, none⟩) (a.steps ++ (b.steps ++ [n])).length c) _ a.steps b (T - 1) w hI hsp (by omega)
  rw [hlen] at hlc hS ⊢
  have hlT : la < T := by omega
  unfold maxLen at hm
  rw [← hla] at hS hap
  clear hA hsp hc hla hT hI hlen hbp
  have e1 : (la : Int) < (T : Int) := by omega
  have e2 : (T : Int) < (T : Int) + 1 := by omega
  have e3 : la ≤ T := by omega
  have e4 : T ≤ c := by omega
  have e5 : la ≤ c := by omega
  have e6 : IntKind.i64.wrap ((T : Int) + 1) = (T : Int) + 1 := by rw [IntKind.wrap_i64]; omega
  go_enter Try.func80, Try.ntmps80
  go_wp2_with ((go_at_call 85; refine (hS).mono ?_; rintro e w' ⟨rfl, rfl⟩))
  go_quiet (fail)
  go_wp2
  go_ret2
  obtain ⟨hla, hT, hlen⟩ := HL.out
  have hk := HA.out
  refine ⟨.slice (some ⟨bb, o, none⟩) la c, .slice (some ⟨bb, o + la, none⟩) (T - la) (c - la), rfl, ⟨_, c, by rw [← hla], by omega, by unfold maxLen; omega, fun _ => ⟨bb, o, rfl, hbb, fun k hk1 => ?_⟩⟩, ⟨_, c - la, by rw [show T - la = b.steps.length by omega], by omega, by unfold maxLen; omega, fun _ => ⟨bb, o + la, rfl, hbb, fun k hk1 => ?_⟩⟩, nq, rfl⟩
  · rw [hk k (by omega), nth_left hk1]
  · rw [show o + la + k = o + (la + k) by omega, hk (la + k) (by omega), hla, nth_right, nth_left hk1]

theorem steps_last (x : Ex) : nth x.steps (x.steps.length - 1) = x.op := by
  cases x with
  | leaf n => rfl
  | thn a b => simp [Ex.steps, Ex.op, nth, List.getD]
  | pls a b => simp [Ex.steps, Ex.op, nth, List.getD]
  | str a => simp [Ex.steps, Ex.op, nth, List.getD]

set_option maxHeartbeats 1000000 in
theorem l4Ends_any (x : Ex) : ∀ (v : Value) (w : World), x.wf → IS w.heap.size w v x.steps →
    Calls Try.prog 53 #[v] w fun e w' => e = .returned (.int .i64 ((endX x : Nat) : Int)) ∧ ∃ n, w' = w.drewN n := by
  induction x with
  | leaf n =>
    intro v w hw h
    obtain ⟨A, c, rfl, hl, hm, hA⟩ := h
    obtain ⟨bb, o, rfl, hb, hc⟩ := hA (by simp [Ex.steps])
    have h0 := hc 0 (by simp [Ex.steps])
    simp only [Ex.steps, List.length_cons, List.length_nil] at hl ⊢
    have h1 : w.cell? ⟨bb, o + 0, none⟩ = some (.int .i64 n) := h0
    rw [Nat.add_zero] at h1
    have hw0 := hw.1
    have hw1 := hw.2
    clear hA hc h0
    by_cases h15 : n ≤ 15
    · have he : ((endX (.leaf n) : Nat) : Int) = n := by simp only [endX, if_pos h15]; omega
      rw [he]
      clear he
      go_enter Try.func53, Try.ntmps53
      go_wp2
      go_ret
      exact ⟨rfl, 0, rfl⟩
    · have he : ((endX (.leaf n) : Nat) : Int) = 0 := by simp only [endX, if_neg h15]; rfl
      rw [he]
      clear he
      go_enter Try.func53, Try.ntmps53
      go_wp2
      go_ret
      exact ⟨rfl, 0, rfl⟩
  | str a _ =>
    intro v w hw h
    have hlast := steps_last (.str a)
    obtain ⟨A, c, rfl, hl, hm, hA⟩ := h
    obtain ⟨T, hT⟩ : ∃ T, T = a.steps.length := ⟨_, rfl⟩
    have hlen : (Ex.str a).steps.length = T + 1 := by simp [Ex.steps, hT]
    obtain ⟨bb, o, rfl, hb, hc⟩ := hA (by omega)
    have h0 := hc T (by omega)
    rw [hlen] at hl hlast ⊢
    rw [Nat.add_sub_cancel] at hlast
    rw [hlast] at h0
    have h1 : w.cell? ⟨bb, o + T, none⟩ = some (.int .i64 21) := h0
    unfold maxLen at hm
    clear hA hc h0 hT hlen hlast
    go_enter Try.func53, Try.ntmps53
    go_wp2
    go_ret
    exact ⟨rfl, 0, rfl⟩
  | thn a b iha ihb =>
    intro v w hw h
    have hlast := steps_last (.thn a b)
    have hH := l2Halves_any v a b 19 w hw.2 h
    have ea := endX_lt hw.1
    have eb := endX_lt hw.2
    obtain ⟨A, c, rfl, hl, hm, hA⟩ := h
    obtain ⟨T, hT⟩ : ∃ T, T + 1 = (Ex.thn a b).steps.length := ⟨(Ex.thn a b).steps.length - 1, by have := (Ex.thn a b).steps_pos; omega⟩
    obtain ⟨bb, o, rfl, hb, hc⟩ := hA (by omega)
    have h0 := hc T (by omega)
    rw [← hT] at hl hlast hH ⊢
    rw [Nat.add_sub_cancel] at hlast
    rw [hlast] at h0
    have h1 : w.cell? ⟨bb, o + T, none⟩ = some (.int .i64 19) := h0
    unfold maxLen at hm
    clear hA hc h0 hT hlast
    go_enter Try.func53, Try.ntmps53
    go_wp2_with fail
    refine hH.mono ?_
    rintro e w' ⟨va, vb, rfl, ha, hb2, nh, rfl⟩
    clear hH
    go_wp2_with fail
    refine (iha _ (w.drewN nh) hw.1 (ha.drewN nh)).mono ?_
    rintro e w' ⟨rfl, n1, rfl⟩
    go_wp2_with fail
    refine (ihb _ (w.drewN (nh + n1)) hw.2 (hb2.drewN _)).mono ?_
    rintro e w'' ⟨rfl, n2, rfl⟩
    go_wp2_with ((go_at_call 64; refine (l1Both_any _ _ (by omega) _).mono ?_; rintro e w' ⟨rfl, rfl⟩))
    go_ret
    exact ⟨rfl, _, rfl⟩
  | pls a b iha ihb =>
    intro v w hw h
    have hlast := steps_last (.pls a b)
    have hH := l2Halves_any v a b 20 w hw.2 h
    have ea := endX_lt hw.1
    have eb := endX_lt hw.2
    obtain ⟨A, c, rfl, hl, hm, hA⟩ := h
    obtain ⟨T, hT⟩ : ∃ T, T + 1 = (Ex.pls a b).steps.length := ⟨(Ex.pls a b).steps.length - 1, by have := (Ex.pls a b).steps_pos; omega⟩
    obtain ⟨bb, o, rfl, hb, hc⟩ := hA (by omega)
    have h0 := hc T (by omega)
    rw [← hT] at hl hlast hH ⊢
    rw [Nat.add_sub_cancel] at hlast
    rw [hlast] at h0
    have h1 : w.cell? ⟨bb, o + T, none⟩ = some (.int .i64 20) := h0
    unfold maxLen at hm
    clear hA hc h0 hT hlast
    go_enter Try.func53, Try.ntmps53
    go_wp2_with fail
    refine hH.mono ?_
    rintro e w' ⟨va, vb, rfl, ha, hb2, nh, rfl⟩
    clear hH
    go_wp2_with fail
    refine (iha _ (w.drewN nh) hw.1 (ha.drewN nh)).mono ?_
    rintro e w' ⟨rfl, n1, rfl⟩
    go_wp2_with fail
    refine (ihb _ (w.drewN (nh + n1)) hw.2 (hb2.drewN _)).mono ?_
    rintro e w'' ⟨rfl, n2, rfl⟩
    go_wp2_with ((go_at_call 65; refine (l1Either_any _ _ (by omega) (by omega) _).mono ?_; rintro e w' ⟨rfl, rfl⟩))
    go_ret
    exact ⟨rfl, _, rfl⟩

def endsAt (e : List Int) (z : Int) : Prop := (¬ KatOK e ∧ z = -1) ∨ (∃ x : Ex, x.wf ∧ e = x.steps ∧ e.length ≤ 40 ∧ z = ((endX x : Nat) : Int))

theorem specEndsAt (v : Value) (l : List Int) (z : Int) (w : World) (h : IS w.heap.size w v l) (hz : endsAt l z) :
    Calls Try.prog 19 #[v] w fun e w' => e = .returned (.int .i64 z) ∧ ∃ n, w' = w.drewN n := by
  rcases hz with ⟨hk, rfl⟩ | ⟨x, hx, rfl, hx40, rfl⟩
  · have hb := katB_false.2 hk
    have hK := specKatValid v l w h
    rw [hb] at hK
    go_enter Try.func19, Try.ntmps19
    go_wp2_with ((go_at_call 52; refine (hK).mono ?_; rintro e w' ⟨rfl, rfl⟩))
    go_ret
    exact ⟨rfl, 0, rfl⟩
  · have hb := katB_true.2 (KatOK.of hx hx40)
    have hK := specKatValid v _ w h
    rw [hb] at hK
    go_enter Try.func19, Try.ntmps19
    go_wp2_with fail
    refine hK.mono ?_
    rintro e w' ⟨rfl, rfl⟩
    go_wp2_with fail
    refine (l4Ends_any x v w hx h).mono ?_
    rintro e w' ⟨rfl, n, rfl⟩
    go_wp2
    go_ret
    exact ⟨rfl, n, rfl⟩

end Go.Proofs.Ytoaelngalnojiaa
