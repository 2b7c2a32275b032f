/- What AutoLive returns, of the program and of the reference: one contract each, at every automaton. -/
import Derived.Test.YtkibemgdncncoaaAutoR
namespace Go.Proofs.Ytkibemgdncncoaa
set_option linter.unusedSimpArgs false
set_option linter.unusedVariables false
set_option maxRecDepth 8000
set_option maxHeartbeats 2000000
open Go.RowKit

def liveM (D : AutoD) (k s m : Nat) : Bool := decide (0 < endsN D k) || anyM D k s m
theorem liveM_succ (D : AutoD) (k s m : Nat) : liveM D k s (m + 1) = (liveM D k s m || decide (0 < nextN D k m &&& s)) := by
  unfold liveM; rw [anyM, Bool.or_assoc]
theorem liveM_all (D : AutoD) (k s : Nat) : liveM D k s 12 = liveC D k s := rfl
theorem lvT_succ (D : AutoD) (s k : Nat) : lvT D s (k + 1) = if liveC D k (lvT D s k) then lvT D s k ||| 2 ^ k else lvT D s k := rfl
theorem lvI_succ (D : AutoD) (j : Nat) : lvI D (j + 1) = lvT D (lvI D j) D.ends.length := rfl

set_option maxHeartbeats 1000000 in
theorem specAutoLive (v0 v1 : Value) (D : AutoD) (w : World) (h0 : IS w.heap.size w v0 D.ends) (h1 : ISS w.heap.size w v1 D.next) :
    Calls Try.prog 93 #[.agg #[v0, v1]] w fun e w' => e = .returned (.int .i64 (liveI D)) ∧ Below w.heap.size w w' := by
  by_cases hok : AutoOK D
  case neg =>
    have hB := autoOKB_false.2 hok
    obtain ⟨W, hW, hbW, hsW, x0, x1, -⟩ := box2 w v0 v1 35
    go_enter Try.func93, Try.ntmps93
    go_wp2_with fail
    clear hW
    refine (specAutoValid _ _ D _ ((h0.below hbW).mono (by omega)) ((h1.below hbW).mono (by omega))).mono ?_
    rintro e w1 ⟨rfl, hb1⟩
    go_wp2
    go_ret
    exact ⟨ret_int (liveI_no hok).symm, hbW.trans (hb1.mono (by omega))⟩
  have hB := autoOKB_true.2 hok
  obtain ⟨b0, o0, c0, b1, o1, c1, L⟩ := Lk.of hok h0 h1
  obtain rfl := L.e0
  obtain rfl := L.e1
  have hlo := hok.lo
  have hhi := hok.hi
  obtain ⟨W, hW, hbW, hsW, x0, x1, -⟩ := box2 w (.slice (some ⟨b0, o0, none⟩) D.ends.length c0) (.slice (some ⟨b1, o1, none⟩) D.ends.length c1) 35
  go_enter Try.func93, Try.ntmps93
  go_wp2_with fail
  clear hW
  refine (specAutoValid _ _ D _ ((h0.below hbW).mono (by omega)) ((h1.below hbW).mono (by omega))).mono ?_
  rintro e w1 ⟨rfl, hb1⟩
  have hz1 := hb1.size
  replace x0 := below_at hb1 (by omega) x0
  replace x1 := below_at hb1 (by omega) x1
  have hbw1 : Below w.heap.size w w1 := hbW.trans (hb1.mono (by omega))
  have L1 := L.below hbw1
  clear L h0 h1 hb1 hbW
  go_wp2_with fail
  have HX := Lib.hid (And.intro hbw1 L1)
  clear hbw1 L1
  have hpow := hok.pow_le
  go_loop [3, 4] (fun x i => ∃ j : Nat, j ≤ D.ends.length + 1 ∧ x = .int .i64 ((lvI D j : Nat) : Int) ∧ i = .int .i64 j) (fun _ i => D.ends.length + 1 - (intOf i).toNat)
  case atStart => exact ⟨0, by omega, rfl, rfl⟩
  case round =>
    obtain ⟨j, hj, rfl, rfl⟩ := hrel
    have hs := lvI_lt D j
    by_cases hlt : j ≤ D.ends.length
    · have hji : (j : Int) ≤ (D.ends.length : Int) := by omega
      go_wp2_with fail
      go_loop [3, 5] (fun x i => ∃ k : Nat, k ≤ D.ends.length ∧ x = .int .i64 ((lvT D (lvI D j) k : Nat) : Int) ∧ i = .int .i64 k) (fun _ i => D.ends.length - (intOf i).toNat)
      case atStart => exact ⟨0, by omega, rfl, rfl⟩
      case round =>
        obtain ⟨k, hk, rfl, rfl⟩ := hrel
        have hs2 := lvT_lt D hs k hk
        generalize hsv : lvT D (lvI D j) k = s at *
        have Hsv := Lib.hid hsv
        clear hsv
        have hsl : s < 1024 := by omega
        by_cases hlt2 : k < D.ends.length
        · have hki : (k : Int) < (D.ends.length : Int) := by omega
          have hkc := HX.out.2.c0 k hlt2
          obtain ⟨br, or, cr, -, hkr, hcr⟩ := HX.out.2.c1 k hlt2
          have HCR := Lib.hid hcr
          clear hcr
          have hel := hok.endsN_lt hlt2
          go_wp2_with fail
          go_loop [6, 7] (fun x i => ∃ m : Nat, m ≤ 12 ∧ x = .bool (liveM D k s m) ∧ i = .int .i64 m) (fun _ i => 12 - (intOf i).toNat)
          case atStart => exact ⟨0, by omega, congrArg Value.bool (by simp [liveM, anyM]), rfl⟩
          case round =>
            obtain ⟨m, hm, rfl, rfl⟩ := hrel
            by_cases hlt3 : m < 12
            · have hc := HCR.out m hlt3
              have hnl := hok.nextN_lt hlt2 hlt3
              have hn20 : nextN D k m < 1048576 := by omega
              clear hnl
              have hsu := liveM_succ D k s m
              have HS := Lib.hid hsu
              clear hsu
              cases hb : liveM D k s m
              · rw [hb] at HS
                clear hb
                by_cases hp : 0 < nextN D k m &&& s
                all_goals
                  go_wp2_with ((go_at_call 91; refine (l1Both_any _ _ hn20 _).mono ?_; rintro e w' ⟨rfl, rfl⟩))
                  go_round
                  case rel => exact ⟨m + 1, by omega, congrArg Value.bool (by rw [HS.out]; simp; omega), by go_num⟩
                  case measure => simp [intOf]; omega
              · rw [hb] at HS
                clear hb
                go_wp2
                go_round
                case rel => exact ⟨m + 1, by omega, congrArg Value.bool (by rw [HS.out]; rfl), by go_num⟩
                case measure => simp [intOf]; omega
            · obtain rfl : m = 12 := by omega
              have hall : liveM D k s 12 = liveC D k s := liveM_all D k s
              rw [hall]
              have hsu := lvT_succ D (lvI D j) k
              rw [Hsv.out] at hsu
              have HS := Lib.hid hsu
              clear hsu hall
              have hpb := pow_bd10 (k := k) (by omega)
              have hw1 : IntKind.i64.wrap (2 ^ k) = ((2 ^ k : Nat) : Int) := by rw [← pow_int]; exact IntWalk.i64_in _ (by omega)
              have hp20 : 2 ^ k < 1048576 := pow_lt20 (by omega)
              cases hb : liveC D k s
              · rw [hb] at HS
                clear hb
                go_wp2
                go_round
                case rel => exact ⟨k + 1, by omega, by rw [HS.out]; rfl, by go_num⟩
                case measure => simp [intOf]; omega
              · rw [hb] at HS
                clear hb
                go_wp2_with fail
                rw [show (2 : Int) ^ k = ((2 ^ k : Nat) : Int) from pow_int k]
                refine (l1Either_any s (2 ^ k) (by omega) hp20 _).mono ?_
                rintro e w' ⟨rfl, rfl⟩
                go_wp2
                go_round
                case rel => exact ⟨k + 1, by omega, by rw [HS.out]; rfl, by go_num⟩
                case measure => simp [intOf]; omega
        · obtain rfl : k = D.ends.length := by omega
          go_wp2
          go_round
          case rel => exact ⟨j + 1, by omega, by rw [lvI_succ, Hsv.out], by go_num⟩
          case measure => simp [intOf]; omega
    · obtain rfl : j = D.ends.length + 1 := by omega
      go_wp2
      go_ret
      exact ⟨ret_int (by rw [liveI_yes hok]; rfl), HX.out.1⟩

theorem liveFn_any (x s b : Nat) (w : World) (hx : x < 1048576) (hc : w.cell? ⟨b, 0, none⟩ = some (.int .i64 s)) :
    Calls Try.prog 129 #[.int .i64 x, .pointer (some ⟨b, 0, none⟩)] w fun e w' => e = .returned (.bool (decide (0 < x &&& s))) ∧ w = w' := by
  have hb := bits_and x s (by omega)
  by_cases h : 0 < x &&& s
  · have hn : (((x &&& s : Nat) : Int) != 0) = true := by rw [bne_iff_ne]; omega
    go_enter Try.func129, Try.ntmps129
    go_wp2
    go_ret
    exact ⟨ret_bool (by simp; omega), rfl⟩
  · have hn : (((x &&& s : Nat) : Int) != 0) = false := by rw [bne_eq_false_iff_eq]; omega
    go_enter Try.func129, Try.ntmps129
    go_wp2
    go_ret
    exact ⟨ret_bool (by simp; omega), rfl⟩

/-- A function with a body of its own. -/
def Enters (g : Nat) : Prop := ∀ (args : Array Value) (w : World), Sem.run Try.prog (callFunc g args) w = .ok (.enter g args) w
def IdxPost (w : World) (l : List Int) (p : Int → Bool) (e : Ending) (w' : World) : Prop :=
  w = w' ∧ ∃ r : Int, e = .returned (.int .i64 r) ∧ ((r = -1 ∧ ∀ k, k < l.length → p (nth l k) = false) ∨ ∃ k : Nat, r = k ∧ k < l.length ∧ p (nth l k) = true ∧ ∀ j, j < k → p (nth l j) = false)
set_option maxHeartbeats 400000 in
theorem indexFuncI_any (g : Nat) (cap v : Value) (l : List Int) (p : Int → Bool) (w : World) (h : IS w.heap.size w v l) (hg : Enters g)
    (hf : ∀ k, k < l.length → Calls Try.prog g #[.int .i64 (nth l k), cap] w fun e w' => e = .returned (.bool (p (nth l k))) ∧ w = w') :
    Calls Try.prog 144 #[v, .func (.func g) #[] #[cap]] w (IdxPost w l p) := by
  obtain ⟨A, c, rfl, hl, hm, hA⟩ := h
  unfold maxLen at hm
  have HA := Lib.hid hA
  have HF := Lib.hid hf
  unfold Enters at hg
  clear hA hf
  go_enter Try.func144, Try.ntmps144
  go_wp2
  go_loop [8] (fun i => ∃ k : Nat, k ≤ l.length ∧ i = .int .i64 k ∧ ∀ j, j < k → p (nth l j) = false) (fun i => l.length - (intOf i).toNat)
  case atStart => exact ⟨0, by omega, rfl, fun j hj => absurd hj (by omega)⟩
  case round =>
    obtain ⟨k, hk, rfl, hr⟩ := hrel
    have HR := Lib.hid hr
    clear hr
    by_cases hlt : k < l.length
    · obtain ⟨b, o, rfl, hb, hc⟩ := HA.out (by omega)
      have hkc := hc k hlt
      have hki : (k : Int) < (l.length : Int) := by omega
      clear hc HA
      cases hp : p (nth l k)
      · go_wp2_with fail
        refine (HF.out k hlt).mono ?_
        rintro e w' ⟨rfl, rfl⟩
        go_wp2
        go_round
        case rel => exact ⟨k + 1, by omega, by go_num, fun j hj => by
          by_cases e : j = k
          · subst e; exact hp
          · exact HR.out j (by omega)⟩
        case measure => simp [intOf]; omega
      · go_wp2_with fail
        refine (HF.out k hlt).mono ?_
        rintro e w' ⟨rfl, rfl⟩
        go_wp2
        go_ret
        exact ⟨rfl, k, rfl, .inr ⟨k, rfl, hlt, hp, HR.out⟩⟩
    · obtain rfl : k = l.length := by omega
      go_wp2
      go_ret
      exact ⟨rfl, -1, rfl, .inl ⟨rfl, HR.out⟩⟩

theorem enters_live : Enters 129 := fun _ _ => by kernel_rfl

def anyT (l : List Int) (p : Int → Bool) : Nat → Bool
  | 0 => false
  | k + 1 => anyT l p k || p (nth l k)
theorem anyT_f {l : List Int} {p : Int → Bool} : ∀ k, (∀ j, j < k → p (nth l j) = false) → anyT l p k = false
  | 0, _ => rfl
  | k + 1, h => by rw [anyT, anyT_f k (fun j hj => h j (by omega)), h k (by omega)]; rfl
theorem anyT_t {l : List Int} {p : Int → Bool} {i : Nat} (hp : p (nth l i) = true) : ∀ k, i < k → anyT l p k = true
  | 0, h => absurd h (by omega)
  | k + 1, h => by
    rw [anyT, Bool.or_eq_true]
    by_cases e : i = k
    · subst e; exact .inr hp
    · exact .inl (anyT_t hp k (by omega))
theorem containsFuncI_any (g : Nat) (cap v : Value) (l : List Int) (p : Int → Bool) (w : World) (h : IS w.heap.size w v l) (hg : Enters g)
    (hf : ∀ k, k < l.length → Calls Try.prog g #[.int .i64 (nth l k), cap] w fun e w' => e = .returned (.bool (p (nth l k))) ∧ w = w') :
    Calls Try.prog 128 #[v, .func (.func g) #[] #[cap]] w fun e w' => e = .returned (.bool (anyT l p l.length)) ∧ w = w' := by
  go_enter Try.func128, Try.ntmps128
  go_wp2_with fail
  refine (indexFuncI_any g cap v l p w h hg hf).mono ?_
  rintro e w' ⟨rfl, r, rfl, hr⟩
  rcases hr with ⟨rfl, hr⟩ | ⟨k, rfl, hk, hp, hr⟩
  · go_wp2
    go_ret
    exact ⟨ret_bool (by rw [anyT_f _ hr]), rfl⟩
  · clear hr
    go_wp2
    go_ret
    exact ⟨ret_bool (by rw [anyT_t hp _ hk]), rfl⟩

theorem anyT_anyM {D : AutoD} (hok : AutoOK D) {k s : Nat} (hk : k < D.ends.length) : ∀ m, m ≤ 12 → anyT (nthL D.next k) (fun x => decide (0 < x.toNat &&& s)) m = anyM D k s m
  | 0, _ => rfl
  | m + 1, hm => by
    rw [anyT, anyM, anyT_anyM hok hk m (by omega)]
    rfl
theorem anyT_live {D : AutoD} (hok : AutoOK D) {k s : Nat} (hk : k < D.ends.length) (he : endsN D k = 0) : anyT (nthL D.next k) (fun x => decide (0 < x.toNat &&& s)) (nthL D.next k).length = liveC D k s := by
  rw [hok.rows k hk, anyT_anyM hok hk 12 (by omega)]
  simp [liveC, he]
theorem liveC_end {D : AutoD} {k s : Nat} (he : 0 < endsN D k) : liveC D k s = true := by simp [liveC, he]
theorem nvT_succ (D : AutoD) (s k : Nat) : nvT D s (k + 1) = if liveC D k s then nvT D s k ||| 2 ^ k else nvT D s k := rfl

set_option maxHeartbeats 1000000 in
theorem live_any (v0 v1 : Value) (D : AutoD) (w : World) (hok : AutoOK D) (h0 : IS w.heap.size w v0 D.ends) (h1 : ISS w.heap.size w v1 D.next) :
    Calls Try.prog 96 #[.agg #[v0, v1]] w fun e w' => e = .returned (.int .i64 ((liveF D : Nat) : Int)) ∧ Below w.heap.size w w' := by
  obtain ⟨b0, o0, c0, b1, o1, c1, L⟩ := Lk.of hok h0 h1
  obtain rfl := L.e0
  obtain rfl := L.e1
  have hlo := hok.lo
  have hhi := hok.hi
  go_enter Try.func96, Try.ntmps96
  go_wp2_with fail
  obtain ⟨W, hW⟩ : ∃ W, (w.alloc (.cells #[.slice (some ⟨b0, o0, none⟩) D.ends.length c0, .slice (some ⟨b1, o1, none⟩) D.ends.length c1] 35)).alloc (.cells #[.int .i64 0] 3) = W := ⟨_, rfl⟩
  have hbW : Below w.heap.size w W := hW ▸ (((Below.refl _ _).alloc (Nat.le_refl _) _).alloc (by simp) _)
  have bX : Blk W w.heap.size 35 #[.slice (some ⟨b0, o0, none⟩) D.ends.length c0, .slice (some ⟨b1, o1, none⟩) D.ends.length c1] := hW ▸ (Blk.new w _ _).alloc _
  have bS : Blk W (w.heap.size + 1) 3 #[.int .i64 ((0 : Nat) : Int)] := hW ▸ (by have := Blk.new (w.alloc (.cells #[.slice (some ⟨b0, o0, none⟩) D.ends.length c0, .slice (some ⟨b1, o1, none⟩) D.ends.length c1] 35)) 3 #[.int .i64 0]; simpa using this)
  have hszW : W.heap.size = w.heap.size + 2 := by rw [← hW]; simp
  rw [hW]
  clear hW
  have HX := Lib.hid (And.intro hbW (And.intro bX (And.intro h0 (And.intro h1 L))))
  clear hbW bX h0 h1 L
  have hpow := hok.pow_le
  go_loopw [] (fun wr => ∃ s : Nat, s < 2 ^ D.ends.length ∧ Forced D s ∧ Below (w.heap.size + 1) W wr ∧ Blk wr (w.heap.size + 1) 3 #[.int .i64 s] ∧ wr.heap.size = w.heap.size + 2)
    (fun wr => 1024 - (intOf ((wr.cell? ⟨w.heap.size + 1, 0, none⟩).getD undef)).toNat)
  case atStart => exact ⟨0, Nat.two_pow_pos _, forced_zero D, Below.refl _ _, bS, hszW⟩
  case round =>
    obtain ⟨s, hs, hfo, hb, bS, hzr⟩ := hrel
    have hsl : s < 1024 := by omega
    obtain ⟨hbW, bX, h0, h1, L⟩ := HX.out
    have hbw : Below w.heap.size w wr := hbW.trans (hb.mono (by omega))
    have Lr := L.below hbw
    have x0 := (bX.below hb (by omega)).cell0
    have x1 := (bX.below hb (by omega)).cell1
    have sc := bS.one
    have sf := bS.frozen 0
    have HR := Lib.hid (And.intro hbw (And.intro hb (And.intro bS (And.intro Lr (And.intro hfo (And.intro hs hzr))))))
    clear hbW bX h0 h1 L hbw Lr bS hfo hs hb
    go_wp2_with fail
    go_loop [4, 11] (fun x i => ∃ k : Nat, k ≤ D.ends.length ∧ x = .int .i64 ((nvT D s k : Nat) : Int) ∧ i = .int .i64 k) (fun _ i => D.ends.length - (intOf i).toNat)
    case atStart => exact ⟨0, by omega, rfl, rfl⟩
    case round =>
      obtain ⟨k, hk, rfl, rfl⟩ := hrel
      obtain ⟨hbw, hb, bS, Lr, hfo, hs, -⟩ := HR.out
      have hnl := nvT_lt D hs k hk
      have hn20 : nvT D s k < 1048576 := by omega
      by_cases hlt : k < D.ends.length
      · have hki : (k : Int) < (D.ends.length : Int) := by omega
        have hkc := Lr.c0 k hlt
        obtain ⟨br, or, cr, -, hkr, -⟩ := Lr.c1 k hlt
        have hIS := (Lr.c2 k hlt _ hkr).mono (B' := wr.heap.size) (by omega)
        have hpb := pow_bd10 (k := k) (by omega)
        have hw1 : IntKind.i64.wrap (2 ^ k) = 2 ^ k := IntWalk.i64_in _ (by omega)
        have hp20 : 2 ^ k < 1048576 := pow_lt20 (by omega)
        have hor := bits_or (nvT D s k) (2 ^ k) (by omega) (by omega)
        rw [← pow_int] at hor
        have HS := Lib.hid (nvT_succ D s k)
        have HI := Lib.hid (And.intro hIS hp20)
        clear hIS hp20 hbw hb bS Lr hfo hs hnl
        by_cases he : endsN D k = 0
        · have hne : ((endsN D k : Int) != 0) = false := by rw [bne_eq_false_iff_eq]; omega
          have hal := anyT_live hok (s := s) hlt he
          have HAL := Lib.hid hal
          have HE := Lib.hid he
          clear hal he
          go_wp2_with fail
          refine (containsFuncI_any 129 _ _ (nthL D.next k) (fun x => decide (0 < x.toNat &&& s)) _ HI.out.1 enters_live (fun m hm => ?_)).mono ?_
          · have hm12 : m < 12 := by rw [hok.rows k hlt] at hm; exact hm
            rw [hok.nextN_eq hlt hm12]
            refine (liveFn_any (nextN D k m) s (w.heap.size + 1) _ (by have := hok.nextN_lt hlt hm12; omega) sc).mono ?_
            rintro e w' ⟨rfl, rfl⟩
            exact ⟨by simp, rfl⟩
          rw [HAL.out]
          rintro e w' ⟨rfl, rfl⟩
          cases hc : liveC D k s
          all_goals
            rw [hc] at HS
            clear hc
            go_wp2
            go_round
            case rel => exact ⟨k + 1, by omega, by rw [HS.out]; rfl, by go_num⟩
            case measure => simp [intOf]; omega
        · have hne : ((endsN D k : Int) != 0) = true := by rw [bne_iff_ne]; omega
          have hc := liveC_end (D := D) (k := k) (s := s) (by omega)
          rw [hc] at HS
          clear hc he
          go_wp2
          go_round
          case rel => exact ⟨k + 1, by omega, by rw [HS.out]; rfl, by go_num⟩
          case measure => simp [intOf]; omega
      · obtain rfl : k = D.ends.length := by omega
        have hsub := (nvT_sub D s D.ends.length).le
        by_cases he : nvT D s D.ends.length = s
        · have heq : ((nvT D s D.ends.length : Int) == (s : Int)) = true := by rw [he]; exact beq_self_eq_true _
          have HE := Lib.hid he
          clear he
          go_wp2
          go_ret
          exact ⟨ret_int (by rw [← nvT_done hfo HE.out]), hbw⟩
        · have heq : ((nvT D s D.ends.length : Int) == (s : Int)) = false := by rw [beq_eq_false_iff_ne]; omega
          have HE := Lib.hid he
          clear he
          go_wp2
          go_roundw
          case rel => exact ⟨nvT D s D.ends.length, hnl, nvT_forced hfo _ (Nat.le_refl _), hb.setCell (p := ⟨w.heap.size + 1, 0, none⟩) (by simp) _, bS.set_ 0 _, by simp [World.setCell, hzr]⟩
          case measure =>
            have := HE.out
            have e1 : (wr.setCell ⟨w.heap.size + 1, 0, none⟩ (.int .i64 ((nvT D s D.ends.length : Nat) : Int))).cell? ⟨w.heap.size + 1, 0, none⟩ = some (.int .i64 ((nvT D s D.ends.length : Nat) : Int)) := (bS.set_ 0 _).one
            simp [intOf, e1, sc]; omega



end Go.Proofs.Ytkibemgdncncoaa
