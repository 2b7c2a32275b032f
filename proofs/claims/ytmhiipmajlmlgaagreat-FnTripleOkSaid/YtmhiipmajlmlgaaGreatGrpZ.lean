/- The search for a first trace in the program, over pairs of sets of states. Walked by the engine. -/
import Derived.Test.YtmhiipmajlmlgaaGreatQ1
import Derived.Test.YtmhiipmajlmlgaaGreatGrpT
import Derived.Test.YtmhiipmajlmlgaaGreatGrpD
import Derived.Test.YtmhiipmajlmlgaaGreatEngMin
import Derived.Test.YtmhiipmajlmlgaaGreatQ2
import Derived.Test.YtmhiipmajlmlgaaGreatK5
import Derived.Test.YtmhiipmajlmlgaaGreatGrpR
namespace Go.Proofs.YtmhiipmajlmlgaaGreat
set_option linter.unusedSimpArgs false
set_option linter.unusedVariables false
set_option maxRecDepth 8000
set_option maxHeartbeats 2000000
open Go Go.RowKit AV

attribute [local go_sem] List.drop_zero List.drop_succ_cons List.take_zero List.take_succ_cons List.take_nil

def flatO3 (f : Nat → Nat × Nat) (w : Nat → List Int) : List Nat → List AV
  | [] => []
  | c :: L => I ((f c).1 : Int) :: I ((f c).2 : Int) :: oints (w c) :: flatO3 f w L
def flatS3 (f : Nat → Nat × Nat) (w : Nat → List Int) : List Nat → List AV
  | [] => []
  | c :: L => I ((f c).1 : Int) :: I ((f c).2 : Int) :: ints (w c) :: flatS3 f w L
theorem flat_view3 (f : Nat → Nat × Nat) (w : Nat → List Int) : ∀ L, viewL (flatO3 f w L) = flatS3 f w L
  | [] => rfl
  | c :: L => by
    have h := flat_view3 f w L
    simp only [flatO3, flatS3, viewL, view, h]
    rw [viewL_map, List.map_map]; rfl
theorem flatS3_len (f : Nat → Nat × Nat) (w : Nat → List Int) : ∀ L, (flatS3 f w L).length = L.length * 3
  | [] => rfl
  | c :: L => by simp only [flatS3, List.length_cons, flatS3_len f w L]; omega
theorem flatO3_len (f : Nat → Nat × Nat) (w : Nat → List Int) : ∀ L, (flatO3 f w L).length = L.length * 3
  | [] => rfl
  | c :: L => by simp only [flatO3, List.length_cons, flatO3_len f w L]; omega
theorem flatO3_app (f : Nat → Nat × Nat) (w : Nat → List Int) (c : Nat) : ∀ L, flatO3 f w (L ++ [c]) = flatO3 f w L ++ [I ((f c).1 : Int), I ((f c).2 : Int), oints (w c)]
  | [] => rfl
  | d :: L => by simp only [List.cons_append, flatO3, flatO3_app f w c L]
theorem flatS3_at (f : Nat → Nat × Nat) (w : Nat → List Int) : ∀ (L : List Nat) (i : Nat) (h : i < L.length), [I ((f L[i]).1 : Int), I ((f L[i]).2 : Int), ints (w L[i])] <+: (flatS3 f w L).drop (i * 3)
  | c :: L, 0, _ => ⟨flatS3 f w L, rfl⟩
  | c :: L, i + 1, h => by
    have h2 := flatS3_at f w L i (by simpa using h)
    rw [Nat.add_mul, Nat.one_mul]
    simpa only [flatS3, List.getElem_cons_succ, List.drop_succ_cons] using h2

def kP (K : List (Nat × Nat)) : List AV := K.map fun p => agg [I (p.1 : Int), I (p.2 : Int)]
def tP (n : Nat) : List AV := List.replicate n (.bool true)
theorem kP_mem {K : List (Nat × Nat)} {x : Nat × Nat} : agg [I (x.1 : Int), I (x.2 : Int)] ∈ kP K ↔ x ∈ K := by
  unfold kP
  rw [List.mem_map]
  constructor
  · rintro ⟨p, hp, h⟩
    simp at h
    have h2 : p = x := Prod.ext (by omega) (by omega)
    exact h2 ▸ hp
  · exact fun h => ⟨_, h, rfl⟩
def smP (K : List (Nat × Nat)) : Prop := ∀ p ∈ K, p.1 < 1048576 ∧ p.2 < 1048576
theorem kP_ok {K : List (Nat × Nat)} (h : smP K) : ∀ Y ∈ kP K, kOK 2 Y := by
  intro Y hY
  obtain ⟨p, hp, rfl⟩ := List.mem_map.1 hY
  have := h p hp
  show in64 _ ∧ in64 _
  unfold in64
  omega
theorem look_P {K : List (Nat × Nat)} {x : Nat × Nat} (h : smP K) (hx : x.1 < 1048576 ∧ x.2 < 1048576) : LookOK Tryz.prog 99 4 (kP K) (tP K.length) (agg [I (x.1 : Int), I (x.2 : Int)]) (.bool (decide (x ∈ K))) := by
  unfold LookOK
  rw [Ty_kkT_99]
  refine ⟨by decide, by show in64 _ ∧ in64 _; unfold in64; omega, kP_ok h, rfl, by simp, fun i hi => ?_, fun hn => ?_⟩
  · have hm : x ∈ K := kP_mem.1 (List.mem_of_getElem? hi)
    have hil : i < K.length := by have := (List.getElem?_eq_some_iff.1 hi).1; simpa [kP] using this
    simp [tP, hil, hm]
  · have hm : x ∉ K := fun h => hn (kP_mem.2 h)
    rw [Ty_zOf_4]
    simp [hm]
theorem upd_P {K : List (Nat × Nat)} {x : Nat × Nat} (h : smP K) (hx : x.1 < 1048576 ∧ x.2 < 1048576) (hn : x ∉ K) : UpdOK Tryz.prog 99 (kP K) (tP K.length) (agg [I (x.1 : Int), I (x.2 : Int)]) (.bool true) (kP (K ++ [x])) (tP (K ++ [x]).length) := by
  unfold UpdOK
  rw [Ty_kkT_99]
  refine ⟨by decide, by show in64 _ ∧ in64 _; unfold in64; omega, kP_ok h, rfl, by simp, .inr ⟨fun h => hn (kP_mem.1 h), by simp [kP], ?_⟩⟩
  rw [List.length_append, List.length_singleton, tP, tP, List.replicate_succ']

def stP (A C : AutoD) : Nat → Nat → Nat × Nat := stA (stepP A C) (1, 1)
theorem stP_lt {A C : AutoD} (hA : AutoOK A) (hC : AutoOK C) : ∀ n c, (stP A C n c).1 < 1024 ∧ (stP A C n c).2 < 1024
  | 0, _ => ⟨by show 1 < 1024; omega, by show 1 < 1024; omega⟩
  | n + 1, c => by
    have h := stepP_lt hA hC (p := stP A C n (c / 12)) (m := c % 12) (by omega)
    have h1 := hA.pow_le
    have h2 := hC.pow_le
    exact ⟨Nat.lt_of_lt_of_le h.1 h1, Nat.lt_of_lt_of_le h.2 h2⟩
theorem lvP_len {A C : AutoD} (hA : AutoOK A) (hC : AutoOK C) {n : Nat} {L : List Nat} (h : (L.map (stP A C n)).Nodup) : L.length ≤ 1048576 := by
  have h1 : ((L.map (stP A C n)).map fun p => p.1 * 1024 + p.2).Nodup := by
    rw [List.Nodup, List.pairwise_map]
    refine List.Pairwise.imp_of_mem (fun {x y} hx hy hne e => hne ?_) h
    obtain ⟨c, _, rfl⟩ := List.mem_map.1 hx
    obtain ⟨d, _, rfl⟩ := List.mem_map.1 hy
    have h2 := stP_lt hA hC n c
    have h3 := stP_lt hA hC n d
    exact Prod.ext (by omega) (by omega)
  have := nodup_len (m := List.range 1048576) h1 fun x hx => by
    obtain ⟨p, hp, rfl⟩ := List.mem_map.1 hx
    obtain ⟨c, _, rfl⟩ := List.mem_map.1 hp
    have h2 := stP_lt hA hC n c
    rw [List.mem_range]; omega
  simpa using this
theorem finP_lt {A C : AutoD} (hA : AutoOK A) (hC : AutoOK C) (p : Nat × Nat) : finP A C p < 16 := by
  unfold finP
  exact Nat.xor_lt_two_pow (n := 4) (hA.endF_lt _) (hC.endF_lt _)

def firstPR (args : List AV) (r : AV) : Prop := ∃ A C : AutoD, args = [agg [I 1, I 1], mfn 89 [togA A C], mfn 88 [togA A C]] ∧ AutoOK A ∧ AutoOK C ∧ r = .tup [oints (shT (stepP A C) (1, 1) (finP A C)), .bool (shB (stepP A C) (1, 1) (finP A C))]

theorem firstP_ctr : CtrOK Tryz.prog 91 (pureC firstPR) := by
  refine ctr_pure' Tryz.func91 rfl rfl Tryz.ntmps91 ?_
  rintro _ _ ⟨A0, C, rfl, hok, hokC, rfl⟩
  refine ⟨by simp, fun κ hκ => ?_⟩
  have hbig := bigW_gt
  rw [argEnv_eq]
  simp only [envA]
  have hΓ := ctxOf_ok (P := Tryz.prog) (cx togNext_ctr <| cx apart_ctr <| cx move_ctr <| cx holds_ctr <| cx cloneA_ctr <| cx0)
  have hst := stP_lt hok hokC
  have hfl16 := finP_lt hok hokC
  obtain ⟨A, hA⟩ : ∃ A, togA A0 C = A := ⟨_, rfl⟩
  rw [hA]
  repeat' (first | exact hb.elim | refine wS fun K hK => ?_ | refine wB ?_ | refine uR hΓ ?_ | refine uD hΓ fun B hB => ?_ | ((repeat ((fail_if_success (refine hK _ ?_)); clear hK K)); refine hK _ ?_; clear hK K) | refine u1 ?_ | refine uC (fun hb => ?_) fun hb => ?_ | refine u2 (fun hc => ?_) fun hc => ?_ | refine wI ?_ | refine ex_idx (by omega) ?_ | exact True.intro | fail)
  refine ⟨kP [(1, 1)], tP 1, upd_P (K := []) (x := (1, 1)) (by simp [smP]) ⟨by decide, by decide⟩ (by simp), ?_⟩
  repeat' (first | exact hb.elim | refine wS fun K hK => ?_ | refine wB ?_ | refine uR hΓ ?_ | refine uD hΓ fun B hB => ?_ | ((repeat ((fail_if_success (refine hK _ ?_)); clear hK K)); refine hK _ ?_; clear hK K) | refine u1 ?_ | refine uC (fun hb => ?_) fun hb => ?_ | refine u2 (fun hc => ?_) fun hc => ?_ | refine wI ?_ | refine ex_idx (by omega) ?_ | exact True.intro | fail)
  refine CW.loop (ι := Nat × List Nat × List (Nat × Nat)) (fun y => [(1, mfn 89 [A]), (2, mfn 88 [A]), (8, orec 3 (flatO3 (stP A0 C y.1) (wdL y.1) y.2.1)), (9, omap (kP y.2.2) (tP y.2.2.length)), (10, I y.1)]) (fun y => y.1 ≤ 21 ∧ LvW (stepP A0 C) (1, 1) (NewW (stepP A0 C) (1, 1) y.1) y.1 y.2.1 ∧ NoneW (stepP A0 C) (1, 1) (finP A0 C) y.1 ∧ ∀ x, x ∈ y.2.2 ↔ SeenW (stepP A0 C) (1, 1) y.1 x) (fun y => 21 - y.1) (0, [0], [(1, 1)]) ?_ ?_
  · exact ⟨by ((simp only [xe, xj, Nat.reduceEqDiff]; (try simp [view, viewL_map]); (try omega)); try simp [flatO3, wdL, stP, stA]), by omega, LvW.start _, NoneW.zero _ _ _, fun x => by rw [SeenW.zero]; simp⟩
  rintro ⟨n, L, K0⟩ ⟨hn, hL, hN, hK0⟩
  simp only [envOf]
  dsimp only at hn hL hN hK0
  have hLl := lvP_len hok hokC hL.inj
  have hR : ∀ c, AccW (stepP A0 C) (1, 1) (finP A0 C) n c → NewW (stepP A0 C) (1, 1) n (c / 4) := fun c h => NewW.acc hN h
  have hKl : smP K0 := fun x hx => by
    obtain ⟨n', _, c, _, rfl⟩ := (hK0 x).1 hx
    have := hst n' c
    exact ⟨by show (stP A0 C n' c).1 < _; omega, by show (stP A0 C n' c).2 < _; omega⟩
  refine CW.frz 8 [] (orec 3 (flatO3 (stP A0 C n) (wdL n) L)) (by simp [upd_at, getP]) rfl ?_
  have hfz : view (orec 3 (flatO3 (stP A0 C n) (wdL n) L)) = srec 3 (flatS3 (stP A0 C n) (wdL n) L) := by rw [view, flat_view3]
  rw [hfz]
  obtain ⟨W, hW⟩ : ∃ W, flatS3 (stP A0 C n) (wdL n) L = W := ⟨_, rfl⟩
  have hWl : W.length = L.length * 3 := by rw [← hW, flatS3_len]
  have hWk := fun i h => flatS3_at (stP A0 C n) (wdL n) L i h
  rw [hW] at hWk ⊢
  simp (maxSteps := 2000000) only [go_sem]
  repeat' (first | exact hb.elim | refine wS fun K hK => ?_ | refine wB ?_ | refine uR hΓ ?_ | refine uD hΓ fun B hB => ?_ | ((repeat ((fail_if_success (refine hK _ ?_)); clear hK K)); refine hK _ ?_; clear hK K) | refine u1 ?_ | refine uC (fun hb => ?_) fun hb => ?_ | refine u2 (fun hc => ?_) fun hc => ?_ | refine wI ?_ | refine ex_idx (by omega) ?_ | exact True.intro | fail)
  rotate_left
  · have hN21 : NoneW (stepP A0 C) (1, 1) (finP A0 C) 21 := by
      have : n = 21 := by omega
      subst this; exact hN
    obtain ⟨e1, e2⟩ := ShR.eq (stp := stepP A0 C) (s0 := (1, 1)) (fin := finP A0 C) (.inr ⟨rfl, rfl, hN21⟩)
    rw [← e1, ← e2]
    (rw [Tryz.results91]; refine ⟨_, _, rfl, by decide, rfl, rfl, ?_, ?_⟩ <;> simp [upd_at])
  refine ⟨L.length, hWl, ?_⟩
  repeat' (first | exact hb.elim | refine wS fun K hK => ?_ | refine wB ?_ | refine uR hΓ ?_ | refine uD hΓ fun B hB => ?_ | ((repeat ((fail_if_success (refine hK _ ?_)); clear hK K)); refine hK _ ?_; clear hK K) | refine u1 ?_ | refine uC (fun hb => ?_) fun hb => ?_ | refine u2 (fun hc => ?_) fun hc => ?_ | refine wI ?_ | refine ex_idx (by omega) ?_ | exact True.intro | fail)
  refine CW.loop (ι := Nat) (fun i => [(1, mfn 89 [A]), (2, mfn 88 [A]), (8, srec 3 W), (9, omap (kP K0) (tP K0.length)), (10, I n), (31, srec 3 W), (32, I L.length), (33, I i)]) (fun i => i ≤ L.length ∧ SeekW (stepP A0 C) (1, 1) (finP A0 C) n L i 0) (fun i => L.length - i) 0 ?_ ?_
  · exact ⟨by (simp only [xe, xj, Nat.reduceEqDiff]; (try simp [view, viewL_map]); (try omega)), by omega, SeekW.start _ _⟩
  rintro i ⟨hi, hS0⟩
  simp only [envOf]
  repeat' (first | exact hb.elim | refine wS fun K hK => ?_ | refine wB ?_ | refine uR hΓ ?_ | refine uD hΓ fun B hB => ?_ | ((repeat ((fail_if_success (refine hK _ ?_)); clear hK K)); refine hK _ ?_; clear hK K) | refine u1 ?_ | refine uC (fun hb => ?_) fun hb => ?_ | refine u2 (fun hc => ?_) fun hc => ?_ | refine wI ?_ | refine ex_idx (by omega) ?_ | exact True.intro | fail)
  · have hiL : i < L.length := by omega
    refine ⟨[I ((stP A0 C n L[i]).1 : Int), I ((stP A0 C n L[i]).2 : Int), ints (wdL n L[i])], ⟨rfl, hWk i hiL⟩, ?_⟩
    simp (maxSteps := 2000000) only [go_sem]
    repeat' (first | exact hb.elim | refine wS fun K hK => ?_ | refine wB ?_ | refine uR hΓ ?_ | refine uD hΓ fun B hB => ?_ | ((repeat ((fail_if_success (refine hK _ ?_)); clear hK K)); refine hK _ ?_; clear hK K) | refine u1 ?_ | refine uC (fun hb => ?_) fun hb => ?_ | refine u2 (fun hc => ?_) fun hc => ?_ | refine wI ?_ | refine ex_idx (by omega) ?_ | exact True.intro | fail)
    obtain ⟨x, hx⟩ : ∃ x, stP A0 C n L[i] = x := ⟨_, rfl⟩
    have hxl := hst n L[i]
    rw [hx] at hxl
    have hyl := hfl16 x
    obtain ⟨y, hy⟩ : ∃ y, finP A0 C x = y := ⟨_, rfl⟩
    rw [hy] at hyl
    have hlw := wdL_len n L[i]
    rw [hx]
    (first | refine wA rfl ?_ ?_ ?_ | refine dA rfl ?_ ?_ ?_); exact (I (y : Int)); exact (⟨A0, C, x, by rw [hA], hok, hokC, by omega, by omega, by rw [hy]⟩); simp (maxSteps := 2000000) only [go_sem]
    repeat' (first | exact hb.elim | refine wS fun K hK => ?_ | refine wB ?_ | refine uR hΓ ?_ | refine uD hΓ fun B hB => ?_ | ((repeat ((fail_if_success (refine hK _ ?_)); clear hK K)); refine hK _ ?_; clear hK K) | refine u1 ?_ | refine uC (fun hb => ?_) fun hb => ?_ | refine u2 (fun hc => ?_) fun hc => ?_ | refine wI ?_ | refine ex_idx (by omega) ?_ | exact True.intro | fail)
    refine CW.loop (ι := Nat) (fun a => [(1, mfn 89 [A]), (2, mfn 88 [A]), (8, srec 3 W), (9, omap (kP K0) (tP K0.length)), (10, I n), (31, srec 3 W), (32, I L.length), (33, I i), (12, box [I (x.1 : Int), I (x.2 : Int), ints (wdL n L[i])]), (13, I (y : Int)), (41, I (a : Int))]) (fun a => a ≤ 4 ∧ SeekW (stepP A0 C) (1, 1) (finP A0 C) n L i a) (fun a => 4 - a) 0 ?_ ?_
    · exact ⟨by (simp only [xe, xj, Nat.reduceEqDiff]; (try simp [view, viewL_map]); (try omega)), by omega, hS0⟩
    rintro a ⟨ha, hS⟩
    simp only [envOf]
    repeat' (first | exact hb.elim | refine wS fun K hK => ?_ | refine wB ?_ | refine uR hΓ ?_ | refine uD hΓ fun B hB => ?_ | ((repeat ((fail_if_success (refine hK _ ?_)); clear hK K)); refine hK _ ?_; clear hK K) | refine u1 ?_ | refine uC (fun hb => ?_) fun hb => ?_ | refine u2 (fun hc => ?_) fun hc => ?_ | refine wI ?_ | refine ex_idx (by omega) ?_ | exact True.intro | fail)
    · cases hyb : y.testBit a with
      | false =>
        (first | refine wA rfl ?_ ?_ ?_ | refine dA rfl ?_ ?_ ?_); exact (.bool false); exact (⟨y, a, rfl, by omega, by omega, by rw [hyb]⟩); simp (maxSteps := 2000000) only [go_sem]
        repeat' (first | exact hb.elim | refine wS fun K hK => ?_ | refine wB ?_ | refine uR hΓ ?_ | refine uD hΓ fun B hB => ?_ | ((repeat ((fail_if_success (refine hK _ ?_)); clear hK K)); refine hK _ ?_; clear hK K) | refine u1 ?_ | refine uC (fun hb => ?_) fun hb => ?_ | refine u2 (fun hc => ?_) fun hc => ?_ | refine wI ?_ | refine ex_idx (by omega) ?_ | exact True.intro | fail)
        exact ⟨a + 1, by (simp only [xe, xj, Nat.reduceEqDiff]; (try simp [view, viewL_map]); (try omega)), ⟨by omega, hS.atom hiL (by rw [show stA (stepP A0 C) (1, 1) n L[i] = x from hx, hy, hyb])⟩, by omega⟩
      | true =>
        have hF := hS.found hL hN hR hiL (by omega) (by rw [show stA (stepP A0 C) (1, 1) n L[i] = x from hx, hy, hyb])
        obtain ⟨e1, e2⟩ := ShR.eq (stp := stepP A0 C) (s0 := (1, 1)) (fin := finP A0 C) (.inl ⟨rfl, n, _, by omega, hF, rfl⟩)
        (first | refine wA rfl ?_ ?_ ?_ | refine dA rfl ?_ ?_ ?_); exact (.bool true); exact (⟨y, a, rfl, by omega, by omega, by rw [hyb]⟩); simp (maxSteps := 2000000) only [go_sem]
        repeat' (first | exact hb.elim | refine wS fun K hK => ?_ | refine wB ?_ | refine uR hΓ ?_ | refine uD hΓ fun B hB => ?_ | ((repeat ((fail_if_success (refine hK _ ?_)); clear hK K)); refine hK _ ?_; clear hK K) | refine u1 ?_ | refine uC (fun hb => ?_) fun hb => ?_ | refine u2 (fun hc => ?_) fun hc => ?_ | refine wI ?_ | refine ex_idx (by omega) ?_ | exact True.intro | fail)
        (first | refine wA rfl _ (⟨wdL n L[i], rfl, by omega, rfl⟩) ?_ | refine dA rfl _ (⟨wdL n L[i], rfl, by omega, rfl⟩) ?_); simp (maxSteps := 2000000) only [go_sem]
        repeat' (first | exact hb.elim | refine wS fun K hK => ?_ | refine wB ?_ | refine uR hΓ ?_ | refine uD hΓ fun B hB => ?_ | ((repeat ((fail_if_success (refine hK _ ?_)); clear hK K)); refine hK _ ?_; clear hK K) | refine u1 ?_ | refine uC (fun hb => ?_) fun hb => ?_ | refine u2 (fun hc => ?_) fun hc => ?_ | refine wI ?_ | refine ex_idx (by omega) ?_ | exact True.intro | fail)
        rw [← e1, ← e2, trcL_mk n _ _ (by omega)]
        (rw [Tryz.results91]; refine ⟨_, _, rfl, by decide, rfl, rfl, ?_, ?_⟩ <;> simp [upd_at])
    · obtain rfl : a = 4 := by omega
      exact ⟨i + 1, by (simp only [xe, xj, Nat.reduceEqDiff]; (try simp [view, viewL_map]); (try omega)), ⟨by omega, hS.word⟩, by omega⟩
  · have hN' := hS0.none hL hN hR (by omega)
    refine ⟨L.length, hWl, ?_⟩
    repeat' (first | exact hb.elim | refine wS fun K hK => ?_ | refine wB ?_ | refine uR hΓ ?_ | refine uD hΓ fun B hB => ?_ | ((repeat ((fail_if_success (refine hK _ ?_)); clear hK K)); refine hK _ ?_; clear hK K) | refine u1 ?_ | refine uC (fun hb => ?_) fun hb => ?_ | refine u2 (fun hc => ?_) fun hc => ?_ | refine wI ?_ | refine ex_idx (by omega) ?_ | exact True.intro | fail)
    clear hS0
    refine CW.loop (ι := Nat × List Nat) (fun y => [(1, mfn 89 [A]), (2, mfn 88 [A]), (9, omap (kP (K0 ++ y.2.map (stP A0 C (n + 1)))) (tP (K0 ++ y.2.map (stP A0 C (n + 1))).length)), (10, I n), (15, orec 3 (flatO3 (stP A0 C (n + 1)) (wdL (n + 1)) y.2)), (55, srec 3 W), (56, I L.length), (57, I y.1)]) (fun y => y.1 ≤ L.length ∧ NextW (stepP A0 C) (1, 1) (SeenW (stepP A0 C) (1, 1) n) n L y.1 0 y.2) (fun y => L.length - y.1) (0, []) ?_ ?_
    · exact ⟨by ((simp only [xe, xj, Nat.reduceEqDiff]; (try simp [view, viewL_map]); (try omega)); try simp [flatO3]), by omega, NextW.start _ _ _⟩
    rintro ⟨i, F⟩ ⟨hi, hF0⟩
    dsimp only at hi hF0
    simp only [envOf]
    repeat' (first | exact hb.elim | refine wS fun K hK => ?_ | refine wB ?_ | refine uR hΓ ?_ | refine uD hΓ fun B hB => ?_ | ((repeat ((fail_if_success (refine hK _ ?_)); clear hK K)); refine hK _ ?_; clear hK K) | refine u1 ?_ | refine uC (fun hb => ?_) fun hb => ?_ | refine u2 (fun hc => ?_) fun hc => ?_ | refine wI ?_ | refine ex_idx (by omega) ?_ | exact True.intro | fail)
    · have hiL : i < L.length := by omega
      refine ⟨[I ((stP A0 C n L[i]).1 : Int), I ((stP A0 C n L[i]).2 : Int), ints (wdL n L[i])], ⟨rfl, hWk i hiL⟩, ?_⟩
      simp (maxSteps := 2000000) only [go_sem]
      repeat' (first | exact hb.elim | refine wS fun K hK => ?_ | refine wB ?_ | refine uR hΓ ?_ | refine uD hΓ fun B hB => ?_ | ((repeat ((fail_if_success (refine hK _ ?_)); clear hK K)); refine hK _ ?_; clear hK K) | refine u1 ?_ | refine uC (fun hb => ?_) fun hb => ?_ | refine u2 (fun hc => ?_) fun hc => ?_ | refine wI ?_ | refine ex_idx (by omega) ?_ | exact True.intro | fail)
      obtain ⟨x, hx⟩ : ∃ x, stP A0 C n L[i] = x := ⟨_, rfl⟩
      have hxl := hst n L[i]
      rw [hx] at hxl
      have hlw := wdL_len n L[i]
      rw [hx]
      refine CW.loop (ι := Nat × List Nat) (fun y => [(1, mfn 89 [A]), (2, mfn 88 [A]), (9, omap (kP (K0 ++ y.2.map (stP A0 C (n + 1)))) (tP (K0 ++ y.2.map (stP A0 C (n + 1))).length)), (10, I n), (15, orec 3 (flatO3 (stP A0 C (n + 1)) (wdL (n + 1)) y.2)), (55, srec 3 W), (56, I L.length), (57, I i), (17, box [I (x.1 : Int), I (x.2 : Int), ints (wdL n L[i])]), (61, I (y.1 : Nat))]) (fun y => y.1 ≤ 4 ∧ NextW (stepP A0 C) (1, 1) (SeenW (stepP A0 C) (1, 1) n) n L i (3 * y.1) y.2) (fun y => 4 - y.1) (0, F) ?_ ?_
      · exact ⟨by (simp only [xe, xj, Nat.reduceEqDiff]; (try simp [view, viewL_map]); (try omega)), by omega, hF0⟩
      rintro ⟨a, F⟩ ⟨ha, hF1⟩
      dsimp only at ha hF1
      simp only [envOf]
      repeat' (first | exact hb.elim | refine wS fun K hK => ?_ | refine wB ?_ | refine uR hΓ ?_ | refine uD hΓ fun B hB => ?_ | ((repeat ((fail_if_success (refine hK _ ?_)); clear hK K)); refine hK _ ?_; clear hK K) | refine u1 ?_ | refine uC (fun hb => ?_) fun hb => ?_ | refine u2 (fun hc => ?_) fun hc => ?_ | refine wI ?_ | refine ex_idx (by omega) ?_ | exact True.intro | fail)
      · refine CW.loop (ι := Nat × List Nat) (fun y => [(1, mfn 89 [A]), (2, mfn 88 [A]), (9, omap (kP (K0 ++ y.2.map (stP A0 C (n + 1)))) (tP (K0 ++ y.2.map (stP A0 C (n + 1))).length)), (10, I n), (15, orec 3 (flatO3 (stP A0 C (n + 1)) (wdL (n + 1)) y.2)), (55, srec 3 W), (56, I L.length), (57, I i), (17, box [I (x.1 : Int), I (x.2 : Int), ints (wdL n L[i])]), (61, I (a : Nat)), (18, I (a : Nat)), (19, I (16 + (y.1 : Int)))]) (fun y => y.1 ≤ 3 ∧ NextW (stepP A0 C) (1, 1) (SeenW (stepP A0 C) (1, 1) n) n L i (3 * a + y.1) y.2) (fun y => 3 - y.1) (0, F) ?_ ?_
        · exact ⟨by (simp only [xe, xj, Nat.reduceEqDiff]; (try simp [view, viewL_map]); (try omega)), by omega, hF1⟩
        rintro ⟨c, F⟩ ⟨hc3, hF⟩
        dsimp only at hc3 hF
        simp only [envOf]
        repeat' (first | exact hb.elim | refine wS fun K hK => ?_ | refine wB ?_ | refine uR hΓ ?_ | refine uD hΓ fun B hB => ?_ | ((repeat ((fail_if_success (refine hK _ ?_)); clear hK K)); refine hK _ ?_; clear hK K) | refine u1 ?_ | refine uC (fun hb => ?_) fun hb => ?_ | refine u2 (fun hc => ?_) fun hc => ?_ | refine wI ?_ | refine ex_idx (by omega) ?_ | exact True.intro | fail)
        · have e16 : (16 + (c : Int)) = ((16 + c : Nat) : Int) := by omega
          have hyl := stP_lt hok hokC (n + 1) (L[i] * 12 + (3 * a + c))
          have hst1 : stP A0 C (n + 1) (L[i] * 12 + (3 * a + c)) = stepP A0 C x (3 * a + c) := by rw [← hx]; exact stA_succ _ _ _ _ _ (by omega)
          rw [hst1] at hyl
          have hwm : wdL (n + 1) (L[i] * 12 + (3 * a + c)) = wdL n L[i] ++ [(a : Int), ((16 + c : Nat) : Int)] := by
            rw [wdL_succ n _ _ (by omega), show (3 * a + c) / 3 = a by omega, show (3 * a + c) % 3 = c by omega]
          have hsk := fun hz => hF.skip hL hiL (m := 3 * a + c) hz
          have had := fun hz hf => hF.add hL hiL (m := 3 * a + c) (by omega) hz hf
          rw [show stA (stepP A0 C) (1, 1) (n + 1) (L[i] * 12 + (3 * a + c)) = stepP A0 C x (3 * a + c) from hst1] at hsk had
          have hFl := lvP_len hok hokC hF.inj
          obtain ⟨y, hy⟩ : ∃ y, stepP A0 C x (3 * a + c) = y := ⟨_, rfl⟩
          rw [hy] at hyl hst1 hsk had
          (first | refine wA rfl ?_ ?_ ?_ | refine dA rfl ?_ ?_ ?_); exact (I ((3 * a + c : Nat) : Int)); exact (⟨a, c, by rw [← e16], by omega, by omega, rfl⟩); simp (maxSteps := 2000000) only [go_sem]
          (first | refine wA rfl ?_ ?_ ?_ | refine dA rfl ?_ ?_ ?_); exact (agg [I (y.1 : Int), I (y.2 : Int)]); exact (⟨A0, C, x, 3 * a + c, by rw [hA], hok, hokC, by omega, by omega, by omega, by rw [hy]⟩); simp (maxSteps := 2000000) only [go_sem]
          repeat' (first | exact hb.elim | refine wS fun K hK => ?_ | refine wB ?_ | refine uR hΓ ?_ | refine uD hΓ fun B hB => ?_ | ((repeat ((fail_if_success (refine hK _ ?_)); clear hK K)); refine hK _ ?_; clear hK K) | refine u1 ?_ | refine uC (fun hb => ?_) fun hb => ?_ | refine u2 (fun hc => ?_) fun hc => ?_ | refine wI ?_ | refine ex_idx (by omega) ?_ | exact True.intro | fail)
          have hKs : smP (K0 ++ F.map (stP A0 C (n + 1))) := fun z hz => by
            rcases List.mem_append.1 hz with h | h
            · exact hKl z h
            · obtain ⟨f, _, rfl⟩ := List.mem_map.1 h
              have := hst (n + 1) f
              omega
          refine ⟨_, look_P hKs ⟨by omega, by omega⟩, ?_⟩
          by_cases hm : y ∈ K0 ++ F.map (stP A0 C (n + 1))
          · rw [decide_eq_true hm]
            simp (maxSteps := 2000000) only [go_sem]
            repeat' (first | exact hb.elim | refine wS fun K hK => ?_ | refine wB ?_ | refine uR hΓ ?_ | refine uD hΓ fun B hB => ?_ | ((repeat ((fail_if_success (refine hK _ ?_)); clear hK K)); refine hK _ ?_; clear hK K) | refine u1 ?_ | refine uC (fun hb => ?_) fun hb => ?_ | refine u2 (fun hc => ?_) fun hc => ?_ | refine wI ?_ | refine ex_idx (by omega) ?_ | exact True.intro | fail)
            refine ⟨(c + 1, F), by (simp only [xe, xj, Nat.reduceEqDiff]; (try simp [view, viewL_map]); (try omega)), ⟨by show c + 1 ≤ 3; omega, hsk ?_⟩, by show 3 - (c + 1) < _; omega⟩
            rcases List.mem_append.1 hm with h | h
            · exact .inl ((hK0 _).1 h)
            · obtain ⟨f, hf, e⟩ := List.mem_map.1 h
              exact .inr ⟨f, hf, e⟩
          · have hu := upd_P hKs (show y.1 < 1048576 ∧ y.2 < 1048576 by omega) hm
            rw [decide_eq_false hm]
            simp (maxSteps := 2000000) only [go_sem]
            repeat' (first | exact hb.elim | refine wS fun K hK => ?_ | refine wB ?_ | refine uR hΓ ?_ | refine uD hΓ fun B hB => ?_ | ((repeat ((fail_if_success (refine hK _ ?_)); clear hK K)); refine hK _ ?_; clear hK K) | refine u1 ?_ | refine uC (fun hb => ?_) fun hb => ?_ | refine u2 (fun hc => ?_) fun hc => ?_ | refine wI ?_ | refine ex_idx (by omega) ?_ | exact True.intro | fail)
            refine ⟨_, _, hu, ?_⟩
            repeat' (first | exact hb.elim | refine wS fun K hK => ?_ | refine wB ?_ | refine uR hΓ ?_ | refine uD hΓ fun B hB => ?_ | ((repeat ((fail_if_success (refine hK _ ?_)); clear hK K)); refine hK _ ?_; clear hK K) | refine u1 ?_ | refine uC (fun hb => ?_) fun hb => ?_ | refine u2 (fun hc => ?_) fun hc => ?_ | refine wI ?_ | refine ex_idx (by omega) ?_ | exact True.intro | fail)
            (first | refine wA rfl _ (⟨wdL n L[i], rfl, by omega, rfl⟩) ?_ | refine dA rfl _ (⟨wdL n L[i], rfl, by omega, rfl⟩) ?_); simp (maxSteps := 2000000) only [go_sem]
            have hfl := flatO3_len (stP A0 C (n + 1)) (wdL (n + 1)) F
            repeat' (first | exact hb.elim | refine wS fun K hK => ?_ | refine wB ?_ | refine uR hΓ ?_ | refine uD hΓ fun B hB => ?_ | ((repeat ((fail_if_success (refine hK _ ?_)); clear hK K)); refine hK _ ?_; clear hK K) | refine u1 ?_ | refine uC (fun hb => ?_) fun hb => ?_ | refine u2 (fun hc => ?_) fun hc => ?_ | refine wI ?_ | refine ex_idx (by omega) ?_ | exact True.intro | fail)
            refine ⟨(c + 1, F ++ [L[i] * 12 + (3 * a + c)]), ?_, ⟨by show c + 1 ≤ 3; omega, had (fun h => hm (List.mem_append_left _ ((hK0 _).2 h))) fun f hf e => hm (List.mem_append_right _ (List.mem_map.2 ⟨f, hf, e⟩))⟩, by show 3 - (c + 1) < _; omega⟩
            simp only [List.map_append, List.map_cons, List.map_nil, flatO3_app, hst1, hwm, ← List.append_assoc]
            (simp only [xe, xj, Nat.reduceEqDiff]; (try simp [view, viewL_map]); (try omega))
        · obtain rfl : c = 3 := by omega
          exact ⟨(a + 1, F), by (simp only [xe, xj, Nat.reduceEqDiff]; (try simp [view, viewL_map]); (try omega)), ⟨by show a + 1 ≤ 4; omega, hF⟩, by show 4 - (a + 1) < _; omega⟩
      · obtain rfl : a = 4 := by omega
        exact ⟨(i + 1, F), by (simp only [xe, xj, Nat.reduceEqDiff]; (try simp [view, viewL_map]); (try omega)), ⟨by show i + 1 ≤ _; omega, hF1.word⟩, by show L.length - (i + 1) < _; omega⟩
    · have hLv := hF0.level (R' := NewW (stepP A0 C) (1, 1) (n + 1)) hL (by omega) fun c hc hz => hz.up hc
      refine ⟨(n + 1, F, K0 ++ F.map (stP A0 C (n + 1))), by (simp only [xe, xj, Nat.reduceEqDiff]; (try simp [view, viewL_map]); (try omega)), ⟨by show n + 1 ≤ 21; omega, hLv, hN', fun x => ?_⟩, by show 21 - (n + 1) < _; omega⟩
      rw [SeenW.next hL hLv, ← hK0]
      simp only [List.mem_append, List.mem_map]
      rfl

def flatP : List (Nat × Nat) → List AV
  | [] => []
  | p :: L => I (p.1 : Int) :: I (p.2 : Int) :: flatP L
theorem flatP_len : ∀ L, (flatP L).length = L.length * 2
  | [] => rfl
  | p :: L => by simp only [flatP, List.length_cons, flatP_len L]; omega
theorem flatP_app (q : Nat × Nat) : ∀ L, flatP (L ++ [q]) = flatP L ++ [I (q.1 : Int), I (q.2 : Int)]
  | [] => rfl
  | p :: L => by simp only [List.cons_append, flatP, flatP_app q L]
theorem flatP_at : ∀ (L : List (Nat × Nat)) (i : Nat) (h : i < L.length), [I (L[i].1 : Int), I (L[i].2 : Int)] <+: (flatP L).drop (i * 2)
  | p :: L, 0, _ => ⟨flatP L, rfl⟩
  | p :: L, i + 1, h => by
    have h2 := flatP_at L i (by simpa using h)
    rw [Nat.add_mul, Nat.one_mul]
    simpa only [flatP, List.getElem_cons_succ, List.drop_succ_cons] using h2

def pairsX (A B : AutoD) : List (Nat × Nat) := (reachP A B).getD []
def pairsB (A B : AutoD) : Bool := (reachP A B).isSome
def tpairsR (args : List AV) (r : AV) : Prop := ∃ A B : AutoD, args = [togA A B] ∧ AutoOK A ∧ AutoOK B ∧ r = .tup [.orec 2 (flatP (pairsX A B)), .bool (pairsB A B)]

theorem togPairs_ctr : CtrOK Tryz.prog 90 (pureC tpairsR) := by
  refine ctr_pure' Tryz.func90 rfl rfl Tryz.ntmps90 ?_
  rintro _ _ ⟨A, C, rfl, hokA, hokB, rfl⟩
  refine ⟨by simp, fun κ hκ => ?_⟩
  have hbig := bigW_gt
  rw [argEnv_eq]
  simp only [envA]
  have hΓ := ctxOf_ok (P := Tryz.prog) (cx togNext_ctr <| cx0)
  have hpA := hokA.pow_le
  have hpC := hokB.pow_le
  have hst : ∀ (x : Nat × Nat) (m : Nat), m < 12 → (stepP A C x m).1 < 1048576 ∧ (stepP A C x m).2 < 1048576 := fun x m hm =>
    ⟨Nat.lt_of_lt_of_le (stepP_lt hokA hokB hm).1 (Nat.le_trans hpA (by decide)), Nat.lt_of_lt_of_le (stepP_lt hokA hokB hm).2 (Nat.le_trans hpC (by decide))⟩
  clear hpA hpC
  repeat' (first | exact hb.elim | refine wS fun K hK => ?_ | refine wB ?_ | refine uX hΓ ?_ | refine uV hΓ fun B hB => ?_ | ((repeat ((fail_if_success (refine hK _ ?_)); clear hK K)); refine hK _ ?_; clear hK K) | refine u1 ?_ | refine uC (fun hb => ?_) fun hb => ?_ | refine u2 (fun hc => ?_) fun hc => ?_ | refine wI ?_ | refine ex_idx (by omega) ?_ | exact True.intro | fail)
  refine ⟨[I 1, I 1], ⟨rfl, rfl, ⟨[], rfl⟩⟩, ?_⟩
  simp (maxSteps := 2000000) only [go_sem]
  refine ⟨kP [(1, 1)], tP 1, upd_P (K := []) (x := (1, 1)) (by simp [smP]) ⟨by decide, by decide⟩ (by simp), ?_⟩
  repeat' (first | exact hb.elim | refine wS fun K hK => ?_ | refine wB ?_ | refine uX hΓ ?_ | refine uV hΓ fun B hB => ?_ | ((repeat ((fail_if_success (refine hK _ ?_)); clear hK K)); refine hK _ ?_; clear hK K) | refine u1 ?_ | refine uC (fun hb => ?_) fun hb => ?_ | refine u2 (fun hc => ?_) fun hc => ?_ | refine wI ?_ | refine ex_idx (by omega) ?_ | exact True.intro | fail)
  refine CW.loop (ι := Nat × List (Nat × Nat)) (fun y => [(1, box [ints A.ends, rows A.next, ints C.ends, rows C.next]), (4, .orec 2 (flatP y.2)), (5, omap (kP y.2) (tP y.2.length)), (6, I (y.1 : Nat))]) (fun y => AtP (stepP A C) (1, 1) y.1 y.2 ∧ smP y.2) (fun y => 101 - y.1) (0, [(1, 1)]) ?_ ?_
  · exact ⟨by ((simp only [xe, xj, Nat.reduceEqDiff]; (try simp [view, viewL_map]); (try omega)); try simp [flatP, kP, tP]), AtP.start _ _, by intro p hp; simp at hp; subst hp; exact ⟨by decide, by decide⟩⟩
  rintro ⟨k, l⟩ ⟨hAt, hsm⟩
  dsimp only at hAt hsm
  simp only [envOf]
  have hle := hAt.le
  have hhi := hAt.hi
  have hfl := flatP_len l
  repeat' (first | exact hb.elim | refine wS fun K hK => ?_ | refine wB ?_ | refine uX hΓ ?_ | refine uV hΓ fun B hB => ?_ | ((repeat ((fail_if_success (refine hK _ ?_)); clear hK K)); refine hK _ ?_; clear hK K) | refine u1 ?_ | refine uC (fun hb => ?_) fun hb => ?_ | refine u2 (fun hc => ?_) fun hc => ?_ | refine wI ?_ | refine ex_idx (by omega) ?_ | exact True.intro | fail)
  refine ⟨l.length, hfl, ?_⟩
  repeat' (first | exact hb.elim | refine wS fun K hK => ?_ | refine wB ?_ | refine uX hΓ ?_ | refine uV hΓ fun B hB => ?_ | ((repeat ((fail_if_success (refine hK _ ?_)); clear hK K)); refine hK _ ?_; clear hK K) | refine u1 ?_ | refine uC (fun hb => ?_) fun hb => ?_ | refine u2 (fun hc => ?_) fun hc => ?_ | refine wI ?_ | refine ex_idx (by omega) ?_ | exact True.intro | fail)
  · have hkl : k < l.length := by omega
    obtain ⟨q, hq⟩ : ∃ q, l[k] = q := ⟨_, rfl⟩
    have hqs : q.1 < 1048576 ∧ q.2 < 1048576 := hq ▸ hsm _ (List.getElem_mem hkl)
    refine CW.loop (ι := Nat) (fun m => [(1, box [ints A.ends, rows A.next, ints C.ends, rows C.next]), (4, .orec 2 (flatP (prM (stepP A C) l q m))), (5, omap (kP (prM (stepP A C) l q m)) (tP (prM (stepP A C) l q m).length)), (6, I (k : Nat)), (22, I (m : Int))]) (fun m => m ≤ 12) (fun m => 12 - m) 0 ?_ ?_
    · exact ⟨by (simp only [prM]; (simp only [xe, xj, Nat.reduceEqDiff]; (try simp [view, viewL_map]); (try omega))), by omega⟩
    rintro m hm
    obtain ⟨P, hP⟩ : ∃ P, prM (stepP A C) l q m = P := ⟨_, rfl⟩
    have hP1 : prM (stepP A C) l q (m + 1) = addP P (stepP A C q m) := by rw [← hP]; rfl
    have hpre : l <+: P := by rw [← hP]; exact prM_pre ..
    have hPl : P.length ≤ l.length + m := by rw [← hP]; exact prM_len ..
    have hPs : smP P := by rw [← hP]; exact prM_all (p := fun p : Nat × Nat => p.1 < 1048576 ∧ p.2 < 1048576) (fun x m hm _ => hst x m hm) hsm hqs hm
    have hkP : k < P.length := Nat.lt_of_lt_of_le hkl hpre.length_le
    have hPk : P[k] = q := by rw [← hq]; exact (hpre.getElem hkl).symm
    have hPf := flatP_len P
    have hPa := flatP_at P k hkP
    rw [hPk] at hPa
    simp only [envOf, hP]
    repeat' (first | exact hb.elim | refine wS fun K hK => ?_ | refine wB ?_ | refine uX hΓ ?_ | refine uV hΓ fun B hB => ?_ | ((repeat ((fail_if_success (refine hK _ ?_)); clear hK K)); refine hK _ ?_; clear hK K) | refine u1 ?_ | refine uC (fun hb => ?_) fun hb => ?_ | refine u2 (fun hc => ?_) fun hc => ?_ | refine wI ?_ | refine ex_idx (by omega) ?_ | exact True.intro | fail)
    · refine ⟨[I (q.1 : Int), I (q.2 : Int)], ⟨rfl, rfl, hPa⟩, ?_⟩
      simp (maxSteps := 2000000) only [go_sem]
      have hs1 := hst q m (by omega)
      obtain ⟨z, hz⟩ : ∃ z, stepP A C q m = z := ⟨_, rfl⟩
      rw [hz] at hP1 hs1
      (first | refine wA rfl ?_ ?_ ?_ | refine dA rfl ?_ ?_ ?_); exact (agg [I (z.1 : Int), I (z.2 : Int)]); exact (⟨A, C, q, m, rfl, hokA, hokB, by omega, by omega, by omega, by rw [hz]⟩); simp (maxSteps := 2000000) only [go_sem]
      repeat' (first | exact hb.elim | refine wS fun K hK => ?_ | refine wB ?_ | refine uX hΓ ?_ | refine uV hΓ fun B hB => ?_ | ((repeat ((fail_if_success (refine hK _ ?_)); clear hK K)); refine hK _ ?_; clear hK K) | refine u1 ?_ | refine uC (fun hb => ?_) fun hb => ?_ | refine u2 (fun hc => ?_) fun hc => ?_ | refine wI ?_ | refine ex_idx (by omega) ?_ | exact True.intro | fail)
      refine ⟨_, look_P hPs hs1, ?_⟩
      by_cases hin : z ∈ P
      · rw [decide_eq_true hin]
        rw [addP, if_pos hin] at hP1
        simp (maxSteps := 2000000) only [go_sem]
        repeat' (first | exact hb.elim | refine wS fun K hK => ?_ | refine wB ?_ | refine uX hΓ ?_ | refine uV hΓ fun B hB => ?_ | ((repeat ((fail_if_success (refine hK _ ?_)); clear hK K)); refine hK _ ?_; clear hK K) | refine u1 ?_ | refine uC (fun hb => ?_) fun hb => ?_ | refine u2 (fun hc => ?_) fun hc => ?_ | refine wI ?_ | refine ex_idx (by omega) ?_ | exact True.intro | fail)
        exact ⟨m + 1, by (rw [hP1]; (simp only [xe, xj, Nat.reduceEqDiff]; (try simp [view, viewL_map]); (try omega))), by omega, by omega⟩
      · have hu := upd_P hPs hs1 hin
        rw [decide_eq_false hin]
        rw [addP, if_neg hin] at hP1
        simp (maxSteps := 2000000) only [go_sem]
        repeat' (first | exact hb.elim | refine wS fun K hK => ?_ | refine wB ?_ | refine uX hΓ ?_ | refine uV hΓ fun B hB => ?_ | ((repeat ((fail_if_success (refine hK _ ?_)); clear hK K)); refine hK _ ?_; clear hK K) | refine u1 ?_ | refine uC (fun hb => ?_) fun hb => ?_ | refine u2 (fun hc => ?_) fun hc => ?_ | refine wI ?_ | refine ex_idx (by omega) ?_ | exact True.intro | fail)
        refine ⟨_, _, hu, ?_⟩
        repeat' (first | exact hb.elim | refine wS fun K hK => ?_ | refine wB ?_ | refine uX hΓ ?_ | refine uV hΓ fun B hB => ?_ | ((repeat ((fail_if_success (refine hK _ ?_)); clear hK K)); refine hK _ ?_; clear hK K) | refine u1 ?_ | refine uC (fun hb => ?_) fun hb => ?_ | refine u2 (fun hc => ?_) fun hc => ?_ | refine wI ?_ | refine ex_idx (by omega) ?_ | exact True.intro | fail)
        exact ⟨m + 1, by (rw [hP1, flatP_app]; (simp only [xe, xj, Nat.reduceEqDiff]; (try simp [view, viewL_map]); (try omega))), by omega, by omega⟩
    · obtain rfl : m = 12 := by omega
      refine ⟨P.length, hPf, ?_⟩
      repeat' (first | exact hb.elim | refine wS fun K hK => ?_ | refine wB ?_ | refine uX hΓ ?_ | refine uV hΓ fun B hB => ?_ | ((repeat ((fail_if_success (refine hK _ ?_)); clear hK K)); refine hK _ ?_; clear hK K) | refine u1 ?_ | refine uC (fun hb => ?_) fun hb => ?_ | refine u2 (fun hc => ?_) fun hc => ?_ | refine wI ?_ | refine ex_idx (by omega) ?_ | exact True.intro | fail)
      · have hmany : reachP A C = none := hAt.many hkl (by rw [hq, hP]; omega)
        rw [show pairsX A C = [] by unfold pairsX; rw [hmany]; rfl, show pairsB A C = false by unfold pairsB; rw [hmany]; rfl]
        (rw [Tryz.results90]; refine ⟨_, _, rfl, by decide, rfl, rfl, ?_, ?_⟩ <;> simp [upd_at])
        exact .inl rfl
      · have hn := hAt.next hkl (by rw [hq, hP]; omega)
        rw [hq, hP] at hn
        exact ⟨(k + 1, P), by (simp only [xe, xj, Nat.reduceEqDiff]; (try simp [view, viewL_map]); (try omega)), ⟨hn, hPs⟩, by dsimp only; omega⟩
  · rw [show pairsX A C = l by unfold pairsX; rw [show reachP A C = some l from hAt.done (by omega)]; rfl, show pairsB A C = true by unfold pairsB; rw [show reachP A C = some l from hAt.done (by omega)]; rfl]
    (rw [Tryz.results90]; refine ⟨_, _, rfl, by decide, rfl, rfl, ?_, ?_⟩ <;> simp [upd_at])

def pairsOfIR (args : List AV) (r : AV) : Prop := ∃ e f : List Int, args = [ints e, ints f] ∧ e.length ≤ 1048576 ∧ f.length ≤ 1048576 ∧ r = oorows (pairsL (autD e) (autD f))
theorem implPairsOf_ctr : CtrOK Tryz.prog 57 (pureC pairsOfIR) := by
  refine ctr_pure' Tryz.func57 rfl rfl Tryz.ntmps57 ?_
  rintro _ _ ⟨e, f, rfl, he, hf, rfl⟩
  refine ⟨by simp, fun κ hκ => ?_⟩
  have hbig := bigW_gt
  rw [argEnv_eq]
  simp only [envA]
  have hΓ := ctxOf_ok (P := Tryz.prog) (cx autosOf_ctr <| cx togPairs_ctr <| cx0)
  have hokA := fun h => autD_okQ (e := e) h
  have hokB := fun h => autD_okQ (e := f) h
  obtain ⟨A, hA⟩ : ∃ A, autD e = A := ⟨_, rfl⟩
  obtain ⟨C, hC⟩ : ∃ A, autD f = A := ⟨_, rfl⟩
  rw [hA] at hokA
  rw [hC] at hokB
  obtain ⟨T, hT⟩ : ∃ T, (decide (A.ends.length ≠ 0) && decide (C.ends.length ≠ 0)) = T := ⟨_, rfl⟩
  have hA2 : autosR [ints e, ints f] (.tup [togA A C, .bool T]) := ⟨e, f, rfl, he, hf, by rw [hA, hC, hT]⟩
  rw [hA, hC]
  repeat' (first | exact hb.elim | refine wS fun K hK => ?_ | refine wB ?_ | refine uX hΓ ?_ | refine uV hΓ fun B hB => ?_ | ((repeat ((fail_if_success (refine hK _ ?_)); clear hK K)); refine hK _ ?_; clear hK K) | refine u1 ?_ | refine uC (fun hb => ?_) fun hb => ?_ | refine u2 (fun hc => ?_) fun hc => ?_ | refine wI ?_ | refine ex_idx (by omega) ?_ | exact True.intro | fail)
  (first | refine wA rfl ?_ ?_ ?_ | refine dA rfl ?_ ?_ ?_); exact (.tup [togA A C, .bool T]); exact (hA2); simp (maxSteps := 2000000) only [go_sem]
  cases T with
  | false =>
    repeat' (first | exact hb.elim | refine wS fun K hK => ?_ | refine wB ?_ | refine uX hΓ ?_ | refine uV hΓ fun B hB => ?_ | ((repeat ((fail_if_success (refine hK _ ?_)); clear hK K)); refine hK _ ?_; clear hK K) | refine u1 ?_ | refine uC (fun hb => ?_) fun hb => ?_ | refine u2 (fun hc => ?_) fun hc => ?_ | refine wI ?_ | refine ex_idx (by omega) ?_ | exact True.intro | fail)
    rw [pairsL_no (by
      rcases Bool.and_eq_false_iff.1 hT with h | h
      · exact .inl (Classical.byContradiction (of_decide_eq_false h))
      · exact .inr (Classical.byContradiction (of_decide_eq_false h)))]
    simp [Tryz.results57, RetOK, RetP, backA, upd_at, plainB, getP, isOwn, anyOwn, isP]
  | true =>
    rw [Bool.and_eq_true, decide_eq_true_eq, decide_eq_true_eq] at hT
    have hokA := hokA hT.1
    have hokB := hokB hT.2
    have hpl : pairsL A C = (pairsX A C).map rowP2 := by
      unfold pairsX
      cases hr : reachP A C with
      | none => rw [pairsL_many hr]; rfl
      | some l => rw [pairsL_yes (by omega) hr]; rfl
    have hlen : (pairsX A C).length ≤ 100 := by
      unfold pairsX
      cases hr : reachP A C with
      | none => simp
      | some l => exact (prF_at hr).hi
    obtain ⟨L, hL⟩ : ∃ L, pairsX A C = L := ⟨_, rfl⟩
    obtain ⟨O, hO⟩ : ∃ L, pairsB A C = L := ⟨_, rfl⟩
    rw [hL] at hlen hpl
    have hfl := flatP_len L
    have hfa := fun k h => flatP_at L k h
    repeat' (first | exact hb.elim | refine wS fun K hK => ?_ | refine wB ?_ | refine uX hΓ ?_ | refine uV hΓ fun B hB => ?_ | ((repeat ((fail_if_success (refine hK _ ?_)); clear hK K)); refine hK _ ?_; clear hK K) | refine u1 ?_ | refine uC (fun hb => ?_) fun hb => ?_ | refine u2 (fun hc => ?_) fun hc => ?_ | refine wI ?_ | refine ex_idx (by omega) ?_ | exact True.intro | fail)
    have hnl : allN (flatP L) = true := (allN_iff _).2 fun a ha => by
      clear hpl hL hlen hfl hfa
      induction L with
      | nil => simp [flatP] at ha
      | cons p L ih =>
        simp only [flatP, List.mem_cons] at ha
        rcases ha with rfl | rfl | ha
        · rfl
        · rfl
        · exact ih ha
    (first | refine wA rfl ?_ ?_ ?_ | refine dA rfl ?_ ?_ ?_); exact (.tup [.orec 2 (flatP L), .bool O]); exact (⟨A, C, rfl, hokA, hokB, by rw [hL, hO]⟩); simp (maxSteps := 2000000) only [go_sem]
    simp (maxSteps := 2000000) only [go_sem, hnl]
    repeat' (first | exact hb.elim | refine wS fun K hK => ?_ | refine wB ?_ | refine uX hΓ ?_ | refine uV hΓ fun B hB => ?_ | ((repeat ((fail_if_success (refine hK _ ?_)); clear hK K)); refine hK _ ?_; clear hK K) | refine u1 ?_ | refine uC (fun hb => ?_) fun hb => ?_ | refine u2 (fun hc => ?_) fun hc => ?_ | refine wI ?_ | refine ex_idx (by omega) ?_ | exact True.intro | fail)
    refine ⟨L.length, hfl, ?_⟩
    repeat' (first | exact hb.elim | refine wS fun K hK => ?_ | refine wB ?_ | refine uX hΓ ?_ | refine uV hΓ fun B hB => ?_ | ((repeat ((fail_if_success (refine hK _ ?_)); clear hK K)); refine hK _ ?_; clear hK K) | refine u1 ?_ | refine uC (fun hb => ?_) fun hb => ?_ | refine u2 (fun hc => ?_) fun hc => ?_ | refine wI ?_ | refine ex_idx (by omega) ?_ | exact True.intro | fail)
    refine CW.loop (ι := Nat) (fun k => [(7, .orec 2 (flatP L)), (9, oorows ((L.take k).map rowP2)), (25, .alias 7 []), (26, I L.length), (27, I (k : Nat))]) (fun k => k ≤ L.length) (fun k => L.length - k) 0 ?_ ?_
    · exact ⟨by ((simp only [xe, xj, Nat.reduceEqDiff]; (try simp [view, viewL_map]); (try omega)); try simp), by omega⟩
    rintro k hk
    simp only [envOf]
    repeat' (first | exact hb.elim | refine wS fun K hK => ?_ | refine wB ?_ | refine uX hΓ ?_ | refine uV hΓ fun B hB => ?_ | ((repeat ((fail_if_success (refine hK _ ?_)); clear hK K)); refine hK _ ?_; clear hK K) | refine u1 ?_ | refine uC (fun hb => ?_) fun hb => ?_ | refine u2 (fun hc => ?_) fun hc => ?_ | refine wI ?_ | refine ex_idx (by omega) ?_ | exact True.intro | fail)
    · have hkL : k < L.length := by omega
      refine ⟨[I (L[k].1 : Int), I (L[k].2 : Int)], ⟨rfl, rfl, hfa k hkL⟩, ?_⟩
      simp (maxSteps := 2000000) only [go_sem]
      repeat' (first | exact hb.elim | refine wS fun K hK => ?_ | refine wB ?_ | refine uX hΓ ?_ | refine uV hΓ fun B hB => ?_ | ((repeat ((fail_if_success (refine hK _ ?_)); clear hK K)); refine hK _ ?_; clear hK K) | refine u1 ?_ | refine uC (fun hb => ?_) fun hb => ?_ | refine u2 (fun hc => ?_) fun hc => ?_ | refine wI ?_ | refine ex_idx (by omega) ?_ | exact True.intro | fail)
      refine ⟨k + 1, ?_, by omega, by omega⟩
      rw [List.take_succ_eq_append_getElem hkL, List.map_append]
      ((simp only [xe, xj, Nat.reduceEqDiff]; (try simp [view, viewL_map]); (try omega)); try simp [rowP2])
    · obtain rfl : k = L.length := by omega
      rw [hpl, List.take_length]
      simp [Tryz.results57, RetOK, RetP, backA, upd_at, plainB, getP, isOwn, anyOwn, isP]

def pairsOkR (args : List AV) (r : AV) : Prop := ∃ (e f : List Int) (L : List (List Int)), args = [ints e, ints f, rows L] ∧ e.length ≤ 1048576 ∧ f.length ≤ 1048576 ∧ L.length ≤ 1099511627776 ∧ (∀ x ∈ L, x.length ≤ 1099511627776) ∧ r = .bool (okB (autD e) (autD f) L)
theorem upd_P2 {K : List (Nat × Nat)} {x : Nat × Nat} (h : smP K) (hx : x.1 < 1048576 ∧ x.2 < 1048576) (hn : x ∈ K) : UpdOK Tryz.prog 99 (kP K) (tP K.length) (agg [I (x.1 : Int), I (x.2 : Int)]) (.bool true) (kP K) (tP K.length) := by
  unfold UpdOK
  rw [Ty_kkT_99]
  refine ⟨by decide, by show in64 _ ∧ in64 _; unfold in64; omega, kP_ok h, rfl, by simp, .inl ⟨kP_mem.2 hn, rfl, fun i hi => ?_⟩⟩
  refine List.ext_getElem (by simp) fun j h1 h2 => ?_
  rw [List.getElem_set]
  split <;> simp [tP]

theorem implPairsOk_ctr : CtrOK Tryz.prog 56 (pureC pairsOkR) := by
  refine ctr_pure' Tryz.func56 rfl rfl Tryz.ntmps56 ?_
  rintro _ _ ⟨e, f, L, rfl, he, hf, hL, hr, rfl⟩
  refine ⟨by simp, fun κ hκ => ?_⟩
  have hbig := bigW_gt
  rw [argEnv_eq]
  simp only [envA]
  have hΓ := ctxOf_ok (P := Tryz.prog) (cx autosOf_ctr <| cx apart_ctr <| cx togNext_ctr <| cx hasSet_ctr <| cx0)
  have hokA := fun h => autD_okQ (e := e) h
  have hokB := fun h => autD_okQ (e := f) h
  obtain ⟨A, hA⟩ : ∃ A, autD e = A := ⟨_, rfl⟩
  obtain ⟨C, hC⟩ : ∃ A, autD f = A := ⟨_, rfl⟩
  rw [hA] at hokA
  rw [hC] at hokB
  obtain ⟨T, hT⟩ : ∃ T, (decide (A.ends.length ≠ 0) && decide (C.ends.length ≠ 0)) = T := ⟨_, rfl⟩
  have hA2 : autosR [ints e, ints f] (.tup [togA A C, .bool T]) := ⟨e, f, rfl, he, hf, by rw [hA, hC, hT]⟩
  rw [hA, hC]
  repeat' (first | exact hb.elim | refine wS fun K hK => ?_ | refine wB ?_ | refine uX hΓ ?_ | refine uV hΓ fun B hB => ?_ | ((repeat ((fail_if_success (refine hK _ ?_)); clear hK K)); refine hK _ ?_; clear hK K) | refine u1 ?_ | refine uC (fun hb => ?_) fun hb => ?_ | refine u2 (fun hc => ?_) fun hc => ?_ | refine wI ?_ | refine ex_idx (by omega) ?_ | exact True.intro | fail)
  (first | refine wA rfl ?_ ?_ ?_ | refine dA rfl ?_ ?_ ?_); exact (.tup [togA A C, .bool T]); exact (hA2); simp (maxSteps := 2000000) only [go_sem]
  cases T with
  | false =>
    repeat' (first | exact hb.elim | refine wS fun K hK => ?_ | refine wB ?_ | refine uX hΓ ?_ | refine uV hΓ fun B hB => ?_ | ((repeat ((fail_if_success (refine hK _ ?_)); clear hK K)); refine hK _ ?_; clear hK K) | refine u1 ?_ | refine uC (fun hb => ?_) fun hb => ?_ | refine u2 (fun hc => ?_) fun hc => ?_ | refine wI ?_ | refine ex_idx (by omega) ?_ | exact True.intro | fail)
    rw [okB_no (fun h => by rw [decide_eq_true h.1, decide_eq_true h.2.1] at hT; cases hT)]
    simp [Tryz.results56, RetOK, RetP, backA, upd_at, plainB, getP, isOwn, anyOwn, isP]
  | true =>
    rw [Bool.and_eq_true, decide_eq_true_eq, decide_eq_true_eq] at hT
    have hokA := hokA hT.1
    have hokB := hokB hT.2
    have hpA := hokA.pow_le
    have hpC := hokB.pow_le
    repeat' (first | exact hb.elim | refine wS fun K hK => ?_ | refine wB ?_ | refine uX hΓ ?_ | refine uV hΓ fun B hB => ?_ | ((repeat ((fail_if_success (refine hK _ ?_)); clear hK K)); refine hK _ ?_; clear hK K) | refine u1 ?_ | refine uC (fun hb => ?_) fun hb => ?_ | refine u2 (fun hc => ?_) fun hc => ?_ | refine wI ?_ | refine ex_idx (by omega) ?_ | exact True.intro | fail)
    · rw [okB_no (fun h => by omega)]
      simp [Tryz.results56, RetOK, RetP, backA, upd_at, plainB, getP, isOwn, anyOwn, isP]
    refine CW.loop (ι := Nat × List (Nat × Nat)) (fun y => [(7, box [ints A.ends, rows A.next, ints C.ends, rows C.next]), (9, omap (kP y.2) (tP y.2.length)), (28, rows L), (29, I L.length), (30, I (y.1 : Nat))]) (fun y => y.1 ≤ L.length ∧ HasP A C L y.1 y.2) (fun y => L.length - y.1) (0, []) ?_ ?_
    · exact ⟨by ((simp only [xe, xj, Nat.reduceEqDiff]; (try simp [view, viewL_map]); (try omega)); try simp [kP, tP]), by omega, HasP.zero⟩
    rintro ⟨k, G⟩ ⟨hk, hH⟩
    dsimp only at hk hH
    simp only [envOf]
    have hsm : smP G := fun p hp => by
      obtain ⟨_, b1, b2⟩ := hH.mem p hp
      omega
    by_cases hkL : k < L.length
    · by_cases h2 : L[k].length = 2
      rotate_left
      · repeat' (first | exact hb.elim | refine wS fun K hK => ?_ | refine wB ?_ | refine uX hΓ ?_ | refine uV hΓ fun B hB => ?_ | ((repeat ((fail_if_success (refine hK _ ?_)); clear hK K)); refine hK _ ?_; clear hK K) | refine u1 ?_ | refine uC (fun hb => ?_) fun hb => ?_ | refine u2 (fun hc => ?_) fun hc => ?_ | refine wI ?_ | refine ex_idx (by omega) ?_ | exact True.intro | fail)
        all_goals try (exfalso; omega)
        rw [okB_len hkL h2]
        simp [Tryz.results56, RetOK, RetP, backA, upd_at, plainB, getP, isOwn, anyOwn, isP]
      obtain ⟨a, b, hab⟩ : ∃ a b, L[k] = [a, b] := ⟨_, _, two_eq h2 rfl rfl⟩
      have h0 : L[k][0]'(by omega) = a := by simp [hab]
      have h1 : L[k][1]'(by omega) = b := by simp [hab]
      have n1 := fun h => okB_one (A := A) (B := C) (k := k) (a := a) (b := b) hkL hab h
      have n2 := fun h => okB_two (A := A) (B := C) (k := k) (a := a) (b := b) hkL hab h
      repeat' (first | refine wS fun K hK => ?_ | refine wB ?_ | ((first | refine wX hΓ ?_ | refine wV hΓ fun B hB => ?_); simp (maxSteps := 2000000) only [go_sem, h0, h1]) | ((repeat ((fail_if_success (refine hK _ ?_)); clear hK K)); refine hK _ ?_; clear hK K) | (refine w1 ?_; simp only [xs, xi, Nat.reduceEqDiff, reduceCtorEq]) | (refine wC (fun hb => ?_) fun hb => ?_ <;> (try simp only [xb, reduceCtorEq] at hb)) | (refine w2 (fun hc => ?_) (fun hc => ?_) <;> (try simp only [xc] at hc) <;> (try simp only [go_sem, hc, h0, h1]) <;> (try simp only [xb] at hc)) | refine wI ?_ | refine ex_idx (by omega) ?_ | fail)
      all_goals try (exfalso; omega)
      by_cases ha : 0 ≤ a ∧ a < 2 ^ A.ends.length
      rotate_left
      · (first | refine wA rfl ?_ ?_ ?_ | refine dA rfl ?_ ?_ ?_); exact (.bool false); exact (⟨A, a, by simp [h0, autA], hokA, by rw [decide_eq_false ha]⟩); simp (maxSteps := 2000000) only [go_sem]
        repeat' (first | refine wS fun K hK => ?_ | refine wB ?_ | ((first | refine wX hΓ ?_ | refine wV hΓ fun B hB => ?_); simp (maxSteps := 2000000) only [go_sem, h0, h1]) | ((repeat ((fail_if_success (refine hK _ ?_)); clear hK K)); refine hK _ ?_; clear hK K) | (refine w1 ?_; simp only [xs, xi, Nat.reduceEqDiff, reduceCtorEq]) | (refine wC (fun hb => ?_) fun hb => ?_ <;> (try simp only [xb, reduceCtorEq] at hb)) | (refine w2 (fun hc => ?_) (fun hc => ?_) <;> (try simp only [xc] at hc) <;> (try simp only [go_sem, hc, h0, h1]) <;> (try simp only [xb] at hc)) | refine wI ?_ | refine ex_idx (by omega) ?_ | fail)
        rw [n1 ha]
        simp [Tryz.results56, RetOK, RetP, backA, upd_at, plainB, getP, isOwn, anyOwn, isP]
      (first | refine wA rfl ?_ ?_ ?_ | refine dA rfl ?_ ?_ ?_); exact (.bool true); exact (⟨A, a, by simp [h0, autA], hokA, by rw [decide_eq_true ha]⟩); simp (maxSteps := 2000000) only [go_sem]
      repeat' (first | refine wS fun K hK => ?_ | refine wB ?_ | ((first | refine wX hΓ ?_ | refine wV hΓ fun B hB => ?_); simp (maxSteps := 2000000) only [go_sem, h0, h1]) | ((repeat ((fail_if_success (refine hK _ ?_)); clear hK K)); refine hK _ ?_; clear hK K) | (refine w1 ?_; simp only [xs, xi, Nat.reduceEqDiff, reduceCtorEq]) | (refine wC (fun hb => ?_) fun hb => ?_ <;> (try simp only [xb, reduceCtorEq] at hb)) | (refine w2 (fun hc => ?_) (fun hc => ?_) <;> (try simp only [xc] at hc) <;> (try simp only [go_sem, hc, h0, h1]) <;> (try simp only [xb] at hc)) | refine wI ?_ | refine ex_idx (by omega) ?_ | fail)
      by_cases hb2 : 0 ≤ b ∧ b < 2 ^ C.ends.length
      rotate_left
      · (first | refine wA rfl ?_ ?_ ?_ | refine dA rfl ?_ ?_ ?_); exact (.bool false); exact (⟨C, b, by simp [h1, autA], hokB, by rw [decide_eq_false hb2]⟩); simp (maxSteps := 2000000) only [go_sem]
        repeat' (first | refine wS fun K hK => ?_ | refine wB ?_ | ((first | refine wX hΓ ?_ | refine wV hΓ fun B hB => ?_); simp (maxSteps := 2000000) only [go_sem, h0, h1]) | ((repeat ((fail_if_success (refine hK _ ?_)); clear hK K)); refine hK _ ?_; clear hK K) | (refine w1 ?_; simp only [xs, xi, Nat.reduceEqDiff, reduceCtorEq]) | (refine wC (fun hb => ?_) fun hb => ?_ <;> (try simp only [xb, reduceCtorEq] at hb)) | (refine w2 (fun hc => ?_) (fun hc => ?_) <;> (try simp only [xc] at hc) <;> (try simp only [go_sem, hc, h0, h1]) <;> (try simp only [xb] at hc)) | refine wI ?_ | refine ex_idx (by omega) ?_ | fail)
        rw [n2 hb2]
        simp [Tryz.results56, RetOK, RetP, backA, upd_at, plainB, getP, isOwn, anyOwn, isP]
      (first | refine wA rfl ?_ ?_ ?_ | refine dA rfl ?_ ?_ ?_); exact (.bool true); exact (⟨C, b, by simp [h1, autA], hokB, by rw [decide_eq_true hb2]⟩); simp (maxSteps := 2000000) only [go_sem]
      obtain ⟨x, rfl⟩ : ∃ x : Nat, a = (x : Int) := ⟨a.toNat, by omega⟩
      obtain ⟨y, rfl⟩ : ∃ x : Nat, b = (x : Int) := ⟨b.toNat, by omega⟩
      clear n1 n2
      have hrow : L[k] = rowP2 (x, y) := hab
      have hx : x < 2 ^ A.ends.length := by
        have h := ha.2
        have e5 : ((2 ^ A.ends.length : Nat) : Int) = 2 ^ A.ends.length := by simp
        generalize 2 ^ A.ends.length = z at e5 ⊢
        rw [← e5] at h
        omega
      have hy : y < 2 ^ C.ends.length := by
        have h := hb2.2
        have e5 : ((2 ^ C.ends.length : Nat) : Int) = 2 ^ C.ends.length := by simp
        generalize 2 ^ C.ends.length = z at e5 ⊢
        rw [← e5] at h
        omega
      clear ha hb2
      have hbd : x < 1048576 ∧ y < 1048576 := by omega
      repeat' (first | refine wS fun K hK => ?_ | refine wB ?_ | ((first | refine wX hΓ ?_ | refine wV hΓ fun B hB => ?_); simp (maxSteps := 2000000) only [go_sem, h0, h1]) | ((repeat ((fail_if_success (refine hK _ ?_)); clear hK K)); refine hK _ ?_; clear hK K) | (refine w1 ?_; simp only [xs, xi, Nat.reduceEqDiff, reduceCtorEq]) | (refine wC (fun hb => ?_) fun hb => ?_ <;> (try simp only [xb, reduceCtorEq] at hb)) | (refine w2 (fun hc => ?_) (fun hc => ?_) <;> (try simp only [xc] at hc) <;> (try simp only [go_sem, hc, h0, h1]) <;> (try simp only [xb] at hc)) | refine wI ?_ | refine ex_idx (by omega) ?_ | fail)
      by_cases hin : (x, y) ∈ G
      · refine ⟨kP G, tP G.length, by rw [h0, h1]; exact upd_P2 hsm (x := (x, y)) hbd hin, ?_⟩
        repeat' (first | refine wS fun K hK => ?_ | refine wB ?_ | ((first | refine wX hΓ ?_ | refine wV hΓ fun B hB => ?_); simp (maxSteps := 2000000) only [go_sem, h0, h1]) | ((repeat ((fail_if_success (refine hK _ ?_)); clear hK K)); refine hK _ ?_; clear hK K) | (refine w1 ?_; simp only [xs, xi, Nat.reduceEqDiff, reduceCtorEq]) | (refine wC (fun hb => ?_) fun hb => ?_ <;> (try simp only [xb, reduceCtorEq] at hb)) | (refine w2 (fun hc => ?_) (fun hc => ?_) <;> (try simp only [xc] at hc) <;> (try simp only [go_sem, hc, h0, h1]) <;> (try simp only [xb] at hc)) | refine wI ?_ | refine ex_idx (by omega) ?_ | fail)
        exact ⟨(k + 1, G), by (simp only [xe, xj, Nat.reduceEqDiff]; (try simp [view, viewL_map]); (try omega)), ⟨by show k + 1 ≤ _; omega, hH.old hkL hin hrow⟩, by show L.length - (k + 1) < _; omega⟩
      · refine ⟨kP (G ++ [(x, y)]), tP (G ++ [(x, y)]).length, by rw [h0, h1]; exact upd_P hsm (x := (x, y)) hbd hin, ?_⟩
        repeat' (first | refine wS fun K hK => ?_ | refine wB ?_ | ((first | refine wX hΓ ?_ | refine wV hΓ fun B hB => ?_); simp (maxSteps := 2000000) only [go_sem, h0, h1]) | ((repeat ((fail_if_success (refine hK _ ?_)); clear hK K)); refine hK _ ?_; clear hK K) | (refine w1 ?_; simp only [xs, xi, Nat.reduceEqDiff, reduceCtorEq]) | (refine wC (fun hb => ?_) fun hb => ?_ <;> (try simp only [xb, reduceCtorEq] at hb)) | (refine w2 (fun hc => ?_) (fun hc => ?_) <;> (try simp only [xc] at hc) <;> (try simp only [go_sem, hc, h0, h1]) <;> (try simp only [xb] at hc)) | refine wI ?_ | refine ex_idx (by omega) ?_ | fail)
        exact ⟨(k + 1, G ++ [(x, y)]), by (simp only [xe, xj, Nat.reduceEqDiff]; (try simp [view, viewL_map]); (try omega)), ⟨by show k + 1 ≤ _; omega, hH.new hkL hrow hx hy⟩, by show L.length - (k + 1) < _; omega⟩
    obtain rfl : k = L.length := by omega
    repeat' (first | exact hb.elim | refine wS fun K hK => ?_ | refine wB ?_ | refine uX hΓ ?_ | refine uV hΓ fun B hB => ?_ | ((repeat ((fail_if_success (refine hK _ ?_)); clear hK K)); refine hK _ ?_; clear hK K) | refine u1 ?_ | refine uC (fun hb => ?_) fun hb => ?_ | refine u2 (fun hc => ?_) fun hc => ?_ | refine wI ?_ | refine ex_idx (by omega) ?_ | exact True.intro | fail)
    all_goals try (exfalso; omega)
    refine ⟨_, look_P hsm (x := (1, 1)) ⟨by decide, by decide⟩, ?_⟩
    by_cases h11 : (1, 1) ∈ G
    rotate_left
    · rw [decide_eq_false h11]
      simp (maxSteps := 2000000) only [go_sem]
      repeat' (first | exact hb.elim | refine wS fun K hK => ?_ | refine wB ?_ | refine uX hΓ ?_ | refine uV hΓ fun B hB => ?_ | ((repeat ((fail_if_success (refine hK _ ?_)); clear hK K)); refine hK _ ?_; clear hK K) | refine u1 ?_ | refine uC (fun hb => ?_) fun hb => ?_ | refine u2 (fun hc => ?_) fun hc => ?_ | refine wI ?_ | refine ex_idx (by omega) ?_ | exact True.intro | fail)
      rw [hH.no_one h11]
      simp [Tryz.results56, RetOK, RetP, backA, upd_at, plainB, getP, isOwn, anyOwn, isP]
    rw [decide_eq_true h11]
    simp (maxSteps := 2000000) only [go_sem]
    (refine hK _ ?_; clear hK K)
    refine CW.frz 9 [] (omap (kP G) (tP G.length)) (by simp [upd_at, getP]) rfl ?_
    simp (maxSteps := 2000000) only [go_sem]
    repeat' (first | exact hb.elim | refine wS fun K hK => ?_ | refine wB ?_ | refine uX hΓ ?_ | refine uV hΓ fun B hB => ?_ | ((repeat ((fail_if_success (refine hK _ ?_)); clear hK K)); refine hK _ ?_; clear hK K) | refine u1 ?_ | refine uC (fun hb => ?_) fun hb => ?_ | refine u2 (fun hc => ?_) fun hc => ?_ | refine wI ?_ | refine ex_idx (by omega) ?_ | exact True.intro | fail)
    have hGn : ∀ j (h : j < G.length), j < (kP G).length := fun j h => by simp [kP]; exact h
    have hst : ∀ (x : Nat × Nat) (m : Nat), m < 12 → (stepP A C x m).1 < 1048576 ∧ (stepP A C x m).2 < 1048576 := fun x m hm => by
      have := stepP_lt hokA hokB (p := x) hm
      omega
    refine CW.loop (ι := List Nat) (fun seen => [(7, box [ints A.ends, rows A.next, ints C.ends, rows C.next]), (9, .pmap (kP G) (tP G.length)), (69, .oiter (kP G) (tP G.length) seen)]) (fun seen => (seen.Nodup ∧ ∀ j ∈ seen, j < G.length) ∧ ∀ j (h : j < G.length), j ∈ seen → finP A C G[j] = 0 ∧ ∀ m, m < 12 → stepP A C G[j] m ∈ G) (fun seen => G.length - seen.length) [] ?_ ?_
    · exact ⟨by (simp only [xe, xj, Nat.reduceEqDiff]; (try simp [view, viewL_map]); (try omega)), by simp⟩
    rintro seen ⟨⟨hnd, hsl⟩, hgood⟩
    simp only [envOf]
    refine CW.seqK fun K hK => ?_
    refine CW.nextReg hΓ (d := 70) (t := 69) rfl rfl rfl [] (by rw [hκ]; rfl) (by simp only [upd_at, if_true, if_false, Nat.reduceEqDiff]; rfl) (by decide) (fun hall => ?_) (fun j hj hv hjs => ?_)
    · simp (maxSteps := 2000000) only [go_sem]
      repeat' (first | exact hb.elim | refine wS fun K hK => ?_ | refine wB ?_ | refine uX hΓ ?_ | refine uV hΓ fun B hB => ?_ | ((repeat ((fail_if_success (refine hK _ ?_)); clear hK K)); refine hK _ ?_; clear hK K) | refine u1 ?_ | refine uC (fun hb => ?_) fun hb => ?_ | refine u2 (fun hc => ?_) fun hc => ?_ | refine wI ?_ | refine ex_idx (by omega) ?_ | exact True.intro | fail)
      rw [hH.yes hT.1 hT.2 (by omega) h11 (fun p hp => by
        obtain ⟨j, hj, rfl⟩ := List.getElem_of_mem hp
        exact hgood j hj (hall j (hGn j hj)))]
      simp [Tryz.results56, RetOK, RetP, backA, upd_at, plainB, getP, isOwn, anyOwn, isP]
    · have hjP : j < G.length := by simpa [kP] using hj
      obtain ⟨p, hPj⟩ : ∃ p, G[j] = p := ⟨_, rfl⟩
      have hpG : p ∈ G := hPj ▸ List.getElem_mem hjP
      have hpb := hsm p hpG
      have hkj : (kP G)[j] = agg [I (p.1 : Int), I (p.2 : Int)] := by simp [kP, hPj]
      have hvj : (tP G.length)[j] = .bool true := by simp [tP]
      have hlast : (seen ++ [j]).getLast? = some j := by simp
      have hkj' : (kP G)[j]? = some (agg [I (p.1 : Int), I (p.2 : Int)]) := by rw [List.getElem?_eq_getElem hj, hkj]
      have hvj' : (tP G.length)[j]? = some (.bool true) := by rw [List.getElem?_eq_getElem hv, hvj]
      have hnd3 : (seen ++ [j]).Nodup := by rw [List.nodup_append]; exact ⟨hnd, by simp, fun a ha b hb => by simp at hb; subst hb; exact fun e => hjs (e ▸ ha)⟩
      have hsl3 : ∀ x ∈ seen ++ [j], x < G.length := fun x hx => by
        rcases List.mem_append.1 hx with h | h
        · exact hsl x h
        · simp at h; omega
      have hjn : seen.length < G.length := by
        have := nodup_len (l := seen ++ [j]) (m := List.range G.length) hnd3 fun x hx => by rw [List.mem_range]; exact hsl3 x hx
        simp at this; omega
      simp only [hkj, hvj]
      simp (maxSteps := 2000000) only [go_sem]
      repeat' (first | exact hb.elim | refine wS fun K hK => ?_ | refine wB ?_ | refine uX hΓ ?_ | refine uV hΓ fun B hB => ?_ | ((repeat ((fail_if_success (refine hK _ ?_)); clear hK K)); refine hK _ ?_; clear hK K) | refine u1 ?_ | refine uC (fun hb => ?_) fun hb => ?_ | refine u2 (fun hc => ?_) fun hc => ?_ | refine wI ?_ | refine ex_idx (by omega) ?_ | exact True.intro | fail)
      refine ⟨j, _, _, ⟨hlast, hkj', hvj'⟩, ?_⟩
      simp (maxSteps := 2000000) only [go_sem]
      repeat' (first | exact hb.elim | refine wS fun K hK => ?_ | refine wB ?_ | refine uX hΓ ?_ | refine uV hΓ fun B hB => ?_ | ((repeat ((fail_if_success (refine hK _ ?_)); clear hK K)); refine hK _ ?_; clear hK K) | refine u1 ?_ | refine uC (fun hb => ?_) fun hb => ?_ | refine u2 (fun hc => ?_) fun hc => ?_ | refine wI ?_ | refine ex_idx (by omega) ?_ | exact True.intro | fail)
      have hf16 := finP_lt hokA hokB p
      obtain ⟨f, hf0⟩ : ∃ f, finP A C p = f := ⟨_, rfl⟩
      rw [hf0] at hf16
      (first | refine wA rfl ?_ ?_ ?_ | refine dA rfl ?_ ?_ ?_); exact (I (f : Int)); exact (⟨A, C, p, rfl, hokA, hokB, by omega, by omega, by rw [hf0]⟩); simp (maxSteps := 2000000) only [go_sem]
      repeat' (first | exact hb.elim | refine wS fun K hK => ?_ | refine wB ?_ | refine uX hΓ ?_ | refine uV hΓ fun B hB => ?_ | ((repeat ((fail_if_success (refine hK _ ?_)); clear hK K)); refine hK _ ?_; clear hK K) | refine u1 ?_ | refine uC (fun hb => ?_) fun hb => ?_ | refine u2 (fun hc => ?_) fun hc => ?_ | refine wI ?_ | refine ex_idx (by omega) ?_ | exact True.intro | fail)
      · rw [hH.no_fin hpG (by omega)]
        simp [Tryz.results56, RetOK, RetP, backA, upd_at, plainB, getP, isOwn, anyOwn, isP]
      refine CW.loop (ι := Nat) (fun m => [(7, box [ints A.ends, rows A.next, ints C.ends, rows C.next]), (9, .pmap (kP G) (tP G.length)), (69, .oiter (kP G) (tP G.length) (seen ++ [j])), (12, box [I (p.1 : Int), I (p.2 : Int)]), (78, I (m : Int))]) (fun m => m ≤ 12 ∧ ∀ i, i < m → stepP A C p i ∈ G) (fun m => 12 - m) 0 ?_ ?_
      · exact ⟨by (simp only [xe, xj, Nat.reduceEqDiff]; (try simp [view, viewL_map]); (try omega)), by omega, by intros; omega⟩
      rintro m ⟨hm, hmem⟩
      simp only [envOf]
      repeat' (first | exact hb.elim | refine wS fun K hK => ?_ | refine wB ?_ | refine uX hΓ ?_ | refine uV hΓ fun B hB => ?_ | ((repeat ((fail_if_success (refine hK _ ?_)); clear hK K)); refine hK _ ?_; clear hK K) | refine u1 ?_ | refine uC (fun hb => ?_) fun hb => ?_ | refine u2 (fun hc => ?_) fun hc => ?_ | refine wI ?_ | refine ex_idx (by omega) ?_ | exact True.intro | fail)
      · have hs1 := hst p m (by omega)
        obtain ⟨z, hz⟩ : ∃ z, stepP A C p m = z := ⟨_, rfl⟩
        rw [hz] at hs1
        (first | refine wA rfl ?_ ?_ ?_ | refine dA rfl ?_ ?_ ?_); exact (agg [I (z.1 : Int), I (z.2 : Int)]); exact (⟨A, C, p, m, rfl, hokA, hokB, by omega, by omega, by omega, by rw [hz]⟩); simp (maxSteps := 2000000) only [go_sem]
        repeat' (first | exact hb.elim | refine wS fun K hK => ?_ | refine wB ?_ | refine uX hΓ ?_ | refine uV hΓ fun B hB => ?_ | ((repeat ((fail_if_success (refine hK _ ?_)); clear hK K)); refine hK _ ?_; clear hK K) | refine u1 ?_ | refine uC (fun hb => ?_) fun hb => ?_ | refine u2 (fun hc => ?_) fun hc => ?_ | refine wI ?_ | refine ex_idx (by omega) ?_ | exact True.intro | fail)
        refine ⟨_, look_P hsm hs1, ?_⟩
        by_cases hin : z ∈ G
        · rw [decide_eq_true hin]
          simp (maxSteps := 2000000) only [go_sem]
          repeat' (first | exact hb.elim | refine wS fun K hK => ?_ | refine wB ?_ | refine uX hΓ ?_ | refine uV hΓ fun B hB => ?_ | ((repeat ((fail_if_success (refine hK _ ?_)); clear hK K)); refine hK _ ?_; clear hK K) | refine u1 ?_ | refine uC (fun hb => ?_) fun hb => ?_ | refine u2 (fun hc => ?_) fun hc => ?_ | refine wI ?_ | refine ex_idx (by omega) ?_ | exact True.intro | fail)
          refine ⟨m + 1, by (simp only [xe, xj, Nat.reduceEqDiff]; (try simp [view, viewL_map]); (try omega)), ⟨by omega, fun i hi => ?_⟩, by omega⟩
          rcases Nat.lt_or_ge i m with g | g
          · exact hmem i g
          · obtain rfl : i = m := by omega
            rw [hz]; exact hin
        · rw [decide_eq_false hin]
          simp (maxSteps := 2000000) only [go_sem]
          repeat' (first | exact hb.elim | refine wS fun K hK => ?_ | refine wB ?_ | refine uX hΓ ?_ | refine uV hΓ fun B hB => ?_ | ((repeat ((fail_if_success (refine hK _ ?_)); clear hK K)); refine hK _ ?_; clear hK K) | refine u1 ?_ | refine uC (fun hb => ?_) fun hb => ?_ | refine u2 (fun hc => ?_) fun hc => ?_ | refine wI ?_ | refine ex_idx (by omega) ?_ | exact True.intro | fail)
          rw [hH.no_step hpG (m := m) (by omega) (by rw [hz]; exact hin)]
          simp [Tryz.results56, RetOK, RetP, backA, upd_at, plainB, getP, isOwn, anyOwn, isP]
      · obtain rfl : m = 12 := by omega
        refine ⟨seen ++ [j], by (simp only [xe, xj, Nat.reduceEqDiff]; (try simp [view, viewL_map]); (try omega)), ⟨⟨hnd3, hsl3⟩, fun i hi his => ?_⟩, by simp; omega⟩
        rcases List.mem_append.1 his with g | g
        · exact hgood i hi g
        · obtain rfl : i = j := by simpa using g
          rw [hPj]
          exact ⟨by omega, hmem⟩

end Go.Proofs.YtmhiipmajlmlgaaGreat
