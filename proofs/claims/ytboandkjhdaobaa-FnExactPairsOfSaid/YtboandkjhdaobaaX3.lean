/- The search for a first trace in the program, over pairs of sets of states. Walked by the engine. -/
import Derived.Test.YtboandkjhdaobaaQ1
import Derived.Test.YtboandkjhdaobaaGrpT
import Derived.Test.YtboandkjhdaobaaGrpD
import Derived.Test.YtboandkjhdaobaaEngMin
namespace Go.Proofs.Ytboandkjhdaobaa
set_option linter.unusedSimpArgs false
set_option linter.unusedVariables false
set_option maxRecDepth 8000
set_option maxHeartbeats 2000000
open Go Go.RowKit AV

attribute [local go_sem] List.drop_zero List.drop_succ_cons List.take_zero List.take_succ_cons List.take_nil

def flatO3 (f : Nat → Nat × Nat) (w : Nat → List Int) : List Nat → List AV
  | [] => []
  | c :: L => I ((f c).1 : Int) :: I ((f c).2 : Int) :: oints (w c) :: flatO3 f w L
def flatS3 (f : Nat → Nat × Nat) (w : Nat → List Int) : List Nat → List AV
  | [] => []
  | c :: L => I ((f c).1 : Int) :: I ((f c).2 : Int) :: ints (w c) :: flatS3 f w L
theorem flat_view3 (f : Nat → Nat × Nat) (w : Nat → List Int) : ∀ L, viewL (flatO3 f w L) = flatS3 f w L
  | [] => rfl
  | c :: L => by
    have h := flat_view3 f w L
    simp only [flatO3, flatS3, viewL, view, h]
    rw [viewL_map, List.map_map]; rfl
theorem flatS3_len (f : Nat → Nat × Nat) (w : Nat → List Int) : ∀ L, (flatS3 f w L).length = L.length * 3
  | [] => rfl
  | c :: L => by simp only [flatS3, List.length_cons, flatS3_len f w L]; omega
theorem flatO3_len (f : Nat → Nat × Nat) (w : Nat → List Int) : ∀ L, (flatO3 f w L).length = L.length * 3
  | [] => rfl
  | c :: L => by simp only [flatO3, List.length_cons, flatO3_len f w L]; omega
theorem flatO3_app (f : Nat → Nat × Nat) (w : Nat → List Int) (c : Nat) : ∀ L, flatO3 f w (L ++ [c]) = flatO3 f w L ++ [I ((f c).1 : Int), I ((f c).2 : Int), oints (w c)]
  | [] => rfl
  | d :: L => by simp only [List.cons_append, flatO3, flatO3_app f w c L]
theorem flatS3_at (f : Nat → Nat × Nat) (w : Nat → List Int) : ∀ (L : List Nat) (i : Nat) (h : i < L.length), [I ((f L[i]).1 : Int), I ((f L[i]).2 : Int), ints (w L[i])] <+: (flatS3 f w L).drop (i * 3)
  | c :: L, 0, _ => ⟨flatS3 f w L, rfl⟩
  | c :: L, i + 1, h => by
    have h2 := flatS3_at f w L i (by simpa using h)
    rw [Nat.add_mul, Nat.one_mul]
    simpa only [flatS3, List.getElem_cons_succ, List.drop_succ_cons] using h2

def kP (K : List (Nat × Nat)) : List AV := K.map fun p => agg [I (p.1 : Int), I (p.2 : Int)]
def tP (n : Nat) : List AV := List.replicate n (.bool true)
theorem kP_mem {K : List (Nat × Nat)} {x : Nat × Nat} : agg [I (x.1 : Int), I (x.2 : Int)] ∈ kP K ↔ x ∈ K := by
  unfold kP
  rw [List.mem_map]
  constructor
  · rintro ⟨p, hp, h⟩
    simp at h
    have h2 : p = x := Prod.ext (by omega) (by omega)
    exact h2 ▸ hp
  · exact fun h => ⟨_, h, rfl⟩
def smP (K : List (Nat × Nat)) : Prop := ∀ p ∈ K, p.1 < 1048576 ∧ p.2 < 1048576
theorem kP_ok {K : List (Nat × Nat)} (h : smP K) : ∀ Y ∈ kP K, kOK 2 Y := by
  intro Y hY
  obtain ⟨p, hp, rfl⟩ := List.mem_map.1 hY
  have := h p hp
  show in64 _ ∧ in64 _
  unfold in64
  omega
theorem look_P {K : List (Nat × Nat)} {x : Nat × Nat} (h : smP K) (hx : x.1 < 1048576 ∧ x.2 < 1048576) : LookOK Try.prog 82 4 (kP K) (tP K.length) (agg [I (x.1 : Int), I (x.2 : Int)]) (.bool (decide (x ∈ K))) := by
  unfold LookOK
  rw [Ty_kkT_82]
  refine ⟨by decide, by show in64 _ ∧ in64 _; unfold in64; omega, kP_ok h, rfl, by simp, fun i hi => ?_, fun hn => ?_⟩
  · have hm : x ∈ K := kP_mem.1 (List.mem_of_getElem? hi)
    have hil : i < K.length := by have := (List.getElem?_eq_some_iff.1 hi).1; simpa [kP] using this
    simp [tP, hil, hm]
  · have hm : x ∉ K := fun h => hn (kP_mem.2 h)
    rw [Ty_zOf_4]
    simp [hm]
theorem upd_P {K : List (Nat × Nat)} {x : Nat × Nat} (h : smP K) (hx : x.1 < 1048576 ∧ x.2 < 1048576) (hn : x ∉ K) : UpdOK Try.prog 82 (kP K) (tP K.length) (agg [I (x.1 : Int), I (x.2 : Int)]) (.bool true) (kP (K ++ [x])) (tP (K ++ [x]).length) := by
  unfold UpdOK
  rw [Ty_kkT_82]
  refine ⟨by decide, by show in64 _ ∧ in64 _; unfold in64; omega, kP_ok h, rfl, by simp, .inr ⟨fun h => hn (kP_mem.1 h), by simp [kP], ?_⟩⟩
  rw [List.length_append, List.length_singleton, tP, tP, List.replicate_succ']

def stP (A C : AutoD) : Nat → Nat → Nat × Nat := stA (stepP A C) (1, 1)
theorem stP_lt {A C : AutoD} (hA : AutoOK A) (hC : AutoOK C) : ∀ n c, (stP A C n c).1 < 1024 ∧ (stP A C n c).2 < 1024
  | 0, _ => ⟨by show 1 < 1024; omega, by show 1 < 1024; omega⟩
  | n + 1, c => by
    have h := stepP_lt hA hC (p := stP A C n (c / 12)) (m := c % 12) (by omega)
    have h1 := hA.pow_le
    have h2 := hC.pow_le
    exact ⟨Nat.lt_of_lt_of_le h.1 h1, Nat.lt_of_lt_of_le h.2 h2⟩
theorem lvP_len {A C : AutoD} (hA : AutoOK A) (hC : AutoOK C) {n : Nat} {L : List Nat} (h : (L.map (stP A C n)).Nodup) : L.length ≤ 1048576 := by
  have h1 : ((L.map (stP A C n)).map fun p => p.1 * 1024 + p.2).Nodup := by
    rw [List.Nodup, List.pairwise_map]
    refine List.Pairwise.imp_of_mem (fun {x y} hx hy hne e => hne ?_) h
    obtain ⟨c, _, rfl⟩ := List.mem_map.1 hx
    obtain ⟨d, _, rfl⟩ := List.mem_map.1 hy
    have h2 := stP_lt hA hC n c
    have h3 := stP_lt hA hC n d
    exact Prod.ext (by omega) (by omega)
  have := nodup_len (m := List.range 1048576) h1 fun x hx => by
    obtain ⟨p, hp, rfl⟩ := List.mem_map.1 hx
    obtain ⟨c, _, rfl⟩ := List.mem_map.1 hp
    have h2 := stP_lt hA hC n c
    rw [List.mem_range]; omega
  simpa using this
theorem finP_lt {A C : AutoD} (hA : AutoOK A) (hC : AutoOK C) (p : Nat × Nat) : finP A C p < 16 := by
  unfold finP
  exact Nat.xor_lt_two_pow (n := 4) (hA.endF_lt _) (hC.endF_lt _)

def firstPR (args : List AV) (r : AV) : Prop := ∃ A C : AutoD, args = [agg [I 1, I 1], mfn 124 [togA A C], mfn 123 [togA A C]] ∧ AutoOK A ∧ AutoOK C ∧ r = .tup [oints (shT (stepP A C) (1, 1) (finP A C)), .bool (shB (stepP A C) (1, 1) (finP A C))]

theorem firstP_ctr : CtrOK Try.prog 139 (pureC firstPR) := by
  refine ctr_pure' Try.func139 rfl rfl Try.ntmps139 ?_
  rintro _ _ ⟨A0, C, rfl, hok, hokC, rfl⟩
  refine ⟨by simp, fun κ hκ => ?_⟩
  have hbig := bigW_gt
  rw [argEnv_eq]
  simp only [envA]
  have hΓ := ctxOf_ok (P := Try.prog) (cx togNext_ctr <| cx apart_ctr <| cx move_ctr <| cx holds_ctr <| cx cloneA_ctr <| cx0)
  have hst := stP_lt hok hokC
  have hfl16 := finP_lt hok hokC
  obtain ⟨A, hA⟩ : ∃ A, togA A0 C = A := ⟨_, rfl⟩
  rw [hA]
  repeat' (first | refine wS fun K hK => ?_ | refine wB ?_ | ((first | refine wR hΓ ?_ | refine wD hΓ fun B hB => ?_); simp (config := { maxSteps := 2000000 }) only [go_sem]) | ((repeat ((fail_if_success (refine hK _ ?_)); clear hK K)); refine hK _ ?_; clear hK K) | (refine w1 ?_; simp only [xs, xi, Nat.reduceEqDiff, reduceCtorEq]) | (refine wC (fun hb => ?_) fun hb => ?_ <;> (try simp only [xb, reduceCtorEq] at hb)) | (refine w2 (fun hc => ?_) (fun hc => ?_) <;> (try simp only [xc] at hc) <;> (try simp only [go_sem, hc]) <;> (try simp only [xb] at hc)) | refine wI ?_ | refine ex_idx (by omega) ?_ | fail)
  refine ⟨kP [(1, 1)], tP 1, upd_P (K := []) (x := (1, 1)) (by simp [smP]) ⟨by decide, by decide⟩ (by simp), ?_⟩
  repeat' (first | refine wS fun K hK => ?_ | refine wB ?_ | ((first | refine wR hΓ ?_ | refine wD hΓ fun B hB => ?_); simp (config := { maxSteps := 2000000 }) only [go_sem]) | ((repeat ((fail_if_success (refine hK _ ?_)); clear hK K)); refine hK _ ?_; clear hK K) | (refine w1 ?_; simp only [xs, xi, Nat.reduceEqDiff, reduceCtorEq]) | (refine wC (fun hb => ?_) fun hb => ?_ <;> (try simp only [xb, reduceCtorEq] at hb)) | (refine w2 (fun hc => ?_) (fun hc => ?_) <;> (try simp only [xc] at hc) <;> (try simp only [go_sem, hc]) <;> (try simp only [xb] at hc)) | refine wI ?_ | refine ex_idx (by omega) ?_ | fail)
  refine CW.loop (ι := Nat × List Nat × List (Nat × Nat)) (fun y => [(1, mfn 124 [A]), (2, mfn 123 [A]), (8, orec 3 (flatO3 (stP A0 C y.1) (wdL y.1) y.2.1)), (9, omap (kP y.2.2) (tP y.2.2.length)), (10, I y.1)]) (fun y => y.1 ≤ 21 ∧ LvW (stepP A0 C) (1, 1) (NewW (stepP A0 C) (1, 1) y.1) y.1 y.2.1 ∧ NoneW (stepP A0 C) (1, 1) (finP A0 C) y.1 ∧ ∀ x, x ∈ y.2.2 ↔ SeenW (stepP A0 C) (1, 1) y.1 x) (fun y => 21 - y.1) (0, [0], [(1, 1)]) ?_ ?_
  · exact ⟨by ((simp only [xe, xj, Nat.reduceEqDiff]; (try simp [view, viewL_map]); (try omega)); try simp [flatO3, wdL, stP, stA]), by omega, LvW.start _, NoneW.zero _ _ _, fun x => by rw [SeenW.zero]; simp⟩
  rintro ⟨n, L, K0⟩ ⟨hn, hL, hN, hK0⟩
  simp only [envOf]
  dsimp only at hn hL hN hK0
  have hLl := lvP_len hok hokC hL.inj
  have hR : ∀ c, AccW (stepP A0 C) (1, 1) (finP A0 C) n c → NewW (stepP A0 C) (1, 1) n (c / 4) := fun c h => NewW.acc hN h
  have hKl : smP K0 := fun x hx => by
    obtain ⟨n', _, c, _, rfl⟩ := (hK0 x).1 hx
    have := hst n' c
    exact ⟨by show (stP A0 C n' c).1 < _; omega, by show (stP A0 C n' c).2 < _; omega⟩
  refine CW.frz 8 [] (orec 3 (flatO3 (stP A0 C n) (wdL n) L)) (by simp [upd_at, getP]) rfl ?_
  have hfz : view (orec 3 (flatO3 (stP A0 C n) (wdL n) L)) = srec 3 (flatS3 (stP A0 C n) (wdL n) L) := by rw [view, flat_view3]
  rw [hfz]
  obtain ⟨W, hW⟩ : ∃ W, flatS3 (stP A0 C n) (wdL n) L = W := ⟨_, rfl⟩
  have hWl : W.length = L.length * 3 := by rw [← hW, flatS3_len]
  have hWk := fun i h => flatS3_at (stP A0 C n) (wdL n) L i h
  rw [hW] at hWk ⊢
  simp (config := { maxSteps := 2000000 }) only [go_sem]
  repeat' (first | refine wS fun K hK => ?_ | refine wB ?_ | ((first | refine wR hΓ ?_ | refine wD hΓ fun B hB => ?_); simp (config := { maxSteps := 2000000 }) only [go_sem]) | ((repeat ((fail_if_success (refine hK _ ?_)); clear hK K)); refine hK _ ?_; clear hK K) | (refine w1 ?_; simp only [xs, xi, Nat.reduceEqDiff, reduceCtorEq]) | (refine wC (fun hb => ?_) fun hb => ?_ <;> (try simp only [xb, reduceCtorEq] at hb)) | (refine w2 (fun hc => ?_) (fun hc => ?_) <;> (try simp only [xc] at hc) <;> (try simp only [go_sem, hc]) <;> (try simp only [xb] at hc)) | refine wI ?_ | refine ex_idx (by omega) ?_ | fail)
  rotate_left
  · have hN21 : NoneW (stepP A0 C) (1, 1) (finP A0 C) 21 := by
      have : n = 21 := by omega
      subst this; exact hN
    obtain ⟨e1, e2⟩ := ShR.eq (stp := stepP A0 C) (s0 := (1, 1)) (fin := finP A0 C) (.inr ⟨rfl, rfl, hN21⟩)
    rw [← e1, ← e2]
    (rw [Try.results139]; refine ⟨_, _, rfl, by decide, rfl, rfl, ?_, ?_⟩ <;> simp [upd_at])
  refine ⟨L.length, hWl, ?_⟩
  repeat' (first | refine wS fun K hK => ?_ | refine wB ?_ | ((first | refine wR hΓ ?_ | refine wD hΓ fun B hB => ?_); simp (config := { maxSteps := 2000000 }) only [go_sem]) | ((repeat ((fail_if_success (refine hK _ ?_)); clear hK K)); refine hK _ ?_; clear hK K) | (refine w1 ?_; simp only [xs, xi, Nat.reduceEqDiff, reduceCtorEq]) | (refine wC (fun hb => ?_) fun hb => ?_ <;> (try simp only [xb, reduceCtorEq] at hb)) | (refine w2 (fun hc => ?_) (fun hc => ?_) <;> (try simp only [xc] at hc) <;> (try simp only [go_sem, hc]) <;> (try simp only [xb] at hc)) | refine wI ?_ | refine ex_idx (by omega) ?_ | fail)
  refine CW.loop (ι := Nat) (fun i => [(1, mfn 124 [A]), (2, mfn 123 [A]), (8, srec 3 W), (9, omap (kP K0) (tP K0.length)), (10, I n), (31, srec 3 W), (32, I L.length), (33, I i)]) (fun i => i ≤ L.length ∧ SeekW (stepP A0 C) (1, 1) (finP A0 C) n L i 0) (fun i => L.length - i) 0 ?_ ?_
  · exact ⟨by (simp only [xe, xj, Nat.reduceEqDiff]; (try simp [view, viewL_map]); (try omega)), by omega, SeekW.start _ _⟩
  rintro i ⟨hi, hS0⟩
  simp only [envOf]
  repeat' (first | refine wS fun K hK => ?_ | refine wB ?_ | ((first | refine wR hΓ ?_ | refine wD hΓ fun B hB => ?_); simp (config := { maxSteps := 2000000 }) only [go_sem]) | ((repeat ((fail_if_success (refine hK _ ?_)); clear hK K)); refine hK _ ?_; clear hK K) | (refine w1 ?_; simp only [xs, xi, Nat.reduceEqDiff, reduceCtorEq]) | (refine wC (fun hb => ?_) fun hb => ?_ <;> (try simp only [xb, reduceCtorEq] at hb)) | (refine w2 (fun hc => ?_) (fun hc => ?_) <;> (try simp only [xc] at hc) <;> (try simp only [go_sem, hc]) <;> (try simp only [xb] at hc)) | refine wI ?_ | refine ex_idx (by omega) ?_ | fail)
  · have hiL : i < L.length := by omega
    refine ⟨[I ((stP A0 C n L[i]).1 : Int), I ((stP A0 C n L[i]).2 : Int), ints (wdL n L[i])], ⟨rfl, hWk i hiL⟩, ?_⟩
    simp (config := { maxSteps := 2000000 }) only [go_sem]
    repeat' (first | refine wS fun K hK => ?_ | refine wB ?_ | ((first | refine wR hΓ ?_ | refine wD hΓ fun B hB => ?_); simp (config := { maxSteps := 2000000 }) only [go_sem]) | ((repeat ((fail_if_success (refine hK _ ?_)); clear hK K)); refine hK _ ?_; clear hK K) | (refine w1 ?_; simp only [xs, xi, Nat.reduceEqDiff, reduceCtorEq]) | (refine wC (fun hb => ?_) fun hb => ?_ <;> (try simp only [xb, reduceCtorEq] at hb)) | (refine w2 (fun hc => ?_) (fun hc => ?_) <;> (try simp only [xc] at hc) <;> (try simp only [go_sem, hc]) <;> (try simp only [xb] at hc)) | refine wI ?_ | refine ex_idx (by omega) ?_ | fail)
    obtain ⟨x, hx⟩ : ∃ x, stP A0 C n L[i] = x := ⟨_, rfl⟩
    have hxl := hst n L[i]
    rw [hx] at hxl
    have hyl := hfl16 x
    obtain ⟨y, hy⟩ : ∃ y, finP A0 C x = y := ⟨_, rfl⟩
    rw [hy] at hyl
    have hlw := wdL_len n L[i]
    rw [hx]
    (first | refine wA rfl ?_ ?_ ?_ | refine dA rfl ?_ ?_ ?_); exact (I (y : Int)); exact (⟨A0, C, x, by rw [hA], hok, hokC, by omega, by omega, by rw [hy]⟩); simp (config := { maxSteps := 2000000 }) only [go_sem]
    repeat' (first | refine wS fun K hK => ?_ | refine wB ?_ | ((first | refine wR hΓ ?_ | refine wD hΓ fun B hB => ?_); simp (config := { maxSteps := 2000000 }) only [go_sem]) | ((repeat ((fail_if_success (refine hK _ ?_)); clear hK K)); refine hK _ ?_; clear hK K) | (refine w1 ?_; simp only [xs, xi, Nat.reduceEqDiff, reduceCtorEq]) | (refine wC (fun hb => ?_) fun hb => ?_ <;> (try simp only [xb, reduceCtorEq] at hb)) | (refine w2 (fun hc => ?_) (fun hc => ?_) <;> (try simp only [xc] at hc) <;> (try simp only [go_sem, hc]) <;> (try simp only [xb] at hc)) | refine wI ?_ | refine ex_idx (by omega) ?_ | fail)
    refine CW.loop (ι := Nat) (fun a => [(1, mfn 124 [A]), (2, mfn 123 [A]), (8, srec 3 W), (9, omap (kP K0) (tP K0.length)), (10, I n), (31, srec 3 W), (32, I L.length), (33, I i), (12, box [I (x.1 : Int), I (x.2 : Int), ints (wdL n L[i])]), (13, I (y : Int)), (41, I (a : Int))]) (fun a => a ≤ 4 ∧ SeekW (stepP A0 C) (1, 1) (finP A0 C) n L i a) (fun a => 4 - a) 0 ?_ ?_
    · exact ⟨by (simp only [xe, xj, Nat.reduceEqDiff]; (try simp [view, viewL_map]); (try omega)), by omega, hS0⟩
    rintro a ⟨ha, hS⟩
    simp only [envOf]
    repeat' (first | refine wS fun K hK => ?_ | refine wB ?_ | ((first | refine wR hΓ ?_ | refine wD hΓ fun B hB => ?_); simp (config := { maxSteps := 2000000 }) only [go_sem]) | ((repeat ((fail_if_success (refine hK _ ?_)); clear hK K)); refine hK _ ?_; clear hK K) | (refine w1 ?_; simp only [xs, xi, Nat.reduceEqDiff, reduceCtorEq]) | (refine wC (fun hb => ?_) fun hb => ?_ <;> (try simp only [xb, reduceCtorEq] at hb)) | (refine w2 (fun hc => ?_) (fun hc => ?_) <;> (try simp only [xc] at hc) <;> (try simp only [go_sem, hc]) <;> (try simp only [xb] at hc)) | refine wI ?_ | refine ex_idx (by omega) ?_ | fail)
    · cases hyb : y.testBit a with
      | false =>
        (first | refine wA rfl ?_ ?_ ?_ | refine dA rfl ?_ ?_ ?_); exact (.bool false); exact (⟨y, a, rfl, by omega, by omega, by rw [hyb]⟩); simp (config := { maxSteps := 2000000 }) only [go_sem]
        repeat' (first | refine wS fun K hK => ?_ | refine wB ?_ | ((first | refine wR hΓ ?_ | refine wD hΓ fun B hB => ?_); simp (config := { maxSteps := 2000000 }) only [go_sem]) | ((repeat ((fail_if_success (refine hK _ ?_)); clear hK K)); refine hK _ ?_; clear hK K) | (refine w1 ?_; simp only [xs, xi, Nat.reduceEqDiff, reduceCtorEq]) | (refine wC (fun hb => ?_) fun hb => ?_ <;> (try simp only [xb, reduceCtorEq] at hb)) | (refine w2 (fun hc => ?_) (fun hc => ?_) <;> (try simp only [xc] at hc) <;> (try simp only [go_sem, hc]) <;> (try simp only [xb] at hc)) | refine wI ?_ | refine ex_idx (by omega) ?_ | fail)
        exact ⟨a + 1, by (simp only [xe, xj, Nat.reduceEqDiff]; (try simp [view, viewL_map]); (try omega)), ⟨by omega, hS.atom hiL (by rw [show stA (stepP A0 C) (1, 1) n L[i] = x from hx, hy, hyb])⟩, by omega⟩
      | true =>
        have hF := hS.found hL hN hR hiL (by omega) (by rw [show stA (stepP A0 C) (1, 1) n L[i] = x from hx, hy, hyb])
        obtain ⟨e1, e2⟩ := ShR.eq (stp := stepP A0 C) (s0 := (1, 1)) (fin := finP A0 C) (.inl ⟨rfl, n, _, by omega, hF, rfl⟩)
        (first | refine wA rfl ?_ ?_ ?_ | refine dA rfl ?_ ?_ ?_); exact (.bool true); exact (⟨y, a, rfl, by omega, by omega, by rw [hyb]⟩); simp (config := { maxSteps := 2000000 }) only [go_sem]
        repeat' (first | refine wS fun K hK => ?_ | refine wB ?_ | ((first | refine wR hΓ ?_ | refine wD hΓ fun B hB => ?_); simp (config := { maxSteps := 2000000 }) only [go_sem]) | ((repeat ((fail_if_success (refine hK _ ?_)); clear hK K)); refine hK _ ?_; clear hK K) | (refine w1 ?_; simp only [xs, xi, Nat.reduceEqDiff, reduceCtorEq]) | (refine wC (fun hb => ?_) fun hb => ?_ <;> (try simp only [xb, reduceCtorEq] at hb)) | (refine w2 (fun hc => ?_) (fun hc => ?_) <;> (try simp only [xc] at hc) <;> (try simp only [go_sem, hc]) <;> (try simp only [xb] at hc)) | refine wI ?_ | refine ex_idx (by omega) ?_ | fail)
        (first | refine wA rfl _ (⟨wdL n L[i], rfl, by omega, rfl⟩) ?_ | refine dA rfl _ (⟨wdL n L[i], rfl, by omega, rfl⟩) ?_); simp (config := { maxSteps := 2000000 }) only [go_sem]
        repeat' (first | refine wS fun K hK => ?_ | refine wB ?_ | ((first | refine wR hΓ ?_ | refine wD hΓ fun B hB => ?_); simp (config := { maxSteps := 2000000 }) only [go_sem]) | ((repeat ((fail_if_success (refine hK _ ?_)); clear hK K)); refine hK _ ?_; clear hK K) | (refine w1 ?_; simp only [xs, xi, Nat.reduceEqDiff, reduceCtorEq]) | (refine wC (fun hb => ?_) fun hb => ?_ <;> (try simp only [xb, reduceCtorEq] at hb)) | (refine w2 (fun hc => ?_) (fun hc => ?_) <;> (try simp only [xc] at hc) <;> (try simp only [go_sem, hc]) <;> (try simp only [xb] at hc)) | refine wI ?_ | refine ex_idx (by omega) ?_ | fail)
        rw [← e1, ← e2, trcL_mk n _ _ (by omega)]
        (rw [Try.results139]; refine ⟨_, _, rfl, by decide, rfl, rfl, ?_, ?_⟩ <;> simp [upd_at])
    · obtain rfl : a = 4 := by omega
      exact ⟨i + 1, by (simp only [xe, xj, Nat.reduceEqDiff]; (try simp [view, viewL_map]); (try omega)), ⟨by omega, hS.word⟩, by omega⟩
  · have hN' := hS0.none hL hN hR (by omega)
    refine ⟨L.length, hWl, ?_⟩
    repeat' (first | refine wS fun K hK => ?_ | refine wB ?_ | ((first | refine wR hΓ ?_ | refine wD hΓ fun B hB => ?_); simp (config := { maxSteps := 2000000 }) only [go_sem]) | ((repeat ((fail_if_success (refine hK _ ?_)); clear hK K)); refine hK _ ?_; clear hK K) | (refine w1 ?_; simp only [xs, xi, Nat.reduceEqDiff, reduceCtorEq]) | (refine wC (fun hb => ?_) fun hb => ?_ <;> (try simp only [xb, reduceCtorEq] at hb)) | (refine w2 (fun hc => ?_) (fun hc => ?_) <;> (try simp only [xc] at hc) <;> (try simp only [go_sem, hc]) <;> (try simp only [xb] at hc)) | refine wI ?_ | refine ex_idx (by omega) ?_ | fail)
    clear hS0
    refine CW.loop (ι := Nat × List Nat) (fun y => [(1, mfn 124 [A]), (2, mfn 123 [A]), (9, omap (kP (K0 ++ y.2.map (stP A0 C (n + 1)))) (tP (K0 ++ y.2.map (stP A0 C (n + 1))).length)), (10, I n), (15, orec 3 (flatO3 (stP A0 C (n + 1)) (wdL (n + 1)) y.2)), (55, srec 3 W), (56, I L.length), (57, I y.1)]) (fun y => y.1 ≤ L.length ∧ NextW (stepP A0 C) (1, 1) (SeenW (stepP A0 C) (1, 1) n) n L y.1 0 y.2) (fun y => L.length - y.1) (0, []) ?_ ?_
    · exact ⟨by ((simp only [xe, xj, Nat.reduceEqDiff]; (try simp [view, viewL_map]); (try omega)); try simp [flatO3]), by omega, NextW.start _ _ _⟩
    rintro ⟨i, F⟩ ⟨hi, hF0⟩
    dsimp only at hi hF0
    simp only [envOf]
    repeat' (first | refine wS fun K hK => ?_ | refine wB ?_ | ((first | refine wR hΓ ?_ | refine wD hΓ fun B hB => ?_); simp (config := { maxSteps := 2000000 }) only [go_sem]) | ((repeat ((fail_if_success (refine hK _ ?_)); clear hK K)); refine hK _ ?_; clear hK K) | (refine w1 ?_; simp only [xs, xi, Nat.reduceEqDiff, reduceCtorEq]) | (refine wC (fun hb => ?_) fun hb => ?_ <;> (try simp only [xb, reduceCtorEq] at hb)) | (refine w2 (fun hc => ?_) (fun hc => ?_) <;> (try simp only [xc] at hc) <;> (try simp only [go_sem, hc]) <;> (try simp only [xb] at hc)) | refine wI ?_ | refine ex_idx (by omega) ?_ | fail)
    · have hiL : i < L.length := by omega
      refine ⟨[I ((stP A0 C n L[i]).1 : Int), I ((stP A0 C n L[i]).2 : Int), ints (wdL n L[i])], ⟨rfl, hWk i hiL⟩, ?_⟩
      simp (config := { maxSteps := 2000000 }) only [go_sem]
      repeat' (first | refine wS fun K hK => ?_ | refine wB ?_ | ((first | refine wR hΓ ?_ | refine wD hΓ fun B hB => ?_); simp (config := { maxSteps := 2000000 }) only [go_sem]) | ((repeat ((fail_if_success (refine hK _ ?_)); clear hK K)); refine hK _ ?_; clear hK K) | (refine w1 ?_; simp only [xs, xi, Nat.reduceEqDiff, reduceCtorEq]) | (refine wC (fun hb => ?_) fun hb => ?_ <;> (try simp only [xb, reduceCtorEq] at hb)) | (refine w2 (fun hc => ?_) (fun hc => ?_) <;> (try simp only [xc] at hc) <;> (try simp only [go_sem, hc]) <;> (try simp only [xb] at hc)) | refine wI ?_ | refine ex_idx (by omega) ?_ | fail)
      obtain ⟨x, hx⟩ : ∃ x, stP A0 C n L[i] = x := ⟨_, rfl⟩
      have hxl := hst n L[i]
      rw [hx] at hxl
      have hlw := wdL_len n L[i]
      rw [hx]
      refine CW.loop (ι := Nat × List Nat) (fun y => [(1, mfn 124 [A]), (2, mfn 123 [A]), (9, omap (kP (K0 ++ y.2.map (stP A0 C (n + 1)))) (tP (K0 ++ y.2.map (stP A0 C (n + 1))).length)), (10, I n), (15, orec 3 (flatO3 (stP A0 C (n + 1)) (wdL (n + 1)) y.2)), (55, srec 3 W), (56, I L.length), (57, I i), (17, box [I (x.1 : Int), I (x.2 : Int), ints (wdL n L[i])]), (61, I (y.1 : Nat))]) (fun y => y.1 ≤ 4 ∧ NextW (stepP A0 C) (1, 1) (SeenW (stepP A0 C) (1, 1) n) n L i (3 * y.1) y.2) (fun y => 4 - y.1) (0, F) ?_ ?_
      · exact ⟨by (simp only [xe, xj, Nat.reduceEqDiff]; (try simp [view, viewL_map]); (try omega)), by omega, hF0⟩
      rintro ⟨a, F⟩ ⟨ha, hF1⟩
      dsimp only at ha hF1
      simp only [envOf]
      repeat' (first | refine wS fun K hK => ?_ | refine wB ?_ | ((first | refine wR hΓ ?_ | refine wD hΓ fun B hB => ?_); simp (config := { maxSteps := 2000000 }) only [go_sem]) | ((repeat ((fail_if_success (refine hK _ ?_)); clear hK K)); refine hK _ ?_; clear hK K) | (refine w1 ?_; simp only [xs, xi, Nat.reduceEqDiff, reduceCtorEq]) | (refine wC (fun hb => ?_) fun hb => ?_ <;> (try simp only [xb, reduceCtorEq] at hb)) | (refine w2 (fun hc => ?_) (fun hc => ?_) <;> (try simp only [xc] at hc) <;> (try simp only [go_sem, hc]) <;> (try simp only [xb] at hc)) | refine wI ?_ | refine ex_idx (by omega) ?_ | fail)
      · refine CW.loop (ι := Nat × List Nat) (fun y => [(1, mfn 124 [A]), (2, mfn 123 [A]), (9, omap (kP (K0 ++ y.2.map (stP A0 C (n + 1)))) (tP (K0 ++ y.2.map (stP A0 C (n + 1))).length)), (10, I n), (15, orec 3 (flatO3 (stP A0 C (n + 1)) (wdL (n + 1)) y.2)), (55, srec 3 W), (56, I L.length), (57, I i), (17, box [I (x.1 : Int), I (x.2 : Int), ints (wdL n L[i])]), (61, I (a : Nat)), (18, I (a : Nat)), (19, I (16 + (y.1 : Int)))]) (fun y => y.1 ≤ 3 ∧ NextW (stepP A0 C) (1, 1) (SeenW (stepP A0 C) (1, 1) n) n L i (3 * a + y.1) y.2) (fun y => 3 - y.1) (0, F) ?_ ?_
        · exact ⟨by (simp only [xe, xj, Nat.reduceEqDiff]; (try simp [view, viewL_map]); (try omega)), by omega, hF1⟩
        rintro ⟨c, F⟩ ⟨hc3, hF⟩
        dsimp only at hc3 hF
        simp only [envOf]
        repeat' (first | refine wS fun K hK => ?_ | refine wB ?_ | ((first | refine wR hΓ ?_ | refine wD hΓ fun B hB => ?_); simp (config := { maxSteps := 2000000 }) only [go_sem]) | ((repeat ((fail_if_success (refine hK _ ?_)); clear hK K)); refine hK _ ?_; clear hK K) | (refine w1 ?_; simp only [xs, xi, Nat.reduceEqDiff, reduceCtorEq]) | (refine wC (fun hb => ?_) fun hb => ?_ <;> (try simp only [xb, reduceCtorEq] at hb)) | (refine w2 (fun hc => ?_) (fun hc => ?_) <;> (try simp only [xc] at hc) <;> (try simp only [go_sem, hc]) <;> (try simp only [xb] at hc)) | refine wI ?_ | refine ex_idx (by omega) ?_ | fail)
        · have e16 : (16 + (c : Int)) = ((16 + c : Nat) : Int) := by omega
          have hyl := stP_lt hok hokC (n + 1) (L[i] * 12 + (3 * a + c))
          have hst1 : stP A0 C (n + 1) (L[i] * 12 + (3 * a + c)) = stepP A0 C x (3 * a + c) := by rw [← hx]; exact stA_succ _ _ _ _ _ (by omega)
          rw [hst1] at hyl
          have hwm : wdL (n + 1) (L[i] * 12 + (3 * a + c)) = wdL n L[i] ++ [(a : Int), ((16 + c : Nat) : Int)] := by
            rw [wdL_succ n _ _ (by omega), show (3 * a + c) / 3 = a by omega, show (3 * a + c) % 3 = c by omega]
          have hsk := fun hz => hF.skip hL hiL (m := 3 * a + c) hz
          have had := fun hz hf => hF.add hL hiL (m := 3 * a + c) (by omega) hz hf
          rw [show stA (stepP A0 C) (1, 1) (n + 1) (L[i] * 12 + (3 * a + c)) = stepP A0 C x (3 * a + c) from hst1] at hsk had
          have hFl := lvP_len hok hokC hF.inj
          obtain ⟨y, hy⟩ : ∃ y, stepP A0 C x (3 * a + c) = y := ⟨_, rfl⟩
          rw [hy] at hyl hst1 hsk had
          (first | refine wA rfl ?_ ?_ ?_ | refine dA rfl ?_ ?_ ?_); exact (I ((3 * a + c : Nat) : Int)); exact (⟨a, c, by rw [← e16], by omega, by omega, rfl⟩); simp (config := { maxSteps := 2000000 }) only [go_sem]
          (first | refine wA rfl ?_ ?_ ?_ | refine dA rfl ?_ ?_ ?_); exact (agg [I (y.1 : Int), I (y.2 : Int)]); exact (⟨A0, C, x, 3 * a + c, by rw [hA], hok, hokC, by omega, by omega, by omega, by rw [hy]⟩); simp (config := { maxSteps := 2000000 }) only [go_sem]
          repeat' (first | refine wS fun K hK => ?_ | refine wB ?_ | ((first | refine wR hΓ ?_ | refine wD hΓ fun B hB => ?_); simp (config := { maxSteps := 2000000 }) only [go_sem]) | ((repeat ((fail_if_success (refine hK _ ?_)); clear hK K)); refine hK _ ?_; clear hK K) | (refine w1 ?_; simp only [xs, xi, Nat.reduceEqDiff, reduceCtorEq]) | (refine wC (fun hb => ?_) fun hb => ?_ <;> (try simp only [xb, reduceCtorEq] at hb)) | (refine w2 (fun hc => ?_) (fun hc => ?_) <;> (try simp only [xc] at hc) <;> (try simp only [go_sem, hc]) <;> (try simp only [xb] at hc)) | refine wI ?_ | refine ex_idx (by omega) ?_ | fail)
          have hKs : smP (K0 ++ F.map (stP A0 C (n + 1))) := fun z hz => by
            rcases List.mem_append.1 hz with h | h
            · exact hKl z h
            · obtain ⟨f, _, rfl⟩ := List.mem_map.1 h
              have := hst (n + 1) f
              omega
          refine ⟨_, look_P hKs ⟨by omega, by omega⟩, ?_⟩
          by_cases hm : y ∈ K0 ++ F.map (stP A0 C (n + 1))
          · rw [decide_eq_true hm]
            simp (config := { maxSteps := 2000000 }) only [go_sem]
            repeat' (first | refine wS fun K hK => ?_ | refine wB ?_ | ((first | refine wR hΓ ?_ | refine wD hΓ fun B hB => ?_); simp (config := { maxSteps := 2000000 }) only [go_sem]) | ((repeat ((fail_if_success (refine hK _ ?_)); clear hK K)); refine hK _ ?_; clear hK K) | (refine w1 ?_; simp only [xs, xi, Nat.reduceEqDiff, reduceCtorEq]) | (refine wC (fun hb => ?_) fun hb => ?_ <;> (try simp only [xb, reduceCtorEq] at hb)) | (refine w2 (fun hc => ?_) (fun hc => ?_) <;> (try simp only [xc] at hc) <;> (try simp only [go_sem, hc]) <;> (try simp only [xb] at hc)) | refine wI ?_ | refine ex_idx (by omega) ?_ | fail)
            refine ⟨(c + 1, F), by (simp only [xe, xj, Nat.reduceEqDiff]; (try simp [view, viewL_map]); (try omega)), ⟨by show c + 1 ≤ 3; omega, hsk ?_⟩, by show 3 - (c + 1) < _; omega⟩
            rcases List.mem_append.1 hm with h | h
            · exact .inl ((hK0 _).1 h)
            · obtain ⟨f, hf, e⟩ := List.mem_map.1 h
              exact .inr ⟨f, hf, e⟩
          · have hu := upd_P hKs (show y.1 < 1048576 ∧ y.2 < 1048576 by omega) hm
            rw [decide_eq_false hm]
            simp (config := { maxSteps := 2000000 }) only [go_sem]
            repeat' (first | refine wS fun K hK => ?_ | refine wB ?_ | ((first | refine wR hΓ ?_ | refine wD hΓ fun B hB => ?_); simp (config := { maxSteps := 2000000 }) only [go_sem]) | ((repeat ((fail_if_success (refine hK _ ?_)); clear hK K)); refine hK _ ?_; clear hK K) | (refine w1 ?_; simp only [xs, xi, Nat.reduceEqDiff, reduceCtorEq]) | (refine wC (fun hb => ?_) fun hb => ?_ <;> (try simp only [xb, reduceCtorEq] at hb)) | (refine w2 (fun hc => ?_) (fun hc => ?_) <;> (try simp only [xc] at hc) <;> (try simp only [go_sem, hc]) <;> (try simp only [xb] at hc)) | refine wI ?_ | refine ex_idx (by omega) ?_ | fail)
            refine ⟨_, _, hu, ?_⟩
            repeat' (first | refine wS fun K hK => ?_ | refine wB ?_ | ((first | refine wR hΓ ?_ | refine wD hΓ fun B hB => ?_); simp (config := { maxSteps := 2000000 }) only [go_sem]) | ((repeat ((fail_if_success (refine hK _ ?_)); clear hK K)); refine hK _ ?_; clear hK K) | (refine w1 ?_; simp only [xs, xi, Nat.reduceEqDiff, reduceCtorEq]) | (refine wC (fun hb => ?_) fun hb => ?_ <;> (try simp only [xb, reduceCtorEq] at hb)) | (refine w2 (fun hc => ?_) (fun hc => ?_) <;> (try simp only [xc] at hc) <;> (try simp only [go_sem, hc]) <;> (try simp only [xb] at hc)) | refine wI ?_ | refine ex_idx (by omega) ?_ | fail)
            (first | refine wA rfl _ (⟨wdL n L[i], rfl, by omega, rfl⟩) ?_ | refine dA rfl _ (⟨wdL n L[i], rfl, by omega, rfl⟩) ?_); simp (config := { maxSteps := 2000000 }) only [go_sem]
            have hfl := flatO3_len (stP A0 C (n + 1)) (wdL (n + 1)) F
            repeat' (first | refine wS fun K hK => ?_ | refine wB ?_ | ((first | refine wR hΓ ?_ | refine wD hΓ fun B hB => ?_); simp (config := { maxSteps := 2000000 }) only [go_sem]) | ((repeat ((fail_if_success (refine hK _ ?_)); clear hK K)); refine hK _ ?_; clear hK K) | (refine w1 ?_; simp only [xs, xi, Nat.reduceEqDiff, reduceCtorEq]) | (refine wC (fun hb => ?_) fun hb => ?_ <;> (try simp only [xb, reduceCtorEq] at hb)) | (refine w2 (fun hc => ?_) (fun hc => ?_) <;> (try simp only [xc] at hc) <;> (try simp only [go_sem, hc]) <;> (try simp only [xb] at hc)) | refine wI ?_ | refine ex_idx (by omega) ?_ | fail)
            refine ⟨(c + 1, F ++ [L[i] * 12 + (3 * a + c)]), ?_, ⟨by show c + 1 ≤ 3; omega, had (fun h => hm (List.mem_append_left _ ((hK0 _).2 h))) fun f hf e => hm (List.mem_append_right _ (List.mem_map.2 ⟨f, hf, e⟩))⟩, by show 3 - (c + 1) < _; omega⟩
            simp only [List.map_append, List.map_cons, List.map_nil, flatO3_app, hst1, hwm, ← List.append_assoc]
            (simp only [xe, xj, Nat.reduceEqDiff]; (try simp [view, viewL_map]); (try omega))
        · obtain rfl : c = 3 := by omega
          exact ⟨(a + 1, F), by (simp only [xe, xj, Nat.reduceEqDiff]; (try simp [view, viewL_map]); (try omega)), ⟨by show a + 1 ≤ 4; omega, hF⟩, by show 4 - (a + 1) < _; omega⟩
      · obtain rfl : a = 4 := by omega
        exact ⟨(i + 1, F), by (simp only [xe, xj, Nat.reduceEqDiff]; (try simp [view, viewL_map]); (try omega)), ⟨by show i + 1 ≤ _; omega, hF1.word⟩, by show L.length - (i + 1) < _; omega⟩
    · have hLv := hF0.level (R' := NewW (stepP A0 C) (1, 1) (n + 1)) hL (by omega) fun c hc hz => hz.up hc
      refine ⟨(n + 1, F, K0 ++ F.map (stP A0 C (n + 1))), by (simp only [xe, xj, Nat.reduceEqDiff]; (try simp [view, viewL_map]); (try omega)), ⟨by show n + 1 ≤ 21; omega, hLv, hN', fun x => ?_⟩, by show 21 - (n + 1) < _; omega⟩
      rw [SeenW.next hL hLv, ← hK0]
      simp only [List.mem_append, List.mem_map]
      rfl

end Go.Proofs.Ytboandkjhdaobaa
