/- The search for a first trace in the program, over sets of states, and ShortTrace; walked by the engine. -/
import Derived.Test.YtljoonlcpiagjaaX1
import Derived.Test.YtljoonlcpiagjaaGrpT
import Derived.Test.YtljoonlcpiagjaaEngMin
namespace Go.Proofs.Ytljoonlcpiagjaa
set_option linter.unusedSimpArgs false
set_option linter.unusedVariables false
set_option maxRecDepth 8000
set_option maxHeartbeats 2000000
open Go Go.RowKit AV

def flatO (f : Nat → Nat) (w : Nat → List Int) : List Nat → List AV
  | [] => []
  | c :: L => I (f c : Int) :: oints (w c) :: flatO f w L
def flatS (f : Nat → Nat) (w : Nat → List Int) : List Nat → List AV
  | [] => []
  | c :: L => I (f c : Int) :: ints (w c) :: flatS f w L
theorem flat_view (f : Nat → Nat) (w : Nat → List Int) : ∀ L, viewL (flatO f w L) = flatS f w L
  | [] => rfl
  | c :: L => by
    have h := flat_view f w L
    simp only [flatO, flatS, viewL, view, h]
    rw [viewL_map, List.map_map]; rfl
theorem flatS_len (f : Nat → Nat) (w : Nat → List Int) : ∀ L, (flatS f w L).length = L.length * 2
  | [] => rfl
  | c :: L => by simp only [flatS, List.length_cons, flatS_len f w L]; omega
theorem flatO_len (f : Nat → Nat) (w : Nat → List Int) : ∀ L, (flatO f w L).length = L.length * 2
  | [] => rfl
  | c :: L => by simp only [flatO, List.length_cons, flatO_len f w L]; omega
theorem flatO_app (f : Nat → Nat) (w : Nat → List Int) (c : Nat) : ∀ L, flatO f w (L ++ [c]) = flatO f w L ++ [I (f c : Int), oints (w c)]
  | [] => rfl
  | d :: L => by simp only [List.cons_append, flatO, flatO_app f w c L]
theorem flatS_at (f : Nat → Nat) (w : Nat → List Int) : ∀ (L : List Nat) (i : Nat) (h : i < L.length), [I (f L[i] : Int), ints (w L[i])] <+: (flatS f w L).drop (i * 2)
  | c :: L, 0, _ => ⟨flatS f w L, rfl⟩
  | c :: L, i + 1, h => by
    have h2 := flatS_at f w L i (by simpa using h)
    rw [Nat.add_mul, Nat.one_mul]
    simpa only [flatS, List.getElem_cons_succ, List.drop_succ_cons] using h2

def kS (K : List Nat) : List AV := K.map fun (x : Nat) => I (x : Int)
def tS (n : Nat) : List AV := List.replicate n (.bool true)
theorem kS_mem {K : List Nat} {x : Nat} : I (x : Int) ∈ kS K ↔ x ∈ K := by
  unfold kS
  rw [List.mem_map]
  constructor
  · rintro ⟨p, hp, h⟩
    simp at h
    have h2 : p = x := by omega
    exact h2 ▸ hp
  · exact fun h => ⟨_, h, rfl⟩
theorem kS_ok {K : List Nat} (h : ∀ x ∈ K, x < 1048576) : ∀ Y ∈ kS K, kOK 1 Y := by
  intro Y hY
  obtain ⟨p, hp, rfl⟩ := List.mem_map.1 hY
  have := h p hp
  show in64 _
  unfold in64
  omega
theorem look_S {K : List Nat} {x : Nat} (h : ∀ x ∈ K, x < 1048576) (hx : x < 1048576) : LookOK Try.prog 3 4 (kS K) (tS K.length) (I (x : Int)) (.bool (decide (x ∈ K))) := by
  unfold LookOK
  rw [Ty_kkT_3]
  refine ⟨by decide, by show in64 _; unfold in64; omega, kS_ok h, rfl, by simp, fun i hi => ?_, fun hn => ?_⟩
  · have hm : x ∈ K := kS_mem.1 (List.mem_of_getElem? hi)
    have hil : i < K.length := by have := (List.getElem?_eq_some_iff.1 hi).1; simpa [kS] using this
    simp [tS, hil, hm]
  · have hm : x ∉ K := fun h => hn (kS_mem.2 h)
    rw [Ty_zOf_4]
    simp [hm]
theorem upd_S {K : List Nat} {x : Nat} (h : ∀ x ∈ K, x < 1048576) (hx : x < 1048576) (hn : x ∉ K) : UpdOK Try.prog 3 (kS K) (tS K.length) (I (x : Int)) (.bool true) (kS (K ++ [x])) (tS (K ++ [x]).length) := by
  unfold UpdOK
  rw [Ty_kkT_3]
  refine ⟨by decide, by show in64 _; unfold in64; omega, kS_ok h, rfl, by simp, .inr ⟨fun h => hn (kS_mem.1 h), by simp [kS], ?_⟩⟩
  rw [List.length_append, List.length_singleton, tS, tS, List.replicate_succ']

def firstR (args : List AV) (r : AV) : Prop := ∃ D : AutoD, args = [I 1, mfn 82 [autA D], mfn 85 [autA D]] ∧ AutoOK D ∧ r = .tup [oints (shT (behF D) 1 (endF D)), .bool (shB (behF D) 1 (endF D))]

theorem first_ctr : CtrOK Try.prog 93 (pureC firstR) := by
  refine ctr_pure' Try.func93 rfl rfl Try.ntmps93 ?_
  rintro _ _ ⟨D, rfl, hok, rfl⟩
  refine ⟨by simp, fun κ hκ => ?_⟩
  have hbig := bigW_gt
  rw [argEnv_eq]
  simp only [envA]
  have hΓ := ctxOf_ok (P := Try.prog) (cx behindSet_ctr <| cx endsOf_ctr <| cx move_ctr <| cx holds_ctr <| cx cloneA_ctr <| cx0)
  have hp := hok.pow_le
  have hst := stD_lt hok
  obtain ⟨A, hA⟩ : ∃ A, autA D = A := ⟨_, rfl⟩
  rw [hA]
  repeat' (first | refine wS fun K hK => ?_ | refine wB ?_ | ((first | refine wR hΓ ?_ | refine wD hΓ fun B hB => ?_); simp (config := { maxSteps := 2000000 }) only [go_sem]) | ((repeat ((fail_if_success (refine hK _ ?_)); clear hK K)); refine hK _ ?_; clear hK K) | (refine w1 ?_; simp only [xs, xi, Nat.reduceEqDiff, reduceCtorEq]) | (refine wC (fun hb => ?_) fun hb => ?_ <;> (try simp only [xb, reduceCtorEq] at hb)) | (refine w2 (fun hc => ?_) (fun hc => ?_) <;> (try simp only [xc] at hc) <;> (try simp only [go_sem, hc]) <;> (try simp only [xb] at hc)) | refine wI ?_ | refine ex_idx (by omega) ?_ | fail)
  refine ⟨kS [1], tS 1, upd_S (K := []) (x := 1) (by simp) (by omega) (by simp), ?_⟩
  repeat' (first | refine wS fun K hK => ?_ | refine wB ?_ | ((first | refine wR hΓ ?_ | refine wD hΓ fun B hB => ?_); simp (config := { maxSteps := 2000000 }) only [go_sem]) | ((repeat ((fail_if_success (refine hK _ ?_)); clear hK K)); refine hK _ ?_; clear hK K) | (refine w1 ?_; simp only [xs, xi, Nat.reduceEqDiff, reduceCtorEq]) | (refine wC (fun hb => ?_) fun hb => ?_ <;> (try simp only [xb, reduceCtorEq] at hb)) | (refine w2 (fun hc => ?_) (fun hc => ?_) <;> (try simp only [xc] at hc) <;> (try simp only [go_sem, hc]) <;> (try simp only [xb] at hc)) | refine wI ?_ | refine ex_idx (by omega) ?_ | fail)
  refine CW.loop (ι := Nat × List Nat × List Nat) (fun y => [(1, mfn 82 [A]), (2, mfn 85 [A]), (8, orec 2 (flatO (stD D y.1) (wdL y.1) y.2.1)), (9, omap (kS y.2.2) (tS y.2.2.length)), (10, I y.1)]) (fun y => y.1 ≤ 21 ∧ LvW (behF D) 1 (NewW (behF D) 1 y.1) y.1 y.2.1 ∧ NoneW (behF D) 1 (endF D) y.1 ∧ ∀ x, x ∈ y.2.2 ↔ SeenW (behF D) 1 y.1 x) (fun y => 21 - y.1) (0, [0], [1]) ?_ ?_
  · exact ⟨by ((simp only [xe, xj, Nat.reduceEqDiff]; (try simp [view, viewL_map]); (try omega)); try simp [flatO, wdL, stD, stA]), by omega, LvW.start _, NoneW.zero _ _ _, fun x => by rw [SeenW.zero]; simp⟩
  rintro ⟨n, L, K0⟩ ⟨hn, hL, hN, hK0⟩
  simp only [envOf]
  dsimp only at hn hL hN hK0
  have hLl := lvD_len hok hL.inj
  have hR : ∀ c, AccW (behF D) 1 (endF D) n c → NewW (behF D) 1 n (c / 4) := fun c h => NewW.acc hN h
  have hKl : ∀ x ∈ K0, x < 1048576 := fun x hx => by
    obtain ⟨n', _, c, _, rfl⟩ := (hK0 x).1 hx
    have := hst n' c
    show stD D n' c < _
    omega
  refine CW.frz 8 [] (orec 2 (flatO (stD D n) (wdL n) L)) (by simp [upd_at, getP]) rfl ?_
  have hfz : view (orec 2 (flatO (stD D n) (wdL n) L)) = srec 2 (flatS (stD D n) (wdL n) L) := by rw [view, flat_view]
  rw [hfz]
  obtain ⟨W, hW⟩ : ∃ W, flatS (stD D n) (wdL n) L = W := ⟨_, rfl⟩
  have hWl : W.length = L.length * 2 := by rw [← hW, flatS_len]
  have hWk := fun i h => flatS_at (stD D n) (wdL n) L i h
  rw [hW] at hWk ⊢
  simp (config := { maxSteps := 2000000 }) only [go_sem]
  repeat' (first | refine wS fun K hK => ?_ | refine wB ?_ | ((first | refine wR hΓ ?_ | refine wD hΓ fun B hB => ?_); simp (config := { maxSteps := 2000000 }) only [go_sem]) | ((repeat ((fail_if_success (refine hK _ ?_)); clear hK K)); refine hK _ ?_; clear hK K) | (refine w1 ?_; simp only [xs, xi, Nat.reduceEqDiff, reduceCtorEq]) | (refine wC (fun hb => ?_) fun hb => ?_ <;> (try simp only [xb, reduceCtorEq] at hb)) | (refine w2 (fun hc => ?_) (fun hc => ?_) <;> (try simp only [xc] at hc) <;> (try simp only [go_sem, hc]) <;> (try simp only [xb] at hc)) | refine wI ?_ | refine ex_idx (by omega) ?_ | fail)
  rotate_left
  · have hN21 : NoneW (behF D) 1 (endF D) 21 := by
      have : n = 21 := by omega
      subst this; exact hN
    obtain ⟨e1, e2⟩ := ShR.eq (stp := behF D) (s0 := 1) (fin := endF D) (.inr ⟨rfl, rfl, hN21⟩)
    rw [← e1, ← e2]
    (rw [Try.results93]; refine ⟨_, _, rfl, by decide, rfl, rfl, ?_, ?_⟩ <;> simp [upd_at])
  refine ⟨L.length, hWl, ?_⟩
  repeat' (first | refine wS fun K hK => ?_ | refine wB ?_ | ((first | refine wR hΓ ?_ | refine wD hΓ fun B hB => ?_); simp (config := { maxSteps := 2000000 }) only [go_sem]) | ((repeat ((fail_if_success (refine hK _ ?_)); clear hK K)); refine hK _ ?_; clear hK K) | (refine w1 ?_; simp only [xs, xi, Nat.reduceEqDiff, reduceCtorEq]) | (refine wC (fun hb => ?_) fun hb => ?_ <;> (try simp only [xb, reduceCtorEq] at hb)) | (refine w2 (fun hc => ?_) (fun hc => ?_) <;> (try simp only [xc] at hc) <;> (try simp only [go_sem, hc]) <;> (try simp only [xb] at hc)) | refine wI ?_ | refine ex_idx (by omega) ?_ | fail)
  refine CW.loop (ι := Nat) (fun i => [(1, mfn 82 [A]), (2, mfn 85 [A]), (8, srec 2 W), (9, omap (kS K0) (tS K0.length)), (10, I n), (31, srec 2 W), (32, I L.length), (33, I i)]) (fun i => i ≤ L.length ∧ SeekW (behF D) 1 (endF D) n L i 0) (fun i => L.length - i) 0 ?_ ?_
  · exact ⟨by (simp only [xe, xj, Nat.reduceEqDiff]; (try simp [view, viewL_map]); (try omega)), by omega, SeekW.start _ _⟩
  rintro i ⟨hi, hS0⟩
  simp only [envOf]
  repeat' (first | refine wS fun K hK => ?_ | refine wB ?_ | ((first | refine wR hΓ ?_ | refine wD hΓ fun B hB => ?_); simp (config := { maxSteps := 2000000 }) only [go_sem]) | ((repeat ((fail_if_success (refine hK _ ?_)); clear hK K)); refine hK _ ?_; clear hK K) | (refine w1 ?_; simp only [xs, xi, Nat.reduceEqDiff, reduceCtorEq]) | (refine wC (fun hb => ?_) fun hb => ?_ <;> (try simp only [xb, reduceCtorEq] at hb)) | (refine w2 (fun hc => ?_) (fun hc => ?_) <;> (try simp only [xc] at hc) <;> (try simp only [go_sem, hc]) <;> (try simp only [xb] at hc)) | refine wI ?_ | refine ex_idx (by omega) ?_ | fail)
  · have hiL : i < L.length := by omega
    refine ⟨[I (stD D n L[i] : Int), ints (wdL n L[i])], ⟨rfl, hWk i hiL⟩, ?_⟩
    simp (config := { maxSteps := 2000000 }) only [go_sem]
    repeat' (first | refine wS fun K hK => ?_ | refine wB ?_ | ((first | refine wR hΓ ?_ | refine wD hΓ fun B hB => ?_); simp (config := { maxSteps := 2000000 }) only [go_sem]) | ((repeat ((fail_if_success (refine hK _ ?_)); clear hK K)); refine hK _ ?_; clear hK K) | (refine w1 ?_; simp only [xs, xi, Nat.reduceEqDiff, reduceCtorEq]) | (refine wC (fun hb => ?_) fun hb => ?_ <;> (try simp only [xb, reduceCtorEq] at hb)) | (refine w2 (fun hc => ?_) (fun hc => ?_) <;> (try simp only [xc] at hc) <;> (try simp only [go_sem, hc]) <;> (try simp only [xb] at hc)) | refine wI ?_ | refine ex_idx (by omega) ?_ | fail)
    obtain ⟨x, hx⟩ : ∃ x, stD D n L[i] = x := ⟨_, rfl⟩
    have hxl := hst n L[i]
    rw [hx] at hxl
    have hyl := hok.endF_lt x
    obtain ⟨y, hy⟩ : ∃ y, endF D x = y := ⟨_, rfl⟩
    rw [hy] at hyl
    have hlw := wdL_len n L[i]
    rw [hx]
    (first | refine wA rfl ?_ ?_ ?_ | refine dA rfl ?_ ?_ ?_); exact (I (y : Int)); exact (⟨D, x, by rw [hA], hok, by omega, by rw [hy]⟩); simp (config := { maxSteps := 2000000 }) only [go_sem]
    repeat' (first | refine wS fun K hK => ?_ | refine wB ?_ | ((first | refine wR hΓ ?_ | refine wD hΓ fun B hB => ?_); simp (config := { maxSteps := 2000000 }) only [go_sem]) | ((repeat ((fail_if_success (refine hK _ ?_)); clear hK K)); refine hK _ ?_; clear hK K) | (refine w1 ?_; simp only [xs, xi, Nat.reduceEqDiff, reduceCtorEq]) | (refine wC (fun hb => ?_) fun hb => ?_ <;> (try simp only [xb, reduceCtorEq] at hb)) | (refine w2 (fun hc => ?_) (fun hc => ?_) <;> (try simp only [xc] at hc) <;> (try simp only [go_sem, hc]) <;> (try simp only [xb] at hc)) | refine wI ?_ | refine ex_idx (by omega) ?_ | fail)
    refine CW.loop (ι := Nat) (fun a => [(1, mfn 82 [A]), (2, mfn 85 [A]), (8, srec 2 W), (9, omap (kS K0) (tS K0.length)), (10, I n), (31, srec 2 W), (32, I L.length), (33, I i), (12, box [I (x : Int), ints (wdL n L[i])]), (13, I (y : Int)), (41, I (a : Int))]) (fun a => a ≤ 4 ∧ SeekW (behF D) 1 (endF D) n L i a) (fun a => 4 - a) 0 ?_ ?_
    · exact ⟨by (simp only [xe, xj, Nat.reduceEqDiff]; (try simp [view, viewL_map]); (try omega)), by omega, hS0⟩
    rintro a ⟨ha, hS⟩
    simp only [envOf]
    repeat' (first | refine wS fun K hK => ?_ | refine wB ?_ | ((first | refine wR hΓ ?_ | refine wD hΓ fun B hB => ?_); simp (config := { maxSteps := 2000000 }) only [go_sem]) | ((repeat ((fail_if_success (refine hK _ ?_)); clear hK K)); refine hK _ ?_; clear hK K) | (refine w1 ?_; simp only [xs, xi, Nat.reduceEqDiff, reduceCtorEq]) | (refine wC (fun hb => ?_) fun hb => ?_ <;> (try simp only [xb, reduceCtorEq] at hb)) | (refine w2 (fun hc => ?_) (fun hc => ?_) <;> (try simp only [xc] at hc) <;> (try simp only [go_sem, hc]) <;> (try simp only [xb] at hc)) | refine wI ?_ | refine ex_idx (by omega) ?_ | fail)
    · cases hyb : y.testBit a with
      | false =>
        (first | refine wA rfl ?_ ?_ ?_ | refine dA rfl ?_ ?_ ?_); exact (.bool false); exact (⟨y, a, rfl, by omega, by omega, by rw [hyb]⟩); simp (config := { maxSteps := 2000000 }) only [go_sem]
        repeat' (first | refine wS fun K hK => ?_ | refine wB ?_ | ((first | refine wR hΓ ?_ | refine wD hΓ fun B hB => ?_); simp (config := { maxSteps := 2000000 }) only [go_sem]) | ((repeat ((fail_if_success (refine hK _ ?_)); clear hK K)); refine hK _ ?_; clear hK K) | (refine w1 ?_; simp only [xs, xi, Nat.reduceEqDiff, reduceCtorEq]) | (refine wC (fun hb => ?_) fun hb => ?_ <;> (try simp only [xb, reduceCtorEq] at hb)) | (refine w2 (fun hc => ?_) (fun hc => ?_) <;> (try simp only [xc] at hc) <;> (try simp only [go_sem, hc]) <;> (try simp only [xb] at hc)) | refine wI ?_ | refine ex_idx (by omega) ?_ | fail)
        exact ⟨a + 1, by (simp only [xe, xj, Nat.reduceEqDiff]; (try simp [view, viewL_map]); (try omega)), ⟨by omega, hS.atom hiL (by rw [show stA (behF D) 1 n L[i] = x from hx, hy, hyb])⟩, by omega⟩
      | true =>
        have hF := hS.found hL hN hR hiL (by omega) (by rw [show stA (behF D) 1 n L[i] = x from hx, hy, hyb])
        obtain ⟨e1, e2⟩ := ShR.eq (stp := behF D) (s0 := 1) (fin := endF D) (.inl ⟨rfl, n, _, by omega, hF, rfl⟩)
        (first | refine wA rfl ?_ ?_ ?_ | refine dA rfl ?_ ?_ ?_); exact (.bool true); exact (⟨y, a, rfl, by omega, by omega, by rw [hyb]⟩); simp (config := { maxSteps := 2000000 }) only [go_sem]
        repeat' (first | refine wS fun K hK => ?_ | refine wB ?_ | ((first | refine wR hΓ ?_ | refine wD hΓ fun B hB => ?_); simp (config := { maxSteps := 2000000 }) only [go_sem]) | ((repeat ((fail_if_success (refine hK _ ?_)); clear hK K)); refine hK _ ?_; clear hK K) | (refine w1 ?_; simp only [xs, xi, Nat.reduceEqDiff, reduceCtorEq]) | (refine wC (fun hb => ?_) fun hb => ?_ <;> (try simp only [xb, reduceCtorEq] at hb)) | (refine w2 (fun hc => ?_) (fun hc => ?_) <;> (try simp only [xc] at hc) <;> (try simp only [go_sem, hc]) <;> (try simp only [xb] at hc)) | refine wI ?_ | refine ex_idx (by omega) ?_ | fail)
        (first | refine wA rfl _ (⟨wdL n L[i], rfl, by omega, rfl⟩) ?_ | refine dA rfl _ (⟨wdL n L[i], rfl, by omega, rfl⟩) ?_); simp (config := { maxSteps := 2000000 }) only [go_sem]
        repeat' (first | refine wS fun K hK => ?_ | refine wB ?_ | ((first | refine wR hΓ ?_ | refine wD hΓ fun B hB => ?_); simp (config := { maxSteps := 2000000 }) only [go_sem]) | ((repeat ((fail_if_success (refine hK _ ?_)); clear hK K)); refine hK _ ?_; clear hK K) | (refine w1 ?_; simp only [xs, xi, Nat.reduceEqDiff, reduceCtorEq]) | (refine wC (fun hb => ?_) fun hb => ?_ <;> (try simp only [xb, reduceCtorEq] at hb)) | (refine w2 (fun hc => ?_) (fun hc => ?_) <;> (try simp only [xc] at hc) <;> (try simp only [go_sem, hc]) <;> (try simp only [xb] at hc)) | refine wI ?_ | refine ex_idx (by omega) ?_ | fail)
        rw [← e1, ← e2, trcL_mk n _ _ (by omega)]
        (rw [Try.results93]; refine ⟨_, _, rfl, by decide, rfl, rfl, ?_, ?_⟩ <;> simp [upd_at])
    · obtain rfl : a = 4 := by omega
      exact ⟨i + 1, by (simp only [xe, xj, Nat.reduceEqDiff]; (try simp [view, viewL_map]); (try omega)), ⟨by omega, hS.word⟩, by omega⟩
  · have hN' := hS0.none hL hN hR (by omega)
    refine ⟨L.length, hWl, ?_⟩
    repeat' (first | refine wS fun K hK => ?_ | refine wB ?_ | ((first | refine wR hΓ ?_ | refine wD hΓ fun B hB => ?_); simp (config := { maxSteps := 2000000 }) only [go_sem]) | ((repeat ((fail_if_success (refine hK _ ?_)); clear hK K)); refine hK _ ?_; clear hK K) | (refine w1 ?_; simp only [xs, xi, Nat.reduceEqDiff, reduceCtorEq]) | (refine wC (fun hb => ?_) fun hb => ?_ <;> (try simp only [xb, reduceCtorEq] at hb)) | (refine w2 (fun hc => ?_) (fun hc => ?_) <;> (try simp only [xc] at hc) <;> (try simp only [go_sem, hc]) <;> (try simp only [xb] at hc)) | refine wI ?_ | refine ex_idx (by omega) ?_ | fail)
    clear hS0
    refine CW.loop (ι := Nat × List Nat) (fun y => [(1, mfn 82 [A]), (2, mfn 85 [A]), (9, omap (kS (K0 ++ y.2.map (stD D (n + 1)))) (tS (K0 ++ y.2.map (stD D (n + 1))).length)), (10, I n), (15, orec 2 (flatO (stD D (n + 1)) (wdL (n + 1)) y.2)), (55, srec 2 W), (56, I L.length), (57, I y.1)]) (fun y => y.1 ≤ L.length ∧ NextW (behF D) 1 (SeenW (behF D) 1 n) n L y.1 0 y.2) (fun y => L.length - y.1) (0, []) ?_ ?_
    · exact ⟨by ((simp only [xe, xj, Nat.reduceEqDiff]; (try simp [view, viewL_map]); (try omega)); try simp [flatO]), by omega, NextW.start _ _ _⟩
    rintro ⟨i, F⟩ ⟨hi, hF0⟩
    dsimp only at hi hF0
    simp only [envOf]
    repeat' (first | refine wS fun K hK => ?_ | refine wB ?_ | ((first | refine wR hΓ ?_ | refine wD hΓ fun B hB => ?_); simp (config := { maxSteps := 2000000 }) only [go_sem]) | ((repeat ((fail_if_success (refine hK _ ?_)); clear hK K)); refine hK _ ?_; clear hK K) | (refine w1 ?_; simp only [xs, xi, Nat.reduceEqDiff, reduceCtorEq]) | (refine wC (fun hb => ?_) fun hb => ?_ <;> (try simp only [xb, reduceCtorEq] at hb)) | (refine w2 (fun hc => ?_) (fun hc => ?_) <;> (try simp only [xc] at hc) <;> (try simp only [go_sem, hc]) <;> (try simp only [xb] at hc)) | refine wI ?_ | refine ex_idx (by omega) ?_ | fail)
    · have hiL : i < L.length := by omega
      refine ⟨[I (stD D n L[i] : Int), ints (wdL n L[i])], ⟨rfl, hWk i hiL⟩, ?_⟩
      simp (config := { maxSteps := 2000000 }) only [go_sem]
      repeat' (first | refine wS fun K hK => ?_ | refine wB ?_ | ((first | refine wR hΓ ?_ | refine wD hΓ fun B hB => ?_); simp (config := { maxSteps := 2000000 }) only [go_sem]) | ((repeat ((fail_if_success (refine hK _ ?_)); clear hK K)); refine hK _ ?_; clear hK K) | (refine w1 ?_; simp only [xs, xi, Nat.reduceEqDiff, reduceCtorEq]) | (refine wC (fun hb => ?_) fun hb => ?_ <;> (try simp only [xb, reduceCtorEq] at hb)) | (refine w2 (fun hc => ?_) (fun hc => ?_) <;> (try simp only [xc] at hc) <;> (try simp only [go_sem, hc]) <;> (try simp only [xb] at hc)) | refine wI ?_ | refine ex_idx (by omega) ?_ | fail)
      obtain ⟨x, hx⟩ : ∃ x, stD D n L[i] = x := ⟨_, rfl⟩
      have hxl := hst n L[i]
      rw [hx] at hxl
      have hlw := wdL_len n L[i]
      rw [hx]
      refine CW.loop (ι := Nat × List Nat) (fun y => [(1, mfn 82 [A]), (2, mfn 85 [A]), (9, omap (kS (K0 ++ y.2.map (stD D (n + 1)))) (tS (K0 ++ y.2.map (stD D (n + 1))).length)), (10, I n), (15, orec 2 (flatO (stD D (n + 1)) (wdL (n + 1)) y.2)), (55, srec 2 W), (56, I L.length), (57, I i), (17, box [I (x : Int), ints (wdL n L[i])]), (61, I (y.1 : Nat))]) (fun y => y.1 ≤ 4 ∧ NextW (behF D) 1 (SeenW (behF D) 1 n) n L i (3 * y.1) y.2) (fun y => 4 - y.1) (0, F) ?_ ?_
      · exact ⟨by (simp only [xe, xj, Nat.reduceEqDiff]; (try simp [view, viewL_map]); (try omega)), by omega, hF0⟩
      rintro ⟨a, F⟩ ⟨ha, hF1⟩
      dsimp only at ha hF1
      simp only [envOf]
      repeat' (first | refine wS fun K hK => ?_ | refine wB ?_ | ((first | refine wR hΓ ?_ | refine wD hΓ fun B hB => ?_); simp (config := { maxSteps := 2000000 }) only [go_sem]) | ((repeat ((fail_if_success (refine hK _ ?_)); clear hK K)); refine hK _ ?_; clear hK K) | (refine w1 ?_; simp only [xs, xi, Nat.reduceEqDiff, reduceCtorEq]) | (refine wC (fun hb => ?_) fun hb => ?_ <;> (try simp only [xb, reduceCtorEq] at hb)) | (refine w2 (fun hc => ?_) (fun hc => ?_) <;> (try simp only [xc] at hc) <;> (try simp only [go_sem, hc]) <;> (try simp only [xb] at hc)) | refine wI ?_ | refine ex_idx (by omega) ?_ | fail)
      · refine CW.loop (ι := Nat × List Nat) (fun y => [(1, mfn 82 [A]), (2, mfn 85 [A]), (9, omap (kS (K0 ++ y.2.map (stD D (n + 1)))) (tS (K0 ++ y.2.map (stD D (n + 1))).length)), (10, I n), (15, orec 2 (flatO (stD D (n + 1)) (wdL (n + 1)) y.2)), (55, srec 2 W), (56, I L.length), (57, I i), (17, box [I (x : Int), ints (wdL n L[i])]), (61, I (a : Nat)), (18, I (a : Nat)), (19, I (16 + (y.1 : Int)))]) (fun y => y.1 ≤ 3 ∧ NextW (behF D) 1 (SeenW (behF D) 1 n) n L i (3 * a + y.1) y.2) (fun y => 3 - y.1) (0, F) ?_ ?_
        · exact ⟨by (simp only [xe, xj, Nat.reduceEqDiff]; (try simp [view, viewL_map]); (try omega)), by omega, hF1⟩
        rintro ⟨c, F⟩ ⟨hc3, hF⟩
        dsimp only at hc3 hF
        simp only [envOf]
        repeat' (first | refine wS fun K hK => ?_ | refine wB ?_ | ((first | refine wR hΓ ?_ | refine wD hΓ fun B hB => ?_); simp (config := { maxSteps := 2000000 }) only [go_sem]) | ((repeat ((fail_if_success (refine hK _ ?_)); clear hK K)); refine hK _ ?_; clear hK K) | (refine w1 ?_; simp only [xs, xi, Nat.reduceEqDiff, reduceCtorEq]) | (refine wC (fun hb => ?_) fun hb => ?_ <;> (try simp only [xb, reduceCtorEq] at hb)) | (refine w2 (fun hc => ?_) (fun hc => ?_) <;> (try simp only [xc] at hc) <;> (try simp only [go_sem, hc]) <;> (try simp only [xb] at hc)) | refine wI ?_ | refine ex_idx (by omega) ?_ | fail)
        · have e16 : (16 + (c : Int)) = ((16 + c : Nat) : Int) := by omega
          have hyl := hok.behF_lt x (show 3 * a + c < 12 by omega)
          have hst1 : stD D (n + 1) (L[i] * 12 + (3 * a + c)) = behF D x (3 * a + c) := by rw [← hx]; exact stA_succ _ _ _ _ _ (by omega)
          have hwm : wdL (n + 1) (L[i] * 12 + (3 * a + c)) = wdL n L[i] ++ [(a : Int), ((16 + c : Nat) : Int)] := by
            rw [wdL_succ n _ _ (by omega), show (3 * a + c) / 3 = a by omega, show (3 * a + c) % 3 = c by omega]
          have hsk := fun hz => hF.skip hL hiL (m := 3 * a + c) hz
          have had := fun hz hf => hF.add hL hiL (m := 3 * a + c) (by omega) hz hf
          rw [show stA (behF D) 1 (n + 1) (L[i] * 12 + (3 * a + c)) = behF D x (3 * a + c) from hst1] at hsk had
          have hFl := lvD_len hok hF.inj
          obtain ⟨y, hy⟩ : ∃ y, behF D x (3 * a + c) = y := ⟨_, rfl⟩
          rw [hy] at hyl hst1 hsk had
          (first | refine wA rfl ?_ ?_ ?_ | refine dA rfl ?_ ?_ ?_); exact (I ((3 * a + c : Nat) : Int)); exact (⟨a, c, by rw [← e16], by omega, by omega, rfl⟩); simp (config := { maxSteps := 2000000 }) only [go_sem]
          (first | refine wA rfl ?_ ?_ ?_ | refine dA rfl ?_ ?_ ?_); exact (I (y : Int)); exact (⟨D, x, 3 * a + c, by rw [hA], hok, by omega, by omega, by rw [hy]⟩); simp (config := { maxSteps := 2000000 }) only [go_sem]
          repeat' (first | refine wS fun K hK => ?_ | refine wB ?_ | ((first | refine wR hΓ ?_ | refine wD hΓ fun B hB => ?_); simp (config := { maxSteps := 2000000 }) only [go_sem]) | ((repeat ((fail_if_success (refine hK _ ?_)); clear hK K)); refine hK _ ?_; clear hK K) | (refine w1 ?_; simp only [xs, xi, Nat.reduceEqDiff, reduceCtorEq]) | (refine wC (fun hb => ?_) fun hb => ?_ <;> (try simp only [xb, reduceCtorEq] at hb)) | (refine w2 (fun hc => ?_) (fun hc => ?_) <;> (try simp only [xc] at hc) <;> (try simp only [go_sem, hc]) <;> (try simp only [xb] at hc)) | refine wI ?_ | refine ex_idx (by omega) ?_ | fail)
          have hKs : ∀ z ∈ K0 ++ F.map (stD D (n + 1)), z < 1048576 := fun z hz => by
            rcases List.mem_append.1 hz with h | h
            · exact hKl z h
            · obtain ⟨f, _, rfl⟩ := List.mem_map.1 h
              have := hst (n + 1) f
              omega
          refine ⟨_, look_S hKs (by omega), ?_⟩
          by_cases hm : y ∈ K0 ++ F.map (stD D (n + 1))
          · rw [decide_eq_true hm]
            simp (config := { maxSteps := 2000000 }) only [go_sem]
            repeat' (first | refine wS fun K hK => ?_ | refine wB ?_ | ((first | refine wR hΓ ?_ | refine wD hΓ fun B hB => ?_); simp (config := { maxSteps := 2000000 }) only [go_sem]) | ((repeat ((fail_if_success (refine hK _ ?_)); clear hK K)); refine hK _ ?_; clear hK K) | (refine w1 ?_; simp only [xs, xi, Nat.reduceEqDiff, reduceCtorEq]) | (refine wC (fun hb => ?_) fun hb => ?_ <;> (try simp only [xb, reduceCtorEq] at hb)) | (refine w2 (fun hc => ?_) (fun hc => ?_) <;> (try simp only [xc] at hc) <;> (try simp only [go_sem, hc]) <;> (try simp only [xb] at hc)) | refine wI ?_ | refine ex_idx (by omega) ?_ | fail)
            refine ⟨(c + 1, F), by (simp only [xe, xj, Nat.reduceEqDiff]; (try simp [view, viewL_map]); (try omega)), ⟨by show c + 1 ≤ 3; omega, hsk ?_⟩, by show 3 - (c + 1) < _; omega⟩
            rcases List.mem_append.1 hm with h | h
            · exact .inl ((hK0 _).1 h)
            · obtain ⟨f, hf, e⟩ := List.mem_map.1 h
              exact .inr ⟨f, hf, e⟩
          · have hu := upd_S hKs (show y < 1048576 by omega) hm
            rw [decide_eq_false hm]
            simp (config := { maxSteps := 2000000 }) only [go_sem]
            repeat' (first | refine wS fun K hK => ?_ | refine wB ?_ | ((first | refine wR hΓ ?_ | refine wD hΓ fun B hB => ?_); simp (config := { maxSteps := 2000000 }) only [go_sem]) | ((repeat ((fail_if_success (refine hK _ ?_)); clear hK K)); refine hK _ ?_; clear hK K) | (refine w1 ?_; simp only [xs, xi, Nat.reduceEqDiff, reduceCtorEq]) | (refine wC (fun hb => ?_) fun hb => ?_ <;> (try simp only [xb, reduceCtorEq] at hb)) | (refine w2 (fun hc => ?_) (fun hc => ?_) <;> (try simp only [xc] at hc) <;> (try simp only [go_sem, hc]) <;> (try simp only [xb] at hc)) | refine wI ?_ | refine ex_idx (by omega) ?_ | fail)
            refine ⟨_, _, hu, ?_⟩
            repeat' (first | refine wS fun K hK => ?_ | refine wB ?_ | ((first | refine wR hΓ ?_ | refine wD hΓ fun B hB => ?_); simp (config := { maxSteps := 2000000 }) only [go_sem]) | ((repeat ((fail_if_success (refine hK _ ?_)); clear hK K)); refine hK _ ?_; clear hK K) | (refine w1 ?_; simp only [xs, xi, Nat.reduceEqDiff, reduceCtorEq]) | (refine wC (fun hb => ?_) fun hb => ?_ <;> (try simp only [xb, reduceCtorEq] at hb)) | (refine w2 (fun hc => ?_) (fun hc => ?_) <;> (try simp only [xc] at hc) <;> (try simp only [go_sem, hc]) <;> (try simp only [xb] at hc)) | refine wI ?_ | refine ex_idx (by omega) ?_ | fail)
            (first | refine wA rfl _ (⟨wdL n L[i], rfl, by omega, rfl⟩) ?_ | refine dA rfl _ (⟨wdL n L[i], rfl, by omega, rfl⟩) ?_); simp (config := { maxSteps := 2000000 }) only [go_sem]
            have hfl := flatO_len (stD D (n + 1)) (wdL (n + 1)) F
            repeat' (first | refine wS fun K hK => ?_ | refine wB ?_ | ((first | refine wR hΓ ?_ | refine wD hΓ fun B hB => ?_); simp (config := { maxSteps := 2000000 }) only [go_sem]) | ((repeat ((fail_if_success (refine hK _ ?_)); clear hK K)); refine hK _ ?_; clear hK K) | (refine w1 ?_; simp only [xs, xi, Nat.reduceEqDiff, reduceCtorEq]) | (refine wC (fun hb => ?_) fun hb => ?_ <;> (try simp only [xb, reduceCtorEq] at hb)) | (refine w2 (fun hc => ?_) (fun hc => ?_) <;> (try simp only [xc] at hc) <;> (try simp only [go_sem, hc]) <;> (try simp only [xb] at hc)) | refine wI ?_ | refine ex_idx (by omega) ?_ | fail)
            refine ⟨(c + 1, F ++ [L[i] * 12 + (3 * a + c)]), ?_, ⟨by show c + 1 ≤ 3; omega, had (fun h => hm (List.mem_append_left _ ((hK0 _).2 h))) fun f hf e => hm (List.mem_append_right _ (List.mem_map.2 ⟨f, hf, e⟩))⟩, by show 3 - (c + 1) < _; omega⟩
            simp only [List.map_append, List.map_cons, List.map_nil, flatO_app, hst1, hwm, ← List.append_assoc]
            (simp only [xe, xj, Nat.reduceEqDiff]; (try simp [view, viewL_map]); (try omega))
        · obtain rfl : c = 3 := by omega
          exact ⟨(a + 1, F), by (simp only [xe, xj, Nat.reduceEqDiff]; (try simp [view, viewL_map]); (try omega)), ⟨by show a + 1 ≤ 4; omega, hF⟩, by show 4 - (a + 1) < _; omega⟩
      · obtain rfl : a = 4 := by omega
        exact ⟨(i + 1, F), by (simp only [xe, xj, Nat.reduceEqDiff]; (try simp [view, viewL_map]); (try omega)), ⟨by show i + 1 ≤ _; omega, hF1.word⟩, by show L.length - (i + 1) < _; omega⟩
    · have hLv := hF0.level (R' := NewW (behF D) 1 (n + 1)) hL (by omega) fun c hc hz => hz.up hc
      refine ⟨(n + 1, F, K0 ++ F.map (stD D (n + 1))), by (simp only [xe, xj, Nat.reduceEqDiff]; (try simp [view, viewL_map]); (try omega)), ⟨by show n + 1 ≤ 21; omega, hLv, hN', fun x => ?_⟩, by show 21 - (n + 1) < _; omega⟩
      rw [SeenW.next hL hLv, ← hK0]
      simp only [List.mem_append, List.mem_map]
      rfl

theorem implShortTrace_ctr : CtrOK Try.prog 38 (pureC shortR) := by
  refine ctr_pure' Try.func38 rfl rfl Try.ntmps38 ?_
  rintro _ _ ⟨D, rfl, h1, h2, h3, rfl⟩
  refine ⟨by simp, fun κ hκ => ?_⟩
  have hbig := bigW_gt
  rw [argEnv_eq]
  simp only [envA]
  have hΓ := ctxOf_ok (P := Try.prog) (cx implAutoValid_ctr <| cx first_ctr <| cx0)
  simp only [autA]
  repeat' (first | refine wS fun K hK => ?_ | refine wB ?_ | ((first | refine wR hΓ ?_ | refine wD hΓ fun B hB => ?_); simp (config := { maxSteps := 2000000 }) only [go_sem]) | ((repeat ((fail_if_success (refine hK _ ?_)); clear hK K)); refine hK _ ?_; clear hK K) | (refine w1 ?_; simp only [xs, xi, Nat.reduceEqDiff, reduceCtorEq]) | (refine wC (fun hb => ?_) fun hb => ?_ <;> (try simp only [xb, reduceCtorEq] at hb)) | (refine w2 (fun hc => ?_) (fun hc => ?_) <;> (try simp only [xc] at hc) <;> (try simp only [go_sem, hc]) <;> (try simp only [xb] at hc)) | refine wI ?_ | refine ex_idx (by omega) ?_ | fail)
  obtain ⟨T, hT⟩ : ∃ T, autoOKB D = T := ⟨_, rfl⟩
  (first | refine wA rfl ?_ ?_ ?_ | refine dA rfl ?_ ?_ ?_); exact (.bool T); exact (⟨D.ends, D.next, rfl, h1, h2, h3, by rw [← hT]⟩); simp (config := { maxSteps := 2000000 }) only [go_sem]
  cases T with
  | false =>
    repeat' (first | refine wS fun K hK => ?_ | refine wB ?_ | ((first | refine wR hΓ ?_ | refine wD hΓ fun B hB => ?_); simp (config := { maxSteps := 2000000 }) only [go_sem]) | ((repeat ((fail_if_success (refine hK _ ?_)); clear hK K)); refine hK _ ?_; clear hK K) | (refine w1 ?_; simp only [xs, xi, Nat.reduceEqDiff, reduceCtorEq]) | (refine wC (fun hb => ?_) fun hb => ?_ <;> (try simp only [xb, reduceCtorEq] at hb)) | (refine w2 (fun hc => ?_) (fun hc => ?_) <;> (try simp only [xc] at hc) <;> (try simp only [go_sem, hc]) <;> (try simp only [xb] at hc)) | refine wI ?_ | refine ex_idx (by omega) ?_ | fail)
    rw [shTD_no hT, shBD_no hT]
    (rw [Try.results38]; refine ⟨_, _, rfl, by decide, rfl, rfl, ?_, ?_⟩ <;> simp [upd_at])
  | true =>
    have hok := autoOKB_true.1 hT
    obtain ⟨e1, e2⟩ := shD_yes hT (sh_spec (behF D) 1 (endF D))
    repeat' (first | refine wS fun K hK => ?_ | refine wB ?_ | ((first | refine wR hΓ ?_ | refine wD hΓ fun B hB => ?_); simp (config := { maxSteps := 2000000 }) only [go_sem]) | ((repeat ((fail_if_success (refine hK _ ?_)); clear hK K)); refine hK _ ?_; clear hK K) | (refine w1 ?_; simp only [xs, xi, Nat.reduceEqDiff, reduceCtorEq]) | (refine wC (fun hb => ?_) fun hb => ?_ <;> (try simp only [xb, reduceCtorEq] at hb)) | (refine w2 (fun hc => ?_) (fun hc => ?_) <;> (try simp only [xc] at hc) <;> (try simp only [go_sem, hc]) <;> (try simp only [xb] at hc)) | refine wI ?_ | refine ex_idx (by omega) ?_ | fail)
    (first | refine wA rfl _ (⟨D, rfl, hok, rfl⟩) ?_ | refine dA rfl _ (⟨D, rfl, hok, rfl⟩) ?_); simp (config := { maxSteps := 2000000 }) only [go_sem]
    repeat' (first | refine wS fun K hK => ?_ | refine wB ?_ | ((first | refine wR hΓ ?_ | refine wD hΓ fun B hB => ?_); simp (config := { maxSteps := 2000000 }) only [go_sem]) | ((repeat ((fail_if_success (refine hK _ ?_)); clear hK K)); refine hK _ ?_; clear hK K) | (refine w1 ?_; simp only [xs, xi, Nat.reduceEqDiff, reduceCtorEq]) | (refine wC (fun hb => ?_) fun hb => ?_ <;> (try simp only [xb, reduceCtorEq] at hb)) | (refine w2 (fun hc => ?_) (fun hc => ?_) <;> (try simp only [xc] at hc) <;> (try simp only [go_sem, hc]) <;> (try simp only [xb] at hc)) | refine wI ?_ | refine ex_idx (by omega) ?_ | fail)
    rw [e1, e2]
    (rw [Try.results38]; refine ⟨_, _, rfl, by decide, rfl, rfl, ?_, ?_⟩ <;> simp [upd_at])

end Go.Proofs.Ytljoonlcpiagjaa
