/- The program's AutoTrim, walked by the engine. -/
import Derived.Test.YtljoonlcpiagjaaK2
import Derived.Test.YtljoonlcpiagjaaEngMin
namespace Go.Proofs.Ytljoonlcpiagjaa
set_option linter.unusedSimpArgs false
set_option linter.unusedVariables false
set_option maxRecDepth 8000
set_option maxHeartbeats 2000000
open Go Go.RowKit AV

def kA (L : List Nat) : List AV := L.map fun s : Nat => I (s : Int)
def vA (n : Nat) : List AV := (List.range n).map fun i : Nat => I (i : Int)
theorem vA_succ (n : Nat) : vA (n + 1) = vA n ++ [I (n : Int)] := by simp [vA, List.range_succ]
theorem kA_snoc (L : List Nat) (k : Nat) : kA (L ++ [k]) = kA L ++ [I (k : Int)] := by simp [kA]
theorem kA_len (L : List Nat) : (kA L).length = L.length := by simp [kA]
theorem kA_mem {L : List Nat} {k : Nat} : I (k : Int) ∈ kA L ↔ k ∈ L := by
  unfold kA
  rw [List.mem_map]
  constructor
  · rintro ⟨s, hs, h⟩
    simp at h
    have h' : s = k := by omega
    rwa [← h']
  · exact fun h => ⟨k, h, rfl⟩
theorem kA_ok {L : List Nat} (h : ∀ s ∈ L, s < 1048576) : ∀ Y ∈ kA L, kOK 1 Y := by
  intro Y hY
  obtain ⟨s, hs, rfl⟩ := List.mem_map.1 hY
  have := h s hs
  show in64 (s : Int)
  unfold in64
  omega
def rowT (D : AutoD) (L : List Nat) (k m : Nat) : List Int := ((List.range m).map fun m => ((keepN (nextN D k m) L : Nat) : Int)) ++ List.replicate (12 - m) 0
def rowS (D : AutoD) (L : List Nat) (k m : Nat) (seen : List Nat) : List Int := ((List.range m).map fun m => ((keepN (nextN D k m) L : Nat) : Int)) ++ ((seenN (nextN D k m) L seen : Nat) : Int) :: List.replicate (11 - m) 0
theorem rowS_nil {D : AutoD} {L : List Nat} {k m : Nat} (h : m < 12) : rowS D L k m [] = rowT D L k m := by
  rw [rowS, rowT, show 12 - m = (11 - m) + 1 by omega, List.replicate_succ]; rfl
theorem rowS_all {D : AutoD} {L : List Nat} {k m : Nat} {seen : List Nat} (h1 : ∀ j ∈ seen, j < L.length) (h2 : ∀ j, j < L.length → j ∈ seen) : rowS D L k m seen = rowT D L k (m + 1) := by
  rw [rowS, rowT, seenN_all h1 h2, List.range_succ, show 12 - (m + 1) = 11 - m by omega, List.map_append, List.append_assoc]; rfl
theorem rowS_len {D : AutoD} {L : List Nat} {k m : Nat} {seen : List Nat} (h : m < 12) : (rowS D L k m seen).length = 12 := by simp [rowS]; omega
theorem rowS_get {D : AutoD} {L : List Nat} {k m : Nat} {seen : List Nat} (h : m < (rowS D L k m seen).length) : (rowS D L k m seen)[m] = ((seenN (nextN D k m) L seen : Nat) : Int) := by
  simp only [rowS]
  rw [List.getElem_append_right (by simp)]
  simp
theorem rowS_yes {D : AutoD} {L : List Nat} {k m j : Nat} {seen : List Nat} (h : (nextN D k m).testBit (L.getD j 0) = true) : rowS D L k m (seen ++ [j]) = (rowS D L k m seen).set m (((seenN (nextN D k m) L seen ||| 2 ^ j : Nat) : Nat) : Int) := by
  have h1 : ((List.range m).map fun m => ((keepN (nextN D k m) L : Nat) : Int)).length = m := by simp
  rw [rowS, rowS, seenN_snoc, if_pos h, List.set_append_right _ _ (by omega), h1, Nat.sub_self, List.set_cons_zero]
theorem rowS_no {D : AutoD} {L : List Nat} {k m j : Nat} {seen : List Nat} (h : ¬ (nextN D k m).testBit (L.getD j 0) = true) : rowS D L k m (seen ++ [j]) = rowS D L k m seen := by
  rw [rowS, rowS, seenN_snoc, if_neg h]

theorem upd_new {P : Program} {K n : Nat} {ks vs : List AV} {X V : AV} (hk : kkT P K = n) (hn : n ≠ 0) (hX : kOK n X) (hks : ∀ Y ∈ ks, kOK n Y) (hV : isP V = true) (hVj : V ≠ .junk) (hnot : X ∉ ks) : UpdOK P K ks vs X V (ks ++ [X]) (vs ++ [V]) := by
  subst hk
  exact ⟨hn, hX, hks, hV, hVj, .inr ⟨hnot, rfl, rfl⟩⟩

set_option maxHeartbeats 4000000 in
theorem implAutoTrim_ctr : CtrOK Try.prog 16 (pureC autoTrimR) := by
  refine ctr_pure' Try.func16 rfl rfl Try.ntmps16 ?_
  rintro _ _ ⟨E, N, rfl, hX, rfl⟩
  refine ⟨by simp, fun κ hκ => ?_⟩
  have hbig := bigW_gt
  rw [argEnv_eq]
  simp only [envA]
  have hΓ := ctxOf_ok (P := Try.prog) (cx implAutoValid_ctr <| cx reach_ctr <| cx live_ctr <| cx0)
  have hX' := smallE_valid hX
  have hn := hX'.1
  repeat' (first | refine wS fun K hK => ?_ | refine wB ?_ | ((first | refine wR hΓ ?_ | refine wD hΓ fun B hB => ?_); simp (config := { maxSteps := 2000000 }) only [go_sem]) | ((repeat ((fail_if_success (refine hK _ ?_)); clear hK K)); refine hK _ ?_; clear hK K) | (refine w1 ?_; simp only [xs, xi, Nat.reduceEqDiff, reduceCtorEq]) | (refine wC (fun hb => ?_) fun hb => ?_ <;> (try simp only [xb, reduceCtorEq] at hb)) | (refine w2 (fun hc => ?_) (fun hc => ?_) <;> (try simp only [xc] at hc) <;> (try simp only [go_sem, hc]) <;> (try simp only [xb] at hc)) | refine wI ?_ | refine ex_idx (by omega) ?_ | fail)
  (first | refine wA rfl _ (⟨_, _, rfl, hX'.1, hX'.2.1, hX'.2.2, rfl⟩) ?_ | refine dA rfl _ (⟨_, _, rfl, hX'.1, hX'.2.1, hX'.2.2, rfl⟩) ?_); simp (config := { maxSteps := 2000000 }) only [go_sem]
  repeat' (first | refine wS fun K hK => ?_ | refine wB ?_ | ((first | refine wR hΓ ?_ | refine wD hΓ fun B hB => ?_); simp (config := { maxSteps := 2000000 }) only [go_sem]) | ((repeat ((fail_if_success (refine hK _ ?_)); clear hK K)); refine hK _ ?_; clear hK K) | (refine w1 ?_; simp only [xs, xi, Nat.reduceEqDiff, reduceCtorEq]) | (refine wC (fun hb => ?_) fun hb => ?_ <;> (try simp only [xb, reduceCtorEq] at hb)) | (refine w2 (fun hc => ?_) (fun hc => ?_) <;> (try simp only [xc] at hc) <;> (try simp only [go_sem, hc]) <;> (try simp only [xb] at hc)) | refine wI ?_ | refine ex_idx (by omega) ?_ | fail)
  · have hc := ‹autoOKB ⟨E, N⟩ = false›
    rw [trimD_no (autoOKB_false.1 hc)]
    (rw [Try.results16]; exact retOK_box Ty_aggT_26 Ty_szT_26 (by simp [upd_at]))
  have hOX : AutoOK ⟨E, N⟩ := autoOKB_true.1 ‹autoOKB ⟨E, N⟩ = true›
  have hX1 : 1 ≤ E.length := hOX.lo
  have hX2 : E.length ≤ 10 := hOX.hi
  have hlen : N.length = E.length := hOX.len
  have hp10 : 2 ^ E.length ≤ 2 ^ 10 := Nat.pow_le_pow_right (by omega) hX2
  have hrl : reachF ⟨E, N⟩ < 2 ^ E.length := reachF_lt hOX
  have hll : liveF ⟨E, N⟩ < 2 ^ E.length := liveF_lt ⟨E, N⟩
  have hkl : keepOf ⟨E, N⟩ < 2 ^ E.length := keepOf_lt hOX
  have hal : reachF ⟨E, N⟩ &&& liveF ⟨E, N⟩ ≤ reachF ⟨E, N⟩ := Nat.and_le_left
  (first | refine wA rfl _ (⟨⟨E, N⟩, rfl, hOX, rfl⟩) ?_ | refine dA rfl _ (⟨⟨E, N⟩, rfl, hOX, rfl⟩) ?_); simp (config := { maxSteps := 2000000 }) only [go_sem]
  repeat' (first | refine wS fun K hK => ?_ | refine wB ?_ | ((first | refine wR hΓ ?_ | refine wD hΓ fun B hB => ?_); simp (config := { maxSteps := 2000000 }) only [go_sem]) | ((repeat ((fail_if_success (refine hK _ ?_)); clear hK K)); refine hK _ ?_; clear hK K) | (refine w1 ?_; simp only [xs, xi, Nat.reduceEqDiff, reduceCtorEq]) | (refine wC (fun hb => ?_) fun hb => ?_ <;> (try simp only [xb, reduceCtorEq] at hb)) | (refine w2 (fun hc => ?_) (fun hc => ?_) <;> (try simp only [xc] at hc) <;> (try simp only [go_sem, hc]) <;> (try simp only [xb] at hc)) | refine wI ?_ | refine ex_idx (by omega) ?_ | fail)
  (first | refine wA rfl _ (⟨⟨E, N⟩, rfl, hOX, rfl⟩) ?_ | refine dA rfl _ (⟨⟨E, N⟩, rfl, hOX, rfl⟩) ?_); simp (config := { maxSteps := 2000000 }) only [go_sem]
  repeat' (first | refine wS fun K hK => ?_ | refine wB ?_ | ((first | refine wR hΓ ?_ | refine wD hΓ fun B hB => ?_); simp (config := { maxSteps := 2000000 }) only [go_sem]) | ((repeat ((fail_if_success (refine hK _ ?_)); clear hK K)); refine hK _ ?_; clear hK K) | (refine w1 ?_; simp only [xs, xi, Nat.reduceEqDiff, reduceCtorEq]) | (refine wC (fun hb => ?_) fun hb => ?_ <;> (try simp only [xb, reduceCtorEq] at hb)) | (refine w2 (fun hc => ?_) (fun hc => ?_) <;> (try simp only [xc] at hc) <;> (try simp only [go_sem, hc]) <;> (try simp only [xb] at hc)) | refine wI ?_ | refine ex_idx (by omega) ?_ | fail)
  have hko : ((reachF ⟨E, N⟩ &&& liveF ⟨E, N⟩) ||| 1) = keepOf ⟨E, N⟩ := Nat.or_comm _ _
  simp only [hko]
  generalize hKP : keepOf ⟨E, N⟩ = kp at *
  refine CW.loop (ι := Nat) (fun k => [(1, box [ints E, rows N]), (2, box [own [], own []]), (3, I kp), (4, omap (kA (ktL kp k)) (vA (ktL kp k).length)), (26, I E.length), (27, I k)]) (fun k => k ≤ E.length) (fun k => E.length - k) 0 ?_ ?_
  · exact ⟨by ((simp only [xe, xj, Nat.reduceEqDiff]; (try simp [view, viewL_map]); (try omega)); simp [ktL_zero, kA, vA]), by omega⟩
  rintro k hk
  simp only [envOf]
  have hln := ktL_len kp k
  have hks : ∀ Y ∈ kA (ktL kp k), kOK 1 Y := kA_ok fun s hs => by have := (ktL_mem.1 hs).1; omega
  have hkl' := kA_len (ktL kp k)
  have h0 := Nat.div_le_self kp (2 ^ k)
  repeat' (first | refine wS fun K hK => ?_ | refine wB ?_ | ((first | refine wR hΓ ?_ | refine wD hΓ fun B hB => ?_); simp (config := { maxSteps := 2000000 }) only [go_sem, shr_nat, bitN_one]) | ((repeat ((fail_if_success (refine hK _ ?_)); clear hK K)); refine hK _ ?_; clear hK K) | (refine w1 ?_; simp only [xs, xi, Nat.reduceEqDiff, reduceCtorEq]) | (refine wC (fun hb => ?_) fun hb => ?_ <;> (try simp only [xb, reduceCtorEq] at hb)) | (refine w2 (fun hc => ?_) (fun hc => ?_) <;> (try simp only [xc] at hc) <;> (try simp only [go_sem, hc, shr_nat, bitN_one]) <;> (try simp only [xb] at hc)) | refine wI ?_ | refine ex_idx (by omega) ?_ | fail)
  · have hbt : kp.testBit k = true := by
      cases h : kp.testBit k with
      | true => rfl
      | false => have := bitN_f h; omega
    have hnm : I (k : Int) ∉ kA (ktL kp k) := fun h => by have := (ktL_mem.1 (kA_mem.1 h)).1; omega
    refine ⟨_, _, upd_new Ty_kkT_3 (by decide) (by show in64 _; unfold in64; omega) hks rfl (by simp) hnm, ?_⟩
    repeat' (first | refine wS fun K hK => ?_ | refine wB ?_ | ((first | refine wR hΓ ?_ | refine wD hΓ fun B hB => ?_); simp (config := { maxSteps := 2000000 }) only [go_sem]) | ((repeat ((fail_if_success (refine hK _ ?_)); clear hK K)); refine hK _ ?_; clear hK K) | (refine w1 ?_; simp only [xs, xi, Nat.reduceEqDiff, reduceCtorEq]) | (refine wC (fun hb => ?_) fun hb => ?_ <;> (try simp only [xb, reduceCtorEq] at hb)) | (refine w2 (fun hc => ?_) (fun hc => ?_) <;> (try simp only [xc] at hc) <;> (try simp only [go_sem, hc]) <;> (try simp only [xb] at hc)) | refine wI ?_ | refine ex_idx (by omega) ?_ | fail)
    refine ⟨k + 1, ?_, by omega, by omega⟩
    rw [ktL_yes hbt, kA_snoc, List.length_append, List.length_singleton, vA_succ]
    (simp only [xe, xj, Nat.reduceEqDiff]; (try simp [view, viewL_map]); (try omega))
    try simp [kA_len]
  · have hbt : kp.testBit k = false := by
      cases h : kp.testBit k with
      | false => rfl
      | true => have := bitN_t h; omega
    refine ⟨k + 1, ?_, by omega, by omega⟩
    rw [ktL_no hbt]
    (simp only [xe, xj, Nat.reduceEqDiff]; (try simp [view, viewL_map]); (try omega))
  have hke : k = E.length := by omega
  subst hke
  clear h0
  have hLm : ∀ s ∈ ktL kp E.length, s < E.length := fun s hs => (ktL_mem.1 hs).1
  have hlen10 : (ktL kp E.length).length ≤ 10 := by omega
  have hzero : trimTo ⟨E, N⟩ (ktL kp 0) = ⟨[], []⟩ := trimTo_nil _
  generalize hLL : ktL kp E.length = L at *
  refine CW.frz 4 [] (omap (kA L) (vA L.length)) (by simp [upd_at, getP]) rfl ?_
  refine CW.loop (ι := Nat) (fun k => [(1, box [ints E, rows N]), (2, box [own [], own []]), (3, I kp), (4, pmap (kA L) (vA L.length)), (6, box [oints (trimTo ⟨E, N⟩ (ktL kp k)).ends, oorows (trimTo ⟨E, N⟩ (ktL kp k)).next]), (42, I E.length), (43, I k)]) (fun k => k ≤ E.length) (fun k => E.length - k) 0 ?_ ?_
  · refine ⟨?_, by omega⟩
    rw [hzero]
    simp [LeL, Wr.app, upd_at, isOwn, view, viewL_map, setP, kids, withKids]
  rintro k hk
  simp only [envOf]
  have hln := ktL_len kp k
  have hel : (trimTo ⟨E, N⟩ (ktL kp k)).ends.length = (ktL kp k).length := by simp [trimTo]
  have hnl : (trimTo ⟨E, N⟩ (ktL kp k)).next.length = (ktL kp k).length := by simp [trimTo]
  have h0 := Nat.div_le_self kp (2 ^ k)
  repeat' (first | refine wS fun K hK => ?_ | refine wB ?_ | ((first | refine wR hΓ ?_ | refine wD hΓ fun B hB => ?_); simp (config := { maxSteps := 2000000 }) only [go_sem, shr_nat, bitN_one]) | ((repeat ((fail_if_success (refine hK _ ?_)); clear hK K)); refine hK _ ?_; clear hK K) | (refine w1 ?_; simp only [xs, xi, Nat.reduceEqDiff, reduceCtorEq]) | (refine wC (fun hb => ?_) fun hb => ?_ <;> (try simp only [xb, reduceCtorEq] at hb)) | (refine w2 (fun hc => ?_) (fun hc => ?_) <;> (try simp only [xc] at hc) <;> (try simp only [go_sem, hc, shr_nat, bitN_one]) <;> (try simp only [xb] at hc)) | refine wI ?_ | refine ex_idx (by omega) ?_ | fail)
  · have hbt : kp.testBit k = false := by
      cases h : kp.testBit k with
      | false => rfl
      | true => have := bitN_t h; omega
    refine ⟨k + 1, ?_, by omega, by omega⟩
    rw [ktL_no hbt]
    (simp only [xe, xj, Nat.reduceEqDiff]; (try simp [view, viewL_map]); (try omega))
  rotate_left
  · have hke : k = E.length := by omega
    subst hke
    rw [trimD_yes hOX, hKP, hLL]
    (rw [Try.results16]; exact retOK_box Ty_aggT_26 Ty_szT_26 (by simp [upd_at]))
  have hkE : k < E.length := by omega
  have hkN : k < N.length := by omega
  have hrl2 : N[k].length = 12 := k_row_len hOX hkN
  have hbt : kp.testBit k = true := by
    cases h : kp.testBit k with
    | true => rfl
    | false => have := bitN_f h; omega
  have hnE : nth E k = E[k] := nth_getElem hkE
  have hey : (trimTo ⟨E, N⟩ (ktL kp k ++ [k])).ends = (trimTo ⟨E, N⟩ (ktL kp k)).ends ++ [E[k]] := by rw [trimTo_ends_yes]; simp [hnE]
  have hny := trimTo_next_yes (D := ⟨E, N⟩) (L := ktL kp k) k
  have hr0 : rowT ⟨E, N⟩ L k 0 = List.replicate 12 0 := by simp [rowT]
  have hr12 : rowT ⟨E, N⟩ L k 12 = (List.range 12).map fun m => ((keepN (nextN ⟨E, N⟩ k m) L : Nat) : Int) := by simp [rowT]
  refine CW.loop (ι := Nat) (fun m => [(1, box [ints E, rows N]), (2, box [own [], own []]), (3, I kp), (4, pmap (kA L) (vA L.length)), (6, box [oints (trimTo ⟨E, N⟩ (ktL kp k)).ends, oorows (trimTo ⟨E, N⟩ (ktL kp k)).next]), (42, I E.length), (43, I k), (7, I k), (8, oints (rowT ⟨E, N⟩ L k m)), (56, ints N[k]), (57, I N[k].length), (58, I m)]) (fun m => m ≤ 12) (fun m => 12 - m) 0 ?_ ?_
  · refine ⟨?_, by omega⟩
    rw [hr0]
    (simp only [xe, xj, Nat.reduceEqDiff]; (try simp [view, viewL_map]); (try omega))
    try simp
  rintro m hm
  simp only [envOf]
  repeat' (first | refine wS fun K hK => ?_ | refine wB ?_ | ((first | refine wR hΓ ?_ | refine wD hΓ fun B hB => ?_); simp (config := { maxSteps := 2000000 }) only [go_sem]) | ((repeat ((fail_if_success (refine hK _ ?_)); clear hK K)); refine hK _ ?_; clear hK K) | (refine w1 ?_; simp only [xs, xi, Nat.reduceEqDiff, reduceCtorEq]) | (refine wC (fun hb => ?_) fun hb => ?_ <;> (try simp only [xb, reduceCtorEq] at hb)) | (refine w2 (fun hc => ?_) (fun hc => ?_) <;> (try simp only [xc] at hc) <;> (try simp only [go_sem, hc]) <;> (try simp only [xb] at hc)) | refine wI ?_ | refine ex_idx (by omega) ?_ | fail)
  rotate_left
  · have hm12 : m = 12 := by omega
    subst hm12
    refine ⟨k + 1, ?_, by omega, by omega⟩
    rw [ktL_yes hbt, hey, hny, hKP, hLL, hr12]
    (simp only [xe, xj, Nat.reduceEqDiff]; (try simp [view, viewL_map]); (try omega))
    try simp
  have hm2 : m < 12 := by omega
  have hA := k_next_lt hOX hkN (show m < N[k].length by omega)
  rw [k_next_cast hOX hkN (show m < N[k].length by omega)]
  have hset : nextN ⟨E, N⟩ k m < 1024 := by omega
  have hrS := fun seen => rowS_len (D := ⟨E, N⟩) (L := L) (k := k) (m := m) (seen := seen) hm2
  have hgS := fun seen => rowS_get (D := ⟨E, N⟩) (L := L) (k := k) (m := m) (seen := seen)
  have hyS := fun j seen => rowS_yes (D := ⟨E, N⟩) (L := L) (k := k) (m := m) (j := j) (seen := seen)
  have hnS := fun j seen => rowS_no (D := ⟨E, N⟩) (L := L) (k := k) (m := m) (j := j) (seen := seen)
  have hS0 := rowS_nil (D := ⟨E, N⟩) (L := L) (k := k) hm2
  have hSall := fun seen => rowS_all (D := ⟨E, N⟩) (L := L) (k := k) (m := m) (seen := seen)
  generalize hst : nextN ⟨E, N⟩ k m = set at *
  rw [← hS0]
  generalize hRS : rowS ⟨E, N⟩ L k m = RS at *
  refine CW.loop (ι := List Nat) (fun seen => [(1, box [ints E, rows N]), (2, box [own [], own []]), (3, I kp), (4, pmap (kA L) (vA L.length)), (6, box [oints (trimTo ⟨E, N⟩ (ktL kp k)).ends, oorows (trimTo ⟨E, N⟩ (ktL kp k)).next]), (42, I E.length), (43, I k), (7, I k), (8, oints (RS seen)), (9, I m), (10, I set), (56, ints N[k]), (57, I N[k].length), (58, I m), (64, oiter (kA L) (vA L.length) seen)]) (fun seen => seen.Nodup ∧ ∀ j ∈ seen, j < L.length) (fun seen => L.length - seen.length) [] ?_ ?_
  · exact ⟨by (simp only [xe, xj, Nat.reduceEqDiff]; (try simp [view, viewL_map]); (try omega)), by simp⟩
  rintro seen ⟨hnd, hsl⟩
  simp only [envOf]
  refine CW.seqK fun K hK => ?_
  refine CW.nextReg hΓ (d := 65) (t := 64) rfl rfl rfl [] (by rw [hκ]; rfl) (by simp only [upd_at, if_true, if_false, Nat.reduceEqDiff]; rfl) (by decide) (fun hall => ?_) (fun j hj hv hjs => ?_)
  · simp (config := { maxSteps := 2000000 }) only [go_sem]
    repeat' (first | refine wS fun K hK => ?_ | refine wB ?_ | ((first | refine wR hΓ ?_ | refine wD hΓ fun B hB => ?_); simp (config := { maxSteps := 2000000 }) only [go_sem]) | ((repeat ((fail_if_success (refine hK _ ?_)); clear hK K)); refine hK _ ?_; clear hK K) | (refine w1 ?_; simp only [xs, xi, Nat.reduceEqDiff, reduceCtorEq]) | (refine wC (fun hb => ?_) fun hb => ?_ <;> (try simp only [xb, reduceCtorEq] at hb)) | (refine w2 (fun hc => ?_) (fun hc => ?_) <;> (try simp only [xc] at hc) <;> (try simp only [go_sem, hc]) <;> (try simp only [xb] at hc)) | refine wI ?_ | refine ex_idx (by omega) ?_ | fail)
    refine ⟨m + 1, ?_, by omega, by omega⟩
    rw [← hSall seen hsl fun j hj => hall j (by rw [kA_len]; exact hj)]
    (simp only [xe, xj, Nat.reduceEqDiff]; (try simp [view, viewL_map]); (try omega))
  · have hjL : j < L.length := by rw [kA_len] at hj; exact hj
    have hkj : (kA L)[j] = I ((L[j] : Nat) : Int) := by simp [kA]
    have hvj : (vA L.length)[j] = I (j : Int) := by simp [vA]
    have hgd : L.getD j 0 = L[j] := by simp [List.getD, hjL]
    have hLj := hLm _ (List.getElem_mem hjL)
    have h0j := Nat.div_le_self set (2 ^ L[j])
    have hlast : (seen ++ [j]).getLast? = some j := by simp
    have hkj' : (kA L)[j]? = some (I ((L[j] : Nat) : Int)) := by rw [List.getElem?_eq_getElem hj, hkj]
    have hvj' : (vA L.length)[j]? = some (I (j : Int)) := by rw [List.getElem?_eq_getElem hv, hvj]
    have hjn : seen.length < L.length := by
      have hnd2 : (seen ++ [j]).Nodup := by rw [List.nodup_append]; exact ⟨hnd, by simp, fun a ha b hb => by simp at hb; subst hb; exact fun e => hjs (e ▸ ha)⟩
      have := nodup_len (l := seen ++ [j]) (m := List.range L.length) hnd2 fun x hx => by
        rw [List.mem_range]
        rcases List.mem_append.1 hx with h | h
        · exact hsl x h
        · simp at h; omega
      simp at this; omega
    have hnd2 : (seen ++ [j]).Nodup := by rw [List.nodup_append]; exact ⟨hnd, by simp, fun a ha b hb => by simp at hb; subst hb; exact fun e => hjs (e ▸ ha)⟩
    have hsl2 : ∀ x ∈ seen ++ [j], x < L.length := fun x hx => by
      rcases List.mem_append.1 hx with h | h
      · exact hsl x h
      · simp at h; omega
    have hsn := seenN_lt (set := set) hsl
    have hp2 : 2 ^ L.length ≤ 2 ^ 10 := Nat.pow_le_pow_right (by omega) hlen10
    have hpj : 2 ^ j < 2 ^ L.length := Nat.pow_lt_pow_right (by omega) hjL
    have hgSs := hgS seen
    have hrSs := hrS seen
    obtain ⟨q, hq⟩ : ∃ q : Nat, q = 2 ^ j := ⟨_, rfl⟩
    have e5 : (1 : Int) * 2 ^ j = (q : Int) := by rw [hq]; simp
    rw [← hq] at hpj
    simp only [hkj, hvj]
    simp (config := { maxSteps := 2000000 }) only [go_sem]
    repeat' (first | refine wS fun K hK => ?_ | refine wB ?_ | ((first | refine wR hΓ ?_ | refine wD hΓ fun B hB => ?_); simp (config := { maxSteps := 2000000 }) only [go_sem]) | ((repeat ((fail_if_success (refine hK _ ?_)); clear hK K)); refine hK _ ?_; clear hK K) | (refine w1 ?_; simp only [xs, xi, Nat.reduceEqDiff, reduceCtorEq]) | (refine wC (fun hb => ?_) fun hb => ?_ <;> (try simp only [xb, reduceCtorEq] at hb)) | (refine w2 (fun hc => ?_) (fun hc => ?_) <;> (try simp only [xc] at hc) <;> (try simp only [go_sem, hc]) <;> (try simp only [xb] at hc)) | refine wI ?_ | refine ex_idx (by omega) ?_ | fail)
    refine ⟨j, _, _, ⟨hlast, hkj', hvj'⟩, ?_⟩
    simp (config := { maxSteps := 2000000 }) only [go_sem]
    repeat' (first | refine wS fun K hK => ?_ | refine wB ?_ | ((first | refine wR hΓ ?_ | refine wD hΓ fun B hB => ?_); simp (config := { maxSteps := 2000000 }) only [go_sem, shr_nat, bitN_one]) | ((repeat ((fail_if_success (refine hK _ ?_)); clear hK K)); refine hK _ ?_; clear hK K) | (refine w1 ?_; simp only [xs, xi, Nat.reduceEqDiff, reduceCtorEq]) | (refine wC (fun hb => ?_) fun hb => ?_ <;> (try simp only [xb, reduceCtorEq] at hb)) | (refine w2 (fun hc => ?_) (fun hc => ?_) <;> (try simp only [xc] at hc) <;> (try simp only [go_sem, hc, shr_nat, bitN_one]) <;> (try simp only [xb] at hc)) | refine wI ?_ | refine ex_idx (by omega) ?_ | fail)
    · have hbt : set.testBit L[j] = true := by
        cases h : set.testBit L[j] with
        | true => rfl
        | false => have := bitN_f h; omega
      rw [hgSs]
      simp only [e5, Int.toNat_natCast]
      repeat' (first | refine wS fun K hK => ?_ | refine wB ?_ | ((first | refine wR hΓ ?_ | refine wD hΓ fun B hB => ?_); simp (config := { maxSteps := 2000000 }) only [go_sem]) | ((repeat ((fail_if_success (refine hK _ ?_)); clear hK K)); refine hK _ ?_; clear hK K) | (refine w1 ?_; simp only [xs, xi, Nat.reduceEqDiff, reduceCtorEq]) | (refine wC (fun hb => ?_) fun hb => ?_ <;> (try simp only [xb, reduceCtorEq] at hb)) | (refine w2 (fun hc => ?_) (fun hc => ?_) <;> (try simp only [xc] at hc) <;> (try simp only [go_sem, hc]) <;> (try simp only [xb] at hc)) | refine wI ?_ | refine ex_idx (by omega) ?_ | fail)
      simp only [inBlockA_normal, thenA_normal]
      refine ⟨seen ++ [j], ?_, ⟨hnd2, hsl2⟩, by simp; omega⟩
      rw [hyS j seen (by rw [hgd]; exact hbt), ← hq]
      simp only [LeL, envOf, upd_at, if_true, if_false, Nat.reduceEqDiff, true_or, and_true, true_and, and_self, Int.toNat_natCast, List.map_set]
      exact .inl (by simp [oints, List.map_set])
    · have hbt : ¬ set.testBit L[j] = true := fun h => by have := bitN_t h; omega
      refine ⟨seen ++ [j], ?_, ⟨hnd2, hsl2⟩, by simp; omega⟩
      rw [hnS j seen (by rw [hgd]; exact hbt)]
      (simp only [xe, xj, Nat.reduceEqDiff]; (try simp [view, viewL_map]); (try omega))

end Go.Proofs.Ytljoonlcpiagjaa
