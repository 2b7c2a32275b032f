/- WeakTest of the program, walked by the engine. -/
import Derived.Test.YtmhiipmajlmlgaaGreatW1
import Derived.Test.YtmhiipmajlmlgaaGreatG4
import Derived.Test.YtmhiipmajlmlgaaGreatGrpN
import Derived.Test.YtmhiipmajlmlgaaGreatEngMin
namespace Go.Proofs.YtmhiipmajlmlgaaGreat
set_option linter.unusedSimpArgs false
set_option linter.unusedVariables false
set_option maxRecDepth 8000
set_option maxHeartbeats 2000000
open Go Go.RowKit AV

def kW (P : List (Nat × Nat)) : List AV := P.map fun p => agg [I (p.1 : Int), I (p.2 : Int)]
def tW (n : Nat) : List AV := List.replicate n (.bool true)
theorem kW_len (P : List (Nat × Nat)) : (kW P).length = P.length := by simp [kW]
theorem kW_snoc (P : List (Nat × Nat)) (s a : Nat) : kW (P ++ [(s, a)]) = kW P ++ [agg [I (s : Int), I (a : Int)]] := by simp [kW]
theorem tW_succ (n : Nat) : tW (n + 1) = tW n ++ [.bool true] := by simp [tW, List.replicate_succ']
theorem kW_mem {P : List (Nat × Nat)} {s a : Nat} : agg [I (s : Int), I (a : Int)] ∈ kW P ↔ (s, a) ∈ P := by
  unfold kW
  rw [List.mem_map]
  constructor
  · rintro ⟨p, hp, h⟩
    simp at h
    have h1 : p.1 = s := by omega
    have h2 : p.2 = a := by omega
    rw [← h1, ← h2]; exact hp
  · exact fun h => ⟨_, h, rfl⟩
theorem allM_kW (P : List (Nat × Nat)) : allM (kW P) = true := (allM_iff _).2 fun a ha => by obtain ⟨p, _, rfl⟩ := List.mem_map.1 ha; rfl
theorem allM_tW (n : Nat) : allM (tW n) = true := (allM_iff _).2 fun a ha => by rw [List.eq_of_mem_replicate ha]; rfl
theorem noMap_oints (l : List Int) : noMap (oints l) = true := (allM_iff _).2 fun a ha => by obtain ⟨x, _, rfl⟩ := List.mem_map.1 ha; rfl
theorem noMap_oorows (l : List (List Int)) : noMap (oorows l) = true := (allM_iff _).2 fun a ha => by obtain ⟨x, _, rfl⟩ := List.mem_map.1 ha; exact noMap_oints x
theorem noMap_box2 (E : List Int) (N : List (List Int)) : noMap (box [oints E, oorows N]) = true := by
  show (noMap (oints E) && (noMap (oorows N) && true)) = true
  rw [noMap_oints, noMap_oorows]; rfl
def smallP (P : List (Nat × Nat)) : Prop := ∀ p ∈ P, p.1 < 1048576 ∧ p.2 < 1048576
theorem kW_ok {P : List (Nat × Nat)} (h : smallP P) : ∀ Y ∈ kW P, kOK 2 Y := by
  intro Y hY
  obtain ⟨p, hp, rfl⟩ := List.mem_map.1 hY
  have := h p hp
  show in64 _ ∧ in64 _
  unfold in64
  omega
theorem look_W {P : List (Nat × Nat)} {s a : Nat} (h : smallP P) (hs : s < 1048576) (ha : a < 1048576) : LookOK Tryz.prog 70 4 (kW P) (tW P.length) (agg [I (s : Int), I (a : Int)]) (.bool (decide ((s, a) ∈ P))) := by
  unfold LookOK
  rw [Ty_kkT_70]
  refine ⟨by decide, by show in64 _ ∧ in64 _; unfold in64; omega, kW_ok h, rfl, by simp, fun i hi => ?_, fun hn => ?_⟩
  · have hm : (s, a) ∈ P := kW_mem.1 (List.mem_of_getElem? hi)
    have hil : i < P.length := by have := (List.getElem?_eq_some_iff.1 hi).1; rwa [kW_len] at this
    simp [tW, hil, hm]
  · have hm : (s, a) ∉ P := fun h => hn (kW_mem.2 h)
    rw [Ty_zOf_4]
    simp [hm]
theorem upd_W {P : List (Nat × Nat)} {s a : Nat} (h : smallP P) (hs : s < 1048576) (ha : a < 1048576) (hn : (s, a) ∉ P) : UpdOK Tryz.prog 70 (kW P) (tW P.length) (agg [I (s : Int), I (a : Int)]) (.bool true) (kW (P ++ [(s, a)])) (tW (P ++ [(s, a)]).length) := by
  unfold UpdOK
  rw [Ty_kkT_70]
  refine ⟨by decide, by show in64 _ ∧ in64 _; unfold in64; omega, kW_ok h, rfl, by simp, .inr ⟨fun h => hn (kW_mem.1 h), kW_snoc _ _ _, ?_⟩⟩
  rw [List.length_append, List.length_singleton, tW_succ]

set_option maxHeartbeats 4000000 in
theorem implWeakTest_ctr : CtrOK Tryz.prog 20 (pureC weakR) := by
  refine ctr_pure' Tryz.func20 rfl rfl Tryz.ntmps20 ?_
  rintro _ _ ⟨e, test, rfl, hel, rfl⟩
  refine ⟨by simp, fun κ hκ => ?_⟩
  have hbig := bigW_gt
  rw [argEnv_eq]
  simp only [envA]
  have hΓ := ctxOf_ok (P := Tryz.prog) (cx implAutoOf_ctr <| cx implTestValid_ctr <| cx holds_ctr <| cx move_ctr <| cx0)
  have hbd := autD_bd e
  have hokD := fun h => autD_okB (e := e) h
  obtain ⟨⟨E, N⟩, hD⟩ : ∃ D, autD e = D := ⟨_, rfl⟩
  rw [hD] at hbd hokD ⊢
  dsimp only at hbd hokD
  repeat' (first | exact hb.elim | refine wS fun K hK => ?_ | refine wB ?_ | refine uR hΓ ?_ | refine uD hΓ fun B hB => ?_ | ((repeat ((fail_if_success (refine hK _ ?_)); clear hK K)); refine hK _ ?_; clear hK K) | refine u1 ?_ | refine uC (fun hb => ?_) fun hb => ?_ | refine u2 (fun hc => ?_) fun hc => ?_ | refine wI ?_ | refine ex_idx (by omega) ?_ | exact True.intro | fail)
  (first | refine wA rfl ?_ ?_ ?_ | refine dA rfl ?_ ?_ ?_); exact (agg [oints E, oorows N]); exact (⟨e, rfl, hel, by rw [hD]⟩); simp (maxSteps := 2000000) only [go_sem]
  repeat' (first | exact hb.elim | refine wS fun K hK => ?_ | refine wB ?_ | refine uR hΓ ?_ | refine uD hΓ fun B hB => ?_ | ((repeat ((fail_if_success (refine hK _ ?_)); clear hK K)); refine hK _ ?_; clear hK K) | refine u1 ?_ | refine uC (fun hb => ?_) fun hb => ?_ | refine u2 (fun hc => ?_) fun hc => ?_ | refine wI ?_ | refine ex_idx (by omega) ?_ | exact True.intro | fail)
  rotate_left
  · rw [weakI_no (.inl (show E.length = 0 by omega))]
    simp [Tryz.results20, RetOK, RetP, backA, upd_at, plainB, getP, isOwn, anyOwn, isP]
  have hok : AutoOK ⟨E, N⟩ := hokD (by omega)
  clear hokD hbd
  by_cases ht : 0 ≤ test ∧ test ≤ 15
  rotate_left
  · (first | refine wA rfl ?_ ?_ ?_ | refine dA rfl ?_ ?_ ?_); exact (.bool false); exact (⟨test, rfl, by rw [decide_eq_false ht]⟩); simp (maxSteps := 2000000) only [go_sem]
    repeat' (first | exact hb.elim | refine wS fun K hK => ?_ | refine wB ?_ | refine uR hΓ ?_ | refine uD hΓ fun B hB => ?_ | ((repeat ((fail_if_success (refine hK _ ?_)); clear hK K)); refine hK _ ?_; clear hK K) | refine u1 ?_ | refine uC (fun hb => ?_) fun hb => ?_ | refine u2 (fun hc => ?_) fun hc => ?_ | refine wI ?_ | refine ex_idx (by omega) ?_ | exact True.intro | fail)
    rw [weakI_no (.inr ht)]
    simp [Tryz.results20, RetOK, RetP, backA, upd_at, plainB, getP, isOwn, anyOwn, isP]
  (first | refine wA rfl ?_ ?_ ?_ | refine dA rfl ?_ ?_ ?_); exact (.bool true); exact (⟨test, rfl, by rw [decide_eq_true ht]⟩); simp (maxSteps := 2000000) only [go_sem]
  have hE1 : 1 ≤ E.length := hok.lo
  have hE2 : E.length ≤ 10 := hok.hi
  have hlen : N.length = E.length := hok.len
  have hwk := weakI_yes (D := ⟨E, N⟩) (test := test) (fun h => by
    rcases h with h | h
    · have : E.length = 0 := h
      omega
    · exact h ht)
  obtain ⟨t, rfl⟩ : ∃ t : Nat, test = (t : Int) := ⟨test.toNat, by omega⟩
  have ht15 : t ≤ 15 := by omega
  clear ht
  simp only [Int.toNat_natCast] at hwk
  repeat' (first | exact hb.elim | refine wS fun K hK => ?_ | refine wB ?_ | refine uR hΓ ?_ | refine uD hΓ fun B hB => ?_ | ((repeat ((fail_if_success (refine hK _ ?_)); clear hK K)); refine hK _ ?_; clear hK K) | refine u1 ?_ | refine uC (fun hb => ?_) fun hb => ?_ | refine u2 (fun hc => ?_) fun hc => ?_ | refine wI ?_ | refine ex_idx (by omega) ?_ | exact True.intro | fail)
  refine CW.loop (ι := List (Nat × Nat) × Bool) (fun x => [(1, I (t : Int)), (5, box [oints E, oorows N]), (6, omap (kW x.1) (tW x.1.length)), (7, .bool x.2)]) (fun x => ForcedP ⟨E, N⟩ t x.1 ∧ x.1.Nodup ∧ (x.2 = false → ClosedP ⟨E, N⟩ t x.1)) (fun x => 2 * (40 - x.1.length) + x.2.toNat) ([], true) ?_ ?_
  · exact ⟨by ((simp only [xe, xj, Nat.reduceEqDiff]; (try simp [view, viewL_map]); (try omega)); exact ⟨rfl, rfl⟩), fun p hp => by simp at hp, by simp, fun h => by cases h⟩
  rintro ⟨P, ch⟩ ⟨hf, hnd, hcl⟩
  dsimp only at hf hnd hcl
  simp only [envOf]
  cases ch with
  | false =>
    have hcl := hcl rfl
    have hsp : smallP P := fun p hp => by
      have := hf p hp
      have h1 : p.1 < E.length := this.1
      omega
    have hpd := fun a ha => pairs_done ht15 hf hcl (s := 0) (a := a) (show 0 < E.length by omega) ha
    have hsl := fun J => sumB_lt (wkB ⟨E, N⟩ t) J
    have hwb : ∀ a, a < 4 → wkB ⟨E, N⟩ t a = !decide ((0, a) ∈ P) := fun a ha => by
      unfold wkB
      congr 1
      rw [Bool.eq_iff_iff, decide_eq_true_eq, badM_iff, hpd a ha]
    generalize hWB : wkB ⟨E, N⟩ t = WB at *
    repeat' (first | exact hb.elim | refine wS fun K hK => ?_ | refine wB ?_ | refine uR hΓ ?_ | refine uD hΓ fun B hB => ?_ | ((repeat ((fail_if_success (refine hK _ ?_)); clear hK K)); refine hK _ ?_; clear hK K) | refine u1 ?_ | refine uC (fun hb => ?_) fun hb => ?_ | refine u2 (fun hc => ?_) fun hc => ?_ | refine wI ?_ | refine ex_idx (by omega) ?_ | exact True.intro | fail)
    refine CW.loop (ι := Nat) (fun a => [(6, omap (kW P) (tW P.length)), (15, I (sumB WB a : Int)), (96, I (a : Int))]) (fun a => a ≤ 4) (fun a => 4 - a) 0 ?_ ?_
    · exact ⟨by ((simp only [xe, xj, Nat.reduceEqDiff]; (try simp [view, viewL_map]); (try omega)); try rfl), by omega⟩
    rintro a ha
    simp only [envOf]
    have hs1 := hsl a
    have hp2 : (2 : Nat) ^ a ≤ 2 ^ 4 := Nat.pow_le_pow_right (by omega) ha
    repeat' (first | exact hb.elim | refine wS fun K hK => ?_ | refine wB ?_ | refine uR hΓ ?_ | refine uD hΓ fun B hB => ?_ | ((repeat ((fail_if_success (refine hK _ ?_)); clear hK K)); refine hK _ ?_; clear hK K) | refine u1 ?_ | refine uC (fun hb => ?_) fun hb => ?_ | refine u2 (fun hc => ?_) fun hc => ?_ | refine wI ?_ | refine ex_idx (by omega) ?_ | exact True.intro | fail)
    · have hwa := hwb a (by omega)
      have hlk := look_W (a := a) (s := 0) hsp (by omega) (by omega)
      generalize hM : decide ((0, a) ∈ P) = M at hwa hlk
      refine ⟨_, hlk, ?_⟩
      cases M with
      | true =>
        have hsu : sumB WB (a + 1) = sumB WB a := by rw [sumB, hwa]; simp
        simp (maxSteps := 2000000) only [go_sem]
        repeat' (first | exact hb.elim | refine wS fun K hK => ?_ | refine wB ?_ | refine uR hΓ ?_ | refine uD hΓ fun B hB => ?_ | ((repeat ((fail_if_success (refine hK _ ?_)); clear hK K)); refine hK _ ?_; clear hK K) | refine u1 ?_ | refine uC (fun hb => ?_) fun hb => ?_ | refine u2 (fun hc => ?_) fun hc => ?_ | refine wI ?_ | refine ex_idx (by omega) ?_ | exact True.intro | fail)
        exact ⟨a + 1, by ((simp only [xe, xj, Nat.reduceEqDiff]; (try simp [view, viewL_map]); (try omega)); try rw [hsu]), by omega, by omega⟩
      | false =>
        have hsu : sumB WB (a + 1) = sumB WB a + 2 ^ a := by rw [sumB, hwa]; simp
        have hsu2 : sumB WB a ||| 2 ^ a = sumB WB (a + 1) := by rw [sumB_or, hwa]; simp
        obtain ⟨q, hq⟩ : ∃ q : Nat, q = 2 ^ a := ⟨_, rfl⟩
        have e5 : (1 : Int) * 2 ^ a = (q : Int) := by rw [hq]; simp
        rw [← hq] at hsu hsu2 hp2 hs1
        simp (maxSteps := 2000000) only [go_sem, e5]
        repeat' (first | refine wS fun K hK => ?_ | refine wB ?_ | ((first | refine wR hΓ ?_ | refine wD hΓ fun B hB => ?_); simp (maxSteps := 2000000) only [go_sem, e5]) | ((repeat ((fail_if_success (refine hK _ ?_)); clear hK K)); refine hK _ ?_; clear hK K) | (refine w1 ?_; simp only [xs, xi, Nat.reduceEqDiff, reduceCtorEq]) | (refine wC (fun hb => ?_) fun hb => ?_ <;> (try simp only [xb, reduceCtorEq] at hb)) | (refine w2 (fun hc => ?_) (fun hc => ?_) <;> (try simp only [xc] at hc) <;> (try simp only [go_sem, hc, e5]) <;> (try simp only [xb] at hc)) | refine wI ?_ | refine ex_idx (by omega) ?_ | fail)
        exact ⟨a + 1, by ((simp only [xe, xj, Nat.reduceEqDiff]; (try simp [view, viewL_map]); (try omega)); try rw [← hsu2]), by omega, by omega⟩
    · have : a = 4 := by omega
      subst this
      rw [hwk]
      simp [Tryz.results20, RetOK, RetP, backA, upd_at, plainB, getP, isOwn, anyOwn, isP]
  | true =>
    clear hcl
    repeat' (first | exact hb.elim | refine wS fun K hK => ?_ | refine wB ?_ | refine uR hΓ ?_ | refine uD hΓ fun B hB => ?_ | ((repeat ((fail_if_success (refine hK _ ?_)); clear hK K)); refine hK _ ?_; clear hK K) | refine u1 ?_ | refine uC (fun hb => ?_) fun hb => ?_ | refine u2 (fun hc => ?_) fun hc => ?_ | refine wI ?_ | refine ex_idx (by omega) ?_ | exact True.intro | fail)
    refine CW.loop (ι := Nat × List (Nat × Nat) × Bool) (fun x => [(1, I (t : Int)), (5, box [oints E, oorows N]), (6, omap (kW x.2.1) (tW x.2.1.length)), (7, .bool x.2.2), (32, I E.length), (33, I (x.1 : Int))]) (fun x => x.1 ≤ E.length ∧ Rnd ⟨E, N⟩ t P x.2.1 x.2.2 x.1 0) (fun x => E.length - x.1) (0, P, false) ?_ ?_
    · exact ⟨by (simp only [xe, xj, Nat.reduceEqDiff]; (try simp [view, viewL_map]); (try omega)), by omega, Rnd.start hf hnd⟩
    rintro ⟨s, P1, c1⟩ ⟨hs, hr1⟩
    dsimp only at hs hr1
    simp only [envOf]
    have hl1 : P1.length ≤ 40 := forced_len hr1.f hr1.nd hE2
    repeat' (first | exact hb.elim | refine wS fun K hK => ?_ | refine wB ?_ | refine uR hΓ ?_ | refine uD hΓ fun B hB => ?_ | ((repeat ((fail_if_success (refine hK _ ?_)); clear hK K)); refine hK _ ?_; clear hK K) | refine u1 ?_ | refine uC (fun hb => ?_) fun hb => ?_ | refine u2 (fun hc => ?_) fun hc => ?_ | refine wI ?_ | refine ex_idx (by omega) ?_ | exact True.intro | fail)
    rotate_left
    · have : s = E.length := by omega
      subst this
      have hg := hr1.le
      refine ⟨(P1, c1), by (simp only [xe, xj, Nat.reduceEqDiff]; (try simp [view, viewL_map]); (try omega)), ⟨hr1.f, hr1.nd, fun h => ?_⟩, ?_⟩
      · have h : c1 = false := h
        subst h
        exact hr1.closed
      · cases c1 with
        | false => have h2 := (hr1.same rfl).1; subst h2; simp
        | true => have h2 := hr1.grow rfl; simp; omega
    have hsE : s < E.length := by omega
    refine CW.loop (ι := Nat × List (Nat × Nat) × Bool) (fun x => [(1, I (t : Int)), (5, box [oints E, oorows N]), (6, omap (kW x.2.1) (tW x.2.1.length)), (7, .bool x.2.2), (8, I (s : Int)), (32, I E.length), (33, I (s : Int)), (36, I (x.1 : Int))]) (fun x => x.1 ≤ 4 ∧ Rnd ⟨E, N⟩ t P x.2.1 x.2.2 s x.1) (fun x => 4 - x.1) (0, P1, c1) ?_ ?_
    · exact ⟨by (simp only [xe, xj, Nat.reduceEqDiff]; (try simp [view, viewL_map]); (try omega)), by omega, hr1⟩
    rintro ⟨a, P2, c2⟩ ⟨ha, hr2⟩
    dsimp only at ha hr2
    simp only [envOf]
    clear hr1 hl1
    have hl2 : P2.length ≤ 40 := forced_len hr2.f hr2.nd hE2
    have hsp : smallP P2 := fun p hp => by
      have := hr2.f p hp
      have h1 : p.1 < E.length := this.1
      omega
    repeat' (first | exact hb.elim | refine wS fun K hK => ?_ | refine wB ?_ | refine uR hΓ ?_ | refine uD hΓ fun B hB => ?_ | ((repeat ((fail_if_success (refine hK _ ?_)); clear hK K)); refine hK _ ?_; clear hK K) | refine u1 ?_ | refine uC (fun hb => ?_) fun hb => ?_ | refine u2 (fun hc => ?_) fun hc => ?_ | refine wI ?_ | refine ex_idx (by omega) ?_ | exact True.intro | fail)
    rotate_left
    · have : a = 4 := by omega
      subst this
      exact ⟨(s + 1, P2, c2), by (simp only [xe, xj, Nat.reduceEqDiff]; (try simp [view, viewL_map]); (try omega)), ⟨by omega, hr2.next⟩, by show E.length - (s + 1) < E.length - s; omega⟩
    have hlk := look_W (a := a) (s := s) hsp (by omega) (by omega)
    refine ⟨_, hlk, ?_⟩
    by_cases hM : (s, a) ∈ P2
    · rw [decide_eq_true hM]
      simp (maxSteps := 2000000) only [go_sem]
      repeat' (first | exact hb.elim | refine wS fun K hK => ?_ | refine wB ?_ | refine uR hΓ ?_ | refine uD hΓ fun B hB => ?_ | ((repeat ((fail_if_success (refine hK _ ?_)); clear hK K)); refine hK _ ?_; clear hK K) | refine u1 ?_ | refine uC (fun hb => ?_) fun hb => ?_ | refine u2 (fun hc => ?_) fun hc => ?_ | refine wI ?_ | refine ex_idx (by omega) ?_ | exact True.intro | fail)
      exact ⟨(a + 1, P2, c2), by (simp only [xe, xj, Nat.reduceEqDiff]; (try simp [view, viewL_map]); (try omega)), ⟨by omega, hr2.skip fun _ => hM⟩, by show 4 - (a + 1) < 4 - a; omega⟩
    rw [decide_eq_false hM]
    simp (maxSteps := 2000000) only [go_sem]
    (refine hK _ ?_; clear hK K)
    (refine wC (fun hb => ?_) fun hb => ?_ <;> (try simp only [xb, reduceCtorEq] at hb))
    refine wK ?_
    simp only [xs, xi, Nat.reduceEqDiff, reduceCtorEq]
    (refine hK _ ?_; clear hK K)
    have hsN : s < N.length := by omega
    have hrl := row_len hok hsN
    have hel2 := ends_le hok hsE
    have hb0 : badM ⟨E, N⟩ t s a (stN P2) 0 = ((endsN ⟨E, N⟩ s).testBit a && !t.testBit a) := rfl
    have hbs := fun c => show badM ⟨E, N⟩ t s a (stN P2) (c + 1) = (badM ⟨E, N⟩ t s a (stN P2) c || decide (0 < nextN ⟨E, N⟩ s (3 * a + c) &&& stN P2)) from rfl
    have hb3 := badM_iff ⟨E, N⟩ t s a (stN P2)
    generalize badM ⟨E, N⟩ t s a (stN P2) = M at hb0 hbs hb3
    refine CW.seqM (ι := Unit) (fun _ => [(1, I (t : Int)), (5, box [oints E, oorows N]), (6, omap (kW P2) (tW P2.length)), (7, .bool c2), (8, I (s : Int)), (9, I (a : Int)), (10, box [I (s : Int), I (a : Int)]), (11, .bool (M 0)), (32, I E.length), (33, I (s : Int)), (36, I (a : Int))]) (fun _ => True) (fun _ _ => ?_) ?_
    rotate_left
    · repeat' (first | exact hb.elim | refine wS fun K hK => ?_ | refine wB ?_ | refine uR hΓ ?_ | refine uD hΓ fun B hB => ?_ | ((repeat ((fail_if_success (refine hK _ ?_)); clear hK K)); refine hK _ ?_; clear hK K) | refine u1 ?_ | refine uC (fun hb => ?_) fun hb => ?_ | refine u2 (fun hc => ?_) fun hc => ?_ | refine wI ?_ | refine ex_idx (by omega) ?_ | exact True.intro | fail)
      rw [ends_cast hok hsE]
      generalize endsN ⟨E, N⟩ s = x at hel2 hb0
      obtain ⟨B1, hB1⟩ : ∃ b, x.testBit a = b := ⟨_, rfl⟩
      rw [hB1] at hb0
      (first | refine wA rfl ?_ ?_ ?_ | refine dA rfl ?_ ?_ ?_); exact (.bool B1); exact (⟨x, a, rfl, by omega, by omega, by rw [hB1]⟩); simp (maxSteps := 2000000) only [go_sem]
      cases B1 with
      | false =>
        simp (maxSteps := 2000000) only [go_sem]
        repeat' (first | exact hb.elim | refine wS fun K hK => ?_ | refine wB ?_ | refine uR hΓ ?_ | refine uD hΓ fun B hB => ?_ | ((repeat ((fail_if_success (refine hK _ ?_)); clear hK K)); refine hK _ ?_; clear hK K) | refine u1 ?_ | refine uC (fun hb => ?_) fun hb => ?_ | refine u2 (fun hc => ?_) fun hc => ?_ | refine wI ?_ | refine ex_idx (by omega) ?_ | exact True.intro | fail)
        exact ⟨(), by ((simp only [xe, xj, Nat.reduceEqDiff]; (try simp [view, viewL_map]); (try omega)); try (rw [hb0]; simp))⟩
      | true =>
        simp (maxSteps := 2000000) only [go_sem]
        repeat' (first | exact hb.elim | refine wS fun K hK => ?_ | refine wB ?_ | refine uR hΓ ?_ | refine uD hΓ fun B hB => ?_ | ((repeat ((fail_if_success (refine hK _ ?_)); clear hK K)); refine hK _ ?_; clear hK K) | refine u1 ?_ | refine uC (fun hb => ?_) fun hb => ?_ | refine u2 (fun hc => ?_) fun hc => ?_ | refine wI ?_ | refine ex_idx (by omega) ?_ | exact True.intro | fail)
        obtain ⟨T1, hT1⟩ : ∃ b, t.testBit a = b := ⟨_, rfl⟩
        rw [hT1] at hb0
        (first | refine wA rfl ?_ ?_ ?_ | refine dA rfl ?_ ?_ ?_); exact (.bool T1); exact (⟨t, a, rfl, by omega, by omega, by rw [hT1]⟩); simp (maxSteps := 2000000) only [go_sem]
        repeat' (first | exact hb.elim | refine wS fun K hK => ?_ | refine wB ?_ | refine uR hΓ ?_ | refine uD hΓ fun B hB => ?_ | ((repeat ((fail_if_success (refine hK _ ?_)); clear hK K)); refine hK _ ?_; clear hK K) | refine u1 ?_ | refine uC (fun hb => ?_) fun hb => ?_ | refine u2 (fun hc => ?_) fun hc => ?_ | refine wI ?_ | refine ex_idx (by omega) ?_ | exact True.intro | fail)
        exact ⟨(), by ((simp only [xe, xj, Nat.reduceEqDiff]; (try simp [view, viewL_map]); (try omega)); try (rw [hb0]; simp))⟩
    simp only [envOf]
    repeat' (first | exact hb.elim | refine wS fun K hK => ?_ | refine wB ?_ | refine uR hΓ ?_ | refine uD hΓ fun B hB => ?_ | ((repeat ((fail_if_success (refine hK _ ?_)); clear hK K)); refine hK _ ?_; clear hK K) | refine u1 ?_ | refine uC (fun hb => ?_) fun hb => ?_ | refine u2 (fun hc => ?_) fun hc => ?_ | refine wI ?_ | refine ex_idx (by omega) ?_ | exact True.intro | fail)
    refine CW.scopeL 6 (kW P2) (tW P2.length) (by simp only [upd_at, if_true, if_false, Nat.reduceEqDiff]) (allM_kW _) (allM_tW _) fun κ2 hκ2 v => ?_
    have hκ0 := hκ
    have hκ := hκ2.trans hκ
    have hnm : ∀ b, ∀ p ∈ ([(1, I (t : Int)), (5, box [oints E, oorows N]), (7, .bool c2), (8, I (s : Int)), (9, I (a : Int)), (10, box [I (s : Int), I (a : Int)]), (11, .bool b), (32, I E.length), (33, I (s : Int)), (36, I (a : Int))] : List (Nat × AV)), noMap p.2 = true := by
      intro b p hp
      simp only [List.mem_cons, List.not_mem_nil, or_false] at hp
      rcases hp with rfl | rfl | rfl | rfl | rfl | rfl | rfl | rfl | rfl | rfl <;> first | exact noMap_box2 E N | rfl
    refine CW.loop (ι := Nat) (fun c => [(1, I (t : Int)), (5, box [oints E, oorows N]), (6, pin (pmap (kW P2) (tW P2.length)) v), (7, .bool c2), (8, I (s : Int)), (9, I (a : Int)), (10, box [I (s : Int), I (a : Int)]), (11, .bool (M c)), (32, I E.length), (33, I (s : Int)), (36, I (a : Int)), (12, I (16 + (c : Int)))]) (fun c => c ≤ 3) (fun c => 3 - c) 0 ?_ ?_
    · exact ⟨by (simp only [xe, xj, Nat.reduceEqDiff]; (try simp [view, viewL_map]); (try omega)), by omega⟩
    rintro c hc3
    simp only [envOf]
    have hbc := hbs c
    cases hMc : M c with
    | true =>
      have hM3 : M 3 = true := by
        have h0 := hbs 0
        have h1 := hbs 1
        have h2 := hbs 2
        have : c = 0 ∨ c = 1 ∨ c = 2 ∨ c = 3 := by omega
        rcases this with rfl | rfl | rfl | rfl
        · rw [h2, h1, h0, hMc]; rfl
        · rw [h2, h1, hMc]; rfl
        · rw [h2, hMc]; rfl
        · exact hMc
      repeat' (first | exact hb.elim | refine wS fun K hK => ?_ | refine wB ?_ | refine uR hΓ ?_ | refine uD hΓ fun B hB => ?_ | ((repeat ((fail_if_success (refine hK _ ?_)); clear hK K)); refine hK _ ?_; clear hK K) | refine u1 ?_ | refine uC (fun hb => ?_) fun hb => ?_ | refine u2 (fun hc => ?_) fun hc => ?_ | refine wI ?_ | refine ex_idx (by omega) ?_ | exact True.intro | fail)
      · refine ⟨[(1, I (t : Int)), (5, box [oints E, oorows N]), (7, .bool c2), (8, I (s : Int)), (9, I (a : Int)), (10, box [I (s : Int), I (a : Int)]), (11, .bool true), (32, I E.length), (33, I (s : Int)), (36, I (a : Int))], by (simp only [xe, xj, Nat.reduceEqDiff]; (try simp [view, viewL_map]); (try omega)), hnm true, ?_⟩
        simp only [envOf]
        have hκ := hκ0
        simp (maxSteps := 2000000) only [go_sem]
        repeat' (first | exact hb.elim | refine wS fun K hK => ?_ | refine wB ?_ | refine uR hΓ ?_ | refine uD hΓ fun B hB => ?_ | ((repeat ((fail_if_success (refine hK _ ?_)); clear hK K)); refine hK _ ?_; clear hK K) | refine u1 ?_ | refine uC (fun hb => ?_) fun hb => ?_ | refine u2 (fun hc => ?_) fun hc => ?_ | refine wI ?_ | refine ex_idx (by omega) ?_ | exact True.intro | fail)
        refine ⟨_, _, upd_W hsp (by omega) (by omega) hM, ?_⟩
        repeat' (first | exact hb.elim | refine wS fun K hK => ?_ | refine wB ?_ | refine uR hΓ ?_ | refine uD hΓ fun B hB => ?_ | ((repeat ((fail_if_success (refine hK _ ?_)); clear hK K)); refine hK _ ?_; clear hK K) | refine u1 ?_ | refine uC (fun hb => ?_) fun hb => ?_ | refine u2 (fun hc => ?_) fun hc => ?_ | refine wI ?_ | refine ex_idx (by omega) ?_ | exact True.intro | fail)
        exact ⟨(a + 1, P2 ++ [(s, a)], true), by (simp only [xe, xj, Nat.reduceEqDiff]; (try simp [view, viewL_map]); (try omega)), ⟨by omega, hr2.add ht15 hsE (by omega) (hb3.1 hM3) hM _⟩, by show 4 - (a + 1) < 4 - a; omega⟩
      · refine ⟨[(1, I (t : Int)), (5, box [oints E, oorows N]), (7, .bool c2), (8, I (s : Int)), (9, I (a : Int)), (10, box [I (s : Int), I (a : Int)]), (11, .bool true), (32, I E.length), (33, I (s : Int)), (36, I (a : Int))], by (simp only [xe, xj, Nat.reduceEqDiff]; (try simp [view, viewL_map]); (try omega)), hnm true, ?_⟩
        simp only [envOf]
        have hκ := hκ0
        simp (maxSteps := 2000000) only [go_sem]
        repeat' (first | exact hb.elim | refine wS fun K hK => ?_ | refine wB ?_ | refine uR hΓ ?_ | refine uD hΓ fun B hB => ?_ | ((repeat ((fail_if_success (refine hK _ ?_)); clear hK K)); refine hK _ ?_; clear hK K) | refine u1 ?_ | refine uC (fun hb => ?_) fun hb => ?_ | refine u2 (fun hc => ?_) fun hc => ?_ | refine wI ?_ | refine ex_idx (by omega) ?_ | exact True.intro | fail)
        refine ⟨_, _, upd_W hsp (by omega) (by omega) hM, ?_⟩
        repeat' (first | exact hb.elim | refine wS fun K hK => ?_ | refine wB ?_ | refine uR hΓ ?_ | refine uD hΓ fun B hB => ?_ | ((repeat ((fail_if_success (refine hK _ ?_)); clear hK K)); refine hK _ ?_; clear hK K) | refine u1 ?_ | refine uC (fun hb => ?_) fun hb => ?_ | refine u2 (fun hc => ?_) fun hc => ?_ | refine wI ?_ | refine ex_idx (by omega) ?_ | exact True.intro | fail)
        exact ⟨(a + 1, P2 ++ [(s, a)], true), by (simp only [xe, xj, Nat.reduceEqDiff]; (try simp [view, viewL_map]); (try omega)), ⟨by omega, hr2.add ht15 hsE (by omega) (hb3.1 hM3) hM _⟩, by show 4 - (a + 1) < 4 - a; omega⟩
    | false =>
      rw [hMc, Bool.false_or] at hbc
      repeat' (first | exact hb.elim | refine wS fun K hK => ?_ | refine wB ?_ | refine uR hΓ ?_ | refine uD hΓ fun B hB => ?_ | ((repeat ((fail_if_success (refine hK _ ?_)); clear hK K)); refine hK _ ?_; clear hK K) | refine u1 ?_ | refine uC (fun hb => ?_) fun hb => ?_ | refine u2 (fun hc => ?_) fun hc => ?_ | refine wI ?_ | refine ex_idx (by omega) ?_ | exact True.intro | fail)
      · have e16 : (16 + (c : Int)) = ((16 + c : Nat) : Int) := by omega
        (first | refine wA rfl ?_ ?_ ?_ | refine dA rfl ?_ ?_ ?_); exact (I ((3 * a + c : Nat) : Int)); exact (⟨a, c, by rw [← e16], by omega, by omega, rfl⟩); simp (maxSteps := 2000000) only [go_sem]
        repeat' (first | exact hb.elim | refine wS fun K hK => ?_ | refine wB ?_ | refine uR hΓ ?_ | refine uD hΓ fun B hB => ?_ | ((repeat ((fail_if_success (refine hK _ ?_)); clear hK K)); refine hK _ ?_; clear hK K) | refine u1 ?_ | refine uC (fun hb => ?_) fun hb => ?_ | refine u2 (fun hc => ?_) fun hc => ?_ | refine wI ?_ | refine ex_idx (by omega) ?_ | exact True.intro | fail)
        have hnl := next_lt hok hsN (show 3 * a + c < N[s].length by omega)
        have hp10 : 2 ^ E.length ≤ 2 ^ 10 := Nat.pow_le_pow_right (by omega) hE2
        rw [next_cast hok hsN (show 3 * a + c < N[s].length by omega)]
        generalize nextN ⟨E, N⟩ s (3 * a + c) = y at hnl hbc
        have hy10 : y < 1024 := by omega
        clear hp10 hnl
        refine CW.loop (ι := List Nat) (fun seen => [(1, I (t : Int)), (5, box [oints E, oorows N]), (6, pin (pmap (kW P2) (tW P2.length)) v), (7, .bool c2), (8, I (s : Int)), (9, I (a : Int)), (10, box [I (s : Int), I (a : Int)]), (11, .bool (anyS y P2 seen)), (12, I (16 + (c : Int))), (13, I (y : Int)), (32, I E.length), (33, I (s : Int)), (36, I (a : Int)), (77, oiter (kW P2) (tW P2.length) seen)]) (fun seen => seen.Nodup ∧ ∀ j ∈ seen, j < P2.length) (fun seen => P2.length - seen.length) [] ?_ ?_
        · exact ⟨by ((simp only [xe, xj, Nat.reduceEqDiff]; (try simp [view, viewL_map]); (try omega)); rfl), by simp⟩
        rintro seen ⟨hnd2, hsl2⟩
        simp only [envOf]
        refine CW.seqK fun K hK => ?_
        refine CW.nextReg hΓ (d := 78) (t := 77) rfl rfl rfl [] (by rw [hκ]; rfl) (by simp only [upd_at, if_true, if_false, Nat.reduceEqDiff]; rfl) (by decide) (fun hall => ?_) (fun j hj hv hjs => ?_)
        · simp (maxSteps := 2000000) only [go_sem]
          repeat' (first | exact hb.elim | refine wS fun K hK => ?_ | refine wB ?_ | refine uR hΓ ?_ | refine uD hΓ fun B hB => ?_ | ((repeat ((fail_if_success (refine hK _ ?_)); clear hK K)); refine hK _ ?_; clear hK K) | refine u1 ?_ | refine uC (fun hb => ?_) fun hb => ?_ | refine u2 (fun hc => ?_) fun hc => ?_ | refine wI ?_ | refine ex_idx (by omega) ?_ | exact True.intro | fail)
          refine ⟨c + 1, ?_, by omega, by omega⟩
          rw [hbc, ← anyS_all hsl2 fun j hj => hall j (by rw [kW_len]; exact hj)]
          (simp only [xe, xj, Nat.reduceEqDiff]; (try simp [view, viewL_map]); (try omega))
        · have hjP : j < P2.length := by rw [kW_len] at hj; exact hj
          obtain ⟨⟨sj, aj⟩, hPj⟩ : ∃ p, P2[j] = p := ⟨_, rfl⟩
          have hkj : (kW P2)[j] = agg [I (sj : Int), I (aj : Int)] := by simp [kW, hPj]
          have hvj : (tW P2.length)[j] = .bool true := by simp [tW]
          have hgd : P2.getD j (0, 0) = (sj, aj) := by simp [List.getD, hjP, hPj]
          have hsj : sj < E.length := (hr2.f (sj, aj) (hPj ▸ List.getElem_mem hjP)).1
          have hlast : (seen ++ [j]).getLast? = some j := by simp
          have hkj' : (kW P2)[j]? = some (agg [I (sj : Int), I (aj : Int)]) := by rw [List.getElem?_eq_getElem hj, hkj]
          have hvj' : (tW P2.length)[j]? = some (.bool true) := by rw [List.getElem?_eq_getElem hv, hvj]
          have hnd3 : (seen ++ [j]).Nodup := by rw [List.nodup_append]; exact ⟨hnd2, by simp, fun a ha b hb => by simp at hb; subst hb; exact fun e => hjs (e ▸ ha)⟩
          have hsl3 : ∀ x ∈ seen ++ [j], x < P2.length := fun x hx => by
            rcases List.mem_append.1 hx with h | h
            · exact hsl2 x h
            · simp at h; omega
          have hjn : seen.length < P2.length := by
            have := nodup_len (l := seen ++ [j]) (m := List.range P2.length) hnd3 fun x hx => by rw [List.mem_range]; exact hsl3 x hx
            simp at this; omega
          have hsn := anyS_snoc y P2 seen j
          rw [hgd] at hsn
          generalize anyS y P2 seen = S0 at hsn
          have h0 := Nat.div_le_self y (2 ^ sj)
          simp only [hkj, hvj]
          simp (maxSteps := 2000000) only [go_sem]
          repeat' (first | exact hb.elim | refine wS fun K hK => ?_ | refine wB ?_ | refine uR hΓ ?_ | refine uD hΓ fun B hB => ?_ | ((repeat ((fail_if_success (refine hK _ ?_)); clear hK K)); refine hK _ ?_; clear hK K) | refine u1 ?_ | refine uC (fun hb => ?_) fun hb => ?_ | refine u2 (fun hc => ?_) fun hc => ?_ | refine wI ?_ | refine ex_idx (by omega) ?_ | exact True.intro | fail)
          refine ⟨j, _, _, ⟨hlast, hkj', hvj'⟩, ?_⟩
          simp (maxSteps := 2000000) only [go_sem]
          cases S0 with
          | true =>
            repeat' (first | exact hb.elim | refine wS fun K hK => ?_ | refine wB ?_ | refine uR hΓ ?_ | refine uD hΓ fun B hB => ?_ | ((repeat ((fail_if_success (refine hK _ ?_)); clear hK K)); refine hK _ ?_; clear hK K) | refine u1 ?_ | refine uC (fun hb => ?_) fun hb => ?_ | refine u2 (fun hc => ?_) fun hc => ?_ | refine wI ?_ | refine ex_idx (by omega) ?_ | exact True.intro | fail)
            simp only [inBlockA_normal, thenA_normal]
            rw [Bool.true_or] at hsn
            exact ⟨seen ++ [j], by ((simp only [xe, xj, Nat.reduceEqDiff]; (try simp [view, viewL_map]); (try omega)); try rw [hsn]), ⟨hnd3, hsl3⟩, by simp; omega⟩
          | false =>
            repeat' (first | refine wS fun K hK => ?_ | refine wB ?_ | ((first | refine wR hΓ ?_ | refine wD hΓ fun B hB => ?_); simp (maxSteps := 2000000) only [go_sem, shr_nat, bitN_one]) | ((repeat ((fail_if_success (refine hK _ ?_)); clear hK K)); refine hK _ ?_; clear hK K) | (refine w1 ?_; simp only [xs, xi, Nat.reduceEqDiff, reduceCtorEq]) | (refine wC (fun hb => ?_) fun hb => ?_ <;> (try simp only [xb, reduceCtorEq] at hb)) | (refine w2 (fun hc => ?_) (fun hc => ?_) <;> (try simp only [xc] at hc) <;> (try simp only [go_sem, hc, shr_nat, bitN_one]) <;> (try simp only [xb] at hc)) | refine wI ?_ | refine ex_idx (by omega) ?_ | fail)
            simp only [inBlockA_normal, thenA_normal]
            have hbt : decide ((bitN y sj : Int) = 1) = y.testBit sj := by
              cases h : y.testBit sj with
              | true => rw [bitN_t h]; rfl
              | false => rw [bitN_f h]; rfl
            rw [Bool.false_or, ← hbt] at hsn
            exact ⟨seen ++ [j], by ((simp only [xe, xj, Nat.reduceEqDiff]; (try simp [view, viewL_map]); (try omega)); try rw [hsn]), ⟨hnd3, hsl3⟩, by simp; omega⟩
      · have hc3' : c = 3 := by omega
        subst hc3'
        refine ⟨[(1, I (t : Int)), (5, box [oints E, oorows N]), (7, .bool c2), (8, I (s : Int)), (9, I (a : Int)), (10, box [I (s : Int), I (a : Int)]), (11, .bool false), (32, I E.length), (33, I (s : Int)), (36, I (a : Int))], by (simp only [xe, xj, Nat.reduceEqDiff]; (try simp [view, viewL_map]); (try omega)), hnm false, ?_⟩
        simp only [envOf]
        have hκ := hκ0
        simp (maxSteps := 2000000) only [go_sem]
        repeat' (first | exact hb.elim | refine wS fun K hK => ?_ | refine wB ?_ | refine uR hΓ ?_ | refine uD hΓ fun B hB => ?_ | ((repeat ((fail_if_success (refine hK _ ?_)); clear hK K)); refine hK _ ?_; clear hK K) | refine u1 ?_ | refine uC (fun hb => ?_) fun hb => ?_ | refine u2 (fun hc => ?_) fun hc => ?_ | refine wI ?_ | refine ex_idx (by omega) ?_ | exact True.intro | fail)
        exact ⟨(a + 1, P2, c2), by (simp only [xe, xj, Nat.reduceEqDiff]; (try simp [view, viewL_map]); (try omega)), ⟨by omega, hr2.skip fun h => by rw [hb3.2 h] at hMc; cases hMc⟩, by show 4 - (a + 1) < 4 - a; omega⟩

end Go.Proofs.YtmhiipmajlmlgaaGreat
