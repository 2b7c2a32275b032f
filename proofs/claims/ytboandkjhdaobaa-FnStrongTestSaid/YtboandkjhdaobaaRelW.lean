/- The test that has to hold before, told by first and last atoms. No program in sight. -/
import Derived.Test.YtboandkjhdaobaaRelP
import Derived.Test.YtboandkjhdaobaaGrpN
namespace Go.Proofs.Ytboandkjhdaobaa
set_option linter.unusedSimpArgs false
set_option linter.unusedVariables false
set_option maxRecDepth 8000
set_option maxHeartbeats 2000000
open Go.RowKit

section
variable {l : LL}
theorem autoL_len : (autoL l).ends.length = l.length := by simp [autoL, endsM]
theorem autoL_ends {s : Nat} (h : s < l.length) : endsN (autoL l) s = endX (exOf l[s]) := by
  simp [endsN, autoL, endsM, nth, List.getD, h]
theorem autoL_next {s m : Nat} (h : s < l.length) (hm : m < 12) : nextN (autoL l) s m = setN l (leftM l[s] m) := by
  simp [nextN, autoL, nthL, nth, List.getD, h, rowM, hm]
theorem autoL_bit {s m q : Nat} (h : s < l.length) (hm : m < 12) : (nextN (autoL l) s m).testBit q = true ↔ ∃ hq : q < l.length, l[q] ∈ leftM l[s] m := by
  rw [autoL_next h hm, setN, sumB_testBit, Bool.and_eq_true, decide_eq_true_eq, hasP, decide_eq_true_eq]
  constructor
  · rintro ⟨hq, g⟩
    exact ⟨hq, by simpa [List.getD, hq] using g⟩
  · rintro ⟨hq, g⟩
    exact ⟨hq, by simpa [List.getD, hq] using g⟩
end

section
variable {l : LL} (hcl : ∀ u ∈ l, ∀ m, m < 12 → ∀ v ∈ leftM u m, v ∈ l) (hwf : ∀ u ∈ l, (exOf u).wf) {t : Nat} (ht : t ≤ 15)
include hcl hwf ht
theorem relC_bad {X : Ex} {a b : Nat} (h : RelC X a b) (hb : ¬ t.testBit b = true) : ∀ s (hs : s < l.length), exOf l[s] = X → badP (autoL l) t s a (liveF (wkD (autoL l) t)) := by
  induction h with
  | fin ha h =>
    intro s hs e
    exact .inl ⟨by rw [autoL_ends hs, e]; exact h, hb⟩
  | @step X p a b c a' ha hc hp ha' h ih =>
    intro s hs e
    have hpm : p.steps ∈ leftM l[s] (3 * a + c) := by
      unfold leftM partsOfL
      rw [show (3 * a + c) / 3 = a by omega, show (3 * a + c) % 3 = c by omega, e]
      exact mem_partsL.2 ⟨p, hp, rfl⟩
    have hpl : p.steps ∈ l := hcl _ (List.getElem_mem hs) (3 * a + c) (by omega) _ hpm
    obtain ⟨q, hq, eq⟩ := List.getElem_of_mem hpl
    have hpw : p.wf := partsX_wf (x := X) (by rw [← e]; exact hwf _ (List.getElem_mem hs)) _ hp
    have he : exOf l[q] = p := by rw [eq]; exact exOf_steps hpw
    have hbad := ih hb q hq he
    have hlq : (liveF (wkD (autoL l) t)).testBit q = true := by
      have hq' : q < (autoL l).ends.length := by rw [autoL_len]; exact hq
      exact liveF_closed (wkD (autoL l) t) q (by rw [wkD_len]; exact hq') (bad_live ht hq' ha' hbad)
    exact .inr ⟨c, hc, and_pos.2 ⟨q, (autoL_bit hs (by omega)).2 ⟨hq, by rw [eq]; exact hpm⟩, hlq⟩⟩
set_option linter.unusedSectionVars false in
open Classical in
theorem bad_rel {S : Nat} (hS : ∀ q (hq : q < l.length), S.testBit q = true → ∃ a b, RelC (exOf l[q]) a b ∧ ¬ t.testBit b = true) {s a : Nat} (hs : s < l.length) (ha : a < 4) (h : badP (autoL l) t s a S) : ∃ b, RelC (exOf l[s]) a b ∧ ¬ t.testBit b = true := by
  rcases h with ⟨h1, h2⟩ | ⟨c, hc, h⟩
  · rw [autoL_ends hs] at h1
    exact ⟨a, .fin ha h1, h2⟩
  · obtain ⟨q, h1, h2⟩ := and_pos.1 h
    obtain ⟨hq, h3⟩ := (autoL_bit hs (by omega)).1 h1
    obtain ⟨a', b, h4, h5⟩ := hS q hq h2
    unfold leftM partsOfL at h3
    rw [show (3 * a + c) / 3 = a by omega, show (3 * a + c) % 3 = c by omega] at h3
    obtain ⟨p, hp, e⟩ := mem_partsL.1 h3
    have hX : (exOf l[s]).wf := hwf _ (List.getElem_mem hs)
    rw [← e, exOf_steps (partsX_wf hX _ hp)] at h4
    exact ⟨b, .step ha hc hp h4.lt.1 h4, h5⟩
open Classical in
theorem live_rel (q : Nat) (hq : q < l.length) (h : (liveF (wkD (autoL l) t)).testBit q = true) : ∃ a b, RelC (exOf l[q]) a b ∧ ¬ t.testBit b = true := by
  let P : Nat → Bool := fun s => decide (∃ hs : s < l.length, ∃ a b, RelC (exOf l[s]) a b ∧ ¬ t.testBit b = true)
  let T := sumB P l.length
  have hT : ∀ s, T.testBit s = true ↔ ∃ hs : s < l.length, ∃ a b, RelC (exOf l[s]) a b ∧ ¬ t.testBit b = true := by
    intro s
    show (sumB P _).testBit s = true ↔ _
    rw [sumB_testBit, Bool.and_eq_true, decide_eq_true_eq]
    constructor
    · rintro ⟨_, h⟩; exact of_decide_eq_true h
    · rintro ⟨hs, h⟩; exact ⟨hs, decide_eq_true ⟨hs, h⟩⟩
  have hc : ClosedL (wkD (autoL l) t) T := by
    intro k hk hlive
    rw [wkD_len, autoL_len] at hk
    obtain ⟨a, ha, hb⟩ := live_bad ht (by rw [autoL_len]; exact hk) hlive
    obtain ⟨b, hb1, hb2⟩ := bad_rel hcl hwf ht (fun q hq hq2 => ((hT q).1 hq2).2) hk ha hb
    exact (hT k).2 ⟨hk, a, b, hb1, hb2⟩
  exact ((hT q).1 (liveF_forced _ T hc q h)).2
end
section
variable {x : Ex} (hw : x.wf) (hl : x.steps.length ≤ 40) {t : Nat} (ht : t ≤ 15)
include hw hl ht
theorem weak_bit (hn : 0 < (allL x.steps).length) {a : Nat} (ha : a < 4) : (weakN (autoL (allL x.steps)) t).testBit a = true ↔ ∀ b, b < 4 → RelX x a b → t.testBit b = true := by
  have hcl : ∀ u ∈ allL x.steps, ∀ m, m < 12 → ∀ v ∈ leftM u m, v ∈ allL x.steps := fun u hu m hm v hv => allL_closed hw hl hu hm hv
  have hwf : ∀ u ∈ allL x.steps, (exOf u).wf := fun u hu => by
    obtain ⟨y, hy, hy1, hy2⟩ := (allL_left hw u hu).tree
    rw [hy2]; exact hy
  have hh := allL_head x.steps
  generalize allL x.steps = l at hn hcl hwf hh
  have h0 : exOf l[0] = x := by
    rw [List.getElem?_eq_getElem hn] at hh
    rw [Option.some.inj hh]
    exact exOf_steps hw
  unfold weakN
  rw [sumB_testBit, Bool.and_eq_true, decide_eq_true_eq]
  simp only [Bool.not_eq_true', decide_eq_false_iff_not]
  constructor
  · rintro ⟨_, h⟩ b hb hr
    apply Classical.byContradiction
    intro hnb
    exact h (relC_bad hcl hwf ht (relX_C hw ha hb hr) hnb 0 hn h0)
  · intro h
    refine ⟨ha, fun hbad => ?_⟩
    obtain ⟨b, h1, h2⟩ := bad_rel hcl hwf ht (fun q hq hq2 => live_rel hcl hwf ht q hq hq2) hn ha hbad
    rw [h0] at h1
    exact h2 (h b h1.lt.2 (relC_X hw h1))
end

theorem weakN_lt (D : AutoD) (t : Nat) : weakN D t < 16 := sumB_lt _ 4
theorem weakI_bit {e : List Int} {x : Ex} (hw : x.wf) (he : x.steps = e) {q : Int} (h : 0 ≤ weakI (autD e) q) : ∃ t s : Nat, q = (t : Int) ∧ t ≤ 15 ∧ weakI (autD e) q = (s : Int) ∧ s < 16 ∧ ∀ a, a < 4 → (s.testBit a = true ↔ ∀ b, b < 4 → RelX x a b → t.testBit b = true) := by
  subst he
  by_cases g : (autD x.steps).ends.length = 0 ∨ ¬ (0 ≤ q ∧ q ≤ 15)
  · unfold weakI at h; rw [if_pos g] at h; omega
  · have h1 : (autD x.steps).ends.length ≠ 0 := fun e => g (.inl e)
    have h2 : 0 ≤ q ∧ q ≤ 15 := Classical.byContradiction fun e => g (.inr e)
    have hc : katB x.steps = true ∧ (allL x.steps).length ≤ 10 := by
      apply Classical.byContradiction
      intro hc
      rw [autD_no hc] at h1; exact h1 rfl
    have hd := autD_yes hc.1 hc.2
    have hl := (katB_true.1 hc.1).1
    refine ⟨q.toNat, weakN (autD x.steps) q.toNat, by omega, by omega, by unfold weakI; rw [if_neg g], weakN_lt _ _, fun a ha => ?_⟩
    rw [hd] at h1 ⊢
    exact weak_bit hw hl (by omega) (by rw [autoL_len] at h1; omega) ha
theorem eq_bits {m n : Nat} (hm : m < 16) (hn : n < 16) (h : ∀ a, a < 4 → (m.testBit a = true ↔ n.testBit a = true)) : m = n := by
  apply Nat.eq_of_testBit_eq
  intro i
  by_cases hi : i < 4
  · have := h i hi
    rw [Bool.eq_iff_iff]; exact this
  · rw [Nat.testBit_lt_two_pow (Nat.lt_of_lt_of_le hm (Nat.pow_le_pow_right (n := 2) (by omega) (show 4 ≤ i by omega))), Nat.testBit_lt_two_pow (Nat.lt_of_lt_of_le hn (Nat.pow_le_pow_right (n := 2) (by omega) (show 4 ≤ i by omega)))]
theorem sub_bits {m n : Nat} (hm : m < 16) (h : ∀ a, a < 4 → m.testBit a = true → n.testBit a = true) : m &&& n = m := by
  apply Nat.eq_of_testBit_eq
  intro i
  rw [Nat.testBit_and]
  by_cases hi : i < 4
  · cases g : m.testBit i with
    | false => rfl
    | true => rw [h i hi g]; rfl
  · rw [Nat.testBit_lt_two_pow (Nat.lt_of_lt_of_le hm (Nat.pow_le_pow_right (n := 2) (by omega) (show 4 ≤ i by omega)))]; rfl
theorem bits_sub {m n : Nat} (h : m &&& n = m) {a : Nat} (ha : m.testBit a = true) : n.testBit a = true := by
  rw [← h, Nat.testBit_and, Bool.and_eq_true] at ha
  exact ha.2
theorem weak_star {x : Ex} (hw : x.wf) {q : Int} {s : Int} (hs : weakI (autD (Ex.str x).steps) q = s) (h0 : 0 ≤ s) (h1 : 0 ≤ weakI (autD x.steps) s) : q.toNat &&& (weakI (autD x.steps) s).toNat = s.toNat := by
  subst hs
  obtain ⟨t, s, rfl, ht, e, hs, hb⟩ := weakI_bit (x := .str x) hw rfl h0
  rw [e] at h1 ⊢
  obtain ⟨t2, s2, e2, ht2, e3, hs2, hb2⟩ := weakI_bit (x := x) hw rfl h1
  rw [e3]
  have : t2 = s := by omega
  subst this
  simp only [Int.toNat_natCast]
  refine eq_bits (Nat.lt_of_le_of_lt Nat.and_le_right hs2) hs fun a ha => ?_
  rw [Nat.testBit_and, Bool.and_eq_true, hb2 a ha, hb a ha]
  constructor
  · rintro ⟨g1, g2⟩ b hbl hr
    have hr' : StarR (RelX x) a b := hr
    cases hr' with
    | refl => exact g1
    | step h hc tl => exact (hb _ hc).1 (g2 _ hc h) b hbl tl
  · intro g
    refine ⟨g a ha (StarR.refl a), fun c hc hr => (hb c hc).2 fun b hbl hs => g b hbl (StarR.step hr hc hs)⟩
theorem weak_mono {x : Ex} (hw : x.wf) {p q : Int} (h0 : 0 ≤ weakI (autD x.steps) p) (h1 : 0 ≤ weakI (autD x.steps) q) (h : ∀ b, b < 4 → p.toNat.testBit b = true → q.toNat.testBit b = true) : (weakI (autD x.steps) p).toNat &&& (weakI (autD x.steps) q).toNat = (weakI (autD x.steps) p).toNat := by
  obtain ⟨t, s, rfl, ht, e, hs, hb⟩ := weakI_bit (x := x) hw rfl h0
  obtain ⟨t2, s2, rfl, ht2, e2, hs2, hb2⟩ := weakI_bit (x := x) hw rfl h1
  rw [e, e2]
  simp only [Int.toNat_natCast] at h ⊢
  exact sub_bits hs fun a ha g => (hb2 a ha).2 fun b hbl hr => h b hbl ((hb a ha).1 g b hbl hr)
theorem weak_all {x : Ex} (hw : x.wf) (h0 : 0 ≤ weakI (autD x.steps) 15) : weakI (autD x.steps) 15 = 15 := by
  obtain ⟨t, s, e0, ht, e, hs, hb⟩ := weakI_bit (x := x) hw rfl h0
  rw [e]
  have : t = 15 := by omega
  subst this
  have : s = 15 := eq_bits hs (by omega) fun a ha => by rw [hb a ha]; exact ⟨fun _ => bit15 ha, fun _ b hbl _ => bit15 hbl⟩
  omega
end Go.Proofs.Ytboandkjhdaobaa
