/- What an expression says of the first and the last atom of its traces; and that its parts, one after the other, say the same. No program in sight. -/
import Derived.Test.YtmhiipmajlmlgaaGreatGrpC
import Derived.Test.YtmhiipmajlmlgaaGreatGrpN
import Derived.Test.YtmhiipmajlmlgaaGreatGrpL
namespace Go.Proofs.YtmhiipmajlmlgaaGreat
set_option linter.unusedSimpArgs false
set_option linter.unusedVariables false
set_option maxRecDepth 8000
set_option maxHeartbeats 2000000
open Go.RowKit

inductive StarR (R : Nat → Nat → Prop) : Nat → Nat → Prop where
  | refl (a : Nat) : StarR R a a
  | step {a b c : Nat} (h : R a b) (hb : b < 4) (t : StarR R b c) : StarR R a c
def RelX : Ex → Nat → Nat → Prop
  | .leaf n, a, b => if n ≤ 15 then a = b ∧ n.toNat.testBit a = true else True
  | .thn x y, a, b => ∃ c, c < 4 ∧ RelX x a c ∧ RelX y c b
  | .pls x y, a, b => RelX x a b ∨ RelX y a b
  | .str x, a, b => StarR (RelX x) a b
inductive RelC : Ex → Nat → Nat → Prop where
  | fin {x : Ex} {a : Nat} (ha : a < 4) (h : (endX x).testBit a = true) : RelC x a a
  | step {x p : Ex} {a b c a' : Nat} (ha : a < 4) (hc : c < 3) (hp : p ∈ partsX a (16 + (c : Int)) x) (ha' : a' < 4) (h : RelC p a' b) : RelC x a b
theorem RelC.lt {x : Ex} {a b : Nat} (h : RelC x a b) : a < 4 ∧ b < 4 := by
  induction h with
  | fin ha h => exact ⟨ha, ha⟩
  | step ha hc hp ha' h ih => exact ⟨ha, ih.2⟩
theorem bit15 {a : Nat} (h : a < 4) : (15 : Nat).testBit a = true := by
  have : a = 0 ∨ a = 1 ∨ a = 2 ∨ a = 3 := by omega
  rcases this with rfl | rfl | rfl | rfl <;> rfl
theorem relC_leaf15 {a b : Nat} (h : RelC (.leaf 15) a b) : a = b := by
  cases h with
  | fin ha h => rfl
  | step ha hc hp ha' h =>
    simp only [partsX] at hp
    rw [if_neg (by omega)] at hp
    simp at hp
theorem RelC.left {x y : Ex} {a b : Nat} (h : RelC x a b) : RelC (.pls x y) a b := by
  cases h with
  | fin ha h => exact .fin ha (by simp only [endX, Nat.testBit_or, h, Bool.true_or])
  | step ha hc hp ha' h => exact .step ha hc (by simp only [partsX]; exact List.mem_append_left _ hp) ha' h
theorem RelC.right {x y : Ex} {a b : Nat} (h : RelC y a b) : RelC (.pls x y) a b := by
  cases h with
  | fin ha h => exact .fin ha (by simp only [endX, Nat.testBit_or, h, Bool.or_true])
  | step ha hc hp ha' h => exact .step ha hc (by simp only [partsX]; exact List.mem_append_right _ hp) ha' h
theorem RelC.beh {p y : Ex} {a b c : Nat} (h1 : RelC p a c) (h2 : RelC y c b) (ht : RelC (.thn p y) a b) : RelC (behX p y) a b := by
  rcases behX_cases p y with ⟨rfl, e⟩ | e
  · rw [e]
    have := relC_leaf15 h1
    subst this; exact h2
  · rw [e]; exact ht
theorem RelC.thn {x y : Ex} {a b c : Nat} (h1 : RelC x a c) (h2 : RelC y c b) : RelC (.thn x y) a b := by
  induction h1 with
  | fin ha h =>
    cases h2 with
    | fin hb g => exact .fin ha (by simp only [endX, Nat.testBit_and, h, g, Bool.true_and])
    | step hb hc hp ha' g => exact .step ha hc (by simp only [partsX]; rw [if_pos h]; exact List.mem_append_right _ hp) ha' g
  | step ha hc hp ha' h ih => exact .step ha hc (by simp only [partsX]; exact List.mem_append_left _ (List.mem_map.2 ⟨_, hp, rfl⟩)) ha' (RelC.beh h h2 (ih h2))
theorem RelC.str {x : Ex} {a b c : Nat} (h1 : RelC x a c) (h2 : RelC (.str x) c b) : RelC (.str x) a b := by
  cases h1 with
  | fin ha h => exact h2
  | step ha hc hp ha' h => exact .step ha hc (by simp only [partsX]; exact List.mem_map.2 ⟨_, hp, rfl⟩) ha' (RelC.beh h h2 (RelC.thn h h2))
theorem relX_C : ∀ {x : Ex}, x.wf → ∀ {a b : Nat}, a < 4 → b < 4 → RelX x a b → RelC x a b
  | .leaf n, hw, a, b, ha, hb, h => by
    simp only [RelX] at h
    by_cases g : n ≤ 15
    · rw [if_pos g] at h
      obtain ⟨rfl, h⟩ := h
      exact .fin ha (by unfold endX; rw [if_pos g]; exact h)
    · have h1 := hw.2
      exact .step (c := (n - 16).toNat) (p := .leaf 15) ha (by omega) (by simp only [partsX]; rw [if_pos (by omega)]; simp) hb (.fin hb (by unfold endX; rw [if_pos (by omega)]; exact bit15 hb))
  | .thn x y, hw, a, b, ha, hb, ⟨c, hc, h1, h2⟩ => RelC.thn (relX_C hw.1 ha hc h1) (relX_C hw.2 hc hb h2)
  | .pls x y, hw, a, b, ha, hb, h => by
    rcases h with h | h
    · exact (relX_C hw.1 ha hb h).left
    · exact (relX_C hw.2 ha hb h).right
  | .str x, hw, a, b, ha, hb, h => by
    have ih := fun {a b : Nat} => @relX_C x hw a b
    have h' : StarR (RelX x) a b := h
    induction h' with
    | refl a => exact .fin ha (by unfold endX; exact bit15 ha)
    | step h1 hc t it => exact RelC.str (ih ha hc h1) (it hc hb t)
theorem endX_rel : ∀ {x : Ex}, x.wf → ∀ {a : Nat}, a < 4 → (endX x).testBit a = true → RelX x a a
  | .leaf n, hw, a, ha, h => by
    unfold endX at h
    simp only [RelX]
    by_cases g : n ≤ 15
    · rw [if_pos g] at h ⊢; exact ⟨trivial, h⟩
    · rw [if_neg g]; trivial
  | .thn x y, hw, a, ha, h => by
    simp only [endX, Nat.testBit_and, Bool.and_eq_true] at h
    exact ⟨a, ha, endX_rel hw.1 ha h.1, endX_rel hw.2 ha h.2⟩
  | .pls x y, hw, a, ha, h => by
    simp only [endX, Nat.testBit_or, Bool.or_eq_true] at h
    rcases h with h | h
    · exact .inl (endX_rel hw.1 ha h)
    · exact .inr (endX_rel hw.2 ha h)
  | .str x, hw, a, ha, h => StarR.refl a
theorem beh_rel {p y : Ex} {a b : Nat} (ha : a < 4) (h : RelX (behX p y) a b) : ∃ c, c < 4 ∧ RelX p a c ∧ RelX y c b := by
  rcases behX_cases p y with ⟨rfl, e⟩ | e
  · rw [e] at h
    exact ⟨a, ha, by simp only [RelX]; rw [if_pos (by omega)]; exact ⟨trivial, bit15 ha⟩, h⟩
  · rw [e] at h; exact h
theorem part_rel : ∀ {x : Ex}, x.wf → ∀ {a b c a' : Nat} {p : Ex}, a < 4 → a' < 4 → c < 3 → p ∈ partsX a (16 + (c : Int)) x → RelX p a' b → RelX x a b
  | .leaf n, hw, a, b, c, a', p, ha, ha', hc, hp, h => by
    simp only [partsX] at hp
    split at hp
    · rename_i g
      simp only [RelX]
      rw [if_neg (by omega)]; trivial
    · simp at hp
  | .thn x y, hw, a, b, c, a', p, ha, ha', hc, hp, h => by
    simp only [partsX] at hp
    rcases List.mem_append.1 hp with hp | hp
    · obtain ⟨q, hq, rfl⟩ := List.mem_map.1 hp
      obtain ⟨d, hd, h1, h2⟩ := beh_rel ha' h
      exact ⟨d, hd, part_rel hw.1 ha ha' hc hq h1, h2⟩
    · split at hp
      · rename_i g
        exact ⟨a, ha, endX_rel hw.1 ha g, part_rel hw.2 ha ha' hc hp h⟩
      · simp at hp
  | .pls x y, hw, a, b, c, a', p, ha, ha', hc, hp, h => by
    simp only [partsX] at hp
    rcases List.mem_append.1 hp with hp | hp
    · exact .inl (part_rel hw.1 ha ha' hc hp h)
    · exact .inr (part_rel hw.2 ha ha' hc hp h)
  | .str x, hw, a, b, c, a', p, ha, ha', hc, hp, h => by
    simp only [partsX] at hp
    obtain ⟨q, hq, rfl⟩ := List.mem_map.1 hp
    obtain ⟨d, hd, h1, h2⟩ := beh_rel ha' h
    exact StarR.step (part_rel (x := x) hw ha ha' hc hq h1) hd h2
theorem relC_X {x : Ex} {a b : Nat} (hw : x.wf) (h : RelC x a b) : RelX x a b := by
  induction h with
  | fin ha h => exact endX_rel hw ha h
  | step ha hc hp ha' h ih => exact part_rel hw ha ha' hc hp (ih (partsX_wf hw _ hp))
end Go.Proofs.YtmhiipmajlmlgaaGreat

namespace Go.Proofs.YtmhiipmajlmlgaaGreat
set_option linter.unusedSimpArgs false
set_option linter.unusedVariables false
set_option maxRecDepth 8000
set_option maxHeartbeats 2000000
open Go.RowKit

section
variable {l : LL}
theorem autoL_len : (autoL l).ends.length = l.length := by simp [autoL, endsM]
theorem autoL_ends {s : Nat} (h : s < l.length) : endsN (autoL l) s = endX (exOf l[s]) := by
  simp [endsN, autoL, endsM, nth, List.getD, h]
theorem autoL_next {s m : Nat} (h : s < l.length) (hm : m < 12) : nextN (autoL l) s m = setN l (leftM l[s] m) := by
  simp [nextN, autoL, nthL, nth, List.getD, h, rowM, hm]
theorem autoL_bit {s m q : Nat} (h : s < l.length) (hm : m < 12) : (nextN (autoL l) s m).testBit q = true ↔ ∃ hq : q < l.length, l[q] ∈ leftM l[s] m := by
  rw [autoL_next h hm, setN, sumB_testBit, Bool.and_eq_true, decide_eq_true_eq, hasP, decide_eq_true_eq]
  constructor
  · rintro ⟨hq, g⟩
    exact ⟨hq, by simpa [List.getD, hq] using g⟩
  · rintro ⟨hq, g⟩
    exact ⟨hq, by simpa [List.getD, hq] using g⟩
end

section
variable {l : LL} (hcl : ∀ u ∈ l, ∀ m, m < 12 → ∀ v ∈ leftM u m, v ∈ l) (hwf : ∀ u ∈ l, (exOf u).wf) {t : Nat} (ht : t ≤ 15)
include hcl hwf ht
theorem relC_bad {X : Ex} {a b : Nat} (h : RelC X a b) (hb : ¬ t.testBit b = true) : ∀ s (hs : s < l.length), exOf l[s] = X → badP (autoL l) t s a (liveF (wkD (autoL l) t)) := by
  induction h with
  | fin ha h =>
    intro s hs e
    exact .inl ⟨by rw [autoL_ends hs, e]; exact h, hb⟩
  | @step X p a b c a' ha hc hp ha' h ih =>
    intro s hs e
    have hpm : p.steps ∈ leftM l[s] (3 * a + c) := by
      unfold leftM partsOfL
      rw [show (3 * a + c) / 3 = a by omega, show (3 * a + c) % 3 = c by omega, e]
      exact mem_partsL.2 ⟨p, hp, rfl⟩
    have hpl : p.steps ∈ l := hcl _ (List.getElem_mem hs) (3 * a + c) (by omega) _ hpm
    obtain ⟨q, hq, eq⟩ := List.getElem_of_mem hpl
    have hpw : p.wf := partsX_wf (x := X) (by rw [← e]; exact hwf _ (List.getElem_mem hs)) _ hp
    have he : exOf l[q] = p := by rw [eq]; exact exOf_steps hpw
    have hbad := ih hb q hq he
    have hlq : (liveF (wkD (autoL l) t)).testBit q = true := by
      have hq' : q < (autoL l).ends.length := by rw [autoL_len]; exact hq
      exact liveF_closed (wkD (autoL l) t) q (by rw [wkD_len]; exact hq') (bad_live ht hq' ha' hbad)
    exact .inr ⟨c, hc, and_pos.2 ⟨q, (autoL_bit hs (by omega)).2 ⟨hq, by rw [eq]; exact hpm⟩, hlq⟩⟩
set_option linter.unusedSectionVars false in
open Classical in
theorem bad_rel {S : Nat} (hS : ∀ q (hq : q < l.length), S.testBit q = true → ∃ a b, RelC (exOf l[q]) a b ∧ ¬ t.testBit b = true) {s a : Nat} (hs : s < l.length) (ha : a < 4) (h : badP (autoL l) t s a S) : ∃ b, RelC (exOf l[s]) a b ∧ ¬ t.testBit b = true := by
  rcases h with ⟨h1, h2⟩ | ⟨c, hc, h⟩
  · rw [autoL_ends hs] at h1
    exact ⟨a, .fin ha h1, h2⟩
  · obtain ⟨q, h1, h2⟩ := and_pos.1 h
    obtain ⟨hq, h3⟩ := (autoL_bit hs (by omega)).1 h1
    obtain ⟨a', b, h4, h5⟩ := hS q hq h2
    unfold leftM partsOfL at h3
    rw [show (3 * a + c) / 3 = a by omega, show (3 * a + c) % 3 = c by omega] at h3
    obtain ⟨p, hp, e⟩ := mem_partsL.1 h3
    have hX : (exOf l[s]).wf := hwf _ (List.getElem_mem hs)
    rw [← e, exOf_steps (partsX_wf hX _ hp)] at h4
    exact ⟨b, .step ha hc hp h4.lt.1 h4, h5⟩
open Classical in
theorem live_rel (q : Nat) (hq : q < l.length) (h : (liveF (wkD (autoL l) t)).testBit q = true) : ∃ a b, RelC (exOf l[q]) a b ∧ ¬ t.testBit b = true := by
  let P : Nat → Bool := fun s => decide (∃ hs : s < l.length, ∃ a b, RelC (exOf l[s]) a b ∧ ¬ t.testBit b = true)
  let T := sumB P l.length
  have hT : ∀ s, T.testBit s = true ↔ ∃ hs : s < l.length, ∃ a b, RelC (exOf l[s]) a b ∧ ¬ t.testBit b = true := by
    intro s
    show (sumB P _).testBit s = true ↔ _
    rw [sumB_testBit, Bool.and_eq_true, decide_eq_true_eq]
    constructor
    · rintro ⟨_, h⟩; exact of_decide_eq_true h
    · rintro ⟨hs, h⟩; exact ⟨hs, decide_eq_true ⟨hs, h⟩⟩
  have hc : ClosedL (wkD (autoL l) t) T := by
    intro k hk hlive
    rw [wkD_len, autoL_len] at hk
    obtain ⟨a, ha, hb⟩ := live_bad ht (by rw [autoL_len]; exact hk) hlive
    obtain ⟨b, hb1, hb2⟩ := bad_rel hcl hwf ht (fun q hq hq2 => ((hT q).1 hq2).2) hk ha hb
    exact (hT k).2 ⟨hk, a, b, hb1, hb2⟩
  exact ((hT q).1 (liveF_forced _ T hc q h)).2
end
section
variable {x : Ex} (hw : x.wf) (hl : x.steps.length ≤ 40) {t : Nat} (ht : t ≤ 15)
include hw hl ht
theorem weak_bit (hn : 0 < (allL x.steps).length) {a : Nat} (ha : a < 4) : (weakN (autoL (allL x.steps)) t).testBit a = true ↔ ∀ b, b < 4 → RelX x a b → t.testBit b = true := by
  have hcl : ∀ u ∈ allL x.steps, ∀ m, m < 12 → ∀ v ∈ leftM u m, v ∈ allL x.steps := fun u hu m hm v hv => allL_closed hw hl hu hm hv
  have hwf : ∀ u ∈ allL x.steps, (exOf u).wf := fun u hu => by
    obtain ⟨y, hy, hy1, hy2⟩ := (allL_left hw u hu).tree
    rw [hy2]; exact hy
  have hh := allL_head x.steps
  generalize allL x.steps = l at hn hcl hwf hh
  have h0 : exOf l[0] = x := by
    rw [List.getElem?_eq_getElem hn] at hh
    rw [Option.some.inj hh]
    exact exOf_steps hw
  unfold weakN
  rw [sumB_testBit, Bool.and_eq_true, decide_eq_true_eq]
  simp only [Bool.not_eq_true', decide_eq_false_iff_not]
  constructor
  · rintro ⟨_, h⟩ b hb hr
    apply Classical.byContradiction
    intro hnb
    exact h (relC_bad hcl hwf ht (relX_C hw ha hb hr) hnb 0 hn h0)
  · intro h
    refine ⟨ha, fun hbad => ?_⟩
    obtain ⟨b, h1, h2⟩ := bad_rel hcl hwf ht (fun q hq hq2 => live_rel hcl hwf ht q hq hq2) hn ha hbad
    rw [h0] at h1
    exact h2 (h b h1.lt.2 (relC_X hw h1))
end

theorem weakN_lt (D : AutoD) (t : Nat) : weakN D t < 16 := sumB_lt _ 4
theorem weakI_bit {e : List Int} {x : Ex} (hw : x.wf) (he : x.steps = e) {q : Int} (h : 0 ≤ weakI (autD e) q) : ∃ t s : Nat, q = (t : Int) ∧ t ≤ 15 ∧ weakI (autD e) q = (s : Int) ∧ s < 16 ∧ ∀ a, a < 4 → (s.testBit a = true ↔ ∀ b, b < 4 → RelX x a b → t.testBit b = true) := by
  subst he
  by_cases g : (autD x.steps).ends.length = 0 ∨ ¬ (0 ≤ q ∧ q ≤ 15)
  · unfold weakI at h; rw [if_pos g] at h; omega
  · have h1 : (autD x.steps).ends.length ≠ 0 := fun e => g (.inl e)
    have h2 : 0 ≤ q ∧ q ≤ 15 := Classical.byContradiction fun e => g (.inr e)
    have hc : katB x.steps = true ∧ (allL x.steps).length ≤ 10 := by
      apply Classical.byContradiction
      intro hc
      rw [autD_no hc] at h1; exact h1 rfl
    have hd := autD_yes hc.1 hc.2
    have hl := (katB_true.1 hc.1).1
    refine ⟨q.toNat, weakN (autD x.steps) q.toNat, by omega, by omega, by unfold weakI; rw [if_neg g], weakN_lt _ _, fun a ha => ?_⟩
    rw [hd] at h1 ⊢
    exact weak_bit hw hl (by omega) (by rw [autoL_len] at h1; omega) ha
theorem sub_bits {m n : Nat} (hm : m < 16) (h : ∀ a, a < 4 → m.testBit a = true → n.testBit a = true) : m &&& n = m := by
  apply Nat.eq_of_testBit_eq
  intro i
  rw [Nat.testBit_and]
  by_cases hi : i < 4
  · cases g : m.testBit i with
    | false => rfl
    | true => rw [h i hi g]; rfl
  · rw [Nat.testBit_lt_two_pow (Nat.lt_of_lt_of_le hm (Nat.pow_le_pow_right (n := 2) (by omega) (show 4 ≤ i by omega)))]; rfl
theorem bits_sub {m n : Nat} (h : m &&& n = m) {a : Nat} (ha : m.testBit a = true) : n.testBit a = true := by
  rw [← h, Nat.testBit_and, Bool.and_eq_true] at ha
  exact ha.2
end Go.Proofs.YtmhiipmajlmlgaaGreat

namespace Go.Proofs.YtmhiipmajlmlgaaGreat
set_option linter.unusedSimpArgs false
set_option linter.unusedVariables false
set_option maxRecDepth 8000
set_option maxHeartbeats 2000000
open Go.RowKit

section
variable {σ : Type} [DecidableEq σ] (stp : σ → Nat → σ)
def addP (l : List σ) (x : σ) : List σ := if x ∈ l then l else l ++ [x]
def prM (l : List σ) (x : σ) : Nat → List σ
  | 0 => l
  | m + 1 => addP (prM l x m) (stp x m)
def prI : Nat → List σ → Nat → Option (List σ)
  | 0, l, _ => some l
  | f + 1, l, k => match l[k]? with
    | none => some l
    | some x => if 100 < (prM stp l x 12).length then none else prI f (prM stp l x 12) (k + 1)
def prF (s0 : σ) : Option (List σ) := prI stp 101 [s0] 0
variable {stp}
theorem addP_mem {l : List σ} {x y : σ} : y ∈ addP l x ↔ y ∈ l ∨ y = x := by
  unfold addP
  split
  · exact ⟨.inl, fun h => by rcases h with h | rfl; exact h; assumption⟩
  · simp
theorem addP_nodup {l : List σ} {x : σ} (h : l.Nodup) : (addP l x).Nodup := by
  unfold addP
  split
  · exact h
  · rename_i hx
    rw [List.nodup_append]
    exact ⟨h, by simp, fun a ha b hb => by simp at hb; subst hb; exact fun e => hx (e ▸ ha)⟩
theorem addP_pre (l : List σ) (x : σ) : l <+: addP l x := by
  unfold addP
  split
  · exact List.prefix_rfl
  · exact ⟨[x], rfl⟩
theorem addP_len (l : List σ) (x : σ) : (addP l x).length ≤ l.length + 1 := by
  unfold addP; split <;> simp
theorem prM_mem {l : List σ} {x y : σ} : ∀ {m : Nat}, y ∈ prM stp l x m ↔ y ∈ l ∨ ∃ j, j < m ∧ y = stp x j
  | 0 => by simp [prM]
  | m + 1 => by
    rw [prM, addP_mem, prM_mem]
    constructor
    · rintro ((h | ⟨j, hj, h⟩) | h)
      · exact .inl h
      · exact .inr ⟨j, by omega, h⟩
      · exact .inr ⟨m, by omega, h⟩
    · rintro (h | ⟨j, hj, h⟩)
      · exact .inl (.inl h)
      · by_cases e : j = m
        · subst e; exact .inr h
        · exact .inl (.inr ⟨j, by omega, h⟩)
theorem prM_nodup {l : List σ} {x : σ} (h : l.Nodup) : ∀ m, (prM stp l x m).Nodup
  | 0 => h
  | m + 1 => addP_nodup (prM_nodup h m)
theorem prM_pre (l : List σ) (x : σ) : ∀ m, l <+: prM stp l x m
  | 0 => List.prefix_rfl
  | m + 1 => (prM_pre l x m).trans (addP_pre _ _)
theorem prM_len (l : List σ) (x : σ) : ∀ m, (prM stp l x m).length ≤ l.length + m
  | 0 => Nat.le_refl _
  | m + 1 => by have := prM_len l x m; have := addP_len (prM stp l x m) (stp x m); rw [prM]; omega
theorem prM_all {p : σ → Prop} (hs : ∀ x m, m < 12 → p x → p (stp x m)) {l : List σ} {x : σ} (hl : ∀ y ∈ l, p y) (hx : p x) {m : Nat} (hm : m ≤ 12) : ∀ y ∈ prM stp l x m, p y := by
  intro y hy
  rcases prM_mem.1 hy with h | ⟨j, hj, rfl⟩
  · exact hl y h
  · exact hs x j (by omega) hx
structure AtP (stp : σ → Nat → σ) (s0 : σ) (k : Nat) (l : List σ) : Prop where
  run : prI stp (101 - k) l k = prF stp s0
  le : k ≤ l.length
  hi : l.length ≤ 100
  nd : l.Nodup
  st : l[0]? = some s0
  cl : ∀ i (h : i < l.length), i < k → ∀ m, m < 12 → stp l[i] m ∈ l
theorem AtP.start (stp : σ → Nat → σ) (s0 : σ) : AtP stp s0 0 [s0] := ⟨by rw [prF], by simp, by simp, by simp, rfl, fun i _ h => by omega⟩
theorem AtP.many {s0 : σ} {k : Nat} {l : List σ} (h : AtP stp s0 k l) (hk : k < l.length) (hm : 100 < (prM stp l l[k] 12).length) : prF stp s0 = none := by
  have hi := h.hi
  rw [← h.run, show 101 - k = (100 - k) + 1 by omega, prI, List.getElem?_eq_getElem hk]
  simp only
  rw [if_pos hm]
theorem AtP.next {s0 : σ} {k : Nat} {l : List σ} (h : AtP stp s0 k l) (hk : k < l.length) (hm : ¬ 100 < (prM stp l l[k] 12).length) : AtP stp s0 (k + 1) (prM stp l l[k] 12) := by
  have hi := h.hi
  obtain ⟨r, hr⟩ := prM_pre (stp := stp) l l[k] 12
  have hmem := fun y => prM_mem (stp := stp) (l := l) (x := l[k]) (y := y) (m := 12)
  have hnd := prM_nodup (stp := stp) (x := l[k]) h.nd 12
  have hrun : prI stp (100 - k) (prM stp l l[k] 12) (k + 1) = prF stp s0 := by
    rw [← h.run, show 101 - k = (100 - k) + 1 by omega, prI, List.getElem?_eq_getElem hk]
    simp only
    rw [if_neg hm]
  generalize prM stp l l[k] 12 = R at hr hmem hnd hrun hm ⊢
  have hpre : ∀ i (hi : i < l.length), R[i]? = some l[i] := fun i hi => by rw [← hr, List.getElem?_append_left hi, List.getElem?_eq_getElem hi]
  have hle : l.length ≤ R.length := by rw [← hr]; simp
  refine ⟨?_, by omega, by omega, hnd, ?_, fun i hi2 hik m hm12 => ?_⟩
  · rw [show 101 - (k + 1) = 100 - k by omega]; exact hrun
  · have h0 := h.st
    have : 0 < l.length := by omega
    rw [hpre 0 this]
    rw [List.getElem?_eq_getElem this] at h0
    exact h0
  · have e : R[i] = l[i]'(by omega) := by
      have := hpre i (by omega)
      rw [List.getElem?_eq_getElem hi2] at this
      exact Option.some.inj this
    rw [e, hmem]
    by_cases g : i = k
    · subst g
      exact .inr ⟨m, hm12, rfl⟩
    · exact .inl (h.cl i (by omega) (by omega) m hm12)
theorem AtP.done {s0 : σ} {k : Nat} {l : List σ} (h : AtP stp s0 k l) (hk : ¬ k < l.length) : prF stp s0 = some l := by
  have hi := h.hi
  have hle := h.le
  rw [← h.run, show 101 - k = (100 - k) + 1 by omega, prI, List.getElem?_eq_none (by omega)]
theorem AtP.ends {s0 : σ} : ∀ (f k : Nat) (l : List σ), 101 - k = f → AtP stp s0 k l → ∀ r, prF stp s0 = some r → AtP stp s0 r.length r
  | 0, k, l, hf, h, r, hr => by have := h.le; have := h.hi; omega
  | f + 1, k, l, hf, h, r, hr => by
    by_cases hk : k < l.length
    · by_cases hm : 100 < (prM stp l l[k] 12).length
      · rw [h.many hk hm] at hr; cases hr
      · exact AtP.ends f (k + 1) _ (by omega) (h.next hk hm) r hr
    · have hd := h.done hk
      rw [hd] at hr
      injection hr with hr
      subst hr
      have hle := h.le
      have : k = l.length := by omega
      rw [← this]; exact this ▸ h
theorem prF_at {s0 : σ} {r : List σ} (h : prF stp s0 = some r) : AtP stp s0 r.length r := AtP.ends 101 0 [s0] (by omega) (AtP.start stp s0) r h
theorem prF_mem {s0 : σ} {r : List σ} (h : prF stp s0 = some r) : s0 ∈ r := List.mem_of_getElem? (prF_at h).st
end

def stepP (A B : AutoD) (p : Nat × Nat) (m : Nat) : Nat × Nat := (behF A p.1 m, behF B p.2 m)
def finP (A B : AutoD) (p : Nat × Nat) : Nat := endF A p.1 ^^^ endF B p.2
def rowP2 (p : Nat × Nat) : List Int := [(p.1 : Int), (p.2 : Int)]
theorem rowP2_inj {p q : Nat × Nat} (h : rowP2 p = rowP2 q) : p = q := by
  simp only [rowP2, List.cons.injEq, and_true] at h
  exact Prod.ext (by omega) (by omega)
def reachP (A B : AutoD) : Option (List (Nat × Nat)) := prF (stepP A B) (1, 1)
def pairsL (A B : AutoD) : List (List Int) := if A.ends.length = 0 ∨ B.ends.length = 0 then [] else match reachP A B with
  | some l => l.map rowP2
  | none => []
theorem pairsL_no {A B : AutoD} (h : A.ends.length = 0 ∨ B.ends.length = 0) : pairsL A B = [] := if_pos h
theorem pairsL_yes {A B : AutoD} (h : ¬ (A.ends.length = 0 ∨ B.ends.length = 0)) {l : List (Nat × Nat)} (hr : reachP A B = some l) : pairsL A B = l.map rowP2 := by unfold pairsL; rw [if_neg h, hr]
theorem pairsL_many {A B : AutoD} (hr : reachP A B = none) : pairsL A B = [] := by unfold pairsL; rw [hr]; split <;> rfl
theorem stepP_lt {A B : AutoD} (hA : AutoOK A) (hB : AutoOK B) {p : Nat × Nat} {m : Nat} (hm : m < 12) : (stepP A B p m).1 < 2 ^ A.ends.length ∧ (stepP A B p m).2 < 2 ^ B.ends.length := ⟨hA.behF_lt _ hm, hB.behF_lt _ hm⟩
theorem finP_zero {A B : AutoD} {p : Nat × Nat} : finP A B p = 0 ↔ endF A p.1 = endF B p.2 := by
  unfold finP
  constructor
  · intro h
    apply Nat.eq_of_testBit_eq
    intro i
    have := congrArg (fun x => x.testBit i) h
    simpa using this
  · intro h; rw [h]; simp
def okP (A B : AutoD) (L : List (List Int)) : Prop := A.ends.length ≠ 0 ∧ B.ends.length ≠ 0 ∧ L.length ≤ 100 ∧ [1, 1] ∈ L ∧ ∀ r ∈ L, ∃ p : Nat × Nat, r = rowP2 p ∧ p.1 < 2 ^ A.ends.length ∧ p.2 < 2 ^ B.ends.length ∧ endF A p.1 = endF B p.2 ∧ ∀ m, m < 12 → rowP2 (stepP A B p m) ∈ L
open Classical in
noncomputable def okB (A B : AutoD) (L : List (List Int)) : Bool := decide (okP A B L)
theorem okB_true {A B : AutoD} {L : List (List Int)} : okB A B L = true ↔ okP A B L := by simp [okB]
theorem okB_false {A B : AutoD} {L : List (List Int)} : okB A B L = false ↔ ¬ okP A B L := by simp [okB]
theorem okB_none {A B : AutoD} {L : List (List Int)} (h : okB A B L = true) (N : Nat) : NoneW (stepP A B) (1, 1) (finP A B) N := by
  obtain ⟨_, _, _, h1, hc⟩ := okB_true.1 h
  have hw : ∀ n c, rowP2 (stA (stepP A B) (1, 1) n c) ∈ L := by
    intro n
    induction n with
    | zero => exact fun c => h1
    | succ n ih =>
      intro c
      obtain ⟨p, hp, _, _, _, hm⟩ := hc _ (ih (c / 12))
      have := rowP2_inj hp
      have h2 := hm (c % 12) (by omega)
      rw [← this] at h2
      exact h2
  intro n _ c ha
  obtain ⟨p, hp, _, _, he, _⟩ := hc _ (hw n (c / 4))
  have e := rowP2_inj hp
  have h2 := ha.2
  rw [show finP A B (stA (stepP A B) (1, 1) n (c / 4)) = 0 from finP_zero.2 (by rw [e]; exact he)] at h2
  simp at h2

end Go.Proofs.YtmhiipmajlmlgaaGreat

namespace Go.Proofs.YtmhiipmajlmlgaaGreat
set_option linter.unusedSimpArgs false
set_option linter.unusedVariables false
set_option maxRecDepth 8000
set_option maxHeartbeats 2000000
open Go.RowKit

structure HasP (A B : AutoD) (L : List (List Int)) (k : Nat) (K : List (Nat × Nat)) : Prop where
  row : ∀ i (h : i < L.length), i < k → ∃ p ∈ K, L[i] = rowP2 p
  mem : ∀ p ∈ K, rowP2 p ∈ L ∧ p.1 < 2 ^ A.ends.length ∧ p.2 < 2 ^ B.ends.length
  len : K.length ≤ k
section
variable {A B : AutoD} {L : List (List Int)} {k : Nat} {K : List (Nat × Nat)}
theorem HasP.zero : HasP A B L 0 [] := ⟨fun i _ h => by omega, fun p hp => by simp at hp, Nat.le_refl _⟩
theorem HasP.old (h : HasP A B L k K) (hk : k < L.length) {p : Nat × Nat} (hp : p ∈ K) (e : L[k] = rowP2 p) : HasP A B L (k + 1) K := by
  refine ⟨fun i hi hik => ?_, h.mem, by have := h.len; omega⟩
  rcases Nat.lt_or_ge i k with g | g
  · exact h.row i hi g
  · obtain rfl : i = k := by omega
    exact ⟨p, hp, e⟩
theorem HasP.new (h : HasP A B L k K) (hk : k < L.length) {p : Nat × Nat} (e : L[k] = rowP2 p) (b1 : p.1 < 2 ^ A.ends.length) (b2 : p.2 < 2 ^ B.ends.length) : HasP A B L (k + 1) (K ++ [p]) := by
  refine ⟨fun i hi hik => ?_, fun q hq => ?_, by have := h.len; simp; omega⟩
  · rcases Nat.lt_or_ge i k with g | g
    · obtain ⟨q, hq, e2⟩ := h.row i hi g
      exact ⟨q, List.mem_append_left _ hq, e2⟩
    · obtain rfl : i = k := by omega
      exact ⟨p, by simp, e⟩
  · rcases List.mem_append.1 hq with g | g
    · exact h.mem q g
    · rw [List.mem_singleton] at g
      subst g
      exact ⟨e ▸ List.getElem_mem hk, b1, b2⟩
theorem HasP.all (h : HasP A B L L.length K) {p : Nat × Nat} : rowP2 p ∈ L ↔ p ∈ K := by
  constructor
  · intro hp
    obtain ⟨i, hi, e⟩ := List.getElem_of_mem hp
    obtain ⟨q, hq, e2⟩ := h.row i hi hi
    rw [e] at e2
    exact rowP2_inj e2 ▸ hq
  · exact fun hp => (h.mem p hp).1
theorem HasP.yes (h : HasP A B L L.length K) (hA : A.ends.length ≠ 0) (hB : B.ends.length ≠ 0) (hL : L.length ≤ 100) (h1 : (1, 1) ∈ K) (hc : ∀ p ∈ K, finP A B p = 0 ∧ ∀ m, m < 12 → stepP A B p m ∈ K) : okB A B L = true := by
  refine okB_true.2 ⟨hA, hB, hL, h.all.2 h1, fun r hr => ?_⟩
  obtain ⟨i, hi, rfl⟩ := List.getElem_of_mem hr
  obtain ⟨p, hp, e⟩ := h.row i hi hi
  obtain ⟨_, b1, b2⟩ := h.mem p hp
  obtain ⟨c1, c2⟩ := hc p hp
  exact ⟨p, e, b1, b2, finP_zero.1 c1, fun m hm => h.all.2 (c2 m hm)⟩
theorem HasP.no_one (h : HasP A B L L.length K) (h1 : (1, 1) ∉ K) : okB A B L = false := okB_false.2 fun ⟨_, _, _, g, _⟩ => h1 (h.all.1 g)
theorem HasP.no_fin (h : HasP A B L L.length K) {p : Nat × Nat} (hp : p ∈ K) (hf : finP A B p ≠ 0) : okB A B L = false := okB_false.2 fun ⟨_, _, _, _, g⟩ => by
  obtain ⟨q, e, _, _, g2, _⟩ := g _ (h.all.2 hp)
  rw [rowP2_inj e] at hf
  exact hf (finP_zero.2 g2)
theorem HasP.no_step (h : HasP A B L L.length K) {p : Nat × Nat} (hp : p ∈ K) {m : Nat} (hm : m < 12) (hf : stepP A B p m ∉ K) : okB A B L = false := okB_false.2 fun ⟨_, _, _, _, g⟩ => by
  obtain ⟨q, e, _, _, _, g2⟩ := g _ (h.all.2 hp)
  rw [rowP2_inj e] at hf
  exact hf (h.all.1 (g2 m hm))
theorem okB_row (hk : k < L.length) (h : ¬ ∃ p : Nat × Nat, L[k] = rowP2 p ∧ p.1 < 2 ^ A.ends.length ∧ p.2 < 2 ^ B.ends.length) : okB A B L = false := okB_false.2 fun ⟨_, _, _, _, g⟩ => by
  obtain ⟨q, e, b1, b2, _⟩ := g _ (List.getElem_mem hk)
  exact h ⟨q, e, b1, b2⟩
theorem okB_len (hk : k < L.length) (h : L[k].length ≠ 2) : okB A B L = false := okB_row hk fun ⟨p, e, _⟩ => h (by rw [e]; rfl)
theorem okB_one {a b : Int} (hk : k < L.length) (e : L[k] = [a, b]) (h : ¬ (0 ≤ a ∧ a < 2 ^ A.ends.length)) : okB A B L = false := okB_row hk fun ⟨p, e2, b1, _⟩ => h (by
  rw [e] at e2
  simp only [rowP2, List.cons.injEq, and_true] at e2
  rw [e2.1]
  refine ⟨by omega, ?_⟩
  have : ((p.1 : Nat) : Int) < ((2 ^ A.ends.length : Nat) : Int) := Int.ofNat_lt.2 b1
  simpa using this)
theorem okB_two {a b : Int} (hk : k < L.length) (e : L[k] = [a, b]) (h : ¬ (0 ≤ b ∧ b < 2 ^ B.ends.length)) : okB A B L = false := okB_row hk fun ⟨p, e2, _, b1⟩ => h (by
  rw [e] at e2
  simp only [rowP2, List.cons.injEq, and_true] at e2
  rw [e2.2]
  refine ⟨by omega, ?_⟩
  have : ((p.2 : Nat) : Int) < ((2 ^ B.ends.length : Nat) : Int) := Int.ofNat_lt.2 b1
  simpa using this)
theorem okB_no (h : ¬ (A.ends.length ≠ 0 ∧ B.ends.length ≠ 0 ∧ L.length ≤ 100 ∧ [1, 1] ∈ L)) : okB A B L = false := okB_false.2 fun ⟨h1, h2, h3, h4, _⟩ => h ⟨h1, h2, h3, h4⟩
def GoodR (A B : AutoD) (L : List (List Int)) (k : Nat) : Prop := ∀ i (h : i < L.length), i < k → ∃ p : Nat × Nat, L[i] = rowP2 p ∧ p.1 < 2 ^ A.ends.length ∧ p.2 < 2 ^ B.ends.length ∧ endF A p.1 = endF B p.2 ∧ ∀ m, m < 12 → rowP2 (stepP A B p m) ∈ L
theorem GoodR.zero : GoodR A B L 0 := fun i _ h => by omega
theorem GoodR.next (h : GoodR A B L k) (hk : k < L.length) {p : Nat × Nat} (e : L[k] = rowP2 p) (b1 : p.1 < 2 ^ A.ends.length) (b2 : p.2 < 2 ^ B.ends.length) (hf : endF A p.1 = endF B p.2) (hs : ∀ m, m < 12 → rowP2 (stepP A B p m) ∈ L) : GoodR A B L (k + 1) := fun i hi hik => by
  rcases Nat.lt_or_ge i k with g | g
  · exact h i hi g
  · obtain rfl : i = k := by omega
    exact ⟨p, e, b1, b2, hf, hs⟩
theorem GoodR.yes (h : GoodR A B L L.length) (hA : A.ends.length ≠ 0) (hB : B.ends.length ≠ 0) (hL : L.length ≤ 100) (h1 : [1, 1] ∈ L) : okB A B L = true := okB_true.2 ⟨hA, hB, hL, h1, fun r hr => by
  obtain ⟨i, hi, rfl⟩ := List.getElem_of_mem hr
  exact h i hi hi⟩
end

noncomputable def diffT (A B : AutoD) : List Int := if pairsL A B = [] then [] else shT (stepP A B) (1, 1) (finP A B)
noncomputable def diffB (A B : AutoD) : Bool := if pairsL A B = [] then false else shB (stepP A B) (1, 1) (finP A B)
noncomputable def equalI (A B : AutoD) : Int := if okB A B (pairsL A B) = true then 1 else if diffB A B = true then 0 else -1
theorem pairsL_nil {A B : AutoD} : pairsL A B = [] ↔ (A.ends.length = 0 ∨ B.ends.length = 0) ∨ reachP A B = none := by
  by_cases h : A.ends.length = 0 ∨ B.ends.length = 0
  · exact ⟨fun _ => .inl h, fun _ => pairsL_no h⟩
  · cases hr : reachP A B with
    | none => exact ⟨fun _ => .inr rfl, fun _ => pairsL_many hr⟩
    | some l =>
      rw [pairsL_yes h hr]
      have := prF_mem hr
      constructor
      · intro e
        rw [List.map_eq_nil_iff] at e
        rw [e] at this; cases this
      · rintro (g | g)
        · exact absurd g h
        · cases g

end Go.Proofs.YtmhiipmajlmlgaaGreat

namespace Go.Proofs.YtmhiipmajlmlgaaGreat
set_option linter.unusedSimpArgs false
set_option linter.unusedVariables false
set_option maxRecDepth 8000
set_option maxHeartbeats 2000000
open Go.RowKit

theorem stP_pair (A B : AutoD) : ∀ n c, stA (stepP A B) (1, 1) n c = (stA (behF A) 1 n c, stA (behF B) 1 n c)
  | 0, _ => rfl
  | n + 1, c => by rw [stA, stP_pair A B n, stA, stA]; rfl

section
variable {l : LL} (hcl : ∀ u ∈ l, ∀ m, m < 12 → ∀ v ∈ leftM u m, v ∈ l) (hwf : ∀ u ∈ l, (exOf u).wf)
include hcl hwf
theorem relC_word {X : Ex} {a b : Nat} (h : RelC X a b) : ∀ q (hq : q < l.length), exOf l[q] = X → ∀ n c, c < 12 ^ n → (stA (behF (autoL l)) 1 n c).testBit q = true → ∃ n' c', c' < 12 ^ n' ∧ (endF (autoL l) (stA (behF (autoL l)) 1 n' c')).testBit b = true := by
  induction h with
  | fin ha h =>
    intro q hq e n c hc hb
    exact ⟨n, c, hc, (endF_bit _ _ _).2 ⟨q, by rw [autoL_len]; exact hq, hb, by rw [autoL_ends hq, e]; exact h⟩⟩
  | @step X p a b k a' ha hk hp ha' h ih =>
    intro q hq e n c hc hb
    have hpm : p.steps ∈ leftM l[q] (3 * a + k) := by
      unfold leftM partsOfL
      rw [show (3 * a + k) / 3 = a by omega, show (3 * a + k) % 3 = k by omega, e]
      exact mem_partsL.2 ⟨p, hp, rfl⟩
    have hpl : p.steps ∈ l := hcl _ (List.getElem_mem hq) (3 * a + k) (by omega) _ hpm
    obtain ⟨q', hq', eq⟩ := List.getElem_of_mem hpl
    have hpw : p.wf := partsX_wf (x := X) (by rw [← e]; exact hwf _ (List.getElem_mem hq)) _ hp
    have he : exOf l[q'] = p := by rw [eq]; exact exOf_steps hpw
    refine ih q' hq' he (n + 1) (c * 12 + (3 * a + k)) (by rw [Nat.pow_succ]; omega) ?_
    rw [stA_succ _ _ _ _ _ (by omega), behF_bit]
    exact ⟨q, by rw [autoL_len]; exact hq, hb, (autoL_bit hq (by omega)).2 ⟨hq', by rw [eq]; exact hpm⟩⟩
set_option linter.unusedSectionVars false in
theorem word_relC (h0 : 0 < l.length) : ∀ n c, ∀ q (hq : q < l.length), (stA (behF (autoL l)) 1 n c).testBit q = true → ∀ a b, RelC (exOf l[q]) a b → ∃ a', RelC (exOf l[0]) a' b
  | 0, c, q, hq, hb, a, b, h => by
    have : q = 0 := (one_bit q).1 hb
    subst this
    exact ⟨a, h⟩
  | n + 1, c, q, hq, hb, a, b, h => by
    rw [stA, behF_bit] at hb
    obtain ⟨i, hi, h1, h2⟩ := hb
    rw [autoL_len] at hi
    obtain ⟨hq2, h3⟩ := (autoL_bit hi (by omega)).1 h2
    unfold leftM partsOfL at h3
    obtain ⟨p, hp, e⟩ := mem_partsL.1 h3
    have hX : (exOf l[i]).wf := hwf _ (List.getElem_mem hi)
    rw [← e, exOf_steps (partsX_wf hX _ hp)] at h
    exact word_relC h0 n (c / 12) i hi h1 (c % 12 / 3) b (.step (by omega) (by omega) hp h.lt.1 h)
end

section
variable {x : Ex} (hw : x.wf) (hA : (autD x.steps).ends.length ≠ 0)
include hw hA
set_option linter.unusedSectionVars false in
theorem autD_parts : autD x.steps = autoL (allL x.steps) ∧ x.steps.length ≤ 40 ∧ 0 < (allL x.steps).length := by
  have hc : katB x.steps = true ∧ (allL x.steps).length ≤ 10 := by
    apply Classical.byContradiction
    intro hc
    rw [autD_no hc] at hA; exact hA rfl
  have hd := autD_yes hc.1 hc.2
  rw [hd, autoL_len] at hA
  exact ⟨hd, (katB_true.1 hc.1).1, by omega⟩
theorem aut_word {a b : Nat} (ha : a < 4) (hb : b < 4) (h : RelX x a b) : ∃ n c, c < 12 ^ n ∧ (endF (autD x.steps) (stA (behF (autD x.steps)) 1 n c)).testBit b = true := by
  obtain ⟨hd, hl, hn⟩ := autD_parts hw hA
  have hcl : ∀ u ∈ allL x.steps, ∀ m, m < 12 → ∀ v ∈ leftM u m, v ∈ allL x.steps := fun u hu m hm v hv => allL_closed hw hl hu hm hv
  have hwf : ∀ u ∈ allL x.steps, (exOf u).wf := fun u hu => by
    obtain ⟨y, hy, hy1, hy2⟩ := (allL_left hw u hu).tree
    rw [hy2]; exact hy
  have hh := allL_head x.steps
  rw [hd]
  generalize allL x.steps = l at hn hcl hwf hh
  have h0 : exOf l[0] = x := by
    rw [List.getElem?_eq_getElem hn] at hh
    rw [Option.some.inj hh]
    exact exOf_steps hw
  exact relC_word hcl hwf (relX_C hw ha hb h) 0 hn h0 0 0 (by simp) ((one_bit 0).2 rfl)
theorem word_aut {n c b : Nat} (h : (endF (autD x.steps) (stA (behF (autD x.steps)) 1 n c)).testBit b = true) (hb : b < 4) : ∃ a, a < 4 ∧ RelX x a b := by
  obtain ⟨hd, hl, hn⟩ := autD_parts hw hA
  have hcl : ∀ u ∈ allL x.steps, ∀ m, m < 12 → ∀ v ∈ leftM u m, v ∈ allL x.steps := fun u hu m hm v hv => allL_closed hw hl hu hm hv
  have hwf : ∀ u ∈ allL x.steps, (exOf u).wf := fun u hu => by
    obtain ⟨y, hy, hy1, hy2⟩ := (allL_left hw u hu).tree
    rw [hy2]; exact hy
  have hh := allL_head x.steps
  rw [hd] at h
  generalize allL x.steps = l at hn hcl hwf hh h
  have h0 : exOf l[0] = x := by
    rw [List.getElem?_eq_getElem hn] at hh
    rw [Option.some.inj hh]
    exact exOf_steps hw
  obtain ⟨q, hq, h1, h2⟩ := (endF_bit _ _ _).1 h
  rw [autoL_len] at hq
  rw [autoL_ends hq] at h2
  obtain ⟨a, ha⟩ := word_relC hcl hwf hn n c q hq h1 b b (.fin hb h2)
  rw [h0] at ha
  exact ⟨a, ha.lt.1, relC_X hw ha⟩
end

theorem zero_rel {a b : Nat} : ¬ RelX (.leaf 0) a b := by
  simp only [RelX]
  rw [if_pos (by omega)]
  rintro ⟨_, h⟩
  simp at h

section
variable {X : Ex} (hw : X.wf) (hA : (autD X.steps).ends.length ≠ 0) (hB : (autD [0]).ends.length ≠ 0)
include hw hA hB
theorem never_differ (hno : ∀ a b, a < 4 → b < 4 → ¬ RelX X a b) : shB (stepP (autD X.steps) (autD [0])) (1, 1) (finP (autD X.steps) (autD [0])) = false := by
  have hno0 : ∀ n c b, b < 4 → (endF (autD [0]) (stA (behF (autD [0])) 1 n c)).testBit b = false := fun n c b hb => by
    cases h : (endF (autD [0]) (stA (behF (autD [0])) 1 n c)).testBit b with
    | false => rfl
    | true =>
      obtain ⟨a, _, h2⟩ := word_aut (x := .leaf 0) (by simp [Ex.wf]) hB h hb
      exact absurd h2 zero_rel
  have hno1 : ∀ n c b, b < 4 → (endF (autD X.steps) (stA (behF (autD X.steps)) 1 n c)).testBit b = false := fun n c b hb => by
    cases h : (endF (autD X.steps) (stA (behF (autD X.steps)) 1 n c)).testBit b with
    | false => rfl
    | true =>
      obtain ⟨a, h1, h2⟩ := word_aut hw hA h hb
      exact absurd h2 (hno a b h1 hb)
  have hN : NoneW (stepP (autD X.steps) (autD [0])) (1, 1) (finP (autD X.steps) (autD [0])) 21 := by
    intro n _ c hacc
    have h2 := hacc.2
    rw [stP_pair] at h2
    unfold finP at h2
    rw [Nat.testBit_xor, hno1 _ _ _ (by omega), hno0 _ _ _ (by omega)] at h2
    cases h2
  exact (ShR.eq (.inr ⟨rfl, rfl, hN⟩)).2.symm
theorem never_equal {a b : Nat} (ha : a < 4) (hb : b < 4) (hr : RelX X a b) (L : List (List Int)) : okB (autD X.steps) (autD [0]) L = false := by
  cases h : okB (autD X.steps) (autD [0]) L with
  | false => rfl
  | true =>
    exfalso
    obtain ⟨n, c, hc, hw1⟩ := aut_word hw hA ha hb hr
    have hN := okB_none h (n + 1) n (by omega) (c * 4 + b)
    refine hN ⟨by omega, ?_⟩
    have e1 : (c * 4 + b) / 4 = c := by omega
    have e2 : (c * 4 + b) % 4 = b := by omega
    rw [e1, e2, stP_pair]
    unfold finP
    rw [Nat.testBit_xor, hw1]
    cases h : (endF (autD [0]) (stA (behF (autD [0])) 1 n c)).testBit b with
    | false => rfl
    | true =>
      obtain ⟨a', _, h2⟩ := word_aut (x := .leaf 0) (by simp [Ex.wf]) hB h hb
      exact absurd h2 zero_rel
end

def tripE (p : Int) (x : Ex) (q : Int) : Ex := .thn (.thn (.leaf p) x) (.leaf (15 - q))
theorem not_bit {q : Nat} (hq : q ≤ 15) {b : Nat} (hb : b < 4) : ((15 : Int) - (q : Int)).toNat.testBit b = !q.testBit b := by
  have hq' : ∀ q, q < 16 → ∀ b, b < 4 → ((15 : Int) - ((q : Nat) : Int)).toNat.testBit b = !q.testBit b := by decide
  exact hq' q (by omega) b hb
theorem trip_rel {x : Ex} {p q : Nat} (hp : p ≤ 15) (hq : q ≤ 15) {a b : Nat} (ha : a < 4) (hb : b < 4) : RelX (tripE p x q) a b ↔ p.testBit a = true ∧ RelX x a b ∧ q.testBit b = false := by
  simp only [tripE, RelX]
  have e1 : (p : Int) ≤ 15 := by omega
  have e2 : (15 : Int) - (q : Int) ≤ 15 := by omega
  simp only [e1, e2, if_true]
  constructor
  · rintro ⟨c, hc, ⟨d, hd, ⟨rfl, h1⟩, h2⟩, rfl, h3⟩
    rw [Int.toNat_natCast] at h1
    rw [not_bit hq hb] at h3
    exact ⟨h1, h2, by simpa using h3⟩
  · rintro ⟨h1, h2, h3⟩
    exact ⟨b, hb, ⟨a, ha, ⟨rfl, by rw [Int.toNat_natCast]; exact h1⟩, h2⟩, rfl, by rw [not_bit hq hb, h3]; rfl⟩
theorem trip_law {x : Ex} (hw : x.wf) {p q : Nat} (hp : p ≤ 15) (hq : q ≤ 15) {s : Nat} (hs : weakI (autD x.steps) (q : Int) = (s : Int)) : (p &&& s = p → ∀ a b, a < 4 → b < 4 → ¬ RelX (tripE p x q) a b) ∧ (¬ p &&& s = p → ∃ a b, a < 4 ∧ b < 4 ∧ RelX (tripE p x q) a b) := by
  obtain ⟨t, s', e0, ht, e, hs', hbit⟩ := weakI_bit (x := x) hw rfl (q := (q : Int)) (by omega)
  have : t = q := by omega
  subst this
  have : s' = s := by omega
  subst this
  constructor
  · intro h a b ha hb hr
    obtain ⟨h1, h2, h3⟩ := (trip_rel hp hq ha hb).1 hr
    have := (hbit a ha).1 (bits_sub h h1) b hb h2
    rw [h3] at this; cases this
  · intro h
    apply Classical.byContradiction
    intro hno
    refine h (sub_bits (by omega) fun a ha h1 => (hbit a ha).2 fun b hb hr => ?_)
    cases h3 : t.testBit b with
    | true => rfl
    | false => exact absurd ⟨a, b, ha, hb, (trip_rel hp hq ha hb).2 ⟨h1, hr, h3⟩⟩ hno

end Go.Proofs.YtmhiipmajlmlgaaGreat

namespace Go.Proofs.YtmhiipmajlmlgaaGreat
set_option linter.unusedSimpArgs false
set_option linter.unusedVariables false
set_option maxRecDepth 8000
set_option maxHeartbeats 2000000
open Go.RowKit

theorem equalI_no {A B : AutoD} (h : A.ends.length = 0 ∨ B.ends.length = 0) : equalI A B = -1 := by
  have h1 : okB A B (pairsL A B) = false := okB_no fun g => by
    rcases h with h | h
    · exact g.1 h
    · exact g.2.1 h
  have h2 : diffB A B = false := if_pos (pairsL_no h)
  unfold equalI
  rw [h1, h2]
  rfl
theorem trip_equal {x : Ex} (hw : x.wf) {p q : Nat} (hp : p ≤ 15) (hq : q ≤ 15) {s : Nat} (hs : weakI (autD x.steps) (q : Int) = (s : Int)) (hw' : (tripE p x q).wf) : (p &&& s = p → equalI (autD (tripE p x q).steps) (autD [0]) ≠ 0) ∧ (¬ p &&& s = p → equalI (autD (tripE p x q).steps) (autD [0]) ≠ 1) := by
  have hl := trip_law hw hp hq hs
  generalize tripE p x q = X at hl hw'
  by_cases hA : (autD X.steps).ends.length = 0
  · rw [equalI_no (.inl hA)]
    exact ⟨fun _ => by decide, fun _ => by decide⟩
  by_cases hB : (autD [0]).ends.length = 0
  · rw [equalI_no (.inr hB)]
    exact ⟨fun _ => by decide, fun _ => by decide⟩
  constructor
  · intro h e
    have h1 := never_differ hw' hA hB (hl.1 h)
    have h2 : diffB (autD X.steps) (autD [0]) = false := by
      unfold diffB
      split
      · rfl
      · exact h1
    unfold equalI at e
    rw [h2, if_neg Bool.false_ne_true] at e
    split at e <;> cases e
  · intro h e
    obtain ⟨a, b, ha, hb, hr⟩ := hl.2 h
    have h1 := never_equal hw' hA hB ha hb hr (pairsL (autD X.steps) (autD [0]))
    unfold equalI at e
    rw [h1, if_neg Bool.false_ne_true] at e
    split at e <;> cases e
noncomputable def trip1 (p : Int) (e : List Int) : List Int := if thB [p] e then [p] ++ (e ++ [19]) else []
noncomputable def trip2 (p : Int) (e : List Int) (n : Int) : List Int := if thB (trip1 p e) [n] then trip1 p e ++ ([n] ++ [19]) else []
theorem thB_len {a b : List Int} (h : thB a b = true) : a.length + b.length + 1 ≤ 40 := by
  unfold thB at h
  rw [Bool.and_eq_true] at h
  have := (katB_true.1 h.2).1
  simp only [List.length_append, List.length_cons, List.length_nil] at this
  omega
theorem trip1_len (p : Int) (e : List Int) : (trip1 p e).length ≤ 40 := by
  unfold trip1
  split
  · have := thB_len (by assumption)
    simp at this ⊢
    omega
  · simp
theorem trip2_len (p : Int) (e : List Int) (n : Int) : (trip2 p e n).length ≤ 50 := by
  have := trip1_len p e
  unfold trip2
  split
  · simp; omega
  · simp
theorem trip2_steps {p q : Nat} {x : Ex} (hw : x.wf) (hp : p ≤ 15) (hq : q ≤ 15) (h : thB (trip1 p x.steps) [(15 : Int) - (q : Int)] = true) : trip2 p x.steps (15 - (q : Int)) = (tripE p x q).steps ∧ (tripE p x q).wf := by
  have h1 : thB [(p : Int)] x.steps = true := by
    apply Classical.byContradiction
    intro g
    unfold trip1 at h
    rw [if_neg g] at h
    unfold thB at h
    rw [Bool.and_eq_true, Bool.and_eq_true] at h
    obtain ⟨x, hw, e, _⟩ := katB_tree h.1.1
    have := x.steps_pos
    rw [e] at this
    simp at this
  constructor
  · unfold trip2
    rw [if_pos h]
    unfold trip1
    rw [if_pos h1]
    rfl
  · simp only [tripE, Ex.wf]
    refine ⟨⟨?_, hw⟩, ?_⟩ <;> omega

end Go.Proofs.YtmhiipmajlmlgaaGreat
