/- Which traces an expression has; its parts, one after the other, tell the same. No program in sight. -/
import Derived.Test.YtehdfifncbokeaaGreatGrpR
namespace Go.Proofs.YtehdfifncbokeaaGreat
set_option linter.unusedSimpArgs false
set_option linter.unusedVariables false
set_option maxRecDepth 8000
set_option maxHeartbeats 2000000
open Go.RowKit

inductive StarN (R : Nat → Nat → Prop) : Nat → Nat → Prop where
  | refl (a : Nat) : StarN R a a
  | step {a b c : Nat} (hl : a < b) (h : R a b) (t : StarN R b c) : StarN R a c
theorem StarN.le {R : Nat → Nat → Prop} {a b : Nat} (h : StarN R a b) : a ≤ b := by
  induction h with
  | refl a => exact Nat.le_refl _
  | step hl h t ih => omega
theorem StarN.inv {R : Nat → Nat → Prop} {a b : Nat} : StarN R a b ↔ a = b ∨ ∃ c, a < c ∧ c ≤ b ∧ R a c ∧ StarN R c b := by
  constructor
  · intro h
    cases h with
    | refl a => exact .inl rfl
    | step hl h t => exact .inr ⟨_, hl, t.le, h, t⟩
  · rintro (rfl | ⟨c, h1, _, h2, h3⟩)
    · exact .refl _
    · exact .step h1 h2 h3

def Lg (t : List Int) : Ex → Nat → Nat → Prop
  | .leaf n, a, b => if n ≤ 15 then a = b ∧ n.toNat.testBit (nth t (2 * a)).toNat = true else b = a + 1 ∧ nth t (2 * a + 1) = n
  | .thn x y, a, b => ∃ c, a ≤ c ∧ c ≤ b ∧ Lg t x a c ∧ Lg t y c b
  | .pls x y, a, b => Lg t x a b ∨ Lg t y a b
  | .str x, a, b => StarN (Lg t x) a b

def TrV (t : List Int) (n : Nat) : Prop := (∀ i, i ≤ n → 0 ≤ nth t (2 * i) ∧ nth t (2 * i) ≤ 3) ∧ ∀ i, i < n → 16 ≤ nth t (2 * i + 1) ∧ nth t (2 * i + 1) ≤ 18
theorem TraceOK.trV {t : List Int} (h : TraceOK t) : TrV t (t.length / 2) := ⟨fun i hi => h.atoms i (by have := h.odd; omega), fun i hi => h.acts i (by have := h.odd; omega)⟩
theorem TrV.bit {t : List Int} {n : Nat} (h : TrV t n) {i : Nat} (hi : i ≤ n) : (nth t (2 * i)).toNat < 4 := by have := h.1 i hi; omega
theorem TrV.mono {t : List Int} {n m : Nat} (h : TrV t n) (hm : m ≤ n) : TrV t m := ⟨fun i hi => h.1 i (by omega), fun i hi => h.2 i (by omega)⟩

theorem Lg.le {t : List Int} : ∀ {x : Ex} {a b : Nat}, Lg t x a b → a ≤ b
  | .leaf n, a, b, h => by
    simp only [Lg] at h
    split at h
    · omega
    · omega
  | .thn x y, a, b, ⟨c, h1, h2, _, _⟩ => by omega
  | .pls x y, a, b, h => by
    rcases h with h | h
    · exact Lg.le h
    · exact Lg.le h
  | .str x, a, b, h => StarN.le h

theorem lg_end {t : List Int} {n : Nat} (ht : TrV t n) : ∀ {x : Ex} {a : Nat}, a ≤ n → (Lg t x a a ↔ (endX x).testBit (nth t (2 * a)).toNat = true)
  | .leaf m, a, ha => by
    simp only [Lg, endX]
    by_cases g : m ≤ 15
    · rw [if_pos g, if_pos g]; simp
    · rw [if_neg g, if_neg g]; simp
  | .thn x y, a, ha => by
    simp only [Lg, endX, Nat.testBit_and, Bool.and_eq_true]
    rw [← lg_end ht (x := x) ha, ← lg_end ht (x := y) ha]
    constructor
    · rintro ⟨c, h1, h2, h3, h4⟩
      have : c = a := by omega
      subst this; exact ⟨h3, h4⟩
    · rintro ⟨h3, h4⟩; exact ⟨a, Nat.le_refl _, Nat.le_refl _, h3, h4⟩
  | .pls x y, a, ha => by
    simp only [Lg, endX, Nat.testBit_or, Bool.or_eq_true]
    rw [← lg_end ht (x := x) ha, ← lg_end ht (x := y) ha]
  | .str x, a, ha => by
    simp only [Lg, endX]
    exact ⟨fun _ => bit15 (ht.bit ha), fun _ => .refl a⟩

theorem lg_leaf15 {t : List Int} {n : Nat} (ht : TrV t n) {a b : Nat} (ha : a ≤ n) : Lg t (.leaf 15) a b ↔ a = b := by
  simp only [Lg]
  rw [if_pos (by omega)]
  exact ⟨fun h => h.1, fun h => ⟨h, bit15 (ht.bit ha)⟩⟩
theorem lg_beh {t : List Int} {n : Nat} (ht : TrV t n) {p y : Ex} {a b : Nat} (ha : a ≤ n) : Lg t (behX p y) a b ↔ ∃ c, a ≤ c ∧ c ≤ b ∧ Lg t p a c ∧ Lg t y c b := by
  rcases behX_cases p y with ⟨rfl, e⟩ | e
  · rw [e]
    constructor
    · intro h; exact ⟨a, Nat.le_refl _, h.le, (lg_leaf15 ht ha).2 rfl, h⟩
    · rintro ⟨c, h1, h2, h3, h4⟩
      rw [lg_leaf15 ht ha] at h3
      subst h3; exact h4
  · rw [e]; exact Iff.rfl

theorem lg_step {t : List Int} {n : Nat} (ht : TrV t n) : ∀ {x : Ex}, x.wf → ∀ {a b : Nat}, a < b → b ≤ n → (Lg t x a b ↔ ∃ p ∈ partsX (nth t (2 * a)).toNat (nth t (2 * a + 1)) x, Lg t p (a + 1) b)
  | .leaf m, hw, a, b, hab, hb => by
    have hac := ht.2 a (by omega)
    simp only [Lg, partsX]
    by_cases g : m ≤ 15
    · rw [if_pos g, if_neg (by omega)]
      constructor
      · rintro ⟨h, _⟩; omega
      · rintro ⟨p, hp, _⟩; cases hp
    · rw [if_neg g]
      constructor
      · rintro ⟨h1, h2⟩
        rw [if_pos h2.symm]
        exact ⟨.leaf 15, by simp, (lg_leaf15 ht (by omega)).2 h1.symm⟩
      · rintro ⟨p, hp, h⟩
        split at hp
        · rename_i h2
          obtain rfl := List.mem_singleton.1 hp
          exact ⟨((lg_leaf15 ht (by omega)).1 h).symm, h2.symm⟩
        · cases hp
  | .pls x y, hw, a, b, hab, hb => by
    simp only [Lg, partsX]
    rw [lg_step ht hw.1 hab hb, lg_step ht hw.2 hab hb]
    constructor
    · rintro (⟨p, hp, h⟩ | ⟨p, hp, h⟩)
      · exact ⟨p, List.mem_append_left _ hp, h⟩
      · exact ⟨p, List.mem_append_right _ hp, h⟩
    · rintro ⟨p, hp, h⟩
      rcases List.mem_append.1 hp with hp | hp
      · exact .inl ⟨p, hp, h⟩
      · exact .inr ⟨p, hp, h⟩
  | .thn x y, hw, a, b, hab, hb => by
    simp only [partsX]
    constructor
    · rintro ⟨c, h1, h2, h3, h4⟩
      by_cases hc : a = c
      · subst hc
        have he := (lg_end ht (by omega)).1 h3
        rw [if_pos he]
        obtain ⟨p, hp, h⟩ := (lg_step ht hw.2 hab hb).1 h4
        exact ⟨p, List.mem_append_right _ hp, h⟩
      · obtain ⟨p, hp, h⟩ := (lg_step ht hw.1 (show a < c by omega) (by omega)).1 h3
        exact ⟨_, List.mem_append_left _ (List.mem_map.2 ⟨p, hp, rfl⟩), (lg_beh ht (by omega)).2 ⟨c, by omega, h2, h, h4⟩⟩
    · rintro ⟨q, hq, h⟩
      rcases List.mem_append.1 hq with hq | hq
      · obtain ⟨p, hp, rfl⟩ := List.mem_map.1 hq
        obtain ⟨c, h1, h2, h3, h4⟩ := (lg_beh ht (by omega)).1 h
        exact ⟨c, by omega, h2, (lg_step ht hw.1 (show a < c by omega) (by omega)).2 ⟨p, hp, h3⟩, h4⟩
      · split at hq
        · rename_i he
          exact ⟨a, Nat.le_refl _, by omega, (lg_end ht (by omega)).2 he, (lg_step ht hw.2 hab hb).2 ⟨q, hq, h⟩⟩
        · cases hq
  | .str x, hw, a, b, hab, hb => by
    have hw' : x.wf := hw
    simp only [partsX]
    constructor
    · intro h
      have h' : StarN (Lg t x) a b := h
      rcases StarN.inv.1 h' with e | ⟨c, h1, h2, h3, h4⟩
      · omega
      · obtain ⟨p, hp, h⟩ := (lg_step ht hw' h1 (by omega)).1 h3
        exact ⟨_, List.mem_map.2 ⟨p, hp, rfl⟩, (lg_beh ht (by omega)).2 ⟨c, by omega, h2, h, h4⟩⟩
    · rintro ⟨q, hq, h⟩
      obtain ⟨p, hp, rfl⟩ := List.mem_map.1 hq
      obtain ⟨c, h1, h2, h3, h4⟩ := (lg_beh ht (by omega)).1 h
      exact StarN.step (show a < c by omega) ((lg_step ht hw' (show a < c by omega) (by omega)).2 ⟨p, hp, h3⟩) h4

open Classical in
noncomputable def lgB (t : List Int) (x : Ex) (a b : Nat) : Bool := decide (Lg t x a b)
theorem lgB_true {t : List Int} {x : Ex} {a b : Nat} : lgB t x a b = true ↔ Lg t x a b := by simp [lgB]
theorem lgB_false {t : List Int} {x : Ex} {a b : Nat} : lgB t x a b = false ↔ ¬ Lg t x a b := by simp [lgB]
open Classical in
noncomputable def trcB (e t : List Int) : Bool := decide (katB e = true ∧ TraceOK t ∧ Lg t (exOf e) 0 (t.length / 2))
theorem trcB_true {e t : List Int} : trcB e t = true ↔ katB e = true ∧ TraceOK t ∧ Lg t (exOf e) 0 (t.length / 2) := by simp [trcB]

theorem lg_setTo {x : Ex} (hx : x.wf) {t : List Int} (ht : TraceOK t) : ∀ k, k ≤ t.length / 2 → (Lg t x 0 (t.length / 2) ↔ ∃ p ∈ setTo x.steps t k, Lg t (exOf p) k (t.length / 2))
  | 0, _ => by
    simp only [setTo, List.mem_cons, List.not_mem_nil, or_false, exists_eq_left, exOf_steps hx]
  | k + 1, hk => by
    have hV := ht.trV
    have hac := hV.2 k (by omega)
    rw [lg_setTo hx ht k (by omega)]
    have hsl := (setTo_left hx ht k (by omega)).1
    constructor
    · rintro ⟨p, hp, h⟩
      obtain ⟨y, hy, rfl, e⟩ := (hsl p hp).tree
      rw [e] at h
      obtain ⟨q, hq, hl⟩ := (lg_step hV hy (by omega) (Nat.le_refl _)).1 h
      refine ⟨q.steps, ?_, by rw [exOf_steps (partsX_wf hy q hq)]; exact hl⟩
      rw [setTo, stepS, mem_ordL]
      exact List.mem_flatMap.2 ⟨_, hp, by rw [partsOfL_steps hy]; exact mem_partsL.2 ⟨q, hq, rfl⟩⟩
    · rintro ⟨s, hs, h⟩
      rw [setTo, stepS, mem_ordL] at hs
      obtain ⟨p, hp, hq⟩ := List.mem_flatMap.1 hs
      obtain ⟨y, hy, rfl, e⟩ := (hsl p hp).tree
      rw [partsOfL_steps hy] at hq
      obtain ⟨q, hqw, rfl, hqm⟩ := mem_partsL_wf hy hq
      rw [exOf_steps hqw] at h
      exact ⟨y.steps, hp, by rw [e]; exact (lg_step hV hy (by omega) (Nat.le_refl _)).2 ⟨q, hqm, h⟩⟩
theorem lg_last {x : Ex} (hx : x.wf) {t : List Int} (ht : TraceOK t) : Lg t x 0 (t.length / 2) ↔ ∃ p ∈ setTo x.steps t (t.length / 2), (endX (exOf p)).testBit (nth t (t.length - 1)).toNat = true := by
  rw [lg_setTo hx ht _ (Nat.le_refl _)]
  have ho := ht.odd
  have e : 2 * (t.length / 2) = t.length - 1 := by omega
  constructor
  · rintro ⟨p, hp, h⟩
    exact ⟨p, hp, by have := (lg_end ht.trV (Nat.le_refl _)).1 h; rwa [e] at this⟩
  · rintro ⟨p, hp, h⟩
    exact ⟨p, hp, (lg_end ht.trV (Nat.le_refl _)).2 (by rwa [e])⟩
theorem trb_trc (e t : List Int) : trbB e t = trcB e t := by
  rw [Bool.eq_iff_iff, trbB_true, trcB_true]
  constructor
  · rintro ⟨h1, h2, h3⟩
    obtain ⟨x, hw, rfl, _⟩ := katB_tree h1
    rw [exOf_steps hw]
    exact ⟨h1, h2, (lg_last hw h2).2 h3⟩
  · rintro ⟨h1, h2, h3⟩
    obtain ⟨x, hw, rfl, _⟩ := katB_tree h1
    rw [exOf_steps hw] at h3
    exact ⟨h1, h2, (lg_last hw h2).1 h3⟩

end Go.Proofs.YtehdfifncbokeaaGreat
