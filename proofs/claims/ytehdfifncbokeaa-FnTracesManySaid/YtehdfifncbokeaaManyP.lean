/- The short traces of an expression, in order: how they come from those of its parts; how many there are. No program in sight. -/
import Derived.Test.YtehdfifncbokeaaLangP
import Derived.Test.YtehdfifncbokeaaTrsP
import Derived.Test.YtehdfifncbokeaaBack
namespace Go.Proofs.Ytehdfifncbokeaa
set_option linter.unusedSimpArgs false
set_option linter.unusedVariables false
set_option maxRecDepth 8000
set_option maxHeartbeats 2000000
open Go.RowKit

def LocQ (Q : List Int → Nat → Nat → Prop) : Prop := ∀ (t t' : List Int) (d a b : Nat), a ≤ b → (∀ i, 2 * a ≤ i → i ≤ 2 * b → nth t i = nth t' (i + 2 * d)) → (Q t a b → Q t' (a + d) (b + d)) ∧ (Q t' (a + d) (b + d) → Q t a b)
theorem starN_loc {Q : List Int → Nat → Nat → Prop} (hl : LocQ Q) : LocQ fun t => StarN (Q t) := by
  intro t t' d a b hab h
  constructor
  · intro hs
    induction hs with
    | refl a => exact .refl _
    | @step a c b hlt hr hs ih =>
      have hcb := hs.le
      exact .step (by omega) ((hl t t' d a c (by omega) fun i h1 h2 => h i h1 (by omega)).1 hr) (ih hcb fun i h1 h2 => h i (by omega) h2)
  · intro hs
    generalize ha' : a + d = a' at hs
    generalize hb' : b + d = b' at hs
    induction hs generalizing a with
    | refl a' =>
      have : a = b := by omega
      subst this; exact .refl _
    | @step a' c' b' hlt hr hs ih =>
      have hcb := hs.le
      obtain ⟨c, rfl⟩ : ∃ c, c' = c + d := ⟨c' - d, by omega⟩
      subst ha'
      exact .step (by omega) ((hl t t' d a c (by omega) fun i h1 h2 => h i h1 (by omega)).2 hr) (ih c (by omega) (fun i h1 h2 => h i (by omega) h2) rfl hb')
theorem lg_loc : ∀ x : Ex, LocQ fun t => Lg t x
  | .leaf n => by
    intro t t' d a b hab h
    simp only [Lg]
    by_cases g : n ≤ 15
    · rw [if_pos g, if_pos g]
      have h0 := h (2 * a) (by omega) (by omega)
      rw [show 2 * (a + d) = 2 * a + 2 * d by omega, ← h0]
      exact ⟨fun ⟨h1, h2⟩ => ⟨by omega, h2⟩, fun ⟨h1, h2⟩ => ⟨by omega, h2⟩⟩
    · rw [if_neg g, if_neg g]
      constructor
      · rintro ⟨h1, h2⟩
        have h0 := h (2 * a + 1) (by omega) (by omega)
        exact ⟨by omega, by rw [show 2 * (a + d) + 1 = 2 * a + 1 + 2 * d by omega, ← h0]; exact h2⟩
      · rintro ⟨h1, h2⟩
        have h0 := h (2 * a + 1) (by omega) (by omega)
        exact ⟨by omega, by rw [h0, show 2 * a + 1 + 2 * d = 2 * (a + d) + 1 by omega]; exact h2⟩
  | .pls x y => by
    intro t t' d a b hab h
    have hx := lg_loc x t t' d a b hab h
    have hy := lg_loc y t t' d a b hab h
    exact ⟨fun g => g.imp hx.1 hy.1, fun g => g.imp hx.2 hy.2⟩
  | .thn x y => by
    intro t t' d a b hab h
    constructor
    · rintro ⟨c, h1, h2, h3, h4⟩
      exact ⟨c + d, by omega, by omega, (lg_loc x t t' d a c h1 fun i g1 g2 => h i g1 (by omega)).1 h3, (lg_loc y t t' d c b h2 fun i g1 g2 => h i (by omega) g2).1 h4⟩
    · rintro ⟨c', h1, h2, h3, h4⟩
      obtain ⟨c, rfl⟩ : ∃ c, c' = c + d := ⟨c' - d, by omega⟩
      exact ⟨c, by omega, by omega, (lg_loc x t t' d a c (by omega) fun i g1 g2 => h i g1 (by omega)).2 h3, (lg_loc y t t' d c b (by omega) fun i g1 g2 => h i (by omega) g2).2 h4⟩
  | .str x => starN_loc (lg_loc x)

def jnL (u v : List Int) : List Int := u ++ v.drop 1
def JnOK (u v : List Int) : Prop := TraceOK u ∧ TraceOK v ∧ nth u (u.length - 1) = nth v 0 ∧ TraceOK (jnL u v)
theorem nth_app_l {u w : List Int} {i : Nat} (h : i < u.length) : nth (u ++ w) i = nth u i := by
  simp [nth, List.getElem?_append_left h]
theorem nth_jn {u v : List Int} (hu : u.length ≠ 0) (h : nth u (u.length - 1) = nth v 0) (i : Nat) : nth (jnL u v) (i + (u.length - 1)) = nth v i := by
  unfold jnL
  cases i with
  | zero => rw [Nat.zero_add, nth_app_l (by omega), h]
  | succ i =>
    show (u ++ v.drop 1).getD _ 0 = v.getD _ 0
    simp only [List.getD_eq_getElem?_getD]
    rw [List.getElem?_append_right (by omega), List.getElem?_drop]
    congr 2
    omega
theorem nth_take {t : List Int} {n i : Nat} (h : i < n) : nth (t.take n) i = nth t i := by
  show (t.take n).getD _ 0 = t.getD _ 0
  simp only [List.getD_eq_getElem?_getD, List.getElem?_take, h, if_true]
theorem nth_drop (t : List Int) (n i : Nat) : nth (t.drop n) i = nth t (i + n) := by
  show (t.drop n).getD _ 0 = t.getD _ 0
  simp only [List.getD_eq_getElem?_getD, List.getElem?_drop, Nat.add_comm]
theorem TraceOK.take {t : List Int} (h : TraceOK t) {c : Nat} (hc : 2 * c < t.length) : TraceOK (t.take (2 * c + 1)) := by
  have hl : (t.take (2 * c + 1)).length = 2 * c + 1 := by rw [List.length_take]; omega
  have := h.len
  exact ⟨by omega, by omega, fun k hk => by rw [nth_take (by omega)]; exact h.atoms k (by omega), fun k hk => by rw [nth_take (by omega)]; exact h.acts k (by omega)⟩
theorem TraceOK.drop {t : List Int} (h : TraceOK t) {c : Nat} (hc : 2 * c < t.length) : TraceOK (t.drop (2 * c)) := by
  have hl : (t.drop (2 * c)).length = t.length - 2 * c := List.length_drop
  have := h.len
  have := h.odd
  refine ⟨by omega, by omega, fun k hk => ?_, fun k hk => ?_⟩
  · rw [nth_drop, show 2 * k + 2 * c = 2 * (k + c) by omega]; exact h.atoms _ (by omega)
  · rw [nth_drop, show 2 * k + 1 + 2 * c = 2 * (k + c) + 1 by omega]; exact h.acts _ (by omega)

def Tset (m : Nat) (Q : List Int → Nat → Nat → Prop) (t : List Int) : Prop := TraceOK t ∧ t.length ≤ 2 * m + 1 ∧ Q t 0 (t.length / 2)
def ThenQ (Q R : List Int → Nat → Nat → Prop) : List Int → Nat → Nat → Prop := fun t a b => ∃ c, a ≤ c ∧ c ≤ b ∧ Q t a c ∧ R t c b
theorem thenQ_loc {Q R : List Int → Nat → Nat → Prop} (hQ : LocQ Q) (hR : LocQ R) : LocQ (ThenQ Q R) := by
  intro t t' d a b hab h
  constructor
  · rintro ⟨c, h1, h2, h3, h4⟩
    exact ⟨c + d, by omega, by omega, (hQ t t' d a c h1 fun i g1 g2 => h i g1 (by omega)).1 h3, (hR t t' d c b h2 fun i g1 g2 => h i (by omega) g2).1 h4⟩
  · rintro ⟨c', h1, h2, h3, h4⟩
    obtain ⟨c, rfl⟩ : ∃ c, c' = c + d := ⟨c' - d, by omega⟩
    exact ⟨c, by omega, by omega, (hQ t t' d a c (by omega) fun i g1 g2 => h i g1 (by omega)).2 h3, (hR t t' d c b (by omega) fun i g1 g2 => h i (by omega) g2).2 h4⟩

open Classical in
noncomputable def jn1 (m : Nat) (u v : List Int) : LL := if JnOK u v ∧ (jnL u v).length ≤ 2 * m + 1 then [jnL u v] else []
theorem mem_jn1 {m : Nat} {u v t : List Int} : t ∈ jn1 m u v ↔ JnOK u v ∧ (jnL u v).length ≤ 2 * m + 1 ∧ t = jnL u v := by
  unfold jn1
  split
  · rename_i h
    rw [List.mem_singleton]
    exact ⟨fun e => ⟨h.1, h.2, e⟩, fun e => e.2.2⟩
  · rename_i h
    constructor
    · intro h'; cases h'
    · rintro ⟨h1, h2, _⟩; exact absurd ⟨h1, h2⟩ h
noncomputable def fuseL (A B : LL) (m : Nat) : LL := ordL (A.flatMap fun u => B.flatMap fun v => jn1 m u v)
theorem mem_fuse {A B : LL} {m : Nat} {Q R : List Int → Nat → Nat → Prop} (hA : ∀ t, t ∈ A ↔ Tset m Q t) (hB : ∀ t, t ∈ B ↔ Tset m R t) (hQ : LocQ Q) (hR : LocQ R) (t : List Int) : t ∈ fuseL A B m ↔ Tset m (ThenQ Q R) t := by
  unfold fuseL
  rw [mem_ordL]
  simp only [List.mem_flatMap, mem_jn1]
  constructor
  · rintro ⟨u, hu, v, hv, ⟨h1, h2, h3, h4⟩, hl, rfl⟩
    obtain ⟨_, hul, hq⟩ := (hA u).1 hu
    obtain ⟨_, hvl, hr⟩ := (hB v).1 hv
    have o1 := h1.odd
    have o2 := h2.odd
    have hlen : (jnL u v).length = u.length + v.length - 1 := by unfold jnL; simp; omega
    refine ⟨h4, hl, u.length / 2, by omega, by omega, ?_, ?_⟩
    · exact ((hQ u (jnL u v) 0 0 (u.length / 2) (by omega) fun i _ h => by unfold jnL; rw [Nat.mul_zero, Nat.add_zero, nth_app_l (by omega)])).1 hq
    · have e := (hR v (jnL u v) (u.length / 2) 0 (v.length / 2) (by omega) fun i _ h => by
        rw [show i + 2 * (u.length / 2) = i + (u.length - 1) by omega, nth_jn (by omega) h3]).1 hr
      rw [Nat.zero_add] at e
      rw [show (jnL u v).length / 2 = v.length / 2 + u.length / 2 by omega]
      exact e
  · rintro ⟨hT, hl, c, _, hc, hq, hr⟩
    have ho := hT.odd
    have hc2 : 2 * c < t.length := by omega
    have hul : (t.take (2 * c + 1)).length = 2 * c + 1 := by rw [List.length_take]; omega
    have hvl : (t.drop (2 * c)).length = t.length - 2 * c := List.length_drop
    have hj : jnL (t.take (2 * c + 1)) (t.drop (2 * c)) = t := by
      unfold jnL
      rw [List.drop_drop, List.take_append_drop]
    refine ⟨t.take (2 * c + 1), (hA _).2 ⟨hT.take hc2, by omega, ?_⟩, t.drop (2 * c), (hB _).2 ⟨hT.drop hc2, by omega, ?_⟩, ⟨hT.take hc2, hT.drop hc2, ?_, by rw [hj]; exact hT⟩, by rw [hj]; exact hl, hj.symm⟩
    · rw [hul, show (2 * c + 1) / 2 = c by omega]
      exact (hQ _ t 0 0 c (by omega) fun i _ h => by rw [nth_take (by omega)]; rfl).2 hq
    · rw [hvl, show (t.length - 2 * c) / 2 = t.length / 2 - c by omega]
      refine (hR _ t c 0 (t.length / 2 - c) (by omega) fun i _ h => by rw [nth_drop]).2 ?_
      rw [Nat.zero_add, show t.length / 2 - c + c = t.length / 2 by omega]
      exact hr
    · rw [hul, nth_take (by omega), nth_drop, show 2 * c + 1 - 1 = 0 + 2 * c by omega]

noncomputable def listX (x : Ex) (m : Nat) : LL := ordL ((allTr m 4).filter fun t => lgB t x 0 (t.length / 2))
theorem mem_listX {x : Ex} {m : Nat} (hm : m ≤ 2) (t : List Int) : t ∈ listX x m ↔ Tset m (fun t => Lg t x) t := by
  unfold listX
  rw [mem_ordL, List.mem_filter, lgB_true]
  constructor
  · rintro ⟨h1, h2⟩
    obtain ⟨h3, h4⟩ := allTr_ok hm h1
    exact ⟨h3, h4, h2⟩
  · rintro ⟨h1, h2, h3⟩
    exact ⟨allTr_all h1 h2, h3⟩
theorem srt_listX (x : Ex) (m : Nat) : Srt (listX x m) := srt_ordL _
theorem listX_eq {x : Ex} {m : Nat} (hm : m ≤ 2) {l : LL} (h1 : Srt l) (h : ∀ t, t ∈ l ↔ Tset m (fun t => Lg t x) t) : l = listX x m :=
  srt_eq h1 (srt_listX x m) fun t => by rw [h, mem_listX hm]
theorem listX_pls {x y : Ex} {m : Nat} (hm : m ≤ 2) : addsL (listX x m) (listX y m) = listX (.pls x y) m :=
  listX_eq hm (srt_addsL (srt_listX x m)) fun t => by
    rw [mem_addsL, mem_listX hm, mem_listX hm]
    simp only [Tset, Lg]
    constructor
    · rintro (⟨h1, h2, h3⟩ | ⟨h1, h2, h3⟩)
      · exact ⟨h1, h2, .inl h3⟩
      · exact ⟨h1, h2, .inr h3⟩
    · rintro ⟨h1, h2, h3 | h3⟩
      · exact .inl ⟨h1, h2, h3⟩
      · exact .inr ⟨h1, h2, h3⟩
theorem listX_thn {x y : Ex} {m : Nat} (hm : m ≤ 2) : fuseL (listX x m) (listX y m) m = listX (.thn x y) m :=
  listX_eq hm (srt_ordL _) fun t => mem_fuse (mem_listX hm) (mem_listX hm) (lg_loc x) (lg_loc y) t

def RndQ (Q : List Int → Nat → Nat → Prop) : Nat → List Int → Nat → Nat → Prop
  | 0 => fun _ a b => a = b
  | k + 1 => ThenQ (RndQ Q k) Q
theorem rndQ_loc {Q : List Int → Nat → Nat → Prop} (hQ : LocQ Q) : ∀ k, LocQ (RndQ Q k)
  | 0 => fun t t' d a b _ _ => ⟨fun h => by show a + d = b + d; have : a = b := h; omega, fun h => by have : a + d = b + d := h; show a = b; omega⟩
  | k + 1 => thenQ_loc (rndQ_loc hQ k) hQ
theorem rndQ_cons {Q : List Int → Nat → Nat → Prop} {t : List Int} {a c : Nat} (hac : a ≤ c) (h : Q t a c) : ∀ (j : Nat) {b : Nat}, c ≤ b → RndQ Q j t c b → RndQ Q (j + 1) t a b
  | 0, b, hcb, hr => by
    have : c = b := hr
    subst this
    exact ⟨a, Nat.le_refl _, hac, rfl, h⟩
  | j + 1, b, hcb, ⟨e, h1, h2, h3, h4⟩ => ⟨e, by omega, h2, rndQ_cons hac h j h1 h3, h4⟩
theorem StarN.snoc {R : Nat → Nat → Prop} {a b c : Nat} (h : StarN R a b) (hl : b < c) (hr : R b c) : StarN R a c := by
  induction h with
  | refl a => exact .step hl hr (.refl _)
  | step hl' h' _ ih => exact .step hl' h' (ih hl hr)
theorem rnd_star {Q : List Int → Nat → Nat → Prop} {t : List Int} {a b : Nat} : StarN (Q t) a b ↔ ∃ j, j ≤ b - a ∧ RndQ Q j t a b := by
  constructor
  · intro h
    induction h with
    | refl a => exact ⟨0, by omega, rfl⟩
    | @step a c b hl hr hs ih =>
      have := hs.le
      obtain ⟨j, hj, h⟩ := ih
      exact ⟨j + 1, by omega, rndQ_cons (by omega) hr j this h⟩
  · rintro ⟨j, hj, h⟩
    clear hj
    induction j generalizing b with
    | zero =>
      have : a = b := h
      subst this; exact .refl _
    | succ j ih =>
      obtain ⟨c, h1, h2, h3, h4⟩ := h
      have h5 := ih h3
      by_cases e : c = b
      · subst e; exact h5
      · exact h5.snoc (by omega) h4
noncomputable def stNow (L : LL) (m : Nat) : Nat → LL
  | 0 => [[0], [1], [2], [3]]
  | k + 1 => fuseL (stNow L m k) L m
noncomputable def stOut (L : LL) (m : Nat) : Nat → LL
  | 0 => []
  | k + 1 => addsL (stOut L m k) (stNow L m k)
theorem mem_stNow {x : Ex} {m : Nat} (hm : m ≤ 2) : ∀ k t, t ∈ stNow (listX x m) m k ↔ Tset m (RndQ (fun t => Lg t x) k) t
  | 0, t => by
    simp only [stNow, Tset, RndQ, List.mem_cons, List.not_mem_nil, or_false]
    constructor
    · intro h
      have key : ∀ a : Int, 0 ≤ a ∧ a ≤ 3 → TraceOK [a] := fun a ha => trace_tail.2 ⟨a, [], rfl, ha, .nil, by simp⟩
      rcases h with rfl | rfl | rfl | rfl
      · exact ⟨key 0 (by omega), by simp, rfl⟩
      · exact ⟨key 1 (by omega), by simp, rfl⟩
      · exact ⟨key 2 (by omega), by simp, rfl⟩
      · exact ⟨key 3 (by omega), by simp, rfl⟩
    · rintro ⟨hT, _, h0⟩
      obtain ⟨a, w, rfl, ha, hw, _⟩ := trace_tail.1 hT
      have he := hw.even
      have : w = [] := List.eq_nil_of_length_eq_zero (by simp only [List.length_cons] at h0; omega)
      subst this
      have : a = 0 ∨ a = 1 ∨ a = 2 ∨ a = 3 := by omega
      rcases this with rfl | rfl | rfl | rfl <;> simp
  | k + 1, t => mem_fuse (mem_stNow hm k) (mem_listX hm) (rndQ_loc (lg_loc x) k) (lg_loc x) t
theorem mem_stOut {L : LL} {m : Nat} (t : List Int) : ∀ k, t ∈ stOut L m k ↔ ∃ j, j < k ∧ t ∈ stNow L m j
  | 0 => by simp [stOut]
  | k + 1 => by
    rw [stOut, mem_addsL, mem_stOut t k]
    constructor
    · rintro (⟨j, h1, h2⟩ | h)
      · exact ⟨j, by omega, h2⟩
      · exact ⟨k, by omega, h⟩
    · rintro ⟨j, h1, h2⟩
      by_cases e : j = k
      · subst e; exact .inr h2
      · exact .inl ⟨j, by omega, h2⟩
theorem srt_stOut (L : LL) (m : Nat) : ∀ k, Srt (stOut L m k)
  | 0 => List.Pairwise.nil
  | k + 1 => srt_addsL (srt_stOut L m k)
theorem listX_str {x : Ex} {m : Nat} (hm : m ≤ 2) : stOut (listX x m) m (m + 1) = listX (.str x) m :=
  listX_eq hm (srt_stOut _ _ _) fun t => by
    rw [mem_stOut]
    simp only [mem_stNow hm, Tset, Lg]
    constructor
    · rintro ⟨j, hj, h1, h2, h3⟩
      refine ⟨h1, h2, ?_⟩
      have key : ∀ (j : Nat) (b : Nat), RndQ (fun t => Lg t x) j t 0 b → StarN (Lg t x) 0 b := by
        intro j
        induction j with
        | zero => intro b h; have : 0 = b := h; subst this; exact .refl _
        | succ j ih =>
          rintro b ⟨c, g1, g2, g3, g4⟩
          have h5 := ih c g3
          by_cases e : c = b
          · subst e; exact h5
          · exact h5.snoc (by omega) g4
      exact key j _ h3
    · rintro ⟨h1, h2, h3⟩
      obtain ⟨j, hj, h⟩ := (rnd_star (Q := fun t => Lg t x) (t := t)).1 h3
      exact ⟨j, by omega, h1, h2, h⟩

end Go.Proofs.Ytehdfifncbokeaa
