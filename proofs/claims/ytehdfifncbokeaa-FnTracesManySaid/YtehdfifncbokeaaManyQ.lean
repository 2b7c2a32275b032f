/- How many short traces there are: backwards as many; of an expression again and again an atom alone four times. No program in sight. -/
import Derived.Test.YtehdfifncbokeaaManyP
namespace Go.Proofs.Ytehdfifncbokeaa
set_option linter.unusedSimpArgs false
set_option linter.unusedVariables false
set_option maxRecDepth 8000
set_option maxHeartbeats 2000000
open Go.RowKit

def cntL (L : LL) (n : Nat) : Nat := (L.filter fun t => decide (t.length = n)).length
theorem cnt_eq {L M : LL} (hL : L.Nodup) (hM : M.Nodup) (h : ∀ t, t ∈ L ↔ t ∈ M) (n : Nat) : cntL L n = cntL M n := by
  have key : ∀ {A B : LL}, A.Nodup → (∀ t, t ∈ A ↔ t ∈ B) → cntL A n ≤ cntL B n := fun hA hAB =>
    nodup_len (hA.sublist List.filter_sublist) fun t ht => by
      rw [List.mem_filter] at ht ⊢
      exact ⟨(hAB t).1 ht.1, ht.2⟩
  exact Nat.le_antisymm (key hL h) (key hM fun t => (h t).symm)
theorem cntL_le (L : LL) (n : Nat) : cntL L n ≤ L.length := List.length_filter_le _ _
theorem cnt_take {L : LL} {k n : Nat} (hk : k < L.length) : cntL (L.take (k + 1)) n = cntL (L.take k) n + (if L[k].length = n then 1 else 0) := by
  unfold cntL
  rw [List.take_succ_eq_append_getElem hk, List.filter_append, List.length_append]
  congr 1
  by_cases h : L[k].length = n <;> simp [h]

theorem nth_rev {t : List Int} {i : Nat} (h : i < t.length) : nth t.reverse i = nth t (t.length - 1 - i) := by
  show t.reverse.getD _ 0 = t.getD _ 0
  simp only [List.getD_eq_getElem?_getD]
  rw [List.getElem?_reverse h]
theorem TraceOK.rev {t : List Int} (h : TraceOK t) : TraceOK t.reverse := by
  have ho := h.odd
  refine ⟨by simpa using ho, by simpa using h.len, fun k hk => ?_, fun k hk => ?_⟩
  · rw [List.length_reverse] at hk
    rw [nth_rev hk, show t.length - 1 - 2 * k = 2 * (t.length / 2 - k) by omega]
    exact h.atoms _ (by omega)
  · rw [List.length_reverse] at hk
    rw [nth_rev hk, show t.length - 1 - (2 * k + 1) = 2 * (t.length / 2 - k - 1) + 1 by omega]
    exact h.acts _ (by omega)
theorem star_flip {R S : Nat → Nat → Prop} {n : Nat} (h : ∀ a b, a < b → b ≤ n → R a b → S (n - b) (n - a)) {a b : Nat} (hb : b ≤ n) (hs : StarN R a b) : StarN S (n - b) (n - a) := by
  induction hs with
  | refl a => exact .refl _
  | @step a c b hl hr hs ih =>
    have := hs.le
    exact (ih hb).snoc (by omega) (h a c hl (by omega) hr)
theorem lg_back1 {t : List Int} {n : Nat} (hn : t.length = 2 * n + 1) : ∀ (x : Ex) {a b : Nat}, b ≤ n → Lg t (backX x) a b → Lg t.reverse x (n - b) (n - a)
  | .leaf m, a, b, hb, h => by
    simp only [backX, Lg] at h
    simp only [Lg]
    by_cases g : m ≤ 15
    · rw [if_pos g] at h ⊢
      obtain ⟨rfl, h⟩ := h
      refine ⟨rfl, ?_⟩
      rw [nth_rev (by omega), show t.length - 1 - 2 * (n - a) = 2 * a by omega]
      exact h
    · rw [if_neg g] at h ⊢
      obtain ⟨rfl, h⟩ := h
      refine ⟨by omega, ?_⟩
      rw [nth_rev (by omega), show t.length - 1 - (2 * (n - (a + 1)) + 1) = 2 * a + 1 by omega]
      exact h
  | .thn x y, a, b, hb, h => by
    obtain ⟨c, h1, h2, h3, h4⟩ := h
    exact ⟨n - c, by omega, by omega, lg_back1 hn x hb h4, lg_back1 hn y (by omega) h3⟩
  | .pls x y, a, b, hb, h => by
    rcases h with h | h
    · exact .inl (lg_back1 hn x hb h)
    · exact .inr (lg_back1 hn y hb h)
  | .str x, a, b, hb, h => by
    have h' : StarN (Lg t (backX x)) a b := h
    exact star_flip (fun a b _ hb h => lg_back1 hn x hb h) hb h'
theorem tset_rev {x : Ex} {m : Nat} {t : List Int} (h : Tset m (fun t => Lg t (backX x)) t) : Tset m (fun t => Lg t x) t.reverse := by
  obtain ⟨h1, h2, h3⟩ := h
  have ho := h1.odd
  have := lg_back1 (t := t) (n := t.length / 2) (by omega) x (Nat.le_refl _) h3
  refine ⟨h1.rev, by simpa using h2, ?_⟩
  rw [List.length_reverse]
  rw [Nat.sub_self, Nat.sub_zero] at this
  exact this
theorem cnt_back_le {x : Ex} {m : Nat} (hm : m ≤ 2) (n : Nat) : cntL (listX (backX x) m) n ≤ cntL (listX x m) n := by
  unfold cntL
  have hnd : ((listX (backX x) m).filter fun t => decide (t.length = n)).Nodup := (srt_nodup (srt_listX _ _)).sublist List.filter_sublist
  have h2 : (((listX (backX x) m).filter fun t => decide (t.length = n)).map List.reverse).Nodup := by
    rw [List.Nodup, List.pairwise_map]
    exact hnd.imp fun h e => h (List.reverse_inj.1 e)
  have := nodup_len (m := (listX x m).filter fun t => decide (t.length = n)) h2 fun t ht => by
    obtain ⟨u, hu, rfl⟩ := List.mem_map.1 ht
    rw [List.mem_filter, mem_listX hm] at hu
    rw [List.mem_filter, mem_listX hm]
    exact ⟨tset_rev hu.1, by simpa using hu.2⟩
  simpa using this
theorem cnt_back {x : Ex} {m : Nat} (hm : m ≤ 2) (n : Nat) : cntL (listX (backX x) m) n = cntL (listX x m) n := by
  refine Nat.le_antisymm (cnt_back_le hm n) ?_
  have := cnt_back_le (x := backX x) hm n
  rwa [backX_back] at this
theorem cnt_star (x : Ex) : cntL (listX (.str x) 0) 1 = 4 := by
  have h : ∀ t, t ∈ listX (.str x) 0 ↔ t ∈ stNow (listX x 0) 0 0 := fun t => by
    rw [mem_listX (by omega), mem_stNow (by omega)]
    constructor
    · rintro ⟨h1, h2, _⟩
      have := h1.odd
      exact ⟨h1, h2, by show 0 = t.length / 2; omega⟩
    · rintro ⟨h1, h2, h3⟩
      have : 0 = t.length / 2 := h3
      refine ⟨h1, h2, ?_⟩
      rw [← this]
      exact StarN.refl 0
  rw [cnt_eq (srt_nodup (srt_listX _ _)) (by simp [stNow]) h 1]
  rfl

noncomputable def manyI (e : List Int) (m : Int) : Int := if katB e = true ∧ 0 ≤ m ∧ m ≤ 2 then ((cntL (listX (exOf e) m.toNat) (2 * m.toNat + 1) : Nat) : Int) else -1
theorem manyI_no {e : List Int} {m : Int} (h : ¬ (katB e = true ∧ 0 ≤ m ∧ m ≤ 2)) : manyI e m = -1 := if_neg h
theorem manyI_yes {x : Ex} (hw : x.wf) {m : Nat} (hk : katB x.steps = true) (hm : m ≤ 2) : manyI x.steps (m : Int) = ((cntL (listX x m) (2 * m + 1) : Nat) : Int) := by
  unfold manyI
  rw [if_pos ⟨hk, by omega, by omega⟩, exOf_steps hw, Int.toNat_natCast]
end Go.Proofs.Ytehdfifncbokeaa
