/- The short traces of a test and of an action, in order. No program in sight. -/
import Derived.Test.YtehdfifncbokeaaManyP
namespace Go.Proofs.Ytehdfifncbokeaa
set_option linter.unusedSimpArgs false
set_option linter.unusedVariables false
set_option maxRecDepth 8000
set_option maxHeartbeats 2000000
open Go.RowKit

theorem lexLt_cons_lt {a b : Int} (h : a < b) (u v : List Int) : lexLt (a :: u) (b :: v) = true := by
  simp [lexLt, h]
  exact .inl (by omega)
theorem lexLt_cons_eq (a : Int) (u v : List Int) : lexLt (a :: u) (a :: v) = lexLt u v := by simp [lexLt]

def tsL (s k : Nat) : LL := ((List.range k).filter fun i => s.testBit i).map fun i => [((i : Nat) : Int)]
theorem tsL_succ (s k : Nat) : tsL s (k + 1) = tsL s k ++ if s.testBit k then [[((k : Nat) : Int)]] else [] := by
  unfold tsL
  rw [List.range_succ, List.filter_append, List.map_append]
  congr 1
  by_cases h : s.testBit k <;> simp [h]
theorem tsL_len (s k : Nat) : (tsL s k).length ≤ k := by
  unfold tsL
  rw [List.length_map]
  exact Nat.le_trans (List.length_filter_le _ _) (by simp)
theorem srt_tsL (s k : Nat) : Srt (tsL s k) := by
  unfold tsL Srt
  rw [List.pairwise_map]
  refine List.Pairwise.imp (fun {a b} (h : a < b) => lexLt_cons_lt (by omega) _ _) (List.Pairwise.sublist List.filter_sublist List.pairwise_lt_range)
theorem listX_test {s m : Nat} (hs : s ≤ 15) (hm : m ≤ 2) : tsL s 4 = listX (.leaf (s : Int)) m :=
  listX_eq hm (srt_tsL _ _) fun t => by
    unfold tsL
    simp only [List.mem_map, List.mem_filter, List.mem_range, Tset, Lg]
    rw [if_pos (show ((s : Nat) : Int) ≤ 15 by omega), Int.toNat_natCast]
    constructor
    · rintro ⟨i, ⟨hi, hb⟩, rfl⟩
      exact ⟨trace_tail.2 ⟨_, [], rfl, by omega, .nil, by simp⟩, by simp, by simp, by simpa [nth] using hb⟩
    · rintro ⟨hT, _, h0, hb⟩
      obtain ⟨a, w, rfl, ha, hw, _⟩ := trace_tail.1 hT
      have he := hw.even
      have : w = [] := List.eq_nil_of_length_eq_zero (by simp only [List.length_cons] at h0; omega)
      subst this
      exact ⟨a.toNat, ⟨by omega, by simpa [nth] using hb⟩, by simp; omega⟩

def acL (c : Int) (k : Nat) : LL := (List.range k).map fun i => [(((i / 4 : Nat) : Nat) : Int), c, ((i % 4 : Nat) : Int)]
theorem acL_succ (c : Int) (k : Nat) : acL c (k + 1) = acL c k ++ [[((k / 4 : Nat) : Int), c, ((k % 4 : Nat) : Int)]] := by simp [acL, List.range_succ]
theorem acL_len (c : Int) (k : Nat) : (acL c k).length = k := by simp [acL]
theorem srt_acL (c : Int) (k : Nat) : Srt (acL c k) := by
  unfold acL Srt
  rw [List.pairwise_map]
  refine List.Pairwise.imp (fun {a b} (h : a < b) => ?_) List.pairwise_lt_range
  by_cases e : a / 4 = b / 4
  · rw [e, lexLt_cons_eq, lexLt_cons_eq]
    exact lexLt_cons_lt (by omega) _ _
  · exact lexLt_cons_lt (by omega) _ _
theorem acts_one {c : Int} (hc : 16 ≤ c ∧ c ≤ 18) {m : Nat} (t : List Int) : Tset m (fun t => Lg t (.leaf c)) t ↔ 0 < m ∧ ∃ a b : Int, t = [a, c, b] ∧ (0 ≤ a ∧ a ≤ 3) ∧ 0 ≤ b ∧ b ≤ 3 := by
  simp only [Tset, Lg]
  rw [if_neg (show ¬ c ≤ 15 by omega)]
  constructor
  · rintro ⟨hT, hl, h0, h1⟩
    obtain ⟨a, w, rfl, ha, hw, _⟩ := trace_tail.1 hT
    have he := hw.even
    simp only [List.length_cons] at h0 hl
    cases hw with
    | nil => simp at h0
    | @cons c' b w hc' hb hw' =>
      simp only [List.length_cons] at h0 hl
      have : w = [] := List.eq_nil_of_length_eq_zero (by have := hw'.even; omega)
      subst this
      have : c' = c := by simpa [nth] using h1
      subst this
      exact ⟨by simp only [List.length_nil] at hl; omega, a, b, rfl, ha, hb⟩
  · rintro ⟨hm, a, b, rfl, ha, hb⟩
    exact ⟨trace_tail.2 ⟨a, _, rfl, ha, .cons hc hb .nil, by simp⟩, by simp only [List.length_cons, List.length_nil]; omega, by simp, by simp [nth]⟩
theorem listX_act {c : Int} {m : Nat} (hc : 16 ≤ c ∧ c ≤ 18) (hm : m ≤ 2) (h0 : 0 < m) : acL c 16 = listX (.leaf c) m :=
  listX_eq hm (srt_acL _ _) fun t => by
    rw [acts_one hc]
    unfold acL
    simp only [List.mem_map, List.mem_range]
    constructor
    · rintro ⟨i, hi, rfl⟩
      exact ⟨h0, _, _, rfl, by omega, by omega⟩
    · rintro ⟨_, a, b, rfl, ha, hb⟩
      refine ⟨4 * a.toNat + b.toNat, by omega, ?_⟩
      have e1 : (4 * a.toNat + b.toNat) / 4 = a.toNat := by omega
      have e2 : (4 * a.toNat + b.toNat) % 4 = b.toNat := by omega
      rw [e1, e2, Int.toNat_of_nonneg ha.1, Int.toNat_of_nonneg hb.1]
theorem listX_act0 {c : Int} (hc : 16 ≤ c ∧ c ≤ 18) : ([] : LL) = listX (.leaf c) 0 :=
  listX_eq (by omega) List.Pairwise.nil fun t => by
    rw [acts_one hc]
    constructor
    · intro h; cases h
    · intro h; exact absurd h.1 (by omega)

theorem tset_short {m : Nat} {Q : List Int → Nat → Nat → Prop} {t : List Int} (h : Tset m Q t) : t.length ≤ 2 * m + 1 := h.2.1
theorem listX_bd (x : Ex) {m : Nat} (hm : m ≤ 2) : (listX x m).length ≤ 676 ∧ ∀ t ∈ listX x m, t.length ≤ 5 := by
  refine ⟨?_, fun t ht => by have := tset_short ((mem_listX hm t).1 ht); omega⟩
  have h1 : (listX x m).length ≤ 4 * 13 ^ m := Nat.le_trans (ordL_length _) (Nat.le_trans (List.length_filter_le _ _) (allTr_len m 4))
  have hpk : 13 ^ m ≤ 169 := Nat.pow_le_pow_right (n := 13) (by omega) (show m ≤ 2 by omega)
  omega
theorem stNow_nodup (L : LL) (m : Nat) : ∀ k, (stNow L m k).Nodup
  | 0 => by simp [stNow]
  | k + 1 => srt_nodup (srt_ordL _)
theorem stNow_bd (x : Ex) {m : Nat} (hm : m ≤ 2) (k : Nat) : (stNow (listX x m) m k).length ≤ 676 ∧ ∀ t ∈ stNow (listX x m) m k, t.length ≤ 5 := by
  refine ⟨?_, fun t ht => by have := tset_short ((mem_stNow hm k t).1 ht); omega⟩
  have h1 : (stNow (listX x m) m k).length ≤ (allTr m 4).length := nodup_len (stNow_nodup _ _ _) fun t ht => by
    obtain ⟨a, b, _⟩ := (mem_stNow hm k t).1 ht
    exact allTr_all a b
  have h2 := allTr_len m 4
  have hpk : 13 ^ m ≤ 169 := Nat.pow_le_pow_right (n := 13) (by omega) (show m ≤ 2 by omega)
  omega
theorem stOut_bd (x : Ex) {m : Nat} (hm : m ≤ 2) : ∀ k, (stOut (listX x m) m k).length ≤ 676 * k ∧ ∀ t ∈ stOut (listX x m) m k, t.length ≤ 5
  | 0 => ⟨by simp [stOut], by simp [stOut]⟩
  | k + 1 => by
    have h1 := stOut_bd x hm k
    have h2 := stNow_bd x hm k
    refine ⟨?_, fun t ht => ?_⟩
    · have := addsL_length (stNow (listX x m) m k) (stOut (listX x m) m k)
      show (addsL _ _).length ≤ _
      omega
    · rw [stOut, mem_addsL] at ht
      rcases ht with ht | ht
      · exact h1.2 t ht
      · exact h2.2 t ht

end Go.Proofs.Ytehdfifncbokeaa
