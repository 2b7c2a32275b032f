/- Plain facts on a trimmed automaton. No program in sight. -/
import Derived.Test.YtljoonlcpiagjaaGrpC
namespace Go.Proofs.Ytljoonlcpiagjaa
set_option linter.unusedSimpArgs false
set_option linter.unusedVariables false
set_option maxRecDepth 8000
set_option maxHeartbeats 2000000

def ktL (keep k : Nat) : List Nat := (List.range k).filter fun s => keep.testBit s
theorem ktL_zero (keep : Nat) : ktL keep 0 = [] := rfl
theorem ktL_yes {keep k : Nat} (h : keep.testBit k = true) : ktL keep (k + 1) = ktL keep k ++ [k] := by simp [ktL, List.range_succ, List.filter_append, h]
theorem ktL_no {keep k : Nat} (h : keep.testBit k = false) : ktL keep (k + 1) = ktL keep k := by simp [ktL, List.range_succ, List.filter_append, h]
theorem ktL_len (keep k : Nat) : (ktL keep k).length ≤ k := by
  have := List.length_filter_le (fun s => keep.testBit s) (List.range k)
  simpa [ktL] using this
theorem ktL_mem {keep k s : Nat} : s ∈ ktL keep k ↔ s < k ∧ keep.testBit s = true := by simp [ktL]
theorem ktL_nodup (keep k : Nat) : (ktL keep k).Nodup := List.nodup_range.filter _
theorem ktL_stay {keep n : Nat} (h : keep < 2 ^ n) : ∀ j, ktL keep (n + j) = ktL keep n
  | 0 => rfl
  | j + 1 => by
    rw [← Nat.add_assoc, ktL_no, ktL_stay h j]
    exact Nat.testBit_lt_two_pow (Nat.lt_of_lt_of_le h (Nat.pow_le_pow_right (by omega) (by omega)))

def keepN (set : Nat) (L : List Nat) : Nat := sumB (fun i => set.testBit (L.getD i 0)) L.length
theorem sumB_congr {p q : Nat → Bool} : ∀ J, (∀ i, i < J → p i = q i) → sumB p J = sumB q J
  | 0, _ => rfl
  | J + 1, h => by rw [sumB, sumB, sumB_congr J fun i hi => h i (by omega), h J (by omega)]
theorem keepN_snoc (set : Nat) (L : List Nat) (k : Nat) : keepN set (L ++ [k]) = keepN set L + (set.testBit k).toNat * 2 ^ L.length := by
  unfold keepN
  rw [List.length_append, List.length_singleton, sumB]
  congr 1
  · refine sumB_congr _ fun i hi => ?_
    simp [List.getD, List.getElem?_append_left hi]
  · simp [List.getD]
theorem keepN_lt (set : Nat) (L : List Nat) : keepN set L < 2 ^ L.length := sumB_lt _ _

def seenN (set : Nat) (L seen : List Nat) : Nat := seen.foldl (fun acc j => if set.testBit (L.getD j 0) then acc ||| 2 ^ j else acc) 0
theorem seenN_snoc (set : Nat) (L seen : List Nat) (j : Nat) : seenN set L (seen ++ [j]) = if set.testBit (L.getD j 0) then seenN set L seen ||| 2 ^ j else seenN set L seen := by simp [seenN]
theorem foldN_testBit (set : Nat) (L : List Nat) (i : Nat) : ∀ (seen : List Nat) (acc : Nat), (seen.foldl (fun acc j => if set.testBit (L.getD j 0) then acc ||| 2 ^ j else acc) acc).testBit i = (acc.testBit i || (decide (i ∈ seen) && set.testBit (L.getD i 0)))
  | [], acc => by simp
  | j :: s, acc => by
    rw [List.foldl_cons, foldN_testBit set L i s]
    by_cases hij : i = j
    · subst hij
      split
      · rename_i h
        rw [Nat.testBit_or, Nat.testBit_two_pow, h]; simp
      · rename_i h
        have : set.testBit (L.getD i 0) = false := by simpa using h
        rw [this]; simp
    · have hji : ¬ j = i := fun e => hij e.symm
      split
      · rw [Nat.testBit_or, Nat.testBit_two_pow]; simp [hij, hji]
      · simp [hij]
theorem seenN_testBit (set : Nat) (L : List Nat) (i : Nat) (seen : List Nat) : (seenN set L seen).testBit i = (decide (i ∈ seen) && set.testBit (L.getD i 0)) := by
  rw [seenN, foldN_testBit]; simp
theorem seenN_all {set : Nat} {L seen : List Nat} (h1 : ∀ j ∈ seen, j < L.length) (h2 : ∀ j, j < L.length → j ∈ seen) : seenN set L seen = keepN set L := by
  apply Nat.eq_of_testBit_eq
  intro i
  rw [seenN_testBit, keepN, sumB_testBit]
  congr 1
  rw [Bool.eq_iff_iff, decide_eq_true_eq, decide_eq_true_eq]
  exact ⟨h1 i, h2 i⟩
theorem seenN_lt {set : Nat} {L seen : List Nat} (h1 : ∀ j ∈ seen, j < L.length) : seenN set L seen < 2 ^ L.length := by
  apply Nat.lt_pow_two_of_testBit
  intro i hi
  rw [seenN_testBit]
  have : ¬ i ∈ seen := fun h => by have := h1 i h; omega
  simp [this]

noncomputable def keepOf (D : AutoD) : Nat := 1 ||| (reachF D &&& liveF D)
noncomputable def trimTo (D : AutoD) (L : List Nat) : AutoD := ⟨L.map (nth D.ends), L.map fun s => (List.range 12).map fun m => ((keepN (nextN D s m) (ktL (keepOf D) D.ends.length) : Nat) : Int)⟩
open Classical in
noncomputable def trimD (D : AutoD) : AutoD := if AutoOK D then trimTo D (ktL (keepOf D) D.ends.length) else ⟨[], []⟩
theorem trimD_yes {D : AutoD} (h : AutoOK D) : trimD D = trimTo D (ktL (keepOf D) D.ends.length) := if_pos h
theorem trimD_no {D : AutoD} (h : ¬ AutoOK D) : trimD D = ⟨[], []⟩ := if_neg h
theorem trimTo_nil (D : AutoD) : trimTo D [] = ⟨[], []⟩ := rfl

end Go.Proofs.Ytljoonlcpiagjaa

namespace Go.Proofs.Ytljoonlcpiagjaa
set_option linter.unusedSimpArgs false
set_option linter.unusedVariables false
set_option maxRecDepth 8000
set_option maxHeartbeats 2000000

theorem AutoOK.short {D : AutoD} (h : AutoOK D) : ¬ AutoOK ⟨D.ends.drop 1, D.next⟩ := fun h2 => by
  have h3 := h2.len
  have h4 := h.len
  have h5 := h.lo
  simp only [List.length_drop] at h3
  omega
end Go.Proofs.Ytljoonlcpiagjaa

namespace Go.Proofs.Ytljoonlcpiagjaa
set_option linter.unusedSimpArgs false
set_option linter.unusedVariables false
set_option maxRecDepth 8000
set_option maxHeartbeats 2000000

section
variable {X Y : AutoD}

def prodD (X Y : AutoD) : AutoD := bothTo X Y (X.ends.length * Y.ends.length)

theorem prod_ends {k : Nat} (hk : k < X.ends.length * Y.ends.length) : endsN (prodD X Y) k = endsN X (k / Y.ends.length) &&& endsN Y (k % Y.ends.length) := by
  show (nth (rowOf (bothE X Y) (X.ends.length * Y.ends.length)) k).toNat = _
  rw [rowOf_nth _ hk]
  rfl
theorem prod_next {k m : Nat} (hk : k < X.ends.length * Y.ends.length) (hm : m < 12) : nextN (prodD X Y) k m = bothN X Y k m := by
  show (nth (nthL (rowsOf (fun k => rowOf (bothN X Y k) 12) (X.ends.length * Y.ends.length)) k) m).toNat = _
  have h1 : nthL (rowsOf (fun k => rowOf (bothN X Y k) 12) (X.ends.length * Y.ends.length)) k = rowOf (bothN X Y k) 12 := by simp [nthL, rowsOf, List.getD, hk]
  rw [h1, rowOf_nth _ hm]
  rfl
theorem prod_len : (prodD X Y).ends.length = X.ends.length * Y.ends.length := rowOf_len _ _

theorem pair_lt {a b n m : Nat} (ha : a < n) (hb : b < m) : a * m + b < n * m := by
  have h1 : (a + 1) * m ≤ n * m := Nat.mul_le_mul_right _ (by omega)
  rw [Nat.add_mul, Nat.one_mul] at h1
  omega
theorem pair_div {a b m : Nat} (hb : b < m) : (a * m + b) / m = a := by
  rw [Nat.mul_comm, Nat.mul_add_div (by omega), Nat.div_eq_of_lt hb]; rfl
theorem pair_mod {a b m : Nat} (hb : b < m) : (a * m + b) % m = b := by
  rw [Nat.mul_comm, Nat.mul_add_mod, Nat.mod_eq_of_lt hb]
theorem div_lt_of {k n m : Nat} (hk : k < n * m) : k / m < n := Nat.div_lt_of_lt_mul (by rwa [Nat.mul_comm])

def PairS (X Y : AutoD) (S A B : Nat) : Prop := ∀ k, k < X.ends.length * Y.ends.length → (S.testBit k = true ↔ A.testBit (k / Y.ends.length) = true ∧ B.testBit (k % Y.ends.length) = true)

theorem pairS_one (hy : 1 ≤ Y.ends.length) : PairS X Y 1 1 1 := by
  intro k _
  have h1 : ∀ j : Nat, (1 : Nat).testBit j = true ↔ j = 0 := fun j => by
    cases j with
    | zero => simp
    | succ j => simp [Nat.testBit_succ]
  rw [h1, h1, h1]
  constructor
  · rintro rfl; simp
  · rintro ⟨a, b⟩
    have := Nat.div_add_mod k Y.ends.length
    rw [a, b] at this
    omega

theorem pairS_step (hx : AutoOK X) (hy : AutoOK Y) {S A B m : Nat} (hm : m < 12) (h : PairS X Y S A B) : PairS X Y (behF (prodD X Y) S m) (behF X A m) (behF Y B m) := by
  intro k hk
  have hy0 : 0 < Y.ends.length := hy.lo
  have hkd := div_lt_of hk
  have hkm : k % Y.ends.length < Y.ends.length := Nat.mod_lt _ hy0
  show (behT (prodD X Y) S m (prodD X Y).ends.length).testBit k = true ↔ (behT X A m X.ends.length).testBit _ = true ∧ (behT Y B m Y.ends.length).testBit _ = true
  rw [behT_testBit, behT_testBit, behT_testBit, prod_len]
  constructor
  · rintro ⟨i, hi, h1, h2⟩
    rw [prod_next hi hm, bothN, sumB_testBit, Bool.and_eq_true, bothP, Bool.and_eq_true] at h2
    obtain ⟨g1, g2⟩ := (h i hi).1 h1
    exact ⟨⟨_, div_lt_of hi, g1, h2.2.1⟩, ⟨_, Nat.mod_lt _ hy0, g2, h2.2.2⟩⟩
  · rintro ⟨⟨a, ha, a1, a2⟩, ⟨b, hb, b1, b2⟩⟩
    have hab := pair_lt ha hb
    refine ⟨a * Y.ends.length + b, hab, (h _ hab).2 ?_, ?_⟩
    · rw [pair_div hb, pair_mod hb]; exact ⟨a1, b1⟩
    · rw [prod_next hab hm, bothN, sumB_testBit, pair_div hb, pair_mod hb, Bool.and_eq_true, bothP, Bool.and_eq_true]
      exact ⟨by simpa using hk, a2, b2⟩

theorem pairS_end (hy : 1 ≤ Y.ends.length) {S A B j : Nat} (h : PairS X Y S A B) : (endF (prodD X Y) S).testBit j = ((endF X A).testBit j && (endF Y B).testBit j) := by
  rw [Bool.eq_iff_iff, Bool.and_eq_true]
  show (endT (prodD X Y) S (prodD X Y).ends.length).testBit j = true ↔ (endT X A X.ends.length).testBit j = true ∧ (endT Y B Y.ends.length).testBit j = true
  rw [endT_testBit, endT_testBit, endT_testBit, prod_len]
  constructor
  · rintro ⟨i, hi, h1, h2⟩
    rw [prod_ends hi, Nat.testBit_and, Bool.and_eq_true] at h2
    obtain ⟨g1, g2⟩ := (h i hi).1 h1
    exact ⟨⟨_, div_lt_of hi, g1, h2.1⟩, ⟨_, Nat.mod_lt _ (by omega), g2, h2.2⟩⟩
  · rintro ⟨⟨a, ha, a1, a2⟩, ⟨b, hb, b1, b2⟩⟩
    have hab := pair_lt ha hb
    refine ⟨a * Y.ends.length + b, hab, (h _ hab).2 ?_, ?_⟩
    · rw [pair_div hb, pair_mod hb]; exact ⟨a1, b1⟩
    · rw [prod_ends hab, pair_div hb, pair_mod hb, Nat.testBit_and, a2, b2]; rfl

theorem prod_run (hx : AutoOK X) (hy : AutoOK Y) {t : List Int} (ht : TraceOK t) : ∀ j, 2 * j < t.length → PairS X Y (runT (prodD X Y) t j) (runT X t j) (runT Y t j)
  | 0, _ => pairS_one hy.lo
  | j + 1, hj => pairS_step hx hy (ht.mv (by omega)).2 (prod_run hx hy ht j (by omega))

theorem prod_runF (hx : AutoOK X) (hy : AutoOK Y) {t : List Int} (ht : TraceOK t) (hl : 2 * (t.length / 2) < t.length) : runF (prodD X Y) t = (runF X t && runF Y t) := by
  unfold runF
  exact pairS_end hy.lo (prod_run hx hy ht _ hl)

theorem prod_ok (hx : AutoOK X) (hy : AutoOK Y) (h10 : X.ends.length * Y.ends.length ≤ 10) : AutoOK (prodD X Y) := by
  have h1 : 1 * 1 ≤ X.ends.length * Y.ends.length := Nat.mul_le_mul hx.lo hy.lo
  refine ⟨by rw [prod_len]; omega, by rw [prod_len]; exact h10, by rw [prod_len]; exact rowsOf_len _ _, fun k hk => ?_, fun k hk => ?_, fun k hk j hj => ?_⟩
  · rw [prod_len] at hk
    have e : nth (prodD X Y).ends k = ((bothE X Y k : Nat) : Int) := rowOf_nth _ hk
    have h2 : bothE X Y k < 16 := Nat.lt_of_le_of_lt Nat.and_le_left (hx.endsN_lt (div_lt_of hk))
    rw [e]; omega
  · rw [prod_len] at hk
    have h1 : nthL (prodD X Y).next k = rowOf (bothN X Y k) 12 := by simp [prodD, bothTo, nthL, rowsOf, List.getD, hk]
    rw [h1, rowOf_len]
  · rw [prod_len] at hk
    have h1 : nthL (prodD X Y).next k = rowOf (bothN X Y k) 12 := by simp [prodD, bothTo, nthL, rowsOf, List.getD, hk]
    rw [h1, rowOf_nth _ hj, prod_len]
    have h2 : bothN X Y k j < 2 ^ (X.ends.length * Y.ends.length) := sumB_lt _ _
    have h5 : ((2 ^ (X.ends.length * Y.ends.length) : Nat) : Int) = 2 ^ (X.ends.length * Y.ends.length) := by push_cast; rfl
    generalize 2 ^ (X.ends.length * Y.ends.length) = z at h2 h5
    rw [← h5]
    omega
end

end Go.Proofs.Ytljoonlcpiagjaa

namespace Go.Proofs.Ytljoonlcpiagjaa
set_option linter.unusedSimpArgs false
set_option linter.unusedVariables false
set_option maxRecDepth 8000
set_option maxHeartbeats 2000000

structure IsSum (D X Y : AutoD) : Prop where
  len : D.ends.length = 1 + X.ends.length + Y.ends.length
  e0 : endsN D 0 = endsN X 0 ||| endsN Y 0
  eX : ∀ i, i < X.ends.length → endsN D (1 + i) = endsN X i
  eY : ∀ j, j < Y.ends.length → endsN D (1 + X.ends.length + j) = endsN Y j
  n0 : ∀ m, m < 12 → nextN D 0 m = nextN X 0 m * 2 ^ 1 ||| nextN Y 0 m * 2 ^ (1 + X.ends.length)
  nX : ∀ i, i < X.ends.length → ∀ m, m < 12 → nextN D (1 + i) m = nextN X i m * 2 ^ 1
  nY : ∀ j, j < Y.ends.length → ∀ m, m < 12 → nextN D (1 + X.ends.length + j) m = nextN Y j m * 2 ^ (1 + X.ends.length)

section
variable {D X Y : AutoD}

structure SumS (X Y : AutoD) (S A B : Nat) : Prop where
  z : S.testBit 0 = false
  x : ∀ i, i < X.ends.length → S.testBit (1 + i) = A.testBit i
  y : ∀ j, j < Y.ends.length → S.testBit (1 + X.ends.length + j) = B.testBit j

theorem hi_false {a n k : Nat} (h : a < 2 ^ n) (hk : n ≤ k) : a.testBit k = false := Nat.testBit_lt_two_pow (Nat.lt_of_lt_of_le h (Nat.pow_le_pow_right (by omega) hk))

theorem behF_bit (D : AutoD) (S m k : Nat) : (behF D S m).testBit k = true ↔ ∃ i, i < D.ends.length ∧ S.testBit i = true ∧ (nextN D i m).testBit k = true := behT_testBit D S m k _
theorem endF_bit (D : AutoD) (S k : Nat) : (endF D S).testBit k = true ↔ ∃ i, i < D.ends.length ∧ S.testBit i = true ∧ (endsN D i).testBit k = true := endT_testBit D S k _

theorem one_bit (i : Nat) : (1 : Nat).testBit i = true ↔ i = 0 := by
  cases i with
  | zero => simp
  | succ j => simp [Nat.testBit_succ]

end

end Go.Proofs.Ytljoonlcpiagjaa

namespace Go.Proofs.Ytljoonlcpiagjaa
set_option linter.unusedSimpArgs false
set_option linter.unusedVariables false
set_option maxRecDepth 8000
set_option maxHeartbeats 2000000

theorem liveC_iff (D : AutoD) (k s : Nat) : liveC D k s = true ↔ 0 < endsN D k ∨ ∃ m, m < 12 ∧ ∃ j, (nextN D k m).testBit j = true ∧ s.testBit j = true := by
  unfold liveC
  rw [Bool.or_eq_true, decide_eq_true_eq, anyM_iff]
  refine or_congr Iff.rfl ⟨fun ⟨m, hm, h⟩ => ⟨m, hm, and_pos.1 h⟩, fun ⟨m, hm, h⟩ => ⟨m, hm, and_pos.2 h⟩⟩

theorem behF_sub {D : AutoD} {S C m : Nat} (hS : Sub S C) (hC : ∀ p, p < D.ends.length → C.testBit p = true → ∀ q, (nextN D p m).testBit q = true → C.testBit q = true) : Sub (behF D S m) C := fun q hq => by
  obtain ⟨p, hp, h1, h2⟩ := (behF_bit D S m q).1 hq
  exact hC p hp (hS p h1) q h2

theorem reachF_min {D : AutoD} {C : Nat} (h0 : C.testBit 0 = true) (hC : ∀ p, p < D.ends.length → C.testBit p = true → ∀ m, m < 12 → ∀ q, (nextN D p m).testBit q = true → C.testBit q = true) : Sub (reachF D) C := by
  have h1 : ∀ S, Sub S C → ∀ m, m ≤ 12 → Sub (rT D S m) C := fun S hS m => by
    induction m with
    | zero => exact fun _ => hS
    | succ m ih => exact fun hm => Sub.or (ih (by omega)) (behF_sub hS fun p hp hb q hq => hC p hp hb m (by omega) q hq)
  have h2 : ∀ f S, Sub S C → Sub (rIter D f S) C := fun f => by
    induction f with
    | zero => exact fun S hS => hS
    | succ f ih =>
      intro S hS
      unfold rIter
      split
      · exact hS
      · exact ih _ (h1 S hS 12 (Nat.le_refl _))
  exact h2 1024 1 fun k hk => by rw [(one_bit k).1 hk]; exact h0

theorem reach_next {D : AutoD} (h : AutoOK D) {p q m : Nat} (hp : p < D.ends.length) (hm : m < 12) (hb : (reachF D).testBit p = true) (hq : (nextN D p m).testBit q = true) : (reachF D).testBit q = true := by
  have h1 := rT_has D (reachF D) 12 hm q ((behF_bit D _ m q).2 ⟨p, hp, hb, hq⟩)
  rwa [reachF_closed h] at h1
theorem reach_zero {D : AutoD} (h : AutoOK D) : (reachF D).testBit 0 = true := reachF_one h 0 (by decide)
theorem live_end {D : AutoD} {k : Nat} (hk : k < D.ends.length) (he : 0 < endsN D k) : (liveF D).testBit k = true := liveF_closed D k hk ((liveC_iff D k _).2 (.inl he))
theorem live_next {D : AutoD} {k q m : Nat} (hk : k < D.ends.length) (hm : m < 12) (hq : (nextN D k m).testBit q = true) (hb : (liveF D).testBit q = true) : (liveF D).testBit k = true := liveF_closed D k hk ((liveC_iff D k _).2 (.inr ⟨m, hm, q, hq, hb⟩))

section
variable {D : AutoD}

noncomputable def keptL (D : AutoD) : List Nat := ktL (keepOf D) D.ends.length
noncomputable def kp (D : AutoD) (i : Nat) : Nat := (keptL D).getD i 0
theorem kp_get {i : Nat} (h : i < (keptL D).length) : kp D i = (keptL D)[i] := by simp [kp, List.getD, h]
theorem keep_bit (s : Nat) : (keepOf D).testBit s = true ↔ s = 0 ∨ ((reachF D).testBit s = true ∧ (liveF D).testBit s = true) := by
  rw [keepOf, Nat.testBit_or, Bool.or_eq_true, one_bit, Nat.testBit_and, Bool.and_eq_true]
theorem kp_spec {i : Nat} (h : i < (keptL D).length) : kp D i < D.ends.length ∧ (kp D i = 0 ∨ ((reachF D).testBit (kp D i) = true ∧ (liveF D).testBit (kp D i) = true)) := by
  rw [kp_get h]
  have := ktL_mem.1 (List.getElem_mem h)
  exact ⟨this.1, (keep_bit _).1 this.2⟩
theorem kp_reach (hok : AutoOK D) {i : Nat} (h : i < (keptL D).length) : (reachF D).testBit (kp D i) = true := by
  rcases (kp_spec h).2 with h1 | h1
  · rw [h1]; exact reach_zero hok
  · exact h1.1
theorem kp_of {s : Nat} (hs : s < D.ends.length) (h : s = 0 ∨ ((reachF D).testBit s = true ∧ (liveF D).testBit s = true)) : ∃ i, i < (keptL D).length ∧ kp D i = s := by
  obtain ⟨i, hi, he⟩ := List.getElem_of_mem (ktL_mem.2 ⟨hs, (keep_bit s).2 h⟩)
  exact ⟨i, hi, by rw [kp_get hi]; exact he⟩
theorem kp_inj {i j : Nat} (hi : i < (keptL D).length) (hj : j < (keptL D).length) (h : kp D i = kp D j) : i = j := by
  rw [kp_get hi, kp_get hj] at h
  have hn := List.pairwise_iff_getElem.1 (ktL_nodup (keepOf D) D.ends.length)
  rcases Nat.lt_trichotomy i j with h1 | h1 | h1
  · exact absurd h (hn i j hi hj h1)
  · exact h1
  · exact absurd h.symm (hn j i hj hi h1)
theorem ktL_head (keep : Nat) (h : keep.testBit 0 = true) : ∀ n, 0 < n → (ktL keep n).head? = some 0
  | 1, _ => by rw [ktL_yes h]; rfl
  | n + 2, _ => by
    have ih := ktL_head keep h (n + 1) (by omega)
    cases hb : keep.testBit (n + 1) with
    | true => rw [ktL_yes hb, List.head?_append, ih]; rfl
    | false => rw [ktL_no hb, ih]
theorem kp_zero (hok : AutoOK D) : 0 < (keptL D).length ∧ kp D 0 = 0 := by
  have h := ktL_head (keepOf D) ((keep_bit 0).2 (.inl rfl)) D.ends.length hok.lo
  cases hl : keptL D with
  | nil => rw [keptL] at hl; rw [hl] at h; cases h
  | cons a l =>
    have h2 : (keptL D).head? = some 0 := h
    rw [hl] at h2
    injection h2 with h2
    exact ⟨by simp, by rw [kp, hl, h2]; rfl⟩

noncomputable def trD (D : AutoD) : AutoD := trimTo D (keptL D)
theorem tr_len : (trD D).ends.length = (keptL D).length := by simp [trD, trimTo]
theorem tr_nlen : (trD D).next.length = (keptL D).length := by simp [trD, trimTo]
theorem tr_ends {i : Nat} (h : i < (keptL D).length) : endsN (trD D) i = endsN D (kp D i) := by
  rw [kp_get h]
  simp [endsN, trD, trimTo, nth, List.getD, List.getElem?_map, List.getElem?_eq_getElem h]
theorem tr_row {i : Nat} (h : i < (keptL D).length) : nthL (trD D).next i = (List.range 12).map fun m => ((keepN (nextN D (keptL D)[i] m) (keptL D) : Nat) : Int) := by
  show ((keptL D).map fun s => (List.range 12).map fun m => ((keepN (nextN D s m) (keptL D) : Nat) : Int)).getD i [] = _
  rw [List.getD_eq_getElem?_getD, List.getElem?_map, List.getElem?_eq_getElem h]
  rfl
theorem tr_next {i m : Nat} (h : i < (keptL D).length) (hm : m < 12) : nextN (trD D) i m = keepN (nextN D (kp D i) m) (keptL D) := by
  rw [kp_get h]
  have h1 := tr_row h
  show (nth (nthL (trD D).next i) m).toNat = _
  rw [h1]
  simp [nth, List.getD, hm, nextN]
theorem tr_bit {i m j : Nat} (h : i < (keptL D).length) (hm : m < 12) : (nextN (trD D) i m).testBit j = true ↔ j < (keptL D).length ∧ (nextN D (kp D i) m).testBit (kp D j) = true := by
  rw [tr_next h hm, keepN, sumB_testBit, Bool.and_eq_true, decide_eq_true_eq]
  exact Iff.rfl

theorem tr_ok (hok : AutoOK D) : AutoOK (trD D) := by
  have h0 := kp_zero hok
  have h1 := ktL_len (keepOf D) D.ends.length
  refine ⟨by rw [tr_len]; omega, by rw [tr_len]; exact Nat.le_trans h1 hok.hi, by rw [tr_len, tr_nlen], fun k hk => ?_, fun k hk => ?_, fun k hk j hj => ?_⟩
  · rw [tr_len] at hk
    have h2 := hok.ends _ (kp_spec hk).1
    have h3 : nth (trD D).ends k = nth D.ends (kp D k) := by
      rw [kp_get hk]; simp [trD, trimTo, nth, List.getD, List.getElem?_map, List.getElem?_eq_getElem hk]
    rw [h3]; exact h2
  · rw [tr_len] at hk
    simp [trD, trimTo, nthL, List.getD, List.getElem?_map, List.getElem?_eq_getElem hk]
  · rw [tr_len] at hk
    have h4 := tr_row hk
    have h5 : nth (nthL (trD D).next k) j = ((keepN (nextN D (keptL D)[k] j) (keptL D) : Nat) : Int) := by rw [h4]; simp [nth, List.getD, hj]
    rw [h5, tr_len]
    have h6 := keepN_lt (nextN D (keptL D)[k] j) (keptL D)
    have h7 : ((2 ^ (keptL D).length : Nat) : Int) = 2 ^ (keptL D).length := by push_cast; rfl
    generalize 2 ^ (keptL D).length = z at h6 h7
    rw [← h7]
    omega

structure TrimS (D : AutoD) (T S : Nat) : Prop where
  sub : ∀ i, i < (keptL D).length → T.testBit i = true → S.testBit (kp D i) = true
  sup : ∀ i, i < (keptL D).length → (liveF D).testBit (kp D i) = true → S.testBit (kp D i) = true → T.testBit i = true
  reach : Sub S (reachF D)

theorem trimS_one (hok : AutoOK D) : TrimS D 1 1 := by
  have h0 := kp_zero hok
  refine ⟨fun i hi h => ?_, fun i hi _ h => ?_, reachF_one hok⟩
  · rw [(one_bit i).1 h, h0.2]; decide
  · have h1 := (one_bit _).1 h
    rw [kp_inj hi h0.1 (h1.trans h0.2.symm)]; decide

theorem trimS_step (hok : AutoOK D) {T S m : Nat} (hm : m < 12) (h : TrimS D T S) : TrimS D (behF (trD D) T m) (behF D S m) := by
  refine ⟨fun i hi hb => ?_, fun i hi hl hb => ?_, ?_⟩
  · obtain ⟨k, hk, h1, h2⟩ := (behF_bit _ T m i).1 hb
    rw [tr_len] at hk
    exact (behF_bit D S m _).2 ⟨kp D k, (kp_spec hk).1, h.sub k hk h1, ((tr_bit hk hm).1 h2).2⟩
  · obtain ⟨p, hp, h1, h2⟩ := (behF_bit D S m _).1 hb
    have h3 := live_next hp hm h2 hl
    obtain ⟨k, hk, rfl⟩ := kp_of hp (.inr ⟨h.reach p h1, h3⟩)
    exact (behF_bit _ T m i).2 ⟨k, by rw [tr_len]; exact hk, h.sup k hk h3 h1, (tr_bit hk hm).2 ⟨hi, h2⟩⟩
  · exact behF_sub h.reach fun p hp hb q hq => reach_next hok hp hm hb hq

theorem trimS_end (hok : AutoOK D) {T S j : Nat} (h : TrimS D T S) : (endF (trD D) T).testBit j = (endF D S).testBit j := by
  rw [Bool.eq_iff_iff, endF_bit, endF_bit]
  constructor
  · rintro ⟨i, hi, h1, h2⟩
    rw [tr_len] at hi
    exact ⟨kp D i, (kp_spec hi).1, h.sub i hi h1, by rw [← tr_ends hi]; exact h2⟩
  · rintro ⟨p, hp, h1, h2⟩
    have h3 : 0 < endsN D p := by
      rcases Nat.eq_zero_or_pos (endsN D p) with h4 | h4
      · rw [h4] at h2; simp at h2
      · exact h4
    have h4 := live_end hp h3
    obtain ⟨k, hk, rfl⟩ := kp_of hp (.inr ⟨h.reach p h1, h4⟩)
    exact ⟨k, by rw [tr_len]; exact hk, h.sup k hk h4 h1, by rw [tr_ends hk]; exact h2⟩

theorem trim_run (hok : AutoOK D) {t : List Int} (ht : TraceOK t) : ∀ j, 2 * j < t.length → TrimS D (runT (trD D) t j) (runT D t j)
  | 0, _ => trimS_one hok
  | j + 1, hj => trimS_step hok (ht.mv (by omega)).2 (trim_run hok ht j (by omega))

theorem trim_runF (hok : AutoOK D) {t : List Int} (ht : TraceOK t) (hl : 2 * (t.length / 2) < t.length) : runF (trD D) t = runF D t :=
  trimS_end hok (trim_run hok ht _ hl)

theorem next_bd (hok : AutoOK D) {p m q : Nat} (hp : p < D.ends.length) (hm : m < 12) (h : (nextN D p m).testBit q = true) : q < D.ends.length := by
  rcases Nat.lt_or_ge q D.ends.length with h1 | h1
  · exact h1
  · rw [hi_false (hok.nextN_lt hp hm) h1] at h; cases h

open Classical in
theorem trim_reach (hok : AutoOK D) {i : Nat} (hi : i < (keptL D).length) : (reachF (trD D)).testBit i = true := by
  have hT := tr_ok hok
  have h0 := kp_zero hok
  obtain ⟨P, hP⟩ : ∃ P : Nat → Prop, ∀ s, P s ↔ ((reachF D).testBit s = true ∧ ((liveF D).testBit s = true → ∃ i, i < (keptL D).length ∧ kp D i = s ∧ (reachF (trD D)).testBit i = true)) := ⟨_, fun _ => Iff.rfl⟩
  have hb : ∀ s, (sumB (fun s => decide (P s)) D.ends.length).testBit s = true ↔ s < D.ends.length ∧ P s := fun s => by
    rw [sumB_testBit, Bool.and_eq_true, decide_eq_true_eq, decide_eq_true_eq]
  have hmin := reachF_min (D := D) (C := sumB (fun s => decide (P s)) D.ends.length) ((hb 0).2 ⟨hok.lo, (hP 0).2 ⟨reach_zero hok, fun _ => ⟨0, h0.1, h0.2, reach_zero hT⟩⟩⟩) (fun p hp hc m hm q hq => by
    obtain ⟨_, hc⟩ := (hb p).1 hc
    obtain ⟨c1, c2⟩ := (hP p).1 hc
    have hqn := next_bd hok hp hm hq
    have hr := reach_next hok hp hm c1 hq
    refine (hb q).2 ⟨hqn, (hP q).2 ⟨hr, fun hl => ?_⟩⟩
    obtain ⟨k, hk, rfl, hk2⟩ := c2 (live_next hp hm hq hl)
    obtain ⟨j, hj, rfl⟩ := kp_of hqn (.inr ⟨hr, hl⟩)
    exact ⟨j, hj, rfl, reach_next hT (by rw [tr_len]; exact hk) hm hk2 ((tr_bit hk hm).2 ⟨hj, hq⟩)⟩)
  rcases (kp_spec hi).2 with hz | ⟨h1, h2⟩
  · rw [kp_inj hi h0.1 (hz.trans h0.2.symm)]; exact reach_zero hT
  · obtain ⟨_, hc⟩ := (hb _).1 (hmin _ h1)
    obtain ⟨j, hj, he, hr⟩ := ((hP _).1 hc).2 h2
    rw [kp_inj hi hj he.symm]; exact hr

open Classical in
theorem trim_live (hok : AutoOK D) {i : Nat} (hi : i < (keptL D).length) (hl : (liveF D).testBit (kp D i) = true) : (liveF (trD D)).testBit i = true := by
  obtain ⟨P, hP⟩ : ∃ P : Nat → Prop, ∀ s, P s ↔ ((liveF D).testBit s = true ∧ ((reachF D).testBit s = true → ∃ i, i < (keptL D).length ∧ kp D i = s ∧ (liveF (trD D)).testBit i = true)) := ⟨_, fun _ => Iff.rfl⟩
  have hb : ∀ s, (sumB (fun s => decide (P s)) D.ends.length).testBit s = true ↔ s < D.ends.length ∧ P s := fun s => by
    rw [sumB_testBit, Bool.and_eq_true, decide_eq_true_eq, decide_eq_true_eq]
  have hmin := liveF_forced D (sumB (fun s => decide (P s)) D.ends.length) (fun k hk hc => by
    refine (hb k).2 ⟨hk, (hP k).2 ?_⟩
    rcases (liveC_iff D k _).1 hc with he | ⟨m, hm, q, hq, hcq⟩
    · have hlk := live_end hk he
      refine ⟨hlk, fun hr => ?_⟩
      obtain ⟨j, hj, rfl⟩ := kp_of hk (.inr ⟨hr, hlk⟩)
      exact ⟨j, hj, rfl, live_end (by rw [tr_len]; exact hj) (by rw [tr_ends hj]; exact he)⟩
    · obtain ⟨_, hcq⟩ := (hb q).1 hcq
      obtain ⟨c1, c2⟩ := (hP q).1 hcq
      have hlk := live_next hk hm hq c1
      refine ⟨hlk, fun hr => ?_⟩
      obtain ⟨j, hj, rfl, hj2⟩ := c2 (reach_next hok hk hm hr hq)
      obtain ⟨k', hk', rfl⟩ := kp_of hk (.inr ⟨hr, hlk⟩)
      exact ⟨k', hk', rfl, live_next (by rw [tr_len]; exact hk') hm ((tr_bit hk' hm).2 ⟨hj, hq⟩) hj2⟩)
  obtain ⟨_, hc⟩ := (hb _).1 (hmin _ hl)
  obtain ⟨j, hj, he, hr⟩ := ((hP _).1 hc).2 (kp_reach hok hi)
  rw [kp_inj hi hj he.symm]; exact hr

theorem trim_lives (hok : AutoOK D) {i : Nat} (hi : i < (keptL D).length) (h0 : i ≠ 0) : (liveF (trD D)).testBit i = true := by
  have hz := kp_zero hok
  rcases (kp_spec hi).2 with h | ⟨_, h⟩
  · exact absurd (kp_inj hi hz.1 (h.trans hz.2.symm)) h0
  · exact trim_live hok hi h

theorem kept_again (hok : AutoOK D) : keptL (trD D) = List.range (keptL D).length := by
  rw [keptL, tr_len, ktL]
  refine List.filter_eq_self.2 fun i hi => ?_
  have hi' : i < (keptL D).length := by simpa using hi
  rw [keep_bit]
  by_cases h0 : i = 0
  · exact .inl h0
  · exact .inr ⟨trim_reach hok hi', trim_lives hok hi' h0⟩

theorem keepN_range {set n : Nat} (h : set < 2 ^ n) : keepN set (List.range n) = set := by
  refine Nat.eq_of_testBit_eq fun i => ?_
  rw [keepN, sumB_testBit, List.length_range]
  by_cases hi : i < n
  · simp [List.getD, hi]
  · simp [hi, hi_false h (Nat.le_of_not_lt hi)]

theorem trim_again (hok : AutoOK D) : trD (trD D) = trD D := by
  have hT := tr_ok hok
  have hk := kept_again hok
  have hlen : (trD D).ends.length = (keptL D).length := tr_len
  have e1 : (trD (trD D)).ends = (trD D).ends := by
    show (keptL (trD D)).map (nth (trD D).ends) = (trD D).ends
    rw [hk]
    refine List.ext_getElem (by simp [hlen]) fun i h1 h2 => ?_
    simp [nth, List.getD, h2]
  have e2 : (trD (trD D)).next = (trD D).next := by
    show (keptL (trD D)).map (fun s => (List.range 12).map fun m => ((keepN (nextN (trD D) s m) (keptL (trD D)) : Nat) : Int)) = (trD D).next
    rw [hk]
    refine List.ext_getElem (by simp [tr_nlen]) fun i h1 h2 => ?_
    have hi : i < (trD D).ends.length := by rw [hlen, ← tr_nlen]; exact h2
    have hr := hT.rows i hi
    have hg : nthL (trD D).next i = (trD D).next[i] := by simp [nthL, List.getD, h2]
    rw [hg] at hr
    simp only [List.getElem_map, List.getElem_range]
    refine List.ext_getElem (by simp [hr]) fun j g1 g2 => ?_
    have hj : j < 12 := by simpa using g1
    simp only [List.getElem_map, List.getElem_range]
    rw [keepN_range (by rw [← hlen]; exact hT.nextN_lt hi hj), ← hT.nextN_eq hi hj, hg]
    simp [nth, List.getD, g2]
  calc trD (trD D) = ⟨(trD (trD D)).ends, (trD (trD D)).next⟩ := rfl
    _ = ⟨(trD D).ends, (trD D).next⟩ := by rw [e1, e2]
    _ = trD D := rfl
end

end Go.Proofs.Ytljoonlcpiagjaa

namespace Go.Proofs.Ytljoonlcpiagjaa
set_option linter.unusedSimpArgs false
set_option linter.unusedVariables false
set_option maxRecDepth 8000
set_option maxHeartbeats 2000000

def wkD (D : AutoD) (t : Nat) : AutoD := ⟨D.ends.map fun x => ((x.toNat &&& (15 - t) : Nat) : Int), D.next⟩
theorem wkD_ends {D : AutoD} {t k : Nat} (h : k < D.ends.length) : endsN (wkD D t) k = endsN D k &&& (15 - t) := by
  simp [endsN, wkD, nth, List.getD, h]
theorem wkD_len (D : AutoD) (t : Nat) : (wkD D t).ends.length = D.ends.length := by simp [wkD]
theorem wkD_next (D : AutoD) (t k m : Nat) : nextN (wkD D t) k m = nextN D k m := rfl

theorem not_testBit {t : Nat} (ht : t ≤ 15) (i : Nat) : (15 - t).testBit i = (decide (i < 4) && !t.testBit i) := by
  have : 15 - t = 2 ^ 4 - (t + 1) := by omega
  rw [this]
  exact Nat.testBit_two_pow_sub_succ (by omega) i

def badP (D : AutoD) (t s a S : Nat) : Prop := ((endsN D s).testBit a = true ∧ ¬ t.testBit a = true) ∨ ∃ c, c < 3 ∧ 0 < nextN D s (3 * a + c) &&& S
theorem badP_mono {D : AutoD} {t s a S S' : Nat} (h : Sub S S') (hb : badP D t s a S) : badP D t s a S' := by
  refine hb.imp id ?_
  rintro ⟨c, hc, hp⟩
  obtain ⟨j, h1, h2⟩ := and_pos.1 hp
  exact ⟨c, hc, and_pos.2 ⟨j, h1, h j h2⟩⟩
theorem bad_live {D : AutoD} {t s a S : Nat} (ht : t ≤ 15) (hs : s < D.ends.length) (ha : a < 4) (h : badP D t s a S) : liveC (wkD D t) s S = true := by
  unfold liveC
  rw [Bool.or_eq_true]
  rcases h with ⟨h1, h2⟩ | ⟨c, hc, h⟩
  · left
    rw [decide_eq_true_eq, wkD_ends hs]
    refine and_pos.2 ⟨a, h1, ?_⟩
    rw [not_testBit ht]
    simp [ha]
    simpa using h2
  · right
    rw [anyM_iff]
    exact ⟨3 * a + c, by omega, h⟩
theorem live_bad {D : AutoD} {t s S : Nat} (ht : t ≤ 15) (hs : s < D.ends.length) (h : liveC (wkD D t) s S = true) : ∃ a, a < 4 ∧ badP D t s a S := by
  unfold liveC at h
  rw [Bool.or_eq_true] at h
  rcases h with h | h
  · rw [decide_eq_true_eq, wkD_ends hs] at h
    obtain ⟨j, h1, h2⟩ := and_pos.1 h
    rw [not_testBit ht, Bool.and_eq_true, decide_eq_true_eq] at h2
    exact ⟨j, h2.1, .inl ⟨h1, by simpa using h2.2⟩⟩
  · rw [anyM_iff] at h
    obtain ⟨m, hm, h⟩ := h
    refine ⟨m / 3, by omega, .inr ⟨m % 3, by omega, ?_⟩⟩
    rw [show 3 * (m / 3) + m % 3 = m by omega]
    exact h

def stN (P : List (Nat × Nat)) : Nat := P.foldl (fun acc p => acc ||| 2 ^ p.1) 0
theorem foldS_testBit (k : Nat) : ∀ (P : List (Nat × Nat)) (acc : Nat), (P.foldl (fun acc p => acc ||| 2 ^ p.1) acc).testBit k = true ↔ acc.testBit k = true ∨ ∃ a, (k, a) ∈ P
  | [], acc => by simp
  | p :: P, acc => by
    rw [List.foldl_cons, foldS_testBit k P, Nat.testBit_or, Bool.or_eq_true, Nat.testBit_two_pow, decide_eq_true_eq]
    constructor
    · rintro ((h | h) | ⟨a, h⟩)
      · exact .inl h
      · exact .inr ⟨p.2, by rw [← h]; simp⟩
      · exact .inr ⟨a, by simp [h]⟩
    · rintro (h | ⟨a, h⟩)
      · exact .inl (.inl h)
      · rcases List.mem_cons.1 h with h | h
        · exact .inl (.inr (by rw [← h]))
        · exact .inr ⟨a, h⟩
theorem stN_testBit {P : List (Nat × Nat)} {k : Nat} : (stN P).testBit k = true ↔ ∃ a, (k, a) ∈ P := by
  rw [stN, foldS_testBit]; simp

def ForcedP (D : AutoD) (t : Nat) (P : List (Nat × Nat)) : Prop := ∀ p ∈ P, p.1 < D.ends.length ∧ p.2 < 4 ∧ badP D t p.1 p.2 (liveF (wkD D t))
theorem ForcedP.sub {D : AutoD} {t : Nat} {P : List (Nat × Nat)} (ht : t ≤ 15) (h : ForcedP D t P) : Sub (stN P) (liveF (wkD D t)) := by
  intro k hk
  obtain ⟨a, ha⟩ := stN_testBit.1 hk
  obtain ⟨h1, h2, h3⟩ := h _ ha
  exact liveF_closed (wkD D t) k (by rw [wkD_len]; exact h1) (bad_live ht h1 h2 h3)
theorem ForcedP.add {D : AutoD} {t s a : Nat} {P : List (Nat × Nat)} (ht : t ≤ 15) (h : ForcedP D t P) (hs : s < D.ends.length) (ha : a < 4) (hb : badP D t s a (stN P)) : ForcedP D t (P ++ [(s, a)]) := by
  intro p hp
  rcases List.mem_append.1 hp with hp | hp
  · exact h p hp
  · simp only [List.mem_cons, List.not_mem_nil, or_false] at hp
    subst hp
    exact ⟨hs, ha, badP_mono (h.sub ht) hb⟩
def ClosedP (D : AutoD) (t : Nat) (P : List (Nat × Nat)) : Prop := ∀ s, s < D.ends.length → ∀ a, a < 4 → badP D t s a (stN P) → (s, a) ∈ P
theorem pairs_done {D : AutoD} {t : Nat} {P : List (Nat × Nat)} (ht : t ≤ 15) (hf : ForcedP D t P) (hc : ClosedP D t P) {s a : Nat} (hs : s < D.ends.length) (ha : a < 4) : (s, a) ∈ P ↔ badP D t s a (liveF (wkD D t)) := by
  refine ⟨fun h => (hf _ h).2.2, fun h => hc s hs a ha (badP_mono (liveF_forced (wkD D t) (stN P) fun k hk hl => ?_) h)⟩
  rw [wkD_len] at hk
  obtain ⟨b, hb, h2⟩ := live_bad ht hk hl
  exact stN_testBit.2 ⟨b, hc k hk b hb h2⟩

open Classical in
noncomputable def weakN (D : AutoD) (t : Nat) : Nat := sumB (fun a => !decide (badP D t 0 a (liveF (wkD D t)))) 4
open Classical in
noncomputable def weakI (D : AutoD) (test : Int) : Int := if D.ends.length = 0 ∨ ¬ (0 ≤ test ∧ test ≤ 15) then -1 else (weakN D test.toNat : Nat)

end Go.Proofs.Ytljoonlcpiagjaa

namespace Go.Proofs.Ytljoonlcpiagjaa
set_option linter.unusedSimpArgs false
set_option linter.unusedVariables false
set_option maxRecDepth 8000
set_option maxHeartbeats 2000000

structure Rnd (D : AutoD) (t : Nat) (P0 P : List (Nat × Nat)) (ch : Bool) (s a : Nat) : Prop where
  f : ForcedP D t P
  nd : P.Nodup
  le : P0.length ≤ P.length
  grow : ch = true → P0.length < P.length
  same : ch = false → P = P0 ∧ (∀ s', s' < s → ∀ a', a' < 4 → badP D t s' a' (stN P) → (s', a') ∈ P) ∧ ∀ a', a' < a → badP D t s a' (stN P) → (s, a') ∈ P

theorem Rnd.start {D : AutoD} {t : Nat} {P : List (Nat × Nat)} (hf : ForcedP D t P) (hn : P.Nodup) : Rnd D t P P false 0 0 :=
  ⟨hf, hn, Nat.le_refl _, fun h => (by cases h), fun _ => ⟨rfl, fun _ h => absurd h (Nat.not_lt_zero _), fun _ h => absurd h (Nat.not_lt_zero _)⟩⟩
theorem Rnd.skip {D : AutoD} {t : Nat} {P0 P : List (Nat × Nat)} {ch : Bool} {s a : Nat} (h : Rnd D t P0 P ch s a) (hs : badP D t s a (stN P) → (s, a) ∈ P) : Rnd D t P0 P ch s (a + 1) :=
  ⟨h.f, h.nd, h.le, h.grow, fun hc => by
    obtain ⟨h1, h2, h3⟩ := h.same hc
    refine ⟨h1, h2, fun a' ha' => ?_⟩
    by_cases e : a' = a
    · subst e; exact hs
    · exact h3 a' (by omega)⟩
theorem Rnd.add {D : AutoD} {t : Nat} {P0 P : List (Nat × Nat)} {ch : Bool} {s a : Nat} (h : Rnd D t P0 P ch s a) (ht : t ≤ 15) (hs : s < D.ends.length) (ha : a < 4) (hb : badP D t s a (stN P)) (hn : (s, a) ∉ P) (a' : Nat) : Rnd D t P0 (P ++ [(s, a)]) true s a' :=
  ⟨h.f.add ht hs ha hb, by
    rw [List.nodup_append]
    refine ⟨h.nd, by simp, fun x hx y hy => ?_⟩
    simp only [List.mem_cons, List.not_mem_nil, or_false] at hy
    subst hy
    exact fun e => hn (e ▸ hx), by have := h.le; simp; omega, fun _ => by have := h.le; simp; omega, fun h => (by cases h)⟩
theorem Rnd.next {D : AutoD} {t : Nat} {P0 P : List (Nat × Nat)} {ch : Bool} {s : Nat} (h : Rnd D t P0 P ch s 4) : Rnd D t P0 P ch (s + 1) 0 :=
  ⟨h.f, h.nd, h.le, h.grow, fun hc => by
    obtain ⟨h1, h2, h3⟩ := h.same hc
    refine ⟨h1, fun s' hs' => ?_, fun _ h => absurd h (Nat.not_lt_zero _)⟩
    by_cases e : s' = s
    · subst e; exact h3
    · exact h2 s' (by omega)⟩
theorem Rnd.closed {D : AutoD} {t : Nat} {P0 P : List (Nat × Nat)} {a : Nat} (h : Rnd D t P0 P false D.ends.length a) : ClosedP D t P := (h.same rfl).2.1

theorem forced_len {D : AutoD} {t : Nat} {P : List (Nat × Nat)} (h : ForcedP D t P) (hn : P.Nodup) (h10 : D.ends.length ≤ 10) : P.length ≤ 40 := by
  have h1 : (P.map fun p => p.1 * 4 + p.2).Nodup := by
    rw [List.Nodup, List.pairwise_map]
    refine List.Pairwise.imp_of_mem (fun {x y} hx hy hne e => hne ?_) hn
    have := h x hx
    have := h y hy
    exact Prod.ext (by omega) (by omega)
  have h2 := nodup_len (m := List.range 40) h1 fun x hx => by
    obtain ⟨p, hp, rfl⟩ := List.mem_map.1 hx
    have := h p hp
    rw [List.mem_range]; omega
  simpa using h2

def anyS (set : Nat) (P : List (Nat × Nat)) (seen : List Nat) : Bool := seen.any fun j => set.testBit (P.getD j (0, 0)).1
theorem anyS_snoc (set : Nat) (P : List (Nat × Nat)) (seen : List Nat) (j : Nat) : anyS set P (seen ++ [j]) = (anyS set P seen || set.testBit (P.getD j (0, 0)).1) := by simp [anyS]
theorem anyS_all {set : Nat} {P : List (Nat × Nat)} {seen : List Nat} (h1 : ∀ j ∈ seen, j < P.length) (h2 : ∀ j, j < P.length → j ∈ seen) : anyS set P seen = decide (0 < set &&& stN P) := by
  rw [Bool.eq_iff_iff, decide_eq_true_eq, and_pos, anyS, List.any_eq_true]
  constructor
  · rintro ⟨j, hj, h⟩
    have hl := h1 j hj
    refine ⟨_, h, stN_testBit.2 ⟨P[j].2, ?_⟩⟩
    have e : P.getD j (0, 0) = P[j] := by simp [List.getD, hl]
    rw [e]
    exact List.getElem_mem hl
  · rintro ⟨k, h, hk⟩
    obtain ⟨a, ha⟩ := stN_testBit.1 hk
    obtain ⟨j, hj, e⟩ := List.getElem_of_mem ha
    refine ⟨j, h2 j hj, ?_⟩
    have e2 : P.getD j (0, 0) = (k, a) := by simp [List.getD, hj, e]
    rw [e2]; exact h

end Go.Proofs.Ytljoonlcpiagjaa
