/- The automaton of one or the other, as it is built. No program in sight. -/
import Derived.Test.YtboandkjhdaobaaGrpN
import Derived.Test.YtboandkjhdaobaaGrpC
namespace Go.Proofs.Ytboandkjhdaobaa
set_option linter.unusedSimpArgs false
set_option linter.unusedVariables false
set_option maxRecDepth 8000
set_option maxHeartbeats 2000000
open Go.RowKit

def shN (X : AutoD) (s k m : Nat) : Nat := nextN X k m * 2 ^ s
def fstN (X Y : AutoD) (m : Nat) : Nat := nextN X 0 m * 2 ^ 1 ||| nextN Y 0 m * 2 ^ (1 + X.ends.length)
def shR (X : AutoD) (s n : Nat) : List (List Int) := rowsOf (fun k => rowOf (shN X s k) 12) n
theorem shR_len (X : AutoD) (s n : Nat) : (shR X s n).length = n := rowsOf_len _ _
theorem shR_succ (X : AutoD) (s n : Nat) : shR X s (n + 1) = shR X s n ++ [rowOf (shN X s n) 12] := rowsOf_succ _ _
def sumTo (X Y : AutoD) : AutoD := ⟨((endsN X 0 ||| endsN Y 0 : Nat) : Int) :: (X.ends ++ Y.ends), rowOf (fstN X Y) 12 :: (shR X 1 X.ends.length ++ shR Y (1 + X.ends.length) Y.ends.length)⟩
open Classical in
noncomputable def plusD (X Y : AutoD) : AutoD := if AutoOK X ∧ AutoOK Y ∧ 1 + X.ends.length + Y.ends.length ≤ 10 then sumTo X Y else ⟨[], []⟩
theorem plusD_no {X Y : AutoD} (h : ¬ (AutoOK X ∧ AutoOK Y ∧ 1 + X.ends.length + Y.ends.length ≤ 10)) : plusD X Y = ⟨[], []⟩ := by unfold plusD; rw [if_neg h]
theorem plusD_yes {X Y : AutoD} (h : AutoOK X ∧ AutoOK Y ∧ 1 + X.ends.length + Y.ends.length ≤ 10) : plusD X Y = sumTo X Y := by unfold plusD; rw [if_pos h]

section
variable (X Y : AutoD)
theorem sumTo_len : (sumTo X Y).ends.length = 1 + X.ends.length + Y.ends.length := by simp [sumTo]; omega
theorem sumTo_nlen : (sumTo X Y).next.length = 1 + X.ends.length + Y.ends.length := by simp [sumTo, shR_len]; omega
theorem sumTo_e0 : nth (sumTo X Y).ends 0 = ((endsN X 0 ||| endsN Y 0 : Nat) : Int) := rfl
theorem sumTo_eX {i : Nat} (h : i < X.ends.length) : nth (sumTo X Y).ends (1 + i) = nth X.ends i := by
  rw [Nat.add_comm]
  simp [sumTo, nth, List.getD, List.getElem?_append_left h]
theorem sumTo_eY {j : Nat} (h : j < Y.ends.length) : nth (sumTo X Y).ends (1 + X.ends.length + j) = nth Y.ends j := by
  rw [show 1 + X.ends.length + j = (X.ends.length + j) + 1 by omega]
  simp [sumTo, nth, List.getD, List.getElem?_append_right]
theorem sumTo_n0 : nthL (sumTo X Y).next 0 = rowOf (fstN X Y) 12 := rfl
theorem sumTo_nX {i : Nat} (h : i < X.ends.length) : nthL (sumTo X Y).next (1 + i) = rowOf (shN X 1 i) 12 := by
  rw [Nat.add_comm]
  have : i < (shR X 1 X.ends.length).length := by rw [shR_len]; exact h
  simp only [sumTo, nthL, List.getD, List.getElem?_cons_succ, List.getElem?_append_left this]
  simp [shR, rowsOf, h]
theorem sumTo_nY {j : Nat} (h : j < Y.ends.length) : nthL (sumTo X Y).next (1 + X.ends.length + j) = rowOf (shN Y (1 + X.ends.length) j) 12 := by
  rw [show 1 + X.ends.length + j = (X.ends.length + j) + 1 by omega]
  have : ¬ X.ends.length + j < (shR X 1 X.ends.length).length := by rw [shR_len]; omega
  simp only [sumTo, nthL, List.getD, List.getElem?_cons_succ, List.getElem?_append_right (Nat.le_of_not_lt this), shR_len, Nat.add_sub_cancel_left]
  simp [shR, rowsOf, h]
theorem sumTo_sum : IsSum (sumTo X Y) X Y := by
  refine ⟨sumTo_len X Y, ?_, fun i hi => ?_, fun j hj => ?_, fun m hm => ?_, fun i hi m hm => ?_, fun j hj m hm => ?_⟩
  · unfold endsN; rw [sumTo_e0]; rfl
  · unfold endsN; rw [sumTo_eX X Y hi]
  · unfold endsN; rw [sumTo_eY X Y hj]
  · rw [nextN, sumTo_n0, rowOf_nth _ hm]; rfl
  · rw [nextN, sumTo_nX X Y hi, rowOf_nth _ hm]; rfl
  · rw [nextN, sumTo_nY X Y hj, rowOf_nth _ hm]; rfl
end
theorem shl_lt {a s n N : Nat} (h : a < 2 ^ n) (hN : s + n ≤ N) : a * 2 ^ s < 2 ^ N := by
  refine Nat.lt_of_lt_of_le (Nat.mul_lt_mul_of_pos_right h (Nat.two_pow_pos _)) ?_
  rw [← Nat.pow_add]
  exact Nat.pow_le_pow_right (by omega) (by omega)
theorem sum_ok {X Y : AutoD} (hx : AutoOK X) (hy : AutoOK Y) (h10 : 1 + X.ends.length + Y.ends.length ≤ 10) : AutoOK (sumTo X Y) := by
  have hS := sumTo_sum X Y
  have hlen := sumTo_len X Y
  have hx1 := hx.lo
  have hy1 := hy.lo
  have nb : ∀ (D : AutoD), AutoOK D → ∀ k m, k < D.ends.length → m < 12 → nextN D k m < 2 ^ D.ends.length := fun D hD k m hk hm => by
    have h0 := hD.sets k hk m hm
    have h5 : ((2 ^ D.ends.length : Nat) : Int) = 2 ^ D.ends.length := by push_cast; rfl
    unfold nextN
    generalize 2 ^ D.ends.length = z at h5 ⊢
    rw [← h5] at h0
    omega
  have eb : ∀ (D : AutoD), AutoOK D → ∀ k, k < D.ends.length → endsN D k < 16 := fun D hD k hk => by
    have := hD.ends k hk
    unfold endsN
    omega
  refine ⟨by omega, by omega, by rw [sumTo_nlen, sumTo_len], fun k hk => ?_, fun k hk => ?_, fun k hk m hm => ?_⟩
  · rcases state_cases hS hk with rfl | ⟨i, hi, rfl⟩ | ⟨j, hj, rfl⟩
    · rw [sumTo_e0]
      have := Nat.or_lt_two_pow (n := 4) (eb X hx 0 (by omega)) (eb Y hy 0 (by omega))
      omega
    · rw [sumTo_eX X Y hi]; exact hx.ends i hi
    · rw [sumTo_eY X Y hj]; exact hy.ends j hj
  · rcases state_cases hS hk with rfl | ⟨i, hi, rfl⟩ | ⟨j, hj, rfl⟩
    · rw [sumTo_n0, rowOf_len]
    · rw [sumTo_nX X Y hi, rowOf_len]
    · rw [sumTo_nY X Y hj, rowOf_len]
  · have h5 : ((2 ^ (sumTo X Y).ends.length : Nat) : Int) = 2 ^ (sumTo X Y).ends.length := by push_cast; rfl
    have key : ∀ v : Nat, v < 2 ^ (sumTo X Y).ends.length → 0 ≤ (v : Int) ∧ (v : Int) ≤ 2 ^ (sumTo X Y).ends.length - 1 := fun v hv => by
      generalize 2 ^ (sumTo X Y).ends.length = z at hv h5
      rw [← h5]
      omega
    rcases state_cases hS hk with rfl | ⟨i, hi, rfl⟩ | ⟨j, hj, rfl⟩
    · rw [sumTo_n0, rowOf_nth _ hm]
      exact key _ (Nat.or_lt_two_pow (shl_lt (nb X hx 0 m (by omega) hm) (by omega)) (shl_lt (nb Y hy 0 m (by omega) hm) (by omega)))
    · rw [sumTo_nX X Y hi, rowOf_nth _ hm]
      exact key _ (shl_lt (nb X hx i m hi hm) (by omega))
    · rw [sumTo_nY X Y hj, rowOf_nth _ hm]
      exact key _ (shl_lt (nb Y hy j m hj hm) (by omega))
theorem plusD_small (X Y : AutoD) : (plusD X Y).ends.length ≤ 10 ∧ (plusD X Y).next.length ≤ 10 ∧ ∀ x ∈ (plusD X Y).next, x.length ≤ 12 := by
  by_cases g : AutoOK X ∧ AutoOK Y ∧ 1 + X.ends.length + Y.ends.length ≤ 10
  · rw [plusD_yes g]
    refine ⟨by rw [sumTo_len]; exact g.2.2, by rw [sumTo_nlen]; exact g.2.2, fun x hx => ?_⟩
    have hx' : x ∈ rowOf (fstN X Y) 12 :: (shR X 1 X.ends.length ++ shR Y (1 + X.ends.length) Y.ends.length) := hx
    have h12 : ∀ (D : AutoD) (s n : Nat), x ∈ shR D s n → x.length ≤ 12 := fun D s n h => by
      obtain ⟨k, _, rfl⟩ := List.mem_map.1 (show x ∈ (List.range n).map _ from h)
      simp [rowOf]
    rcases List.mem_cons.1 hx' with rfl | h
    · simp [rowOf]
    · rcases List.mem_append.1 h with h | h
      · exact h12 _ _ _ h
      · exact h12 _ _ _ h
  · rw [plusD_no g]; simp
theorem or_sum {a b n : Nat} (h : a < 2 ^ n) : a * 2 ^ 1 ||| b * 2 ^ (1 + n) = 2 * a + b * 2 ^ (n + 1) := by
  have h1 : 2 * a < 2 ^ (n + 1) := by rw [Nat.pow_succ]; omega
  have := Nat.two_pow_add_eq_or_of_lt h1 b
  rw [show b * 2 ^ (n + 1) = 2 ^ (n + 1) * b from Nat.mul_comm _ _, show a * 2 ^ 1 = 2 * a by omega, Nat.add_comm 1 n, show b * 2 ^ (n + 1) = 2 ^ (n + 1) * b from Nat.mul_comm _ _, Nat.or_comm, ← this, Nat.add_comm]

end Go.Proofs.Ytboandkjhdaobaa
