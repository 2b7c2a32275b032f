/- How the reference draws traces, as plain functions. No program in sight. -/
import Derived.Test.YtehdfifncbokeaaGreatGrpL
namespace Go.Proofs.YtehdfifncbokeaaGreat
set_option linter.unusedSimpArgs false
set_option linter.unusedVariables false
set_option maxRecDepth 8000
set_option maxHeartbeats 2000000

def trkX (bs : List Nat) (q : Nat) : Nat → List Int
  | 0 => []
  | k + 1 => trkX bs q k ++ [16 + (pickX bs (q + 2 * k) 3 : Int), (pickX bs (q + 2 * k + 1) 4 : Int)]
theorem trkX_len (bs : List Nat) (q : Nat) : ∀ k, (trkX bs q k).length = 2 * k
  | 0 => rfl
  | k + 1 => by simp only [trkX, List.length_append, trkX_len bs q k, List.length_cons, List.length_nil]; omega

def fillX (out : List Int) : Nat → List Int
  | 0 => out
  | k + 1 => fillX out k ++ [16, 0]
theorem fillX_len (out : List Int) : ∀ k, (fillX out k).length = out.length + 2 * k
  | 0 => rfl
  | k + 1 => by simp only [fillX, List.length_append, fillX_len out k, List.length_cons, List.length_nil]; omega

def traceX (bs : List Nat) (p most n : Nat) : List Int × Nat :=
  let k := pickX bs (p + 1) (most + 1)
  let out := (pickX bs p 4 : Int) :: trkX bs (p + 2) k
  let o := oddX bs (p + 2 + 2 * k) n
  if o.1 then
    if pickX bs o.2 4 = 0 then ([], o.2 + 1)
    else if pickX bs o.2 4 = 1 then (out ++ [16], o.2 + 1)
    else if pickX bs o.2 4 = 2 then (out ++ [19, 0], o.2 + 1)
    else (fillX out (21 - k), o.2 + 1)
  else (out, o.2)

def glueX (bs : List Nat) (p : Nat) (a b : List Int) : List Int × Nat :=
  if b.length = 1 then (if pickX bs p 3 = 0 then a else a.take (a.length - 1) ++ b, p + 1) else (a.take (a.length - 1) ++ b, p)

def seekX (n : Nat) : Nat → Nat → Nat
  | 0, a => a
  | k + 1, a => if n.testBit a = false then seekX n k ((a + 1) % 4) else a

def starX (bs : List Nat) (f : Nat → List Int × Nat) : Nat → List Int → Nat → List Int × Nat
  | 0, out, p => (out, p)
  | k + 1, out, p =>
    let s := f p
    let g := glueX bs s.2 out s.1
    starX bs f k g.1 g.2

def ofX (bs : List Nat) : Ex → Nat → Nat → List Int × Nat
  | .leaf n, _, p => if n ≤ 15 then ([(seekX n.toNat 4 (pickX bs p 4) : Int)], p + 1) else ([(pickX bs p 4 : Int), n, (pickX bs (p + 1) 4 : Int)], p + 2)
  | .pls a b, deep, p => if pickX bs (p + 1) 2 = 0 then ofX bs a deep (p + 2) else ofX bs b deep (p + 2)
  | .thn a b, deep, p =>
    let s := ofX bs a deep (p + 1)
    let t := ofX bs b deep s.2
    glueX bs t.2 s.1 t.1
  | .str a, deep, p => starX bs (fun q => ofX bs a (deep - 1) q) (if 0 < deep then pickX bs (p + 1) 3 else 0) [(pickX bs p 4 : Int)] (p + 2)

theorem glueX_len (bs : List Nat) (p : Nat) (a b : List Int) : (glueX bs p a b).1.length ≤ a.length + b.length := by
  unfold glueX
  split
  · dsimp only
    split
    · omega
    · simp only [List.length_append, List.length_take]; omega
  · simp only [List.length_append, List.length_take]; omega
theorem glueX_p (bs : List Nat) (p : Nat) (a b : List Int) : (glueX bs p a b).2 ≤ p + 1 := by
  unfold glueX
  split <;> simp

theorem starX_len {bs : List Nat} {f : Nat → List Int × Nat} {C : Nat} (h : ∀ q, (f q).1.length ≤ C) : ∀ (k : Nat) (out : List Int) (p : Nat), (starX bs f k out p).1.length ≤ out.length + k * C
  | 0, out, p => by simp [starX]
  | k + 1, out, p => by
    have h1 := starX_len (bs := bs) (f := f) h k (glueX bs (f p).2 out (f p).1).1 (glueX bs (f p).2 out (f p).1).2
    have h2 := glueX_len bs (f p).2 out (f p).1
    have h3 := h p
    have h4 : (k + 1) * C = k * C + C := Nat.succ_mul _ _
    unfold starX
    dsimp only
    omega
theorem starX_p {bs : List Nat} {f : Nat → List Int × Nat} {C : Nat} (h : ∀ q, (f q).2 ≤ q + C) : ∀ (k : Nat) (out : List Int) (p : Nat), (starX bs f k out p).2 ≤ p + k * (C + 1)
  | 0, out, p => by simp [starX]
  | k + 1, out, p => by
    have h1 := starX_p (bs := bs) (f := f) h k (glueX bs (f p).2 out (f p).1).1 (glueX bs (f p).2 out (f p).1).2
    have h2 := glueX_p bs (f p).2 out (f p).1
    have h3 := h p
    have h4 : (k + 1) * (C + 1) = k * (C + 1) + (C + 1) := Nat.succ_mul _ _
    unfold starX
    dsimp only
    omega

theorem ofX_len (bs : List Nat) : ∀ (x : Ex) (deep p : Nat), (ofX bs x deep p).1.length ≤ 3 * x.steps.length * 3 ^ deep
  | .leaf n, deep, p => by
    have h1 : 1 ≤ 3 ^ deep := Nat.one_le_pow _ _ (by omega)
    have h2 : 3 * (Ex.leaf n).steps.length * 3 ^ deep = 3 * 3 ^ deep := by simp [Ex.steps]
    rw [h2]
    unfold ofX
    split <;> simp only [List.length_cons, List.length_nil] <;> omega
  | .pls a b, deep, p => by
    have h1 := ofX_len bs a deep (p + 2)
    have h2 := ofX_len bs b deep (p + 2)
    have h3 : 3 * a.steps.length * 3 ^ deep ≤ 3 * (Ex.pls a b).steps.length * 3 ^ deep := Nat.mul_le_mul_right _ (by simp only [Ex.steps, List.length_append]; omega)
    have h4 : 3 * b.steps.length * 3 ^ deep ≤ 3 * (Ex.pls a b).steps.length * 3 ^ deep := Nat.mul_le_mul_right _ (by simp only [Ex.steps, List.length_append]; omega)
    unfold ofX
    split <;> omega
  | .thn a b, deep, p => by
    have h1 := ofX_len bs a deep (p + 1)
    have h2 := ofX_len bs b deep (ofX bs a deep (p + 1)).2
    have h3 : 3 * a.steps.length * 3 ^ deep + 3 * b.steps.length * 3 ^ deep ≤ 3 * (Ex.thn a b).steps.length * 3 ^ deep := by
      rw [← Nat.add_mul]
      exact Nat.mul_le_mul_right _ (by simp only [Ex.steps, List.length_append]; omega)
    have h5 := glueX_len bs (ofX bs b deep (ofX bs a deep (p + 1)).2).2 (ofX bs a deep (p + 1)).1 (ofX bs b deep (ofX bs a deep (p + 1)).2).1
    unfold ofX
    dsimp only
    omega
  | .str a, deep, p => by
    have h1 := fun q => ofX_len bs a (deep - 1) q
    have h2 := pickX_lt (bs := bs) (p := p + 1) (n := 3) (by decide)
    have h3 := starX_len (bs := bs) (f := fun q => ofX bs a (deep - 1) q) h1 (if 0 < deep then pickX bs (p + 1) 3 else 0) [(pickX bs p 4 : Int)] (p + 2)
    have h4 : 1 ≤ 3 ^ deep := Nat.one_le_pow _ _ (by omega)
    have h5 : 3 * (Ex.str a).steps.length * 3 ^ deep = 3 * a.steps.length * 3 ^ deep + 3 * 3 ^ deep := by
      rw [← Nat.add_mul]; congr 1; simp only [Ex.steps, List.length_append, List.length_cons, List.length_nil]; omega
    have h6 : (ofX bs (.str a) deep p) = starX bs (fun q => ofX bs a (deep - 1) q) (if 0 < deep then pickX bs (p + 1) 3 else 0) [(pickX bs p 4 : Int)] (p + 2) := by rw [ofX]
    rw [h6, h5]
    refine Nat.le_trans h3 ?_
    simp only [List.length_cons, List.length_nil]
    by_cases hd : 0 < deep
    · obtain ⟨d, rfl⟩ : ∃ d, deep = d + 1 := ⟨deep - 1, by omega⟩
      rw [if_pos hd]
      have h7 : pickX bs (p + 1) 3 * (3 * a.steps.length * 3 ^ (d + 1 - 1)) ≤ 3 * (3 * a.steps.length * 3 ^ d) := Nat.mul_le_mul (by omega) (Nat.le_refl _)
      have h8 : 3 * a.steps.length * 3 ^ (d + 1) = 3 * (3 * a.steps.length * 3 ^ d) := by rw [Nat.pow_succ]; simp only [Nat.mul_assoc, Nat.mul_left_comm, Nat.mul_comm]
      omega
    · rw [if_neg hd]
      omega

theorem ofX_p (bs : List Nat) : ∀ (x : Ex) (deep p : Nat), (ofX bs x deep p).2 ≤ p + 4 * x.steps.length * 3 ^ deep
  | .leaf n, deep, p => by
    have h1 : 1 ≤ 3 ^ deep := Nat.one_le_pow _ _ (by omega)
    have h2 : 4 * (Ex.leaf n).steps.length * 3 ^ deep = 4 * 3 ^ deep := by simp [Ex.steps]
    rw [h2]
    unfold ofX
    split <;> dsimp only <;> omega
  | .pls a b, deep, p => by
    have h0 : 1 ≤ 3 ^ deep := Nat.one_le_pow _ _ (by omega)
    have h1 := ofX_p bs a deep (p + 2)
    have h2 := ofX_p bs b deep (p + 2)
    have h3 : 4 * (Ex.pls a b).steps.length * 3 ^ deep = 4 * a.steps.length * 3 ^ deep + 4 * b.steps.length * 3 ^ deep + 4 * 3 ^ deep := by
      rw [← Nat.add_mul, ← Nat.add_mul]; congr 1; simp only [Ex.steps, List.length_append, List.length_cons, List.length_nil]; omega
    unfold ofX
    split <;> omega
  | .thn a b, deep, p => by
    have h0 : 1 ≤ 3 ^ deep := Nat.one_le_pow _ _ (by omega)
    have h1 := ofX_p bs a deep (p + 1)
    have h2 := ofX_p bs b deep (ofX bs a deep (p + 1)).2
    have h3 : 4 * (Ex.thn a b).steps.length * 3 ^ deep = 4 * a.steps.length * 3 ^ deep + 4 * b.steps.length * 3 ^ deep + 4 * 3 ^ deep := by
      rw [← Nat.add_mul, ← Nat.add_mul]; congr 1; simp only [Ex.steps, List.length_append, List.length_cons, List.length_nil]; omega
    have h5 := glueX_p bs (ofX bs b deep (ofX bs a deep (p + 1)).2).2 (ofX bs a deep (p + 1)).1 (ofX bs b deep (ofX bs a deep (p + 1)).2).1
    unfold ofX
    dsimp only
    omega
  | .str a, deep, p => by
    have h1 := fun q => ofX_p bs a (deep - 1) q
    have h2 := pickX_lt (bs := bs) (p := p + 1) (n := 3) (by decide)
    have h3 := starX_p (bs := bs) (f := fun q => ofX bs a (deep - 1) q) h1 (if 0 < deep then pickX bs (p + 1) 3 else 0) [(pickX bs p 4 : Int)] (p + 2)
    have h4 : 1 ≤ 3 ^ deep := Nat.one_le_pow _ _ (by omega)
    have h5 : 4 * (Ex.str a).steps.length * 3 ^ deep = 4 * a.steps.length * 3 ^ deep + 4 * 3 ^ deep := by
      rw [← Nat.add_mul]; congr 1; simp only [Ex.steps, List.length_append, List.length_cons, List.length_nil]; omega
    have h6 : (ofX bs (.str a) deep p) = starX bs (fun q => ofX bs a (deep - 1) q) (if 0 < deep then pickX bs (p + 1) 3 else 0) [(pickX bs p 4 : Int)] (p + 2) := by rw [ofX]
    rw [h6, h5]
    refine Nat.le_trans h3 ?_
    by_cases hd : 0 < deep
    · obtain ⟨d, rfl⟩ : ∃ d, deep = d + 1 := ⟨deep - 1, by omega⟩
      rw [if_pos hd]
      have h7 : pickX bs (p + 1) 3 * (4 * a.steps.length * 3 ^ (d + 1 - 1) + 1) ≤ 2 * (4 * a.steps.length * 3 ^ d + 1) := Nat.mul_le_mul (by omega) (Nat.le_refl _)
      have h8 : 4 * a.steps.length * 3 ^ (d + 1) = 3 * (4 * a.steps.length * 3 ^ d) := by rw [Nat.pow_succ]; simp only [Nat.mul_assoc, Nat.mul_left_comm, Nat.mul_comm]
      omega
    · rw [if_neg hd]
      omega

noncomputable def toldX (bs : List Nat) (p parts : Nat) : List Int × List Int × Nat :=
  let e := katX bs p parts 12
  if katB e.1 = false then (e.1, (traceX bs e.2 3 12).1, (traceX bs e.2 3 12).2)
  else if pickX bs e.2 3 = 0 then (e.1, (traceX bs (e.2 + 1) 3 12).1, (traceX bs (e.2 + 1) 3 12).2)
  else
    let t := ofX bs (exOf e.1) 2 (e.2 + 1)
    let u := if 41 < t.1.length then t.1.take 41 else t.1
    if pickX bs t.2 5 = 0 then (e.1, u.set (pickX bs (t.2 + 1) (u.length / 2 + 1) * 2) (pickX bs (t.2 + 2) 4 : Int), t.2 + 3)
    else (e.1, u, t.2 + 1)

end Go.Proofs.YtehdfifncbokeaaGreat
