/- The meaning of operations, told abstractly, and that it is true: numbers, slots, loads and stores. -/
import Derived.Test.YtechllcflknnlaaEng3
import Derived.Test.YtechllcflknnlaaBits
namespace Go.Proofs.Ytechllcflknnlaa
set_option linter.unusedSimpArgs false
set_option linter.unusedVariables false
set_option maxRecDepth 8000
open Go Go.RowKit AV

/-- What an operation reads of the environment, what it asks, and what it writes. -/
inductive Rd : Type 1 where
  | ret (ws : List Wr)
  | fail
  | get (t : Nat) (k : AV → Rd)
  | peek (t : Nat) (k : AV → Rd)
  | need (c : Prop) (k : Rd)
  | ex (α : Type) (k : α → Rd)
  | br (c : Prop) (x y : Rd)

structure Fp where
  gets : List Nat
  peeks : List Nat
  tgs : List Nat
  ws : List Wr

def tg : AV → List Nat
  | .alias s _ => [s]
  | .valias s _ => [s]
  | .addr s _ => [s]
  | _ => []

def Rd.Ok (e : Env) : Rd → Fp → Prop
  | .ret ws, f => f = ⟨[], [], [], ws⟩
  | .fail, _ => False
  | .get t k, f => e t ≠ .junk ∧ ∃ f', Rd.Ok e (k (e t)) f' ∧ f = ⟨t :: f'.gets, f'.peeks, tg (e t) ++ f'.tgs, f'.ws⟩
  | .peek t k, f => e t ≠ .junk ∧ ∃ f', Rd.Ok e (k (head (e t))) f' ∧ f = ⟨f'.gets, t :: f'.peeks, tg (e t) ++ f'.tgs, f'.ws⟩
  | .need c k, f => c ∧ Rd.Ok e k f
  | .ex _ k, f => ∃ x, Rd.Ok e (k x) f
  | .br c x y, f => (c ∧ Rd.Ok e x f) ∨ (¬ c ∧ Rd.Ok e y f)

/-- It writes ws. -/
def Rd.Wo (e : Env) : Rd → List Wr → Prop
  | .ret ws, f => f = ws
  | .fail, _ => False
  | .get t k, f => e t ≠ .junk ∧ Rd.Wo e (k (e t)) f
  | .peek t k, f => e t ≠ .junk ∧ Rd.Wo e (k (head (e t))) f
  | .need c k, f => c ∧ Rd.Wo e k f
  | .ex _ k, f => ∃ x, Rd.Wo e (k x) f
  | .br c x y, f => (c ∧ Rd.Wo e x f) ∨ (¬ c ∧ Rd.Wo e y f)

theorem Rd.Ok.wo {e : Env} : ∀ {r : Rd} {f : Fp}, r.Ok e f → r.Wo e f.ws
  | .ret _, _, h => by rw [h]; rfl
  | .fail, _, h => h
  | .get _ _, _, ⟨h1, _, h2, h3⟩ => ⟨h1, by rw [h3]; exact h2.wo⟩
  | .peek _ _, _, ⟨h1, _, h2, h3⟩ => ⟨h1, by rw [h3]; exact h2.wo⟩
  | .need _ _, _, ⟨h1, h2⟩ => ⟨h1, h2.wo⟩
  | .ex _ _, _, ⟨x, h⟩ => ⟨x, h.wo⟩
  | .br _ _ _, _, .inl ⟨h1, h2⟩ => .inl ⟨h1, h2.wo⟩
  | .br _ _ _, _, .inr ⟨h1, h2⟩ => .inr ⟨h1, h2.wo⟩

/-- Part n of a list. -/
def rdIdx (l : List AV) (n : Nat) (k : AV → Rd) : Rd := .ex AV fun a => .need (l[n]? = some a) (k a)
/-- What lies at a place. -/
def rdGetP (c : AV) (q : List Nat) (k : AV → Rd) : Rd := .ex AV fun a => .need (getP c q = some a) (k a)

/-! ### Types, as far as they matter -/
section
variable (P : Program)
def slE (T : Nat) : Option Nat := match P.underlying T with
  | some (.slice e) => some e
  | _ => none
def elOK (E : Nat) : Bool := match P.info? E with
  | some i => i.size == 1 && decide (i.bytes ≤ 64) && (match i.zero with
    | some z => z.oneCell'
    | none => false)
  | none => false
/-- T is a type of slices of elements of one cell. -/
def slOK (T : Nat) : Bool := match slE P T with
  | some e => elOK P e
  | none => false
def cst : Value → AV
  | .int k n => .num k n
  | .bool b => .bool b
  | .slice none 0 0 => .own []
  | _ => .junk
def zOf (E : Nat) : AV := match P.info? E with
  | some i => (match i.zero with
    | some z => cst z
    | none => .junk)
  | none => .junk
def slZ (T : Nat) : AV := match slE P T with
  | some e => zOf P e
  | none => .junk
def aggT (T : Nat) : Option Bool := match P.underlying T with
  | some (.struct _) => some true
  | some (.array _ _) => none
  | some _ => some false
  | none => none
def szT (T : Nat) : Option Nat := (P.info? T).map (·.size)
/-- Where a field of one cell lies. -/
def stO (T f : Nat) : Option Nat := match P.underlying T with
  | some (.struct fs) => (match fs[f]? with
    | some fl => if szT P fl.type = some 1 ∧ aggT P fl.type = some false then some fl.offset else none
    | none => none)
  | _ => none
def zT (T : Nat) : Option (List AV) := match P.info? T with
  | some i => (match i.zero with
    | some z => if z.cells.toList.all (·.oneCell') then some (z.cells.toList.map cst) else none
    | none => none)
  | none => none
/-- Where the fields of a struct lie, and how many cells each has. -/
def bPl (T : Nat) : Option (List (Nat × Nat)) := match P.underlying T with
  | some (.struct fs) => fs.toList.mapM (fun f => (P.info? f.type).map fun i => (f.offset, i.size))
  | _ => none
def boT (T : Nat) : Bool := match P.underlying T with
  | some .bool => true
  | _ => false
def inT (T : Nat) : Option IntKind := match P.underlying T with
  | some (.int k) => some k
  | _ => none
end

def in64 (n : Int) : Prop := -9223372036854775808 ≤ n ∧ n ≤ 9223372036854775807
def nat64 (n : Int) : Prop := 0 ≤ n ∧ n ≤ 9223372036854775807

/-! ### Numbers -/

def binV (P : Program) (T : Nat) : BinOp → AV → AV → Option (Prop × AV)
  | .add, .num .i64 m, .num .i64 n => some (in64 (m + n), .num .i64 (m + n))
  | .sub, .num .i64 m, .num .i64 n => some (in64 (m - n), .num .i64 (m - n))
  | .mul, .num .i64 m, .num .i64 n => some (in64 (m * n), .num .i64 (m * n))
  | .quo, .num .i64 m, .num .i64 n => some (nat64 m ∧ 0 < n, .num .i64 (m / n))
  | .rem, .num .i64 m, .num .i64 n => some (0 ≤ m ∧ 0 < n, .num .i64 (m % n))
  | .and, .num .i64 m, .num .i64 n => some (nat64 m ∧ nat64 n, .num .i64 ((m.toNat &&& n.toNat : Nat) : Int))
  | .or, .num .i64 m, .num .i64 n => some (nat64 m ∧ nat64 n, .num .i64 ((m.toNat ||| n.toNat : Nat) : Int))
  | .xor, .num .i64 m, .num .i64 n => some (nat64 m ∧ nat64 n, .num .i64 ((m.toNat ^^^ n.toNat : Nat) : Int))
  | .andNot, .num .i64 m, .num .i64 n => some (nat64 m ∧ nat64 n, .num .i64 (bits .andNot .i64 m n))
  | .shl, .num .i64 m, .num .i64 n => some (0 ≤ n ∧ n < 64 ∧ in64 (m * 2 ^ n.toNat), .num .i64 (m * 2 ^ n.toNat))
  | .shr, .num .i64 m, .num .i64 n => some (0 ≤ n ∧ n < 64, .num .i64 (m / 2 ^ n.toNat))
  | .eql, .num j m, .num k n => some (j = k, .bool (decide (m = n)))
  | .neq, .num j m, .num k n => some (j = k, .bool (!decide (m = n)))
  | .lss, .num j m, .num k n => some (j = k, .bool (decide (m < n)))
  | .leq, .num j m, .num k n => some (j = k, .bool (decide (m ≤ n)))
  | .gtr, .num j m, .num k n => some (j = k, .bool (decide (n < m)))
  | .geq, .num j m, .num k n => some (j = k, .bool (decide (n ≤ m)))
  | .eql, .bool a, .bool b => some (boT P T = true, .bool (a == b))
  | .neq, .bool a, .bool b => some (boT P T = true, .bool (!(a == b)))
  | _, _, _ => none

theorem eqGuard_int (P : Program) (w : World) (op : BinOp) (T : Nat) (x y : Operand) (j k : IntKind) (m n : Int) : (eqGuard op T x y (.int j m) (.int k n)).run P w = .ok () w := by
  cases op <;> rfl
theorem eqGuard_bool (P : Program) (w : World) (op : BinOp) (T : Nat) (x y : Operand) (a b : Bool) : (eqGuard op T x y (.bool a) (.bool b)).run P w = .ok () w := by
  cases op <;> rfl

theorem nat64_cast {m : Int} (h : nat64 m) : ∃ a : Nat, m = a ∧ a < 9223372036854775808 := ⟨m.toNat, by have := h.1; omega, by have := h.2; omega⟩

theorem binV_sound {P : Program} {T : Nat} {op : BinOp} {A B R : AV} {c : Prop} (h : binV P T op A B = some (c, R)) (hc : c) {Z} {x y : Value} (hA : PRep Z A x) (hB : PRep Z B y) (xo yo : Operand) (w : World) :
    ∃ u, (do eqGuard op T xo yo x y; binOp op T x y : Sem Value).run P w = .ok u w ∧ PRep Z R u := by
  cases A with
  | num j m =>
    cases B with
    | num k n =>
      cases hA; cases hB
      have hg := eqGuard_int P w op T xo yo j k m n
      have hrun : (do eqGuard op T xo yo (.int j m) (.int k n); binOp op T (.int j m) (.int k n) : Sem Value).run P w = (binOp op T (.int j m) (.int k n)).run P w := by
        rw [Sem.run_bind, hg]; rfl
      rw [hrun]
      cases op with
      | add => cases j <;> cases k <;> simp only [binV, Option.some.injEq, Prod.mk.injEq, reduceCtorEq] at h; obtain ⟨rfl, rfl⟩ := h; exact ⟨_, by simp [binOp, Op.intArith]; rfl, by rw [IntWalk.i64_in _ hc]; exact .num _ _⟩
      | sub => cases j <;> cases k <;> simp only [binV, Option.some.injEq, Prod.mk.injEq, reduceCtorEq] at h; obtain ⟨rfl, rfl⟩ := h; exact ⟨_, by simp [binOp, Op.intArith]; rfl, by rw [IntWalk.i64_in _ hc]; exact .num _ _⟩
      | mul => cases j <;> cases k <;> simp only [binV, Option.some.injEq, Prod.mk.injEq, reduceCtorEq] at h; obtain ⟨rfl, rfl⟩ := h; exact ⟨_, by simp [binOp, Op.intArith]; rfl, by rw [IntWalk.i64_in _ hc]; exact .num _ _⟩
      | quo =>
        cases j <;> cases k <;> simp only [binV, Option.some.injEq, Prod.mk.injEq, reduceCtorEq] at h
        obtain ⟨rfl, rfl⟩ := h
        obtain ⟨⟨h0, h1⟩, h2⟩ := hc
        have h3 : m.tdiv n = m / n := Int.tdiv_eq_ediv_of_nonneg h0
        have h4 : 0 ≤ m / n := Int.ediv_nonneg h0 (by omega)
        have h5 : m / n ≤ m := Int.ediv_le_self _ h0
        refine ⟨.int .i64 (m / n), ?_, .num _ _⟩
        have h6 : ¬ n = 0 := by omega
        simp [binOp, Op.intDiv, h6, h3]
        exact IntWalk.i64_in _ (by omega)
      | rem =>
        cases j <;> cases k <;> simp only [binV, Option.some.injEq, Prod.mk.injEq, reduceCtorEq] at h
        obtain ⟨rfl, rfl⟩ := h
        obtain ⟨h0, h2⟩ := hc
        have h3 : m.tmod n = m % n := Int.tmod_eq_emod_of_nonneg h0
        have h6 : ¬ n = 0 := by omega
        exact ⟨.int .i64 (m % n), by simp [binOp, Op.intDiv, h6, h3], .num _ _⟩
      | and =>
        cases j <;> cases k <;> simp only [binV, Option.some.injEq, Prod.mk.injEq, reduceCtorEq] at h
        obtain ⟨rfl, rfl⟩ := h
        obtain ⟨a, rfl, ha⟩ := nat64_cast hc.1
        obtain ⟨b, rfl, hb⟩ := nat64_cast hc.2
        refine ⟨.int .i64 ((a &&& b : Nat) : Int), ?_, by simpa using PRep.num _ _⟩
        have := bits_and a b ha
        simp only [binOp, ne_eq, not_true_eq_false, if_false]
        exact congrArg (fun z => Result.ok (Value.int .i64 z) w) this
      | or =>
        cases j <;> cases k <;> simp only [binV, Option.some.injEq, Prod.mk.injEq, reduceCtorEq] at h
        obtain ⟨rfl, rfl⟩ := h
        obtain ⟨a, rfl, ha⟩ := nat64_cast hc.1
        obtain ⟨b, rfl, hb⟩ := nat64_cast hc.2
        refine ⟨.int .i64 ((a ||| b : Nat) : Int), ?_, by simpa using PRep.num _ _⟩
        have := bits_or a b ha hb
        simp only [binOp, ne_eq, not_true_eq_false, if_false]
        exact congrArg (fun z => Result.ok (Value.int .i64 z) w) this
      | xor =>
        cases j <;> cases k <;> simp only [binV, Option.some.injEq, Prod.mk.injEq, reduceCtorEq] at h
        obtain ⟨rfl, rfl⟩ := h
        obtain ⟨a, rfl, ha⟩ := nat64_cast hc.1
        obtain ⟨b, rfl, hb⟩ := nat64_cast hc.2
        refine ⟨.int .i64 ((a ^^^ b : Nat) : Int), ?_, by simpa using PRep.num _ _⟩
        have := bits_xor a b ha hb
        simp only [binOp, ne_eq, not_true_eq_false, if_false]
        exact congrArg (fun z => Result.ok (Value.int .i64 z) w) this
      | andNot =>
        cases j <;> cases k <;> simp only [binV, Option.some.injEq, Prod.mk.injEq, reduceCtorEq] at h
        obtain ⟨rfl, rfl⟩ := h
        exact ⟨_, rfl, .num _ _⟩
      | shl =>
        cases j <;> cases k <;> simp only [binV, Option.some.injEq, Prod.mk.injEq, reduceCtorEq] at h
        obtain ⟨rfl, rfl⟩ := h
        obtain ⟨h0, h1, h2⟩ := hc
        refine ⟨.int .i64 (m * 2 ^ n.toNat), ?_, .num _ _⟩
        have h3 : ¬ n < 0 := by omega
        have h4 : min n.toNat IntKind.i64.bits = n.toNat := Nat.min_eq_left (by simp [IntKind.bits]; omega)
        simp [binOp, Op.shift, h3, h4]
        exact IntWalk.i64_in _ h2
      | shr =>
        cases j <;> cases k <;> simp only [binV, Option.some.injEq, Prod.mk.injEq, reduceCtorEq] at h
        obtain ⟨rfl, rfl⟩ := h
        obtain ⟨h0, h1⟩ := hc
        refine ⟨.int .i64 (m / 2 ^ n.toNat), ?_, .num _ _⟩
        have h3 : ¬ n < 0 := by omega
        have h4 : min n.toNat IntKind.i64.bits = n.toNat := Nat.min_eq_left (by simp [IntKind.bits]; omega)
        have h5 : m.fdiv (2 ^ n.toNat) = m / 2 ^ n.toNat := Int.fdiv_eq_ediv_of_nonneg _ (Int.le_of_lt (Int.pow_pos (by omega)))
        simp [binOp, Op.shift, h3, h4, h5]
      | eql => simp only [binV, Option.some.injEq, Prod.mk.injEq] at h; obtain ⟨rfl, rfl⟩ := h; subst hc; exact ⟨.bool (decide (m = n)), by simp [binOp, Op.intCmp]; rfl, .bool _⟩
      | neq => simp only [binV, Option.some.injEq, Prod.mk.injEq] at h; obtain ⟨rfl, rfl⟩ := h; subst hc; exact ⟨.bool (!decide (m = n)), by simp [binOp, Op.intCmp, bne]; rfl, .bool _⟩
      | lss => simp only [binV, Option.some.injEq, Prod.mk.injEq] at h; obtain ⟨rfl, rfl⟩ := h; subst hc; exact ⟨.bool (decide (m < n)), by simp [binOp, Op.intCmp], .bool _⟩
      | leq => simp only [binV, Option.some.injEq, Prod.mk.injEq] at h; obtain ⟨rfl, rfl⟩ := h; subst hc; exact ⟨.bool (decide (m ≤ n)), by simp [binOp, Op.intCmp], .bool _⟩
      | gtr => simp only [binV, Option.some.injEq, Prod.mk.injEq] at h; obtain ⟨rfl, rfl⟩ := h; subst hc; exact ⟨.bool (decide (n < m)), by simp [binOp, Op.intCmp], .bool _⟩
      | geq => simp only [binV, Option.some.injEq, Prod.mk.injEq] at h; obtain ⟨rfl, rfl⟩ := h; subst hc; exact ⟨.bool (decide (n ≤ m)), by simp [binOp, Op.intCmp], .bool _⟩
    | _ => cases op <;> cases j <;> simp [binV] at h
  | bool a =>
    cases B with
    | bool b =>
      cases hA; cases hB
      have hg := eqGuard_bool P w op T xo yo a b
      have hrun : (do eqGuard op T xo yo (.bool a) (.bool b); binOp op T (.bool a) (.bool b) : Sem Value).run P w = (binOp op T (.bool a) (.bool b)).run P w := by
        rw [Sem.run_bind, hg]; rfl
      rw [hrun]
      have hT : boT P T = true → P.underlying T = some .bool := by
        intro h
        unfold boT at h
        split at h
        · assumption
        · cases h
      cases op with
      | eql => simp only [binV, Option.some.injEq, Prod.mk.injEq] at h; obtain ⟨rfl, rfl⟩ := h; exact ⟨_, run_eql_bool w T a b (hT hc), .bool _⟩
      | neq => simp only [binV, Option.some.injEq, Prod.mk.injEq] at h; obtain ⟨rfl, rfl⟩ := h; exact ⟨_, run_neq_bool w T a b (hT hc), .bool _⟩
      | _ => simp [binV] at h
    | _ => cases op <;> simp [binV] at h
  | _ => cases op <;> simp [binV] at h

end Go.Proofs.Ytechllcflknnlaa
