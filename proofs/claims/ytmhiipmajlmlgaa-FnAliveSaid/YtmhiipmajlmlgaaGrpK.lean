/- Contracts of functions with several results, structs in memory among them. No program in sight. -/
import Derived.Test.YtmhiipmajlmlgaaGrpJ
import Derived.Lib.MinMax
namespace Go.Proofs.Ytmhiipmajlmlgaa
set_option linter.unusedSimpArgs false
set_option linter.unusedVariables false
set_option maxRecDepth 8000
set_option maxHeartbeats 2000000
open Go Go.RowKit AV

def ResI (P : Program) (e : Env) (rv : ResultVar) (A : AV) : Prop := match rv with
  | .tmp t => plainB A = true ∧ (A = e t ∨ A = view (e t))
  | .cell t T => ∃ l, aggT P T = some true ∧ szT P T = some l.length ∧ e t = .box l ∧ A = .agg l

def ResL (P : Program) (e : Env) : List ResultVar → List AV → Prop
  | [], [] => True
  | rv :: rs, A :: l => ResI P e rv A ∧ ResL P e rs l
  | _, _ => False

theorem ResL.len {P : Program} {e : Env} : ∀ {rs : List ResultVar} {l : List AV}, ResL P e rs l → l.length = rs.length
  | [], [], _ => rfl
  | _ :: _, _ :: _, h => by simp [h.2.len]
  | [], _ :: _, h => h.elim
  | _ :: _, [], h => h.elim
theorem ResL.get {P : Program} {e : Env} : ∀ {rs : List ResultVar} {l : List AV}, ResL P e rs l → ∀ k (h1 : k < rs.length) (h2 : k < l.length), ResI P e rs[k] l[k]
  | _ :: _, _ :: _, h, 0, _, _ => h.1
  | _ :: _, _ :: _, h, k + 1, h1, h2 => by simpa using h.2.get k (by simpa using h1) (by simpa using h2)
  | [], _ :: _, h, _, _, _ => h.elim
  | [], [], _, _, h1, _ => by simp at h1
end Go.Proofs.Ytmhiipmajlmlgaa

namespace Go.Proofs.Ytmhiipmajlmlgaa
set_option linter.unusedSimpArgs false
set_option linter.unusedVariables false
set_option maxRecDepth 8000
set_option maxHeartbeats 2000000
open Go Go.RowKit AV

inductive Frz : Env → Env → Prop
  | refl (e : Env) : Frz e e
  | step {e e' : Env} (s : Nat) (p : List Nat) (A : AV) (hg : getP (e s) p = some A) (hA : isOwn A = true) (h : Frz ((Wr.mod s p (view A)).app e) e') : Frz e e'

theorem Frz.st {κ : Con} {e e' : Env} (h : Frz e e') : ∀ {a : Act} {w : World}, St κ e a w → St κ e' a w := by
  induction h with
  | refl e => exact fun h => h
  | step s p A hg hA _ ih =>
    intro a w ⟨h1, h2, Z, β, hR⟩
    have hpl := plain_of_own hg hA
    obtain ⟨Z', β', hR', _⟩ := hR.freeze s p A hg hpl.2 hpl.1 (view_plain A) (view_noOwn A)
    exact ih ⟨h1, h2, Z', β', hR'⟩

theorem CW.seqM {P : Program} {κ : Con} {Q : QA} {e : Env} {x y : Code} {ι : Type} (inv : ι → List (Nat × AV)) (pre : ι → Prop) (hM : ∀ i, pre i → CW P κ y Q (envOf (inv i)))
    (h : CW P κ x (thenA (fun e' => ∃ i, LeL e' (inv i) ∧ pre i) Q) e) : CW P κ (.seq x y) Q e :=
  CW.seq (h.mono fun x e hq => by
    cases x with
    | normal => obtain ⟨i, hle, hp⟩ := hq; exact CW.weaken hle.le (hM i hp)
    | _ => exact hq)

def takesX (o : Oper) : List Nat := match o.op with
  | .call c => (match c.callee with
    | .builtin .append => (match c.args.toList with
      | x :: _ => opT x
      | _ => [])
    | _ => [])
  | .buildSlice _ _ ps => opTs ps.toList
  | .build _ ps => opTs ps.toList
  | .store _ _ v => opT v
  | .assign x => opT x
  | .box _ x => opT x
  | .extract x _ => opT x
  | _ => []
def takenX : List Oper → List Nat
  | [] => []
  | o :: l => takesX o ++ takenX l
theorem CW.regX {P : Program} {κ : Con} {Q : QA} {e : Env} {Γ : Ctx} (hΓ : ∀ f c, Γ f = some c → CtrOK P f c) {id : Nat} {ops : List Oper} (hd : dstOK κ.lim ops = true) (h : wpOpsA P Γ (takenX ops) ops.toArray ops e (Q .normal)) : CW P κ (.region id ops.toArray false) Q e :=
  CW.region hΓ _ hd h
theorem CW.drwX {P : Program} {κ : Con} {Q : QA} {e : Env} {Γ : Ctx} (hΓ : ∀ f c, Γ f = some c → CtrOK P f c) (hm : P.follows .mixedOrders = true) {id : Nat} {ops : List Oper} (hd : dstOK κ.lim ops = true) (hf : fwdB ops.toArray = true)
    (h : ∀ B, befB ops.toArray = B → wpOpsD P Γ (takenX ops) ops.toArray B ops 0 [] e (Q .normal)) : CW P κ (.region id ops.toArray true) Q e :=
  CW.draw hΓ hm _ _ hd hf rfl (h _ rfl)

end Go.Proofs.Ytmhiipmajlmlgaa

namespace Go.Proofs.Ytmhiipmajlmlgaa
set_option linter.unusedSimpArgs false
set_option linter.unusedVariables false
set_option maxRecDepth 8000
set_option maxHeartbeats 2000000
open Go Go.RowKit AV

noncomputable def rdMinN (d : Nat) (A B : AV) : Rd := match A, B with
  | .num .i64 m, .num .i64 n => .ret [.set d (.num .i64 (min m n))]
  | _, _ => .fail
noncomputable def rdMin (d : Nat) (x y : Operand) : Rd := rdX x fun A => rdX y fun B => rdMinN d A B
def minOf (o : Oper) : Option (Nat × Operand × Operand) := match o.dst, o.guard, o.op with
  | some d, none, .call c => (match c.callee, c.args.toList with
    | .builtin .min, [x, y] => some (d, x, y)
    | _, _ => none)
  | _, _, _ => none

noncomputable def rdGM (P : Program) (Γ : Ctx) (tl : List Nat) (ops : Array Oper) (o : Oper) : Rd := match minOf o with
  | some (d, x, y) => rdMin d x y
  | none => rdG P Γ tl ops o

end Go.Proofs.Ytmhiipmajlmlgaa

namespace Go.Proofs.Ytmhiipmajlmlgaa
set_option linter.unusedSimpArgs false
set_option linter.unusedVariables false
set_option maxRecDepth 8000
set_option maxHeartbeats 2000000
open Go Go.RowKit AV

section
variable {R : Nat → Rd} {ops : Array Oper}

def wpOpsDR (R : Nat → Rd) (B : Array Nat) : List Oper → Nat → List (Nat × Fp) → Env → (Env → Prop) → Prop
  | [], _, acc, e, K => chkP B acc = true ∧ K e
  | o :: rest, i, acc, e, K => (R i).D e [] [] [] fun f => wpOpsDR R B rest (i + 1) ((i, f) :: acc) (apps f.ws e) K

end

section
variable {P : Program} {ops : Array Oper} {R : Nat → Rd} {S : Env → Act → World → Prop}
end

end Go.Proofs.Ytmhiipmajlmlgaa

namespace Go.Proofs.Ytmhiipmajlmlgaa
set_option linter.unusedSimpArgs false
set_option linter.unusedVariables false
set_option maxRecDepth 8000
set_option maxHeartbeats 2000000
open Go Go.RowKit AV

def lentMv (s0 : Nat) (o : Oper) : Option Nat := match o.dst, o.guard, o.op with
  | some d, none, .move (.tmp t) => if t = s0 then some d else none
  | _, _, _ => none

def lentCall (ms : List Nat) (s0 : Nat) (o : Oper) : Option (Nat × Oper) := match o.op with
  | .call c => (match c.args.toList with
    | .tmp t :: rest => if ms.contains t then some (t, { o with op := .call { c with args := (.tmp s0 :: rest).toArray } }) else none
    | _ => none)
  | _ => none

noncomputable def rdLR (P : Program) (Γ : Ctx) (tl : List Nat) (ops : Array Oper) (ms : List Nat) (s0 : Nat) (v0 : Value) (i : Nat) : Rd := match ops[i]? with
  | none => .fail
  | some o => match lentMv s0 o with
    | some d => .ret [.set d (.pin .junk v0)]
    | none => match lentCall ms s0 o with
      | some (t, o') => .get t fun A => .need (A = .pin .junk v0) (rdG P Γ tl ops o')
      | none => rdGM P Γ tl ops o

def KOpsR (R : Nat → Rd) (B : Array Nat) (rest : List Oper) (i : Nat) (acc : List (Nat × Fp)) (e : Env) (K : Env → Prop) (f : Fp) : Prop := wpOpsDR R B rest (i + 1) ((i, f) :: acc) (apps f.ws e) K
theorem wpOpsDR_cons {R : Nat → Rd} {B : Array Nat} {e : Env} {K : Env → Prop} (o : Oper) (rest : List Oper) (i : Nat) (acc) : wpOpsDR R B (o :: rest) i acc e K = (R i).D e [] [] [] (KOpsR R B rest i acc e K) := rfl
theorem wpOpsDR_nil {R : Nat → Rd} {B : Array Nat} {e : Env} {K : Env → Prop} (i : Nat) (acc) : wpOpsDR R B [] i acc e K = (chkP B acc = true ∧ K e) := rfl
theorem KOpsR_app {R : Nat → Rd} {B : Array Nat} {e : Env} {K : Env → Prop} (rest : List Oper) (i : Nat) (acc) (f : Fp) : KOpsR R B rest i acc e K f = wpOpsDR R B rest (i + 1) ((i, f) :: acc) (apps f.ws e) K := rfl

end Go.Proofs.Ytmhiipmajlmlgaa

namespace Go.Proofs.Ytmhiipmajlmlgaa
set_option linter.unusedSimpArgs false
set_option linter.unusedVariables false
set_option maxRecDepth 8000
set_option maxHeartbeats 2000000
open Go Go.RowKit AV

mutual
def noMap : AV → Bool
  | sh l => allM l
  | own l => allM l
  | orec _ l => allM l
  | srec _ l => allM l
  | mfn _ l => allM l
  | agg l => allM l
  | tup l => allM l
  | box l => allM l
  | pbox l => allM l
  | fn _ l => allM l
  | pcell v => noMap v
  | pin v _ => noMap v
  | omap ks vs => allM ks && allM vs
  | pmap _ _ => false
  | oiter _ _ _ => false
  | memo _ _ => false
  | _ => true
def allM : List AV → Bool
  | [] => true
  | a :: l => noMap a && allM l
end
end Go.Proofs.Ytmhiipmajlmlgaa

namespace Go.Proofs.Ytmhiipmajlmlgaa
set_option linter.unusedSimpArgs false
set_option linter.unusedVariables false
set_option maxRecDepth 8000
set_option maxHeartbeats 2000000
open Go Go.RowKit AV

end Go.Proofs.Ytmhiipmajlmlgaa

namespace Go.Proofs.Ytmhiipmajlmlgaa
set_option linter.unusedSimpArgs false
set_option linter.unusedVariables false
set_option maxRecDepth 8000
set_option maxHeartbeats 2000000
open Go Go.RowKit AV

def wpOpsL (R : Nat → Rd) : List Oper → Nat → Env → (Env → Prop) → Prop
  | [], _, e, K => K e
  | _ :: rest, i, e, K => (R i).W e fun ws => wpOpsL R rest (i + 1) (apps ws e) K

def KOpsL (R : Nat → Rd) (rest : List Oper) (i : Nat) (e : Env) (K : Env → Prop) (ws : List Wr) : Prop := wpOpsL R rest (i + 1) (apps ws e) K
theorem wpOpsL_cons {R : Nat → Rd} {e : Env} {K : Env → Prop} (o : Oper) (rest : List Oper) (i : Nat) : wpOpsL R (o :: rest) i e K = (R i).W e (KOpsL R rest i e K) := rfl
theorem wpOpsL_nil {R : Nat → Rd} {e : Env} {K : Env → Prop} (i : Nat) : wpOpsL R [] i e K = K e := rfl
theorem KOpsL_app {R : Nat → Rd} {e : Env} {K : Env → Prop} (rest : List Oper) (i : Nat) (ws : List Wr) : KOpsL R rest i e K ws = wpOpsL R rest (i + 1) (apps ws e) K := rfl

end Go.Proofs.Ytmhiipmajlmlgaa

namespace Go.Proofs.Ytmhiipmajlmlgaa
set_option linter.unusedSimpArgs false
set_option linter.unusedVariables false
set_option maxRecDepth 8000
set_option maxHeartbeats 2000000
open Go Go.RowKit AV

section
variable {κ : Con} {Z : Nat → Option Obj} {β : List Nat → Option Nat} {e : Env} {val : Nat → Value} {w : World}

end

noncomputable def rdG3 (Γ : Ctx) (d f s t u : Nat) : Rd := .get s fun X => .get t fun Y => .get u fun V => .need (isOwn X = true ∧ isOwn Y = true ∧ isOwn V = true ∧ isP (view V) = true ∧ s ≠ t ∧ s ≠ u ∧ t ≠ u)
  (rdAskE Γ f [X, Y, view V] fun r A' => .need ((isP r || isOwn r) = true ∧ isOwn A' = true) (.ret [.mod u [] (view V), .set t .junk, .set s A', .set d r]))

end Go.Proofs.Ytmhiipmajlmlgaa

namespace Go.Proofs.Ytmhiipmajlmlgaa
set_option linter.unusedSimpArgs false
set_option linter.unusedVariables false
set_option maxRecDepth 8000
set_option maxHeartbeats 2000000
open Go Go.RowKit AV

def lent3 (ms : List Nat) (g : Nat) (o : Oper) : Option (Nat × Nat × Nat × Nat × Oper) := match o.dst, o.guard, o.op with
  | some d, none, .call c => (match c.callee, c.args.toList with
    | .value (.func f), [.tmp t, .tmp y, .tmp z] => if f = g ∧ ms.contains t = true then some (t, y, z, d, o) else none
    | _, _ => none)
  | _, _, _ => none

noncomputable def rdLG (P : Program) (Γ : Ctx) (tl : List Nat) (ops : Array Oper) (ms : List Nat) (g s0 : Nat) (v0 : Value) (i : Nat) : Rd := match ops[i]? with
  | none => .fail
  | some o => match lent3 ms g o with
    | some (t, y, z, d, _) => .get t fun A => .need (A = .pin .junk v0) (rdG3 Γ d g s0 y z)
    | none => rdLR P Γ tl ops ms s0 v0 i

end Go.Proofs.Ytmhiipmajlmlgaa

namespace Go.Proofs.Ytmhiipmajlmlgaa
set_option linter.unusedSimpArgs false
set_option linter.unusedVariables false
set_option maxRecDepth 8000
set_option maxHeartbeats 2000000
open Go Go.RowKit AV

noncomputable def rdSrcP (y : Operand) (k : List AV → Option Nat → Rd) : Rd := match y with
  | .tmp t => .get t fun v => match v with
    | .win s q j => .get s fun c => rdGetP c q fun X => match X with
      | .own l => .need (allP (l.take (j - bigW)) = true ∧ bigW ≤ j ∧ j - bigW ≤ l.length) (k (l.take (j - bigW)) none)
      | _ => .fail
    | _ => rdSrc y k
  | _ => rdSrc y k

noncomputable def rdAppP (P : Program) (T T2 d : Nat) (x y : Operand) : Rd := .need (slOK P T = true ∧ slOK P T2 = true) (rdSrcP y fun m t2 => rdDst x fun l t1 => .need ((t1 = none ∨ t1 ≠ t2) ∧ l.length + m.length ≤ 1099511627776 ∧ t1 ≠ some d ∧ t2 ≠ some d)
  (.ret (srcW t1 ++ srcW t2 ++ [.set d (.own (l ++ m))])))

def appOf (o : Oper) : Option (Nat × Nat × Nat × Operand × Operand) := match o.dst, o.guard, o.op with
  | some d, none, .call c => (match c.callee, c.args.toList, c.argTypes.toList with
    | .builtin .append, [x, y], [T, T2] => some (T, T2, d, x, y)
    | _, _, _ => none)
  | _, _, _ => none

noncomputable def rdGA (P : Program) (Γ : Ctx) (tl : List Nat) (ops : Array Oper) (o : Oper) : Rd := match appOf o with
  | some (T, T2, d, x, y) => rdAppP P T T2 d x y
  | none => rdG P Γ tl ops o

def wpOpsQ (P : Program) (Γ : Ctx) (tl : List Nat) (ops : Array Oper) : List Oper → Env → (Env → Prop) → Prop
  | [], e, K => K e
  | o :: rest, e, K => (rdGA P Γ tl ops o).W e fun ws => wpOpsQ P Γ tl ops rest (apps ws e) K

def KOpsQ (P : Program) (Γ : Ctx) (tl : List Nat) (ops : Array Oper) (rest : List Oper) (e : Env) (K : Env → Prop) (ws : List Wr) : Prop := wpOpsQ P Γ tl ops rest (apps ws e) K
theorem wpOpsQ_cons {P : Program} {Γ : Ctx} {tl : List Nat} {ops : Array Oper} {e : Env} {K : Env → Prop} (o : Oper) (rest : List Oper) : wpOpsQ P Γ tl ops (o :: rest) e K = (rdGA P Γ tl ops o).W e (KOpsQ P Γ tl ops rest e K) := rfl
theorem wpOpsQ_nil {P : Program} {Γ : Ctx} {tl : List Nat} {ops : Array Oper} {e : Env} {K : Env → Prop} : wpOpsQ P Γ tl ops [] e K = K e := rfl
theorem KOpsQ_app {P : Program} {Γ : Ctx} {tl : List Nat} {ops : Array Oper} {e : Env} {K : Env → Prop} (rest : List Oper) (ws : List Wr) : KOpsQ P Γ tl ops rest e K ws = wpOpsQ P Γ tl ops rest (apps ws e) K := rfl

end Go.Proofs.Ytmhiipmajlmlgaa

namespace Go.Proofs.Ytmhiipmajlmlgaa
set_option linter.unusedSimpArgs false
set_option linter.unusedVariables false
set_option maxRecDepth 8000
set_option maxHeartbeats 2000000
open Go Go.RowKit AV

end Go.Proofs.Ytmhiipmajlmlgaa
