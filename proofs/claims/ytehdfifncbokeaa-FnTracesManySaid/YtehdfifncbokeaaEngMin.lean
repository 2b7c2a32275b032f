/- Short forms of the engine's steps, for the texts that are handed in. No program in sight. -/
import Derived.Test.YtehdfifncbokeaaEngAt
namespace Go.Proofs.Ytehdfifncbokeaa
set_option linter.unusedSimpArgs false
set_option linter.unusedVariables false
set_option maxRecDepth 8000
set_option maxHeartbeats 2000000
open Go Go.RowKit AV

class St1 (G : Prop) (H : outParam Prop) : Prop where
  h : H → G
theorem w1 {G H : Prop} [s : St1 G H] (h : H) : G := s.h h
class St2 (G : Prop) (c A B : outParam Prop) : Prop where
  h : (c → A) → (¬ c → B) → G
theorem w2 {G c A B : Prop} [s : St2 G c A B] (h1 : c → A) (h2 : ¬ c → B) : G := s.h h1 h2
section
variable {P : Program} {κ : Con} {Q : QA} {e : Env}
instance : St1 (CW P κ .skip Q e) (Q .normal e) := ⟨CW.skip⟩
instance {id : Nat} : St1 (CW P κ (.exit id) Q e) (Q (.exit id) e) := ⟨CW.exit⟩
instance : St1 (CW P κ .ret Q e) (Q .ret e) := ⟨CW.ret⟩
instance {c : Prop} {x y : Rd} {K : List Wr → Prop} : St2 (Rd.W e (.br c x y) K) c (Rd.W e x K) (Rd.W e y K) := ⟨W_brs⟩
instance {c : Prop} {x y : Rd} {gs ps ts : List Nat} {K : Fp → Prop} : St2 (Rd.D e (.br c x y) gs ps ts K) c (Rd.D e x gs ps ts K) (Rd.D e y gs ps ts K) := ⟨D_brs⟩
theorem wA {e : Env} {Γ : Ctx} {f : Nat} {args : List AV} {k : AV → Rd} {K : List Wr → Prop} {rel : List AV → AV → Prop} (hf : Γ f = some (pureC rel)) (r : AV) (hr : rel args r) (h : Rd.W e (k r) K) : Rd.W e (rdAsk Γ f args k) K := W_askP hf r hr h
theorem dA {e : Env} {Γ : Ctx} {f : Nat} {args : List AV} {k : AV → Rd} {gs ps ts} {K : Fp → Prop} {rel : List AV → AV → Prop} (hf : Γ f = some (pureC rel)) (r : AV) (hr : rel args r) (h : Rd.D e (k r) gs ps ts K) : Rd.D e (rdAsk Γ f args k) gs ps ts K := D_askP hf r hr h
end
theorem wI {p q : Prop} (h : q) (hp : p := by first | omega | (simp only [xl]; omega) | (rw [← hB]; kernel_rfl)) : p ∧ q := ⟨hp, h⟩
theorem xe : (∀ e : Env, LeL e [] = True) ∧ (∀ (e : Env) (t : Nat) (v : AV) (L : List (Nat × AV)), LeL e ((t, v) :: L) = ((v = e t ∨ v = view (e t)) ∧ LeL e L)) ∧ (envOf [] = fun _ => .junk) ∧ (∀ (t : Nat) (v : AV) (L : List (Nat × AV)), envOf ((t, v) :: L) = upd (envOf L) t v) ∧ (∀ (e : Env) (k : Nat) (v : AV) (t : Nat), upd e k v t = if t = k then v else e t) ∧ (∀ p : Prop, (True ∨ p) = True) ∧ (∀ p : Prop, (p ∧ True) = p) ∧ (∀ p : Prop, (True ∧ p) = p) ∧ (∀ p : Prop, (p ∧ p) = p) :=
  ⟨fun _ => rfl, fun _ _ _ _ => rfl, rfl, fun _ _ _ => rfl, fun _ _ _ _ => rfl, by simp, by simp, by simp, by simp⟩
theorem xj.{u} : (∀ {α : Sort u} (h : Decidable True) (a b : α), @ite α True h a b = a) ∧ (∀ {α : Sort u} (h : Decidable False) (a b : α), @ite α False h a b = b) := ⟨fun _ _ _ => if_pos trivial, fun _ _ _ => if_neg not_false⟩
theorem cx0 {P : Program} : ∀ x ∈ ([] : List (Nat × Ctr)), CtrOK P x.1 x.2 := by simp
theorem cx {P : Program} {f : Nat} {c : Ctr} {L : List (Nat × Ctr)} (h : CtrOK P f c) (hL : ∀ x ∈ L, CtrOK P x.1 x.2) : ∀ x ∈ (f, c) :: L, CtrOK P x.1 x.2 := fun x hx => by
  rcases List.mem_cons.1 hx with rfl | hx
  · exact h
  · exact hL x hx

theorem u1 {G H B : Prop} [s : St1 G H] (h : B) (e1 : H = B := by (try simp only [xs, xi, Nat.reduceEqDiff, reduceCtorEq, retL_ret, retL_normal, retM_ret, retM_normal, retML_ret, retML_normal]); exact rfl) : G := s.h (e1.mpr h)
theorem u2 {G c A B c1 c2 A1 B1 : Prop} [s : St2 G c A B] (h1 : c1 → A1) (h2 : c2 → B1) (e1 : c = c1 := by (try simp only [xc]); (try simp only [xb]); exact rfl) (e2 : (¬ c) = c2 := by (try simp only [xc]); (try simp only [xb]); exact rfl)
    (e3 : c → A = A1 := by intro hc; (try simp only [xc] at hc); (try simp only [go_sem, hc]); exact rfl) (e4 : ¬ c → B = B1 := by intro hc; (try simp only [xc] at hc); (try simp only [go_sem, hc]); exact rfl) : G :=
  s.h (fun hc => (e3 hc).mpr (h1 (e1.mp hc))) fun hc => (e4 hc).mpr (h2 (e2.mp hc))
section
variable {P : Program} {κ : Con} {Q : QA} {e : Env}
theorem uC {t : Nat} {x y : Code} {b : Bool} {p q : Prop} (h1 : p → CW P κ x Q e) (h2 : q → CW P κ y Q e) (hb : e t = .bool b := by simp only [upd_at, if_true, if_false, Nat.reduceEqDiff]; rfl) (e1 : (b = true) = p := by (try simp only [xb, reduceCtorEq]); exact rfl) (e2 : (b = false) = q := by (try simp only [xb, reduceCtorEq]); exact rfl) : CW P κ (.cond (.tmp t) x y) Q e :=
  wC (fun h => h1 (e1.mp h)) (fun h => h2 (e2.mp h)) hb
theorem uR {Γ : Ctx} (hΓ : ∀ f c, Γ f = some c → CtrOK P f c) {id : Nat} {ops : List Oper} {B : Prop} (h : B) (e1 : wpOpsA P Γ (takenL ops) ops.toArray ops e (Q .normal) = B := by (simp (maxSteps := 2000000) only [go_sem]); exact rfl) (hd : dstOK κ.lim ops = true := by rw [hκ]; rfl) : CW P κ (.region id ops.toArray false) Q e := CW.reg hΓ hd (e1.mpr h)
theorem uX {Γ : Ctx} (hΓ : ∀ f c, Γ f = some c → CtrOK P f c) {id : Nat} {ops : List Oper} {B : Prop} (h : B) (e1 : wpOpsA P Γ (takenX ops) ops.toArray ops e (Q .normal) = B := by (simp (maxSteps := 2000000) only [go_sem]); exact rfl) (hd : dstOK κ.lim ops = true := by rw [hκ]; rfl) : CW P κ (.region id ops.toArray false) Q e := CW.regX hΓ hd (e1.mpr h)
end
theorem uD {κ : Con} {Q : QA} {e : Env} {Γ : Ctx} (hΓ : ∀ f c, Γ f = some c → CtrOK Try.prog f c) {id : Nat} {ops : List Oper} {Y : Array Nat → Prop} (h : ∀ B, befB ops.toArray = B → Y B) (e1 : ∀ B, wpOpsD Try.prog Γ (takenL ops) ops.toArray B ops 0 [] e (Q .normal) = Y B := by (intro B; simp (maxSteps := 2000000) only [go_sem]; exact rfl)) (hd : dstOK κ.lim ops = true := by rw [hκ]; rfl) (hf : fwdB ops.toArray = true := by kernel_rfl) : CW Try.prog κ (.region id ops.toArray true) Q e :=
  wD hΓ (fun B hB => (e1 B).mpr (h B hB)) hd hf
theorem uV {κ : Con} {Q : QA} {e : Env} {Γ : Ctx} (hΓ : ∀ f c, Γ f = some c → CtrOK Try.prog f c) {id : Nat} {ops : List Oper} {Y : Array Nat → Prop} (h : ∀ B, befB ops.toArray = B → Y B) (e1 : ∀ B, wpOpsD Try.prog Γ (takenX ops) ops.toArray B ops 0 [] e (Q .normal) = Y B := by (intro B; simp (maxSteps := 2000000) only [go_sem]; exact rfl)) (hd : dstOK κ.lim ops = true := by rw [hκ]; rfl) (hf : fwdB ops.toArray = true := by kernel_rfl) : CW Try.prog κ (.region id ops.toArray true) Q e :=
  wV hΓ (fun B hB => (e1 B).mpr (h B hB)) hd hf

end Go.Proofs.Ytehdfifncbokeaa
