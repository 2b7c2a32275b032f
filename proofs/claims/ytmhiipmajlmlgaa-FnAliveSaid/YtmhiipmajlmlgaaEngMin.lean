/- Short forms of the engine's steps, for the texts that are handed in. No program in sight. -/
import Derived.Test.YtmhiipmajlmlgaaEngAt
namespace Go.Proofs.Ytmhiipmajlmlgaa
set_option linter.unusedSimpArgs false
set_option linter.unusedVariables false
set_option maxRecDepth 8000
set_option maxHeartbeats 2000000
open Go Go.RowKit AV

class St1 (G : Prop) (H : outParam Prop) : Prop where
  h : H → G
theorem w1 {G H : Prop} [s : St1 G H] (h : H) : G := s.h h
class St2 (G : Prop) (c A B : outParam Prop) : Prop where
  h : (c → A) → (¬ c → B) → G
theorem w2 {G c A B : Prop} [s : St2 G c A B] (h1 : c → A) (h2 : ¬ c → B) : G := s.h h1 h2
section
variable {P : Program} {κ : Con} {Q : QA} {e : Env}
instance : St1 (CW P κ .skip Q e) (Q .normal e) := ⟨CW.skip⟩
instance {id : Nat} : St1 (CW P κ (.exit id) Q e) (Q (.exit id) e) := ⟨CW.exit⟩
instance : St1 (CW P κ .ret Q e) (Q .ret e) := ⟨CW.ret⟩
instance {c : Prop} {x y : Rd} {K : List Wr → Prop} : St2 (Rd.W e (.br c x y) K) c (Rd.W e x K) (Rd.W e y K) := ⟨W_brs⟩
instance {c : Prop} {x y : Rd} {gs ps ts : List Nat} {K : Fp → Prop} : St2 (Rd.D e (.br c x y) gs ps ts K) c (Rd.D e x gs ps ts K) (Rd.D e y gs ps ts K) := ⟨D_brs⟩
theorem wA {e : Env} {Γ : Ctx} {f : Nat} {args : List AV} {k : AV → Rd} {K : List Wr → Prop} {rel : List AV → AV → Prop} (hf : Γ f = some (pureC rel)) (r : AV) (hr : rel args r) (h : Rd.W e (k r) K) : Rd.W e (rdAsk Γ f args k) K := W_askP hf r hr h
theorem dA {e : Env} {Γ : Ctx} {f : Nat} {args : List AV} {k : AV → Rd} {gs ps ts} {K : Fp → Prop} {rel : List AV → AV → Prop} (hf : Γ f = some (pureC rel)) (r : AV) (hr : rel args r) (h : Rd.D e (k r) gs ps ts K) : Rd.D e (rdAsk Γ f args k) gs ps ts K := D_askP hf r hr h
end
theorem wI {p q : Prop} (h : q) (hp : p := by first | omega | (simp only [xl]; omega) | (rw [← hB]; kernel_rfl)) : p ∧ q := ⟨hp, h⟩
theorem xe : (∀ e : Env, LeL e [] = True) ∧ (∀ (e : Env) (t : Nat) (v : AV) (L : List (Nat × AV)), LeL e ((t, v) :: L) = ((v = e t ∨ v = view (e t)) ∧ LeL e L)) ∧ (envOf [] = fun _ => .junk) ∧ (∀ (t : Nat) (v : AV) (L : List (Nat × AV)), envOf ((t, v) :: L) = upd (envOf L) t v) ∧ (∀ (e : Env) (k : Nat) (v : AV) (t : Nat), upd e k v t = if t = k then v else e t) ∧ (∀ p : Prop, (True ∨ p) = True) ∧ (∀ p : Prop, (p ∧ True) = p) ∧ (∀ p : Prop, (True ∧ p) = p) ∧ (∀ p : Prop, (p ∧ p) = p) :=
  ⟨fun _ => rfl, fun _ _ _ _ => rfl, rfl, fun _ _ _ => rfl, fun _ _ _ _ => rfl, by simp, by simp, by simp, by simp⟩
theorem xj.{u} : (∀ {α : Sort u} (h : Decidable True) (a b : α), @ite α True h a b = a) ∧ (∀ {α : Sort u} (h : Decidable False) (a b : α), @ite α False h a b = b) := ⟨fun _ _ _ => if_pos trivial, fun _ _ _ => if_neg not_false⟩
theorem cx0 {P : Program} : ∀ x ∈ ([] : List (Nat × Ctr)), CtrOK P x.1 x.2 := by simp
theorem cx {P : Program} {f : Nat} {c : Ctr} {L : List (Nat × Ctr)} (h : CtrOK P f c) (hL : ∀ x ∈ L, CtrOK P x.1 x.2) : ∀ x ∈ (f, c) :: L, CtrOK P x.1 x.2 := fun x hx => by
  rcases List.mem_cons.1 hx with rfl | hx
  · exact h
  · exact hL x hx

end Go.Proofs.Ytmhiipmajlmlgaa
