/- Maps that remember answers: a map of which only what a list tells is known is opened, and closed again. No program in sight. -/
import Derived.Test.YtehdfifncbokeaaGrpK
import Derived.Test.YtehdfifncbokeaaGrpJ
namespace Go.Proofs.Ytehdfifncbokeaa
set_option linter.unusedSimpArgs false
set_option linter.unusedVariables false
set_option maxRecDepth 8000
set_option maxHeartbeats 2000000
open Go Go.RowKit AV

abbrev MemoF := List (List Int × Value × Nat × Nat) → List AV

theorem ORep.memo_inv {Z : Nat → Option Obj} {H : Array Obj} {β : List Nat → Option Nat} {p v} {f g : MemoF} (h : ORep Z H β p (.memo f g) v) : ∃ E, ORep Z H β p (.omap (f E) (g E)) v := by
  cases h with
  | pers h => cases h
  | memo _ _ E _ h => exact ⟨E, h⟩

theorem St.reread {κ : Con} {e : Env} {a : Act} {w : World} (hs : St κ e a w) (s : Nat) (p : List Nat) (A A' : AV) (hg : getP (e s) p = some A) (hA : isOwn A = true) (hA' : ∀ s' p', A' ≠ .alias s' p' ∧ A' ≠ .valias s' p' ∧ A' ≠ .addr s' p' ∧ ∀ k, A' ≠ .win s' p' k) 
    (hr : ∀ (Z : Nat → Option Obj) (H : Array Obj) (β : List Nat → Option Nat) u, ORep Z H β (s :: p) A u → ORep Z H β (s :: p) A' u) : St κ ((Wr.mod s p A').app e) a w := by
  obtain ⟨h1, h2, Z, β, hR⟩ := hs
  have hpl := plain_of_own hg hA
  refine ⟨h1, h2, Z, β, hR.mod s p A A' hg hpl.2 hA' hpl.1 rfl rfl rfl (Nat.le_refl _) (fun _ _ _ => rfl) (fun _ _ h => h) (fun _ _ h => .inl h) hR.zh (fun r b hr hj hn hb => ⟨hb, rfl⟩) hR.inj hR.bo (fun u hu => hr _ _ _ u hu) (fun _ q C hq hne hC => getP_own_up hg hq hA hC)⟩

theorem St.memo {κ : Con} {e : Env} {a : Act} {w : World} (hs : St κ e a w) (s : Nat) (p : List Nat) (f g : MemoF) (hg : getP (e s) p = some (.memo f g)) : ∃ E, St κ ((Wr.mod s p (.omap (f E) (g E))).app e) a w := by
  obtain ⟨h1, h2, Z, β, hR⟩ := hs
  have hpl := plain_of_own hg rfl
  obtain ⟨u, hu, -⟩ : ∃ u, ORep Z w.heap β (s :: p) (.memo f g) u ∧ True := by
    have := hR.reps s
    have hsl := hR.slot' (t := s) rfl hpl.2
    obtain ⟨u, g1, -⟩ := ORep.place p hsl hg
    exact ⟨u, by simpa using g1, trivial⟩
  obtain ⟨E, hE⟩ := hu.memo_inv
  refine ⟨E, h1, h2, Z, β, hR.mod s p _ _ hg hpl.2 (by simp) hpl.1 rfl rfl rfl (Nat.le_refl _) (fun _ _ _ => rfl) (fun _ _ h => h) (fun _ _ h => .inl h) hR.zh (fun r b hr hj hn hb => ⟨hb, rfl⟩) hR.inj hR.bo (fun u' hu' => ?_) (fun _ q C hq hne hC => getP_own_up hg hq rfl hC)⟩
  cases hE with
  | pers h => cases h
  | omap ks vs b es kf vf hb hz k1 k2 ke kk kv =>
    obtain ⟨E', hE'⟩ := hu'.memo_inv
    generalize hks : f E' = ks' at hE'
    generalize hvs : g E' = vs' at hE'
    cases hE' with
    | pers h => cases h
    | omap ks2 vs2 b2 es2 kf2 vf2 hb2 hz2 =>
      rw [hb] at hb2; injection hb2 with hb2; subst hb2
      exact .omap _ _ b es kf vf hb hz k1 k2 ke kk kv

theorem CW.memoOpen {P : Program} {κ : Con} {c : Code} {Q : QA} {e : Env} (s : Nat) (p : List Nat) (f g : MemoF) (hg : getP (e s) p = some (.memo f g)) (h : ∀ E, CW P κ c Q ((Wr.mod s p (.omap (f E) (g E))).app e)) : CW P κ c Q e := by
  intro a w hs
  obtain ⟨E, hE⟩ := hs.memo s p f g hg
  exact h E a w hE

theorem CW.memoPost {P : Program} {κ : Con} {c : Code} {Q : QA} {e : Env} (s : Nat) (p : List Nat) (f g : MemoF) (h : CW P κ c (fun x e' => (∃ E, getP (e' s) p = some (.omap (f E) (g E))) ∧ Q x ((Wr.mod s p (.memo f g)).app e')) e) : CW P κ c Q e := fun a w hs =>
  wp_mono (h a w hs) fun _ _ _ ⟨_, ⟨⟨E, hg⟩, hq⟩, hs'⟩ => ⟨_, hq, hs'.reread s p _ _ hg rfl (by simp) fun _ _ _ u hu => .memo f g E u hu⟩

theorem CW.memoClose {P : Program} {κ : Con} {c : Code} {Q : QA} {e : Env} (s : Nat) (p : List Nat) (f g : MemoF) (E : List (List Int × Value × Nat × Nat)) (hg : getP (e s) p = some (.omap (f E) (g E))) (h : CW P κ c Q ((Wr.mod s p (.memo f g)).app e)) : CW P κ c Q e := fun a w hs =>
  h a w (hs.reread s p _ _ hg rfl (by simp) fun _ _ _ u hu => .memo f g E u hu)

theorem CW.pinSlot {P : Program} {κ : Con} {c : Code} {Q : QA} {e : Env} (s : Nat) (A : AV) (he : e s = A) (hA : isP A = true) (h : ∀ v, CW P κ c Q (upd e s (.pin A v))) : CW P κ c Q e := by
  intro a w ⟨h1, h2, Z, β, hR⟩
  have hO := hR.slot' he (isP_plain hA)
  have hR2 := hR.put s (A := .pin A (vals a s)) (u := vals a s) (.pin _ _ (ORep.toP hO hA)) (by simp)
  rw [setV_self] at hR2
  exact h (vals a s) a w ⟨h1, h2, Z, β, hR2⟩

def memoQ (s : Nat) (p : List Nat) (f g : MemoF) (Q : QA) : QA := fun x e => (∃ E, getP (e s) p = some (.omap (f E) (g E))) ∧ Q x ((Wr.mod s p (.memo f g)).app e)
theorem CW.memoQ {P : Program} {κ : Con} {c : Code} {Q : QA} {e : Env} (s : Nat) (p : List Nat) (f g : MemoF) (h : CW P κ c (memoQ s p f g Q) e) : CW P κ c Q e := CW.memoPost s p f g h
theorem memoQ_ret (s : Nat) (p : List Nat) (f g : MemoF) (P : Program) (rs : List ResultVar) (r A : AV) (e : Env) : Go.Proofs.Ytehdfifncbokeaa.memoQ s p f g (retL P rs r A) .ret e = ((∃ E, getP (e s) p = some (.omap (f E) (g E))) ∧ RetL P rs ((Wr.mod s p (.memo f g)).app e) r A) := rfl
theorem memoQ_normal (s : Nat) (p : List Nat) (f g : MemoF) (P : Program) (rs : List ResultVar) (r A : AV) (e : Env) : Go.Proofs.Ytehdfifncbokeaa.memoQ s p f g (retL P rs r A) .normal e = ((∃ E, getP (e s) p = some (.omap (f E) (g E))) ∧ RetL P rs ((Wr.mod s p (.memo f g)).app e) r A) := rfl

end Go.Proofs.Ytehdfifncbokeaa
