/- What each operation does to the state of a call, read abstractly: the steps that the walk is made of. No program in sight. -/
import Derived.Test.YtechllcflknnlaaEng2
namespace Go.Proofs.Ytechllcflknnlaa
set_option linter.unusedSimpArgs false
set_option linter.unusedVariables false
set_option maxRecDepth 8000
open Go Go.RowKit AV

def vals (a : Act) : Nat → Value := fun t => a.tmps.getD t undef

/-- The state of a call. -/
def St (κ : Con) (e : Env) (a : Act) (w : World) : Prop := a.defers = [] ∧ (a.tmps.size = κ.lim.2 ∧ ∀ t, t < κ.lim.1 → vals a t = κ.V0 t) ∧ ∃ Z β, Rep κ Z β e (vals a) w

theorem vals_put {a : Act} {d : Nat} {u : Value} (h : d < a.tmps.size) : vals (a.put (some d) u) = setV (vals a) d u := by
  funext t
  simp only [vals, Act.put, setV, Array.getD_eq_getD_getElem?]
  by_cases htd : t = d
  · subst htd; simp [h]
  · simp [htd, Array.getElem?_setIfInBounds_ne (Ne.symm htd)]

theorem app_set_drop (d : Nat) (A : AV) (e : Env) : (Wr.set d A).app (dropS [d] e) = (Wr.set d A).app e := by
  funext t
  simp only [Wr.app]
  by_cases htd : t = d
  · cases isOwn A <;> simp [upd, htd]
  · cases isOwn A <;> simp [upd, kill, dropS, htd]

theorem app_set_drop2 (d t : Nat) (A : AV) (e : Env) : (Wr.set d A).app (dropS [t, d] e) = apps [.set t .junk, .set d A] e := by
  funext x
  simp only [Wr.app, apps]
  by_cases hxd : x = d
  · cases isOwn A <;> simp [upd, hxd]
  · by_cases hxt : x = t
    · cases isOwn A <;> simp [upd, kill, dropS, hxt, isOwn, killV]
    · cases isOwn A <;> simp [upd, kill, dropS, hxd, hxt, isOwn]

theorem app_set_drop3 (d t s : Nat) (A : AV) (e : Env) : (Wr.set d A).app (dropS [t, s, d] e) = apps [.set t .junk, .set s .junk, .set d A] e := by
  funext x
  simp only [Wr.app, apps]
  by_cases hxd : x = d
  · cases isOwn A <;> simp [upd, hxd]
  · by_cases hxt : x = t
    · by_cases hxs : x = s
      · cases isOwn A <;> simp [upd, kill, dropS, hxt, isOwn, killV]
      · cases isOwn A <;> simp_all [upd, kill, dropS, isOwn, killV]
    · by_cases hxs : x = s
      · cases isOwn A <;> simp_all [upd, kill, dropS, isOwn, killV]
      · cases isOwn A <;> simp [upd, kill, dropS, hxd, hxt, hxs, isOwn]

section
variable {κ : Con} {Z : Nat → Option Obj} {β : List Nat → Option Nat} {e : Env} {val : Nat → Value} {w : World}

theorem Rep.slot (h : Rep κ Z β e val w) (t : Nat) (ht : ∀ s p, e t ≠ .alias s p ∧ e t ≠ .valias s p ∧ e t ≠ .addr s p) : ORep Z w.heap β [t] (e t) (val t) := by
  have := h.reps t
  unfold TRep at this
  generalize e t = X at this ht
  cases X with
  | alias s p => exact absurd rfl (ht s p).1
  | valias s p => exact absurd rfl (ht s p).2.1
  | addr s p => exact absurd rfl (ht s p).2.2
  | _ => exact this

theorem Rep.slot' (h : Rep κ Z β e val w) {t : Nat} {A : AV} (he : e t = A) (ht : ∀ s p, A ≠ .alias s p ∧ A ≠ .valias s p ∧ A ≠ .addr s p) : ORep Z w.heap β [t] A (val t) := by
  subst he; exact h.slot t ht

theorem Rep.aliasAt (h : Rep κ Z β e val w) {t s : Nat} {p : List Nat} (he : e t = .alias s p) : ∀ A, getP (e s) p = some A → isOwn A = true → ORep Z w.heap β (s :: p) A (val t) := by
  have := h.reps t
  unfold TRep at this
  rw [he] at this
  exact this

theorem Rep.valiasAt (h : Rep κ Z β e val w) {t s : Nat} {p : List Nat} (he : e t = .valias s p) : ∀ l, getP (e s) p = some (.box l) → ∃ cs, val t = .agg cs ∧ ORep Z w.heap β (s :: p) (.agg l) (.agg cs) ∧ InBox w.heap β (s :: p) cs := by
  have := h.reps t
  unfold TRep at this
  rw [he] at this
  exact this

theorem Rep.addrAt (h : Rep κ Z β e val w) {t s : Nat} {p : List Nat} (he : e t = .addr s p) : ∃ q k b, p = q ++ [k] ∧ val t = .pointer (some ⟨b, k, none⟩) ∧ (∀ A, getP (e s) q = some A → isOwn A = true → β (s :: q) = some b) := by
  have := h.reps t
  unfold TRep at this
  rw [he] at this
  exact this

theorem isP_plain {A : AV} (h : isP A = true) : ∀ s p, A ≠ .alias s p ∧ A ≠ .valias s p ∧ A ≠ .addr s p := by
  intro s p; cases A <;> simp_all [isP]

/-- A value that may be copied fills a slot. -/
theorem Rep.put (h : Rep κ Z β e val w) (d : Nat) {A : AV} {u : Value} (hA : PRep Z A u) (hp : ∀ s p, A ≠ .alias s p ∧ A ≠ .valias s p ∧ A ≠ .addr s p) : Rep κ Z β ((Wr.set d A).app e) (setV val d u) w := by
  rw [← app_set_drop]
  exact h.big [d] d (by simp) A u rfl rfl rfl (Nat.le_refl _) (fun _ _ _ => rfl) (fun _ _ h => h) (fun _ _ h => .inl h) h.zh (fun r b _ _ hb => ⟨hb, rfl⟩) h.inj h.bo (.pers hA) hp

/-- The paths, moved: what lay at p lies at q. -/
def mvF (p q : List Nat) (r : List Nat) : Option (List Nat) := if q <+: r then some (p ++ r.drop q.length) else if p <+: r then none else some r

theorem mvF_inj (p q : List Nat) : ∀ r1 r2 x, mvF p q r1 = some x → mvF p q r2 = some x → r1 = r2 := by
  intro r1 r2 x h1 h2
  unfold mvF at h1 h2
  by_cases a : q <+: r1
  · by_cases b : q <+: r2
    · simp only [a, b, if_true, Option.some.injEq] at h1 h2
      obtain ⟨s1, rfl⟩ := a
      obtain ⟨s2, rfl⟩ := b
      rw [← h2] at h1
      simp at h1
      rw [h1]
    · simp only [a, b, if_true, if_false, Option.some.injEq] at h1 h2
      split at h2
      · cases h2
      · rename_i hn
        injection h2 with h2
        rw [← h1] at h2
        exact absurd (by rw [h2]; exact List.prefix_append _ _) hn
  · by_cases b : q <+: r2
    · simp only [a, b, if_true, if_false, Option.some.injEq] at h1 h2
      split at h1
      · cases h1
      · rename_i hn
        injection h1 with h1
        rw [← h2] at h1
        exact absurd (by rw [h1]; exact List.prefix_append _ _) hn
    · simp only [a, b, if_false] at h1 h2
      split at h1
      · cases h1
      · split at h2
        · cases h2
        · injection h1 with h1; injection h2 with h2; rw [h1, h2]

def viaF (f : List Nat → Option (List Nat)) (β : List Nat → Option Nat) : List Nat → Option Nat := fun r => (f r).bind β

theorem viaF_inj {f : List Nat → Option (List Nat)} (hf : ∀ r1 r2 x, f r1 = some x → f r2 = some x → r1 = r2) (h : ∀ p q b, β p = some b → β q = some b → p = q) :
    ∀ p q b, viaF f β p = some b → viaF f β q = some b → p = q := by
  intro p q b h1 h2
  unfold viaF at h1 h2
  cases hp : f p with
  | none => simp [hp] at h1
  | some x =>
    cases hq : f q with
    | none => simp [hq] at h2
    | some y =>
      simp only [hp, hq, Option.bind_some] at h1 h2
      have := h x y b h1 h2
      subst this
      exact hf p q x hp hq

theorem viaF_bo {f : List Nat → Option (List Nat)} {Q : Nat → Prop} (h : ∀ p b, β p = some b → Q b) : ∀ p b, viaF f β p = some b → Q b := by
  intro p b h1
  unfold viaF at h1
  cases hp : f p with
  | none => simp [hp] at h1
  | some x => simp only [hp, Option.bind_some] at h1; exact h x b h1

/-- What a slot holds is handed to another one. -/
theorem Rep.give (h : Rep κ Z β e val w) {t d : Nat} {A : AV} (he : e t = A) (hp : ∀ s p, A ≠ .alias s p ∧ A ≠ .valias s p ∧ A ≠ .addr s p) :
    Rep κ Z (viaF (mvF [t] [d]) β) (apps [.set t .junk, .set d A] e) (setV val d (val t)) w := by
  rw [← app_set_drop2]
  refine h.big [t, d] d (by simp) A _ rfl rfl rfl (Nat.le_refl _) (fun _ _ _ => rfl) (fun _ _ h => h) (fun _ _ h => .inl h) h.zh (fun r b hr hn hb => ⟨?_, rfl⟩) (viaF_inj (mvF_inj _ _) h.inj) (viaF_bo h.bo) ?_ hp
  · cases r with
    | nil => exact absurd rfl hr
    | cons x r =>
      simp [root] at hn
      have h1 : ¬ t = x := fun e => hn.1 e.symm
      have h2 : ¬ d = x := fun e => hn.2 e.symm
      simp [viaF, mvF, h1, h2, hb]
  · refine (h.slot' he hp).move (fun _ _ h => h) fun r b hb => ⟨?_, rfl⟩
    simp [viaF, mvF] at hb ⊢
    exact hb

/-- What lies at a place in slot s is handed to slot d. -/
theorem Rep.giveP (h : Rep κ Z β e val w) {s d : Nat} (hsd : s ≠ d) {p : List Nat} {A : AV} {u : Value} (hg : getP (e s) p = some A) (hpl : ∀ s' p', e s ≠ .alias s' p' ∧ e s ≠ .valias s' p' ∧ e s ≠ .addr s' p')
    (hp : ∀ s p, A ≠ .alias s p ∧ A ≠ .valias s p ∧ A ≠ .addr s p) (hsj : e s ≠ .junk) (hu : ORep Z w.heap β (s :: p) A u) :
    ∃ β', Rep κ Z β' (apps [.set d .junk, .mod s p .junk, .set d A] e) (setV val d u) w := by
  have h1 := h.put d (A := .junk) (u := undef) (.junk _) (by simp)
  have e1 : (Wr.set d AV.junk).app e s = e s := by simp [Wr.app, upd, isOwn, hsd]
  have h2 := h1.mod s p A .junk (by rw [e1]; exact hg) (by rw [e1]; exact hpl) (by simp) (by rw [e1]; exact hsj) (β' := viaF (mvF (s :: p) [d]) β) rfl rfl rfl (Nat.le_refl _) (fun _ _ _ => rfl) (fun _ _ h => h) (fun _ _ h => .inl h) h.zh
    (fun r b hr hj hn hb => ⟨by
      cases r with
      | nil => exact absurd rfl hr
      | cons x r =>
        have hxd : ¬ d = x := by
          intro e0
          subst e0
          exact hj (by simp [root, Wr.app, upd, isOwn])
        have hn' : ¬ (s :: p) <+: (x :: r) := hn
        simp only [viaF, mvF, List.cons_prefix_cons, hxd, false_and, if_false]
        rw [if_neg (by simpa using hn')]
        exact hb, rfl⟩)
    (viaF_inj (mvF_inj _ _) h.inj) (viaF_bo h.bo) (fun _ _ => .pers (.junk _)) (by simp [isOwn])
  have h3 := h2.big [d] d (by simp) A u rfl rfl rfl (Nat.le_refl _) (fun _ _ _ => rfl) (fun _ _ h => h) (fun _ _ h => .inl h) h.zh (fun r b _ _ hb => ⟨hb, rfl⟩) h2.inj h2.bo (by
    refine hu.move (fun _ _ h => h) fun r b hb => ⟨?_, rfl⟩
    simp [viaF, mvF] at hb ⊢
    exact hb) hp
  refine ⟨viaF (mvF (s :: p) [d]) β, ?_⟩
  rw [app_set_drop] at h3
  have : setV (setV val d undef) d u = setV val d u := by funext t; simp only [setV]; split <;> rfl
  rw [this] at h3
  exact h3

/-- A view of what slot s holds fills slot d. -/
theorem Rep.view (h : Rep κ Z β e val w) (d s : Nat) (p : List Nat) (u : Value) (hsd : s ≠ d) (hu : ∀ A, getP (e s) p = some A → isOwn A = true → ORep Z w.heap β (s :: p) A u) :
    Rep κ Z β ((Wr.set d (.alias s p)).app e) (setV val d u) w := by
  have h1 := h.put d (A := .junk) (u := u) (.junk _) (by simp)
  have e1 : (Wr.set d (.alias s p)).app e = upd e d (.alias s p) := rfl
  have e2 : (Wr.set d AV.junk).app e = upd e d .junk := rfl
  rw [e1]
  rw [e2] at h1
  refine ⟨h1.os, h1.tape, h1.output, h1.size, h1.frame, h1.z0, h1.zo, h1.zh, h1.inj, h1.bo, fun t => ?_⟩
  have ht := h1.reps t
  unfold TRep at ht ⊢
  have hpl : ∀ s2 q B, getP (upd e d (.alias s p) s2) q = some B → isOwn B = true → getP (upd e d .junk s2) q = some B := by
    intro s2 q B hq hB
    by_cases h2 : s2 = d
    · subst h2
      simp only [upd_same] at hq
      cases q with
      | nil => simp only [getP, Option.some.injEq] at hq; subst hq; simp [isOwn] at hB
      | cons k q => simp [getP, kids] at hq
    · rw [upd_ne _ _ _ _ h2] at hq ⊢; exact hq
  by_cases htd : t = d
  · subst htd
    simp only [upd_same]
    intro A hA hAo
    rw [upd_ne _ _ _ _ hsd] at hA
    simpa [setV] using hu A hA hAo
  · rw [upd_ne _ _ _ _ htd] at ht ⊢
    cases het : e t with
    | alias s2 q => rw [het] at ht; exact fun A hA hAo => ht A (hpl _ _ _ hA hAo) hAo
    | valias s2 q => rw [het] at ht; exact fun l hl => ht l (hpl _ _ _ hl rfl)
    | addr s2 q =>
      rw [het] at ht
      obtain ⟨q0, k, b, hp, hv, hb⟩ := ht
      exact ⟨q0, k, b, hp, hv, fun A hA hAo => hb A (hpl _ _ _ hA hAo) hAo⟩
    | _ => rw [het] at ht; exact ht

theorem Rep.valiasPut (h : Rep κ Z β e val w) (d s : Nat) (p : List Nat) (u : Value) (hsd : s ≠ d) (hu : ∀ l, getP (e s) p = some (.box l) → ∃ cs, u = .agg cs ∧ ORep Z w.heap β (s :: p) (.agg l) (.agg cs) ∧ InBox w.heap β (s :: p) cs) :
    Rep κ Z β ((Wr.set d (.valias s p)).app e) (setV val d u) w := by
  have h1 := h.put d (A := .junk) (u := u) (.junk _) (by simp)
  have e1 : (Wr.set d (.valias s p)).app e = upd e d (.valias s p) := rfl
  have e2 : (Wr.set d AV.junk).app e = upd e d .junk := rfl
  rw [e1]
  rw [e2] at h1
  refine ⟨h1.os, h1.tape, h1.output, h1.size, h1.frame, h1.z0, h1.zo, h1.zh, h1.inj, h1.bo, fun t => ?_⟩
  have ht := h1.reps t
  unfold TRep at ht ⊢
  have hpl : ∀ s2 q B, getP (upd e d (.valias s p) s2) q = some B → isOwn B = true → getP (upd e d .junk s2) q = some B := by
    intro s2 q B hq hB
    by_cases h2 : s2 = d
    · subst h2
      simp only [upd_same] at hq
      cases q with
      | nil => simp only [getP, Option.some.injEq] at hq; subst hq; simp [isOwn] at hB
      | cons k q => simp [getP, kids] at hq
    · rw [upd_ne _ _ _ _ h2] at hq ⊢; exact hq
  by_cases htd : t = d
  · subst htd
    simp only [upd_same]
    intro l hl
    rw [upd_ne _ _ _ _ hsd] at hl
    simpa [setV] using hu l hl
  · rw [upd_ne _ _ _ _ htd] at ht ⊢
    cases het : e t with
    | alias s2 q => rw [het] at ht; exact fun A hA hAo => ht A (hpl _ _ _ hA hAo) hAo
    | valias s2 q => rw [het] at ht; exact fun l hl => ht l (hpl _ _ _ hl rfl)
    | addr s2 q =>
      rw [het] at ht
      obtain ⟨q0, k, b, hp, hv, hb⟩ := ht
      exact ⟨q0, k, b, hp, hv, fun A hA hAo => hb A (hpl _ _ _ hA hAo) hAo⟩
    | _ => rw [het] at ht; exact ht

theorem Rep.addrPut (h : Rep κ Z β e val w) (d s : Nat) (q : List Nat) (k b : Nat) (hsd : s ≠ d) (hu : ∀ A, getP (e s) q = some A → isOwn A = true → β (s :: q) = some b) :
    Rep κ Z β ((Wr.set d (.addr s (q ++ [k]))).app e) (setV val d (.pointer (some ⟨b, k, none⟩))) w := by
  have h1 := h.put d (A := .junk) (u := .pointer (some ⟨b, k, none⟩)) (.junk _) (by simp)
  have e1 : (Wr.set d (.addr s (q ++ [k]))).app e = upd e d (.addr s (q ++ [k])) := rfl
  have e2 : (Wr.set d AV.junk).app e = upd e d .junk := rfl
  rw [e1]
  rw [e2] at h1
  refine ⟨h1.os, h1.tape, h1.output, h1.size, h1.frame, h1.z0, h1.zo, h1.zh, h1.inj, h1.bo, fun t => ?_⟩
  have ht := h1.reps t
  unfold TRep at ht ⊢
  have hpl : ∀ s2 q2 B, getP (upd e d (.addr s (q ++ [k])) s2) q2 = some B → isOwn B = true → getP (upd e d .junk s2) q2 = some B := by
    intro s2 q2 B hq hB
    by_cases h2 : s2 = d
    · subst h2
      simp only [upd_same] at hq
      cases q2 with
      | nil => simp only [getP, Option.some.injEq] at hq; subst hq; simp [isOwn] at hB
      | cons k q => simp [getP, kids] at hq
    · rw [upd_ne _ _ _ _ h2] at hq ⊢; exact hq
  by_cases htd : t = d
  · subst htd
    simp only [upd_same]
    refine ⟨q, k, b, rfl, by simp [setV], fun A hA hAo => ?_⟩
    rw [upd_ne _ _ _ _ hsd] at hA
    exact hu A hA hAo
  · rw [upd_ne _ _ _ _ htd] at ht ⊢
    cases het : e t with
    | alias s2 q => rw [het] at ht; exact fun A hA hAo => ht A (hpl _ _ _ hA hAo) hAo
    | valias s2 q => rw [het] at ht; exact fun l hl => ht l (hpl _ _ _ hl rfl)
    | addr s2 q =>
      rw [het] at ht
      obtain ⟨q0, k, b, hp, hv, hb⟩ := ht
      exact ⟨q0, k, b, hp, hv, fun A hA hAo => hb A (hpl _ _ _ hA hAo) hAo⟩
    | _ => rw [het] at ht; exact ht

/-- The world goes on: blocks are made, nothing that is known turns. -/
theorem Rep.grow (h : Rep κ Z β e val w) {w' : World} (hos : w'.os = w.os) (htape : w'.tape = w.tape) (hout : w'.output = w.output) (hsize : w.heap.size ≤ w'.heap.size) (hb : ∀ b, b < w.heap.size → w'.heap[b]? = w.heap[b]?) :
    Rep κ Z β e val w' := by
  have hlt : ∀ b o, w.heap[b]? = some o → w'.heap[b]? = some o := fun b o ho => (hb b (Array.getElem?_eq_some_iff.1 ho).1).trans ho
  have hmv : ∀ p A v, ORep Z w.heap β p A v → ORep Z w'.heap β p A v := fun p A v hA => hA.move (fun _ _ h => h) fun r b hr => ⟨hr, hb b (h.bo _ b hr).2.2⟩
  refine ⟨hos.trans h.os, htape.trans h.tape, hout.trans h.output, Nat.le_trans h.size hsize, fun b hb0 hn => ?_, h.z0, h.zo, fun b o ho => hlt b o (h.zh b o ho), h.inj, fun p b hp => ?_, fun t => ?_⟩
  · rw [hb b (Nat.lt_of_lt_of_le hb0 h.size)]; exact h.frame b hb0 hn
  · have := h.bo p b hp; exact ⟨this.1, this.2.1, by omega⟩
  · have ht := h.reps t
    unfold TRep at ht ⊢
    cases het : e t with
    | alias s2 q => rw [het] at ht; exact fun A hA hAo => hmv _ _ _ (ht A hA hAo)
    | valias s2 q =>
      rw [het] at ht
      intro l hl
      obtain ⟨cs, hv, hr, b, T, hb', hz⟩ := ht l hl
      exact ⟨cs, hv, hmv _ _ _ hr, b, T, hb', (hb b (h.bo _ b hb').2.2).trans hz⟩
    | addr s2 q => rw [het] at ht; exact ht
    | _ => rw [het] at ht; exact hmv _ _ _ ht

theorem Rep.drew (h : Rep κ Z β e val w) : Rep κ Z β e val w.drew := h.grow rfl rfl rfl (Nat.le_refl _) (fun _ _ => rfl)
theorem Rep.alloc (h : Rep κ Z β e val w) (o : Obj) : Rep κ Z β e val (w.alloc o) := h.grow rfl rfl rfl (by simp) (fun b hb => Below.heap_alloc w o b hb)

/-- What lies at a place is written no more. -/
theorem Rep.freeze (h : Rep κ Z β e val w) (s : Nat) (p : List Nat) (A : AV) (hg : getP (e s) p = some A) (hpl : ∀ s' p', e s ≠ .alias s' p' ∧ e s ≠ .valias s' p' ∧ e s ≠ .addr s' p') (hsj : e s ≠ .junk)
    (hv : ∀ s p, AV.view A ≠ .alias s p ∧ AV.view A ≠ .valias s p ∧ AV.view A ≠ .addr s p) (hvo : isOwn (AV.view A) = false) :
    ∃ Z' β', Rep κ Z' β' ((Wr.mod s p (AV.view A)).app e) val w ∧ (∀ b o, Z b = some o → Z' b = some o) ∧ (∀ r b, β (s :: p ++ r) = some b → Z' b = w.heap[b]?) ∧ (∀ r, ¬ (s :: p) <+: r → β' r = β r) := by
  classical
  let under : Nat → Prop := fun b => ∃ r, β (s :: p ++ r) = some b
  let Z' : Nat → Option Obj := fun b => if under b then w.heap[b]? else Z b
  let β' : List Nat → Option Nat := fun r => if (s :: p) <+: r then none else β r
  have hZ : ∀ b o, Z b = some o → Z' b = some o := by
    intro b o ho
    show (if under b then w.heap[b]? else Z b) = some o
    split
    · exact h.zh b o ho
    · exact ho
  refine ⟨Z', β', h.mod s p A (AV.view A) hg hpl hv hsj rfl rfl rfl (Nat.le_refl _) (fun _ _ _ => rfl) hZ (fun b o ho => ?_) (fun b o ho => ?_) (fun r b hr hj hn hb => ⟨?_, rfl⟩) (fun p1 p2 b h1 h2 => ?_) (fun p1 b h1 => ?_) (fun u hu => ?_) (fun ho => by rw [hvo] at ho; cases ho), hZ, fun r b hb => by
    show (if under b then w.heap[b]? else Z b) = w.heap[b]?
    rw [if_pos ⟨r, hb⟩], fun r hn => by
    show (if (s :: p) <+: r then none else β r) = β r
    rw [if_neg hn]⟩
  · replace ho : (if under b then w.heap[b]? else Z b) = some o := ho
    split at ho
    · rename_i hu; obtain ⟨r, hr⟩ := hu; exact .inr (h.bo _ b hr).1
    · exact .inl ho
  · replace ho : (if under b then w.heap[b]? else Z b) = some o := ho
    split at ho
    · exact ho
    · exact h.zh b o ho
  · show (if (s :: p) <+: r then none else β r) = some b
    rw [if_neg hn]; exact hb
  · replace h1 : (if (s :: p) <+: p1 then none else β p1) = some b := h1
    replace h2 : (if (s :: p) <+: p2 then none else β p2) = some b := h2
    split at h1
    · cases h1
    · split at h2
      · cases h2
      · exact h.inj p1 p2 b h1 h2
  · replace h1 : (if (s :: p) <+: p1 then none else β p1) = some b := h1
    split at h1
    · cases h1
    · rename_i hn
      have := h.bo p1 b h1
      refine ⟨this.1, ?_, this.2.2⟩
      show (if under b then w.heap[b]? else Z b) = none
      rw [if_neg ?_]
      · exact this.2.1
      · rintro ⟨r, hr⟩
        have := h.inj _ _ b h1 hr
        exact hn (by rw [this]; exact List.prefix_append _ _)
  · exact .pers (hu.toView' hZ fun r b hb => by
      show (if under b then w.heap[b]? else Z b) = w.heap[b]?
      rw [if_pos ⟨r, hb⟩])
end

end Go.Proofs.Ytechllcflknnlaa
