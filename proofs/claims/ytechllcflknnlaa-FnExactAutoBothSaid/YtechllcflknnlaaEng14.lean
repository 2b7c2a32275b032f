/- A region that draws its order: one walk in the text's order serves every order, if what the operations touch is apart. No program in sight. -/
import Derived.Test.YtechllcflknnlaaEng13
namespace Go.Proofs.Ytechllcflknnlaa
set_option linter.unusedSimpArgs false
set_option linter.unusedVariables false
set_option maxRecDepth 8000
open Go Go.RowKit AV

theorem head_junk {A : AV} : head A = .junk ↔ A = .junk := by cases A <;> simp [head]
theorem tg_head (A : AV) : tg (head A) = tg A := by cases A <;> rfl

/-- What is read of two environments is alike: so is what is done. -/
theorem Rd.Ok.local {e e' : Env} : ∀ {r : Rd} {f : Fp}, r.Ok e f → (∀ t ∈ f.gets, e' t = e t) → (∀ t ∈ f.peeks, head (e' t) = head (e t)) → r.Ok e' f
  | .ret _, _, h, _, _ => h
  | .fail, _, h, _, _ => h
  | .get t k, f, ⟨h1, f', h2, h3⟩, hg, hp => by
    subst h3
    have := hg t (by simp)
    refine ⟨by rw [this]; exact h1, f', ?_, by rw [this]⟩
    rw [this]
    exact h2.local (fun s hs => hg s (by simp [hs])) (fun s hs => hp s hs)
  | .peek t k, f, ⟨h1, f', h2, h3⟩, hg, hp => by
    subst h3
    have := hp t (by simp)
    have htg : tg (e' t) = tg (e t) := by rw [← tg_head (e' t), this, tg_head]
    refine ⟨fun hj => h1 (head_junk.1 (by rw [← this]; exact head_junk.2 hj)), f', ?_, by rw [htg]⟩
    rw [this]
    exact h2.local (fun s hs => hg s hs) (fun s hs => hp s (by simp [hs]))
  | .need c k, f, ⟨h1, h2⟩, hg, hp => ⟨h1, h2.local hg hp⟩
  | .ex α k, f, ⟨x, h⟩, hg, hp => ⟨x, h.local hg hp⟩
  | .br c x y, f, .inl ⟨h1, h2⟩, hg, hp => .inl ⟨h1, h2.local hg hp⟩
  | .br c x y, f, .inr ⟨h1, h2⟩, hg, hp => .inr ⟨h1, h2.local hg hp⟩

theorem Rd.Ok.gets {e : Env} : ∀ {r : Rd} {f : Fp}, r.Ok e f → (∀ t ∈ f.gets, e t ≠ .junk ∧ ∀ s ∈ tg (e t), s ∈ f.tgs) ∧ (∀ t ∈ f.peeks, e t ≠ .junk ∧ ∀ s ∈ tg (e t), s ∈ f.tgs)
  | .ret _, _, h => by cases h; simp
  | .fail, _, h => h.elim
  | .get t k, f, ⟨h1, f', h2, h3⟩ => by
    subst h3
    have := h2.gets
    refine ⟨fun s hs => ?_, fun s hs => ⟨(this.2 s hs).1, fun x hx => by simp [(this.2 s hs).2 x hx]⟩⟩
    rcases List.mem_cons.1 hs with rfl | hs
    · exact ⟨h1, fun x hx => by simp [hx]⟩
    · exact ⟨(this.1 s hs).1, fun x hx => by simp [(this.1 s hs).2 x hx]⟩
  | .peek t k, f, ⟨h1, f', h2, h3⟩ => by
    subst h3
    have := h2.gets
    refine ⟨fun s hs => ⟨(this.1 s hs).1, fun x hx => by simp [(this.1 s hs).2 x hx]⟩, fun s hs => ?_⟩
    rcases List.mem_cons.1 hs with rfl | hs
    · exact ⟨h1, fun x hx => by simp [hx]⟩
    · exact ⟨(this.2 s hs).1, fun x hx => by simp [(this.2 s hs).2 x hx]⟩
  | .need c k, f, ⟨_, h2⟩ => h2.gets
  | .ex α k, f, ⟨x, h⟩ => h.gets
  | .br c x y, f, .inl ⟨_, h2⟩ => h2.gets
  | .br c x y, f, .inr ⟨_, h2⟩ => h2.gets

namespace Wr
def slot : Wr → Nat
  | .set d _ => d
  | .mod s _ _ => s
def val : Wr → AV
  | .set _ v => v
  | .mod _ _ v => v
/-- The slot whose kind it turns. -/
def hslot : Wr → List Nat
  | .set d _ => [d]
  | .mod s p _ => if p = [] then [s] else []
/-- The slot whose views it ends. -/
def kills (x : Wr) : List Nat := if isOwn x.val then [x.slot] else []
def path : Wr → List Nat
  | .set _ _ => []
  | .mod _ p _ => p
/-- What the slot becomes. -/
def cell : Wr → AV → AV
  | .set _ v, _ => v
  | .mod _ p v, A => setP A p v
def killer (x : Wr) (A : AV) : AV := if isOwn x.val then killV x.slot x.path A else A

theorem app_slot (x : Wr) (e : Env) : x.app e x.slot = x.cell (e x.slot) := by
  cases x <;> simp only [app, slot, cell] <;> split <;> simp [upd]
theorem app_other (x : Wr) (e : Env) {t : Nat} (h : t ≠ x.slot) : x.app e t = x.killer (e t) := by
  cases x with
  | set d v => simp only [slot] at h; simp only [app, killer, val, slot, path]; by_cases hv : isOwn v = true <;> simp [hv, upd, kill, h]
  | mod s p v => simp only [slot] at h; simp only [app, killer, val, slot, path]; by_cases hv : isOwn v = true <;> simp [hv, upd, kill, h]
end Wr

theorem killV_cases (s : Nat) (p : List Nat) (A : AV) : killV s p A = A ∨ (killV s p A = .junk ∧ s ∈ tg A) := by
  cases A <;> simp only [killV, true_or]
  all_goals (split <;> simp_all [tg])

theorem killer_cases (x : Wr) (A : AV) : x.killer A = A ∨ (x.killer A = .junk ∧ ∃ s ∈ x.kills, s ∈ tg A) := by
  unfold Wr.killer Wr.kills
  split
  · rcases killV_cases x.slot x.path A with h | h
    · exact .inl h
    · exact .inr ⟨h.1, _, by simp, h.2⟩
  · exact .inl rfl

theorem killer_junk (x : Wr) : x.killer .junk = .junk := by unfold Wr.killer; split <;> rfl

theorem killV_comm (s s' : Nat) (p p' : List Nat) (A : AV) : killV s p (killV s' p' A) = killV s' p' (killV s p A) := by
  rcases killV_cases s p A with h1 | ⟨h1, _⟩ <;> rcases killV_cases s' p' A with h2 | ⟨h2, _⟩ <;> rw [h1, h2] <;> first | exact h1 | exact h2.symm | rfl | (rw [h1]; rfl)

theorem killer_comm (x y : Wr) (A : AV) : x.killer (y.killer A) = y.killer (x.killer A) := by
  unfold Wr.killer
  split <;> split <;> first | rfl | exact killV_comm _ _ _ _ _

theorem killer_head (x : Wr) {A : AV} {k : Nat} {p : List Nat} {v : AV} : x.killer (setP A (k :: p) v) = setP (x.killer A) (k :: p) v := by
  unfold Wr.killer
  split
  · cases A <;> simp only [setP, kids, withKids, killV]
    all_goals (split <;> simp [setP, kids])
  · rfl

/-- Two writes to different slots, neither of which ends a view that the other writes. -/
theorem Wr.comm {x y : Wr} (h1 : x.slot ≠ y.slot) (h2 : ∀ s ∈ x.kills, s ∉ tg y.val) (h3 : ∀ s ∈ y.kills, s ∉ tg x.val) (e : Env) : x.app (y.app e) = y.app (x.app e) := by
  have cellK : ∀ (x y : Wr) (A : AV), (∀ s ∈ y.kills, s ∉ tg x.val) → x.cell (y.killer A) = y.killer (x.cell A) := by
    intro x y A h
    have hv : y.killer x.val = x.val := by
      rcases killer_cases y x.val with h' | ⟨_, s, hs, ht⟩
      · exact h'
      · exact absurd ht (h s hs)
    cases x with
    | set d v => exact hv.symm
    | mod s p v =>
      cases p with
      | nil => simp only [Wr.cell, setP]; exact hv.symm
      | cons k p => simp only [Wr.cell]; exact killer_head y |>.symm
  funext t
  by_cases hx : t = x.slot
  · subst hx
    rw [Wr.app_slot, Wr.app_other y _ h1, Wr.app_other y _ h1, Wr.app_slot]
    exact cellK x y _ h3
  · by_cases hy : t = y.slot
    · subst hy
      rw [Wr.app_other x _ hx, Wr.app_slot, Wr.app_slot, Wr.app_other x _ hx]
      exact (cellK y x _ h2).symm
    · rw [Wr.app_other x _ hx, Wr.app_other y _ hy, Wr.app_other y _ hy, Wr.app_other x _ hx]
      exact killer_comm x y _

def slotsW (ws : List Wr) : List Nat := ws.map Wr.slot
def hslotsW (ws : List Wr) : List Nat := ws.flatMap Wr.hslot
def killsW (ws : List Wr) : List Nat := ws.flatMap Wr.kills
def tgsW (ws : List Wr) : List Nat := ws.flatMap fun x => tg x.val

def disj (a b : List Nat) : Bool := a.all fun x => !b.contains x
theorem disj_spec {a b : List Nat} (h : disj a b = true) : ∀ x ∈ a, x ∉ b := by
  intro x hx hb
  have := List.all_eq_true.1 h x hx
  simp at this
  exact this hb

theorem apps_comm {a b : List Wr} (h1 : ∀ x ∈ slotsW a, x ∉ slotsW b) (h2 : ∀ s ∈ killsW a, s ∉ tgsW b) (h3 : ∀ s ∈ killsW b, s ∉ tgsW a) (e : Env) : apps a (apps b e) = apps b (apps a e) := by
  have one : ∀ (x : Wr) (b : List Wr), (x.slot ∉ slotsW b) → (∀ s ∈ x.kills, s ∉ tgsW b) → (∀ s ∈ killsW b, s ∉ tg x.val) → ∀ e, x.app (apps b e) = apps b (x.app e) := by
    intro x b
    induction b with
    | nil => intro _ _ _ e; rfl
    | cons y b ih =>
      intro g1 g2 g3 e
      simp only [slotsW, List.map_cons, List.mem_cons, not_or] at g1
      have c : x.app (y.app e) = y.app (x.app e) := Wr.comm g1.1 (fun s hs ht => g2 s hs (by simp [tgsW, ht])) (fun s hs => g3 s (by simp [killsW, hs])) e
      simp only [apps]
      rw [ih g1.2 (fun s hs ht => g2 s hs (by simp only [tgsW, List.flatMap_cons, List.mem_append]; exact .inr ht)) (fun s hs => g3 s (by simp only [killsW, List.flatMap_cons, List.mem_append]; exact .inr hs)), c]
  induction a generalizing e with
  | nil => rfl
  | cons x a ih =>
    simp only [apps]
    rw [one x b (h1 x.slot (by simp [slotsW])) (fun s hs => h2 s (by simp [killsW, hs])) (fun s hs ht => h3 s hs (by simp [tgsW, ht])) e]
    exact ih (fun y hy => h1 y (by simp only [slotsW, List.map_cons, List.mem_cons]; exact .inr hy)) (fun s hs => h2 s (by simp only [killsW, List.flatMap_cons, List.mem_append]; exact .inr hs)) (fun s hs ht => h3 s hs (by simp only [tgsW, List.flatMap_cons, List.mem_append]; exact .inr ht)) _

/-- Behind writes, a slot that they do not fill is as it was, or a view that has ended. -/
theorem apps_other : ∀ (ws : List Wr) (e : Env) {t : Nat}, t ∉ slotsW ws → apps ws e t = e t ∨ (apps ws e t = .junk ∧ ∃ s ∈ killsW ws, s ∈ tg (e t))
  | [], _, _, _ => .inl rfl
  | x :: ws, e, t, h => by
    simp only [slotsW, List.map_cons, List.mem_cons, not_or] at h
    have h1 := Wr.app_other x e h.1
    rcases apps_other ws (x.app e) h.2 with h2 | ⟨h2, s, hs, ht⟩
    · rcases killer_cases x (e t) with h3 | ⟨h3, s, hs, ht⟩
      · exact .inl (by simp only [apps]; rw [h2, h1, h3])
      · exact .inr ⟨by simp only [apps]; rw [h2, h1, h3], s, by simp only [killsW, List.flatMap_cons, List.mem_append]; exact .inl hs, ht⟩
    · refine .inr ⟨h2, s, by simp only [killsW, List.flatMap_cons, List.mem_append]; exact .inr hs, ?_⟩
      rw [h1] at ht
      rcases killer_cases x (e t) with h3 | ⟨h3, _⟩
      · rwa [h3] at ht
      · rw [h3] at ht; simp [tg] at ht

theorem head_setP {A v : AV} {k : Nat} {p : List Nat} : head (setP A (k :: p) v) = head A := by
  simp only [setP]
  cases A <;> simp [kids, withKids, head]

/-- .. and one whose kind they do not turn keeps its kind. -/
theorem apps_head : ∀ (ws : List Wr) (e : Env) {t : Nat}, t ∉ hslotsW ws → head (apps ws e t) = head (e t) ∨ (apps ws e t = .junk ∧ ∃ s ∈ killsW ws, s ∈ tg (e t))
  | [], _, _, _ => .inl rfl
  | x :: ws, e, t, h => by
    simp only [hslotsW, List.flatMap_cons, List.mem_append, not_or] at h
    have h1 : head (x.app e t) = head (e t) ∨ (x.app e t = .junk ∧ ∃ s ∈ x.kills, s ∈ tg (e t)) := by
      by_cases hx : t = x.slot
      · cases x with
        | set d v => exact absurd (by simp [Wr.hslot, hx, Wr.slot]) h.1
        | mod s p v =>
          cases p with
          | nil => exact absurd (by simp [Wr.hslot, hx, Wr.slot]) h.1
          | cons k p =>
            have := Wr.app_slot (.mod s (k :: p) v) e
            rw [hx, this]
            exact .inl head_setP
      · rw [Wr.app_other x e hx]
        rcases killer_cases x (e t) with h3 | h3
        · exact .inl (by rw [h3])
        · exact .inr h3
    rcases apps_head ws (x.app e) h.2 with h2 | ⟨h2, s, hs, ht⟩
    · rcases h1 with h3 | ⟨h3, s, hs, ht⟩
      · exact .inl (h2.trans h3)
      · refine .inr ⟨?_, s, by simp only [killsW, List.flatMap_cons, List.mem_append]; exact .inl hs, ht⟩
        rw [h3] at h2
        exact head_junk.1 h2
    · refine .inr ⟨h2, s, by simp only [killsW, List.flatMap_cons, List.mem_append]; exact .inr hs, ?_⟩
      rcases h1 with h3 | ⟨h3, _⟩
      · rw [← tg_head, ← h3, tg_head]; exact ht
      · rw [h3] at ht; simp [tg] at ht

/-- What two operations touch is apart. -/
def indep (f g : Fp) : Bool :=
  disj (slotsW f.ws) g.gets && disj (slotsW f.ws) (slotsW g.ws) && disj (slotsW g.ws) f.gets && disj (hslotsW f.ws) g.peeks && disj (hslotsW g.ws) f.peeks &&
  disj (killsW f.ws) g.tgs && disj (killsW f.ws) (tgsW g.ws) && disj (killsW g.ws) f.tgs && disj (killsW g.ws) (tgsW f.ws)

theorem swap {e : Env} {r1 r2 : Rd} {f g : Fp} (h1 : r1.Ok e f) (h2 : r2.Ok (apps f.ws e) g) (hi : indep f g = true) : r2.Ok e g ∧ r1.Ok (apps g.ws e) f ∧ apps g.ws (apps f.ws e) = apps f.ws (apps g.ws e) := by
  simp only [indep, Bool.and_eq_true] at hi
  obtain ⟨⟨⟨⟨⟨⟨⟨⟨i1, i2⟩, i3⟩, i4⟩, i5⟩, i6⟩, i7⟩, i8⟩, i9⟩ := hi
  have d1 := disj_spec i1
  have d2 := disj_spec i2
  have d3 := disj_spec i3
  have d4 := disj_spec i4
  have d5 := disj_spec i5
  have d7 := disj_spec i7
  have d8 := disj_spec i8
  have d9 := disj_spec i9
  have k2 := h2.gets
  have k1 := h1.gets
  have hback : r2.Ok e g := by
    refine h2.local (fun t ht => ?_) (fun t ht => ?_)
    · have hn : t ∉ slotsW f.ws := fun hm => d1 t hm ht
      rcases apps_other f.ws e hn with h | ⟨h, _⟩
      · exact h.symm
      · exact absurd h (k2.1 t ht).1
    · have hn : t ∉ hslotsW f.ws := fun hm => d4 t hm ht
      rcases apps_head f.ws e hn with h | ⟨h, _⟩
      · exact h.symm
      · exact absurd h (k2.2 t ht).1
  refine ⟨hback, ?_, ?_⟩
  · refine h1.local (fun t ht => ?_) (fun t ht => ?_)
    · have hn : t ∉ slotsW g.ws := fun hm => d3 t hm ht
      rcases apps_other g.ws e hn with h | ⟨_, s, hs, hst⟩
      · exact h
      · exact absurd ((k1.1 t ht).2 s hst) (d8 s hs)
    · have hn : t ∉ hslotsW g.ws := fun hm => d5 t hm ht
      rcases apps_head g.ws e hn with h | ⟨_, s, hs, hst⟩
      · exact h
      · exact absurd ((k1.2 t ht).2 s hst) (d8 s hs)
  · exact (apps_comm d2 d7 d9 e).symm

/-! ### Orders -/
section
variable (P : Program) (Γ : Ctx) (tl : List Nat) (ops : Array Oper)

/-- The operations of l, in this order, with these footprints. -/
def RunF (F : Nat → Fp) : List Nat → Env → Env → Prop
  | [], e, e' => e' = e
  | i :: l, e, e' => (∃ o, ops[i]? = some o ∧ (rdG P Γ tl ops o).Ok e (F i)) ∧ RunF F l (apps (F i).ws e) e'

def anyA (K : Env → Prop) : Nat → Array Bool → Env → Prop
  | 0, listed, e => Region.ready .any ops listed = [] ∧ K e
  | n + 1, listed, e => (Region.ready .any ops listed = [] → K e) ∧ ∀ i ∈ Region.ready .any ops listed, ∃ o f, ops[i]? = some o ∧ (rdG P Γ tl ops o).Ok e f ∧ anyA K n (listed.setIfInBounds i true) (apps f.ws e)
end

section
variable {P : Program} {Γ : Ctx} {tl : List Nat} {ops : Array Oper}

theorem bubble {F : Nat → Fp} {i : Nat} {l2 : List Nat} {e' : Env} : ∀ (l1 : List Nat) {e : Env}, RunF P Γ tl ops F (l1 ++ i :: l2) e e' → (∀ j ∈ l1, indep (F j) (F i) = true) → RunF P Γ tl ops F (i :: (l1 ++ l2)) e e'
  | [], e, h, _ => h
  | j :: l1, e, ⟨⟨oj, hoj, h1⟩, h⟩, hi => by
    obtain ⟨⟨o, ho, h2⟩, h3⟩ := bubble l1 h fun k hk => hi k (by simp [hk])
    obtain ⟨g1, g2, g3⟩ := swap h1 h2 (hi j (by simp))
    refine ⟨⟨o, ho, g1⟩, ⟨oj, hoj, g2⟩, ?_⟩
    rw [← g3]
    exact h3

/-- What has to come up ahead of what. -/
def befB (ops : Array Oper) : Array Nat := Region.before ops
def ordB (B : Array Nat) (j i : Nat) : Bool := (B.getD i 0).testBit j
def fwdB (ops : Array Oper) : Bool := ops.toList.zipIdx.all fun p => p.1.after.all fun e => !Region.binds .any e || decide (e.on < p.2)

/-- The operations that have come up are closed downwards. -/
def Down (ops : Array Oper) (listed : Array Bool) : Prop := ∀ i o, ops[i]? = some o → listed.getD i true = true → i < listed.size → ∀ e ∈ o.after, Region.binds .any e = true → listed.getD e.on false = true

theorem before_spec (hf : fwdB ops = true) : ∀ (i : Nat) (o : Oper), ops[i]? = some o → ∀ j, ordB (befB ops) j i = true → ∃ e ∈ o.after, Region.binds .any e = true ∧ (e.on = j ∨ ordB (befB ops) j e.on = true) := by
  intro i o ho j hj
  -- the array, entry by entry
  have step : ∀ (l : List Oper) (acc : Array Nat), (l.foldl (fun acc o => acc.push (o.after.foldl (fun s e => if Region.binds .any e then s ||| 2 ^ e.on ||| acc.getD e.on 0 else s) 0)) acc).size = acc.size + l.length ∧
      (∀ k, k < acc.size → (l.foldl (fun acc o => acc.push (o.after.foldl (fun s e => if Region.binds .any e then s ||| 2 ^ e.on ||| acc.getD e.on 0 else s) 0)) acc)[k]? = acc[k]?) := by
    intro l
    induction l with
    | nil => intro acc; simp
    | cons o l ih =>
      intro acc
      simp only [List.foldl_cons]
      have := ih (acc.push (o.after.foldl (fun s e => if Region.binds .any e then s ||| 2 ^ e.on ||| acc.getD e.on 0 else s) 0))
      refine ⟨by rw [this.1]; simp; omega, fun k hk => ?_⟩
      rw [this.2 k (by simp; omega), Array.getElem?_push, if_neg (by omega)]
  have hlt : i < ops.size := (Array.getElem?_eq_some_iff.1 ho).1
  have hB : befB ops = ops.toList.foldl (fun acc o => acc.push (o.after.foldl (fun s e => if Region.binds .any e then s ||| 2 ^ e.on ||| acc.getD e.on 0 else s) 0)) #[] := by
    unfold befB Region.before
    rw [← Array.foldl_toList]
  have hsplit : ops.toList = ops.toList.take i ++ o :: ops.toList.drop (i + 1) := by
    have h1 : ops.toList[i]? = some o := by simpa using ho
    obtain ⟨h2, h3⟩ := List.getElem?_eq_some_iff.1 h1
    rw [← h3, ← List.drop_eq_getElem_cons h2]
    exact (List.take_append_drop i _).symm
  generalize hacc : ((ops.toList.take i).foldl (fun acc o => acc.push (o.after.foldl (fun s e => if Region.binds .any e then s ||| 2 ^ e.on ||| acc.getD e.on 0 else s) 0)) #[]) = acc at *
  have hasz : acc.size = i := by
    rw [← hacc, (step _ _).1]
    simp; omega
  have hBi : (befB ops).getD i 0 = o.after.foldl (fun s e => if Region.binds .any e then s ||| 2 ^ e.on ||| acc.getD e.on 0 else s) 0 := by
    have : befB ops = (ops.toList.drop (i + 1)).foldl (fun acc o => acc.push (o.after.foldl (fun s e => if Region.binds .any e then s ||| 2 ^ e.on ||| acc.getD e.on 0 else s) 0)) (acc.push (o.after.foldl (fun s e => if Region.binds .any e then s ||| 2 ^ e.on ||| acc.getD e.on 0 else s) 0)) := by
      rw [hB]
      conv => lhs; rw [hsplit]
      rw [List.foldl_append, hacc]
      rfl
    rw [this, Array.getD_eq_getD_getElem?, (step _ _).2 i (by simp; omega), Array.getElem?_push, if_pos hasz.symm]
    rfl
  have haccB : ∀ k, k < i → acc.getD k 0 = (befB ops).getD k 0 := by
    intro k hk
    have : befB ops = (o :: ops.toList.drop (i + 1)).foldl (fun acc o => acc.push (o.after.foldl (fun s e => if Region.binds .any e then s ||| 2 ^ e.on ||| acc.getD e.on 0 else s) 0)) acc := by
      rw [hB]
      conv => lhs; rw [hsplit]
      rw [List.foldl_append, hacc]
    rw [this, Array.getD_eq_getD_getElem?, Array.getD_eq_getD_getElem?, (step _ _).2 k (by omega)]
  -- a bit of the fold comes from an edge
  have hfold : ∀ (l : List Edge) (s : Nat), (l.foldl (fun s e => if Region.binds .any e then s ||| 2 ^ e.on ||| acc.getD e.on 0 else s) s).testBit j = true → s.testBit j = true ∨ ∃ e ∈ l, Region.binds .any e = true ∧ (e.on = j ∨ (acc.getD e.on 0).testBit j = true) := by
    intro l
    induction l with
    | nil => intro s h; exact .inl h
    | cons e l ih =>
      intro s h
      simp only [List.foldl_cons] at h
      rcases ih _ h with h1 | ⟨e', he', h1⟩
      · split at h1
        · rename_i hb
          simp only [Nat.testBit_or, Bool.or_eq_true] at h1
          rcases h1 with (h1 | h1) | h1
          · exact .inl h1
          · rw [Nat.testBit_two_pow] at h1
            exact .inr ⟨e, by simp, hb, .inl (by simpa using h1)⟩
          · exact .inr ⟨e, by simp, hb, .inr h1⟩
        · exact .inl h1
      · exact .inr ⟨e', by simp [he'], h1⟩
  unfold ordB at hj
  rw [hBi, ← Array.foldl_toList] at hj
  rcases hfold _ _ hj with h0 | ⟨e, he, hb, h1⟩
  · simp at h0
  · refine ⟨e, by simpa using he, hb, h1.imp id fun h => ?_⟩
    have hel : e.on < i := by
      have := List.all_eq_true.1 hf (o, i) (by
        rw [List.mem_zipIdx_iff_getElem?]
        simpa using ho)
      simp only [Array.all_eq_true_iff_forall_mem] at this
      have := this e (by simpa using he)
      simpa [hb] using this
    unfold ordB
    rw [← haccB e.on hel]
    exact h

/-- What has to come up ahead of an operation that may come up now has come up. -/
theorem ord_listed (hf : fwdB ops = true) {listed : Array Bool} (hD : Down ops listed) (hsz : listed.size = ops.size) : ∀ (n i : Nat), i < n → (i ∈ Region.ready .any ops listed ∨ listed.getD i false = true) → ∀ j, ordB (befB ops) j i = true → listed.getD j false = true := by
  intro n
  induction n with
  | zero => intro i hi; omega
  | succ n ih =>
    intro i hi hr j hj
    have key : ∃ o, ops[i]? = some o ∧ ∀ e ∈ o.after, Region.binds .any e = true → listed.getD e.on false = true := by
      rcases hr with hr | hr
      · exact (mem_ready.1 hr).2
      · have hlt : i < listed.size := by
          rcases Nat.lt_or_ge i listed.size with h | h
          · exact h
          · simp [Array.getElem?_eq_none h] at hr
        have ho : ops[i]? = some ops[i] := Array.getElem?_eq_getElem (by omega)
        refine ⟨_, ho, hD i _ ho ?_ hlt⟩
        simpa [hlt] using hr
    obtain ⟨o, ho, hall⟩ := key
    obtain ⟨e, he, hb, h1⟩ := before_spec hf i o ho j hj
    have hel := hall e he hb
    rcases h1 with rfl | h1
    · exact hel
    · have hlt : e.on < i := by
        have := List.all_eq_true.1 hf (o, i) (by
          rw [List.mem_zipIdx_iff_getElem?]
          simpa using ho)
        simp only [Array.all_eq_true_iff_forall_mem] at this
        have := this e he
        simpa [hb] using this
      exact ih e.on (by omega) (.inr hel) j h1

/-- **One walk in the text's order serves every order.** -/
theorem anyA_of_run {F : Nat → Fp} {K : Env → Prop} {e' : Env} (hf : fwdB ops = true) (hK : K e') : ∀ (n : Nat) (l : List Nat) (listed : Array Bool) (e : Env), l.length = n → listed.size = ops.size → (∀ i, i ∈ l ↔ i < ops.size ∧ listed.getD i true = false) → l.Pairwise (· < ·) →
    (∀ j ∈ l, ∀ i ∈ l, j < i → ordB (befB ops) j i = true ∨ indep (F j) (F i) = true) → Down ops listed → RunF P Γ tl ops F l e e' → anyA P Γ tl ops K n listed e := by
  have hready : ∀ (l : List Nat) (listed : Array Bool), listed.size = ops.size → (∀ i, i ∈ l ↔ i < ops.size ∧ listed.getD i true = false) → l.Pairwise (· < ·) → l ≠ [] → Region.ready .any ops listed ≠ [] := by
    intro l listed hsz hl hp hne hr
    cases l with
    | nil => exact hne rfl
    | cons i l =>
      obtain ⟨hi, hli⟩ := (hl i).1 (by simp)
      have : i ∈ Region.ready .any ops listed := by
        rw [mem_ready]
        refine ⟨hli, ops[i], Array.getElem?_eq_getElem hi, fun ed he hb => ?_⟩
        have hlt : ed.on < i := by
          have := List.all_eq_true.1 hf (ops[i], i) (by
            rw [List.mem_zipIdx_iff_getElem?]
            simp [hi])
          simp only [Array.all_eq_true_iff_forall_mem] at this
          have := this ed he
          simpa [hb] using this
        have hlts : ed.on < listed.size := by omega
        cases hv : listed.getD ed.on false with
        | true => rfl
        | false =>
          have : ed.on ∈ i :: l := (hl _).2 ⟨by omega, by simpa [hlts] using hv⟩
          rcases List.mem_cons.1 this with h | h
          · omega
          · have := (List.pairwise_cons.1 hp).1 _ h; omega
      rw [hr] at this
      cases this
  intro n
  induction n with
  | zero =>
    intro l listed e hn hsz hl hp hi hD hrun
    have : l = [] := List.eq_nil_of_length_eq_zero hn
    subst this
    have : e' = e := hrun
    subst this
    refine ⟨?_, hK⟩
    cases hr : Region.ready .any ops listed with
    | nil => rfl
    | cons i r =>
      exfalso
      have hm : i ∈ Region.ready .any ops listed := by rw [hr]; simp
      obtain ⟨h1, o, ho, _⟩ := mem_ready.1 hm
      have := (hl i).2 ⟨(Array.getElem?_eq_some_iff.1 ho).1, h1⟩
      cases this
  | succ n ih =>
    intro l listed e hn hsz hl hp hi hD hrun
    have hne : l ≠ [] := by rintro rfl; simp at hn
    refine ⟨fun h => absurd h (hready l listed hsz hl hp hne), fun i hir => ?_⟩
    obtain ⟨h1, o, ho, hall⟩ := mem_ready.1 hir
    have hios : i < ops.size := (Array.getElem?_eq_some_iff.1 ho).1
    have him : i ∈ l := (hl i).2 ⟨hios, h1⟩
    obtain ⟨l1, l2, rfl⟩ := List.append_of_mem him
    have hp' := List.pairwise_append.1 hp
    have hlt1 : ∀ j ∈ l1, j < i := fun j hj => hp'.2.2 j hj i (by simp)
    obtain ⟨⟨o', ho', hok⟩, hrest⟩ := bubble l1 hrun fun j hj => by
      rcases hi j (by simp [hj]) i (by simp) (hlt1 j hj) with h | h
      · exfalso
        have := ord_listed hf hD hsz (i + 1) i (by omega) (.inl hir) j h
        have hj' := (hl j).1 (by simp [hj])
        have hjs : j < listed.size := by omega
        have h3 := hj'.2
        simp [hjs] at this h3
        rw [h3] at this
        cases this
      · exact h
    refine ⟨o', F i, ho', hok, ?_⟩
    have hne1 : ∀ j, j ∈ l1 ++ l2 → j ≠ i := by
      intro j hj
      rcases List.mem_append.1 hj with h | h
      · have := hlt1 j h; omega
      · have := (List.pairwise_cons.1 hp'.2.1).1 j h; omega
    refine ih (l1 ++ l2) _ _ (by simp at hn ⊢; omega) (by simpa using hsz) (fun j => ?_) ?_ (fun j hj k hk hlt => hi j (by simp at hj ⊢; rcases hj with h | h <;> simp [h]) k (by simp at hk ⊢; rcases hk with h | h <;> simp [h]) hlt) ?_ hrest
    · constructor
      · intro hj
        have hji := hne1 j hj
        have := (hl j).1 (by simp at hj ⊢; rcases hj with h | h <;> simp [h])
        exact ⟨this.1, by rw [getD_set_ne true (Ne.symm hji)]; exact this.2⟩
      · rintro ⟨hj, hjl⟩
        by_cases hji : j = i
        · subst hji
          have hjs : j < listed.size := by omega
          simp [hjs] at hjl
        · rw [getD_set_ne true (Ne.symm hji)] at hjl
          have := (hl j).2 ⟨hj, hjl⟩
          simp at this ⊢
          rcases this with h | h | h
          · exact .inl h
          · exact absurd h hji
          · exact .inr h
    · refine List.pairwise_append.2 ⟨hp'.1, (List.pairwise_cons.1 hp'.2.1).2, fun a ha b hb => hp'.2.2 a ha b (by simp [hb])⟩
    · intro k ok hok' hlk hks ed hed hb
      by_cases hki : k = i
      · subst hki
        rw [ho] at hok'
        injection hok' with hok'
        subst hok'
        exact getD_set_true (hall ed hed hb)
      · rw [getD_set_ne true (Ne.symm hki)] at hlk
        exact getD_set_true (hD k ok hok' hlk (by simpa using hks) ed hed hb)

/-- .. and so does the model's walk. -/
theorem wpAny_of_anyA {κ : Con} (hΓ : ∀ f c, Γ f = some c → CtrOK P f c) (hd : dstOK κ.lim ops.toList = true) {Q : Exit → Act → World → Prop} {K : Env → Prop} (hK : ∀ e a w, K e → St κ e a w → Q .normal a w) :
    ∀ (n : Nat) (listed : Array Bool) (e : Env) (a : Act) (w : World), anyA P Γ tl ops K n listed e → St κ e a w → wpAny P .any ops Q n listed a w
  | 0, listed, e, a, w, h, hs => ⟨h.1, hK e a w h.2 hs⟩
  | n + 1, listed, e, a, w, h, hs => by
    refine ⟨fun h0 => hK e a w (h.1 h0) hs, fun i hi => ?_⟩
    obtain ⟨o, f, ho, hok, hrest⟩ := h.2 i hi
    have hn := dstOK_spec hd (show o ∈ ops.toList by simpa using Array.mem_of_getElem? ho)
    have := rdG_sound hΓ hn hok.wo Q (wpAny P .any ops Q n (listed.setIfInBounds i true)) a w hs fun a' w' hs' => wpAny_of_anyA hΓ hd hK n _ _ a' w' hrest hs'
    unfold wpOp
    simp only [ho]
    exact this

/-! ### The walk with footprints -/

def Rd.D (e : Env) : Rd → List Nat → List Nat → List Nat → (Fp → Prop) → Prop
  | .ret ws, gs, ps, ts, K => K ⟨gs, ps, ts, ws⟩
  | .fail, _, _, _, _ => False
  | .get t k, gs, ps, ts, K => e t ≠ .junk ∧ Rd.D e (k (e t)) (t :: gs) ps (tg (e t) ++ ts) K
  | .peek t k, gs, ps, ts, K => e t ≠ .junk ∧ Rd.D e (k (head (e t))) gs (t :: ps) (tg (e t) ++ ts) K
  | .need c k, gs, ps, ts, K => c ∧ Rd.D e k gs ps ts K
  | .ex _ k, gs, ps, ts, K => ∃ x, Rd.D e (k x) gs ps ts K
  | .br c x y, gs, ps, ts, K => (c → Rd.D e x gs ps ts K) ∧ (¬ c → Rd.D e y gs ps ts K)

/-- Two footprints that name the same slots. -/
def Fp.le (f g : Fp) : Prop := (∀ t ∈ f.gets, t ∈ g.gets) ∧ (∀ t ∈ f.peeks, t ∈ g.peeks) ∧ (∀ t ∈ f.tgs, t ∈ g.tgs) ∧ f.ws = g.ws

theorem Rd.D.ok {e : Env} : ∀ {r : Rd} {gs ps ts : List Nat} {K : Fp → Prop}, r.D e gs ps ts K → ∃ f g, r.Ok e f ∧ K g ∧ f.le g ∧ (∀ t ∈ gs, t ∈ g.gets) ∧ (∀ t ∈ ps, t ∈ g.peeks) ∧ (∀ t ∈ ts, t ∈ g.tgs)
  | .ret ws, gs, ps, ts, K, h => ⟨⟨[], [], [], ws⟩, _, rfl, h, by simp [Fp.le], by simp, by simp, by simp⟩
  | .fail, _, _, _, _, h => h.elim
  | .get t k, gs, ps, ts, K, ⟨h1, h2⟩ => by
    obtain ⟨f, g, g1, g2, g3, g4, g5, g6⟩ := h2.ok
    refine ⟨_, g, ⟨h1, f, g1, rfl⟩, g2, ⟨fun s hs => ?_, g3.2.1, fun s hs => ?_, g3.2.2.2⟩, fun s hs => g4 s (by simp [hs]), g5, fun s hs => g6 s (by simp [hs])⟩
    · rcases List.mem_cons.1 hs with rfl | hs
      · exact g4 _ (by simp)
      · exact g3.1 s hs
    · rcases List.mem_append.1 hs with hs | hs
      · exact g6 s (by simp [hs])
      · exact g3.2.2.1 s hs
  | .peek t k, gs, ps, ts, K, ⟨h1, h2⟩ => by
    obtain ⟨f, g, g1, g2, g3, g4, g5, g6⟩ := h2.ok
    refine ⟨_, g, ⟨h1, f, g1, rfl⟩, g2, ⟨g3.1, fun s hs => ?_, fun s hs => ?_, g3.2.2.2⟩, g4, fun s hs => g5 s (by simp [hs]), fun s hs => g6 s (by simp [hs])⟩
    · rcases List.mem_cons.1 hs with rfl | hs
      · exact g5 _ (by simp)
      · exact g3.2.1 s hs
    · rcases List.mem_append.1 hs with hs | hs
      · exact g6 s (by simp [hs])
      · exact g3.2.2.1 s hs
  | .need c k, gs, ps, ts, K, ⟨h1, h2⟩ => by
    obtain ⟨f, g, g1, g2⟩ := h2.ok
    exact ⟨f, g, ⟨h1, g1⟩, g2⟩
  | .ex α k, gs, ps, ts, K, ⟨x, h2⟩ => by
    obtain ⟨f, g, g1, g2⟩ := h2.ok
    exact ⟨f, g, ⟨x, g1⟩, g2⟩
  | .br c x y, gs, ps, ts, K, ⟨h1, h2⟩ => by
    by_cases hc : c
    · obtain ⟨f, g, g1, g2⟩ := (h1 hc).ok
      exact ⟨f, g, .inl ⟨hc, g1⟩, g2⟩
    · obtain ⟨f, g, g1, g2⟩ := (h2 hc).ok
      exact ⟨f, g, .inr ⟨hc, g1⟩, g2⟩

theorem disj_mono {a b a' b' : List Nat} (ha : ∀ t ∈ a', t ∈ a) (hb : ∀ t ∈ b', t ∈ b) (h : disj a b = true) : disj a' b' = true := by
  have := disj_spec h
  unfold disj
  rw [List.all_eq_true]
  intro x hx
  simp
  exact fun hm => this x (ha x hx) (hb x hm)

theorem indep_mono {f g f' g' : Fp} (hf : f'.le f) (hg : g'.le g) (h : indep f g = true) : indep f' g' = true := by
  simp only [indep, Bool.and_eq_true] at h ⊢
  obtain ⟨⟨⟨⟨⟨⟨⟨⟨i1, i2⟩, i3⟩, i4⟩, i5⟩, i6⟩, i7⟩, i8⟩, i9⟩ := h
  obtain ⟨f1, f2, f3, f4⟩ := hf
  obtain ⟨g1, g2, g3, g4⟩ := hg
  rw [f4, g4]
  have id' : ∀ (l : List Nat), ∀ t ∈ l, t ∈ l := fun l t h => h
  exact ⟨⟨⟨⟨⟨⟨⟨⟨disj_mono (id' _) g1 i1, i2⟩, disj_mono (id' _) f1 i3⟩, disj_mono (id' _) g2 i4⟩, disj_mono (id' _) f2 i5⟩, disj_mono (id' _) g3 i6⟩, i7⟩, disj_mono (id' _) f3 i8⟩, i9⟩

/-- The walk in the text's order; acc: what the operations before have touched. -/
def chkP (B : Array Nat) : List (Nat × Fp) → Bool
  | [] => true
  | (i, f) :: acc => (acc.all fun p => ordB B p.1 i || indep p.2 f) && chkP B acc

def wpOpsD (P : Program) (Γ : Ctx) (tl : List Nat) (ops : Array Oper) (B : Array Nat) : List Oper → Nat → List (Nat × Fp) → Env → (Env → Prop) → Prop
  | [], _, acc, e, K => chkP B acc = true ∧ K e
  | o :: rest, i, acc, e, K => (rdG P Γ tl ops o).D e [] [] [] fun f => wpOpsD P Γ tl ops B rest (i + 1) ((i, f) :: acc) (apps f.ws e) K

theorem wpOpsD_run {K : Env → Prop} : ∀ (l : List Oper) (i : Nat) (acc : List (Nat × Fp)) (e : Env), (∀ j, l[j]? = ops[i + j]?) → wpOpsD P Γ tl ops (befB ops) l i acc e K →
    ∃ (F : Nat → Fp) (e' : Env), RunF P Γ tl ops F (List.range' i l.length) e e' ∧ K e' ∧ (∀ p ∈ acc, ∀ k, i ≤ k → k < i + l.length → ordB (befB ops) p.1 k = true ∨ indep p.2 (F k) = true) ∧
      (∀ j k, i ≤ j → j < k → k < i + l.length → ordB (befB ops) j k = true ∨ indep (F j) (F k) = true) ∧ chkP (befB ops) acc = true
  | [], i, acc, e, _, h => ⟨fun _ => ⟨[], [], [], []⟩, e, rfl, h.2, fun p _ k h1 h2 => by simp at h2; omega, fun j k h1 h2 h3 => by simp at h3; omega, h.1⟩
  | o :: l, i, acc, e, hl, h => by
    obtain ⟨f, g, g1, g3, g4, _⟩ := Rd.D.ok h
    have h0 : ops[i]? = some o := by simpa using (hl 0).symm
    obtain ⟨F, e', r1, r2, r3, r4, r5⟩ := wpOpsD_run l (i + 1) _ _ (fun j => by have := hl (j + 1); simpa [Nat.add_assoc, Nat.add_comm 1 j] using this) g3
    simp only [chkP, Bool.and_eq_true] at r5
    obtain ⟨g2, r6⟩ := r5
    have hF : ∀ k, i < k → (fun k => if k = i then f else F k) k = F k := fun k hk => by simp [Nat.ne_of_gt hk]
    refine ⟨fun k => if k = i then f else F k, e', ?_, r2, fun p hp k hk1 hk2 => ?_, fun j k hj hjk hk => ?_, r6⟩
    · simp only [List.length_cons, List.range'_succ, RunF, if_true]
      refine ⟨⟨o, h0, g1⟩, ?_⟩
      rw [g4.2.2.2]
      have cong : ∀ (m : List Nat) (e1 : Env), (∀ x ∈ m, i < x) → RunF P Γ tl ops F m e1 e' → RunF P Γ tl ops (fun k => if k = i then f else F k) m e1 e' := by
        intro m
        induction m with
        | nil => intro e1 _ h; exact h
        | cons x m ih =>
          intro e1 hm ⟨h1, h2⟩
          have hx := hF x (hm x (by simp))
          simp only at hx
          simp only [RunF, hx]
          exact ⟨h1, ih _ (fun y hy => hm y (by simp [hy])) h2⟩
      exact cong _ _ (fun x hx => by have := List.mem_range'_1.1 hx; omega) r1
    · simp only [List.length_cons] at hk2
      by_cases hki : k = i
      · subst hki
        have := List.all_eq_true.1 g2 p hp
        simp only [Bool.or_eq_true] at this
        simp only [if_true]
        exact this.imp id fun h => indep_mono ⟨fun _ h => h, fun _ h => h, fun _ h => h, rfl⟩ g4 h
      · simp only [hki, if_false]
        exact r3 p (by simp [hp]) k (by omega) (by omega)
    · simp only [List.length_cons] at hk
      by_cases hji : j = i
      · subst hji
        have hkj : k ≠ j := by omega
        simp only [if_true, hkj, if_false]
        exact (r3 (j, g) (by simp) k (by omega) (by omega)).imp id fun h => indep_mono g4 ⟨fun _ h => h, fun _ h => h, fun _ h => h, rfl⟩ h
      · have hki : k ≠ i := by omega
        simp only [hji, hki, if_false]
        exact r4 j k (by omega) hjk (by omega)

/-- A region that draws its order. -/
theorem wpOpsD_sound {κ : Con} (hΓ : ∀ f c, Γ f = some c → CtrOK P f c) (hm : P.follows .mixedOrders = true) {id : Nat} {Q : Exit → Act → World → Prop} {K : Env → Prop} (hK : ∀ e a w, K e → St κ e a w → Q .normal a w)
    (hd : dstOK κ.lim ops.toList = true) (hf : fwdB ops = true) {e : Env} {a : Act} {w : World} (h : wpOpsD P Γ tl ops (befB ops) ops.toList 0 [] e K) (hs : St κ e a w) : (Code.region id ops true).wp P Q a w := by
  obtain ⟨F, e', r1, r2, _, r4, _⟩ := wpOpsD_run ops.toList 0 [] e (by simp) h
  have hs' : St κ e a { w with drawn := w.drawn + 1 } := ⟨hs.1, hs.2.1, let ⟨Z, β, hR⟩ := hs.2.2; ⟨Z, β, hR.drew⟩⟩
  refine wp_region_any hm (wpAny_of_anyA (tl := tl) hΓ hd hK _ _ _ _ _ ?_ hs')
  refine anyA_of_run (F := F) hf r2 ops.size (List.range ops.size) (Array.replicate ops.size false) e (by simp) (by simp) (fun i => ?_) ?_ (fun j hj i hi hji => r4 j i (by omega) hji (by simp at hi ⊢; omega)) (fun i o ho hl hlt => ?_) ?_
  · simp only [List.mem_range]
    constructor
    · intro hi; exact ⟨hi, by simp [hi]⟩
    · exact fun h => h.1
  · exact List.pairwise_lt_range
  · have : i < ops.size := by simpa using hlt
    simp [this] at hl
  · rw [List.range_eq_range']
    simpa using r1
end

end Go.Proofs.Ytechllcflknnlaa
