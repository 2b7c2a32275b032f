/- The state of a call, read abstractly: an environment tells what each slot means; how it turns when a slot is filled, when what lies at a place is read otherwise, when memory is written. No program in sight. -/
import Derived.Test.YtechllcflknnlaaEng1
namespace Go.Proofs.Ytechllcflknnlaa
set_option linter.unusedSimpArgs false
set_option linter.unusedVariables false
set_option maxRecDepth 8000
open Go Go.RowKit AV

abbrev Env := Nat → AV
def upd (e : Env) (k : Nat) (v : AV) : Env := fun t => if t = k then v else e t
theorem upd_same (e : Env) (k : Nat) (v : AV) : upd e k v k = v := by simp [upd]
theorem upd_ne (e : Env) (k : Nat) (v : AV) (t : Nat) (h : t ≠ k) : upd e k v t = e t := by simp [upd, h]

/-- What becomes of a view when the place (s, p) is filled anew. -/
def killV (s : Nat) (p : List Nat) : AV → AV
  | .alias s' q => if s' = s ∧ p <+: q then .junk else .alias s' q
  | .valias s' q => if s' = s ∧ p <+: q then .junk else .valias s' q
  | .addr s' q => if s' = s ∧ p <+: q.dropLast then .junk else .addr s' q
  | v => v
def kill (s : Nat) (p : List Nat) (e : Env) : Env := fun t => killV s p (e t)

/-- What is written: a slot is filled; or what lies at a place. -/
inductive Wr where
  | set (d : Nat) (v : AV)
  | mod (s : Nat) (p : List Nat) (v : AV)

def Wr.app : Wr → Env → Env
  | .set d v, e => if isOwn v then upd (kill d [] e) d v else upd e d v
  | .mod s p v, e => if isOwn v then upd (kill s p e) s (setP (e s) p v) else upd e s (setP (e s) p v)
def apps : List Wr → Env → Env
  | [], e => e
  | x :: l, e => apps l (x.app e)

/-- The cells cs lie in the block at place p. -/
def InBox (H : Array Obj) (β : List Nat → Option Nat) (p : List Nat) (cs : Array Value) : Prop := ∃ b T, β p = some b ∧ H[b]? = some (.cells cs T (0, 0))

/-- How a slot's value reads. -/
def TRep (Z : Nat → Option Obj) (H : Array Obj) (β : List Nat → Option Nat) (e : Env) (t : Nat) (v : Value) : Prop :=
  match e t with
  | .alias s p => ∀ A, getP (e s) p = some A → isOwn A = true → ORep Z H β (s :: p) A v
  | .valias s p => ∀ l, getP (e s) p = some (.box l) → ∃ cs, v = .agg cs ∧ ORep Z H β (s :: p) (.agg l) (.agg cs) ∧ InBox H β (s :: p) cs
  | .addr s p => ∃ q k b, p = q ++ [k] ∧ v = .pointer (some ⟨b, k, none⟩) ∧ (∀ A, getP (e s) q = some A → isOwn A = true → β (s :: q) = some b)
  | A => ORep Z H β [t] A v

/-- What stays the same during one call. -/
structure Con where
  W0 : World
  Z0 : Nat → Option Obj
  O0 : Nat → Prop
  V0 : Nat → Value
  lim : Nat × Nat

def new (κ : Con) (b : Nat) : Prop := κ.O0 b ∨ κ.W0.heap.size ≤ b

structure Rep (κ : Con) (Z : Nat → Option Obj) (β : List Nat → Option Nat) (e : Env) (val : Nat → Value) (w : World) : Prop where
  os : w.os = κ.W0.os
  tape : w.tape = κ.W0.tape
  output : w.output = κ.W0.output
  size : κ.W0.heap.size ≤ w.heap.size
  frame : ∀ b, b < κ.W0.heap.size → ¬ κ.O0 b → w.heap[b]? = κ.W0.heap[b]?
  z0 : ∀ b o, κ.Z0 b = some o → Z b = some o
  zo : ∀ b o, Z b = some o → κ.Z0 b = some o ∨ new κ b
  zh : ∀ b o, Z b = some o → w.heap[b]? = some o
  inj : ∀ p q b, β p = some b → β q = some b → p = q
  bo : ∀ p b, β p = some b → new κ b ∧ Z b = none ∧ b < w.heap.size
  reps : ∀ t, TRep Z w.heap β e t (val t)

def setV (val : Nat → Value) (d : Nat) (u : Value) : Nat → Value := fun t => if t = d then u else val t

theorem PRep.noOwn {Z : Nat → Option Obj} {A v} (h : PRep Z A v) : isOwn A = false := by
  induction h with
  | agg l cs h1 _ ih =>
    cases hh : isOwn (.agg l) with
    | false => rfl
    | true =>
      simp only [isOwn, anyOwn_iff] at hh
      obtain ⟨a, ha, hb⟩ := hh
      obtain ⟨k, hk, rfl⟩ := List.getElem_of_mem ha
      rw [ih k hk] at hb
      cases hb
  | tup l cs h1 _ ih =>
    cases hh : isOwn (.tup l) with
    | false => rfl
    | true =>
      simp only [isOwn, anyOwn_iff] at hh
      obtain ⟨a, ha, hb⟩ := hh
      obtain ⟨k, hk, rfl⟩ := List.getElem_of_mem ha
      rw [ih k hk] at hb
      cases hb
  | _ => rfl

/-- A value that owns nothing has no part that does. -/
theorem getP_noOwn : ∀ (q : List Nat) {A B : AV}, isOwn A = false → getP A q = some B → isOwn B = false
  | [], A, B, h, hg => by simp only [getP, Option.some.injEq] at hg; exact hg ▸ h
  | k :: q, A, B, h, hg => by
    simp only [getP] at hg
    cases hl : kids A with
    | none => simp only [hl] at hg; cases hg
    | some l =>
      simp only [hl] at hg
      cases hb : l[k]? with
      | none => simp only [hb] at hg; cases hg
      | some b =>
        simp only [hb] at hg
        refine getP_noOwn q ?_ hg
        have hm := List.mem_of_getElem? hb
        cases A <;> simp only [kids, Option.some.injEq, reduceCtorEq] at hl
        · simp [isOwn] at h
        · subst hl
          cases hbb : isOwn b with
          | false => rfl
          | true => rw [isOwn, (anyOwn_iff _).2 ⟨b, hm, hbb⟩] at h; cases h
        · simp [isOwn] at h
        · subst hl
          cases hbb : isOwn b with
          | false => rfl
          | true => rw [isOwn, (anyOwn_iff _).2 ⟨b, hm, hbb⟩] at h; cases h

theorem getP_junk {q : List Nat} {A : AV} (h : getP .junk q = some A) : A = .junk := by
  cases q with
  | nil => simpa [getP] using h.symm
  | cons k q => simp [getP, kids] at h

/-- The environment with some slots emptied. -/
def dropS (S : List Nat) (e : Env) : Env := fun t => if t ∈ S then .junk else e t

def root (r : List Nat) : Nat := r.headD 0

/-- Some slots are emptied, memory that only they knew may turn, and one slot is filled. -/
theorem Rep.big {κ : Con} {Z Z' : Nat → Option Obj} {β β' : List Nat → Option Nat} {e : Env} {val : Nat → Value} {w w' : World} (h : Rep κ Z β e val w) (S : List Nat) (d : Nat) (hd : d ∈ S) (A : AV) (u : Value)
    (hos : w'.os = w.os) (htape : w'.tape = w.tape) (hout : w'.output = w.output) (hsize : w.heap.size ≤ w'.heap.size) (hframe : ∀ b, ¬ new κ b → b < w.heap.size → w'.heap[b]? = w.heap[b]?)
    (hZ : ∀ b o, Z b = some o → Z' b = some o) (hZo : ∀ b o, Z' b = some o → Z b = some o ∨ new κ b) (hZh : ∀ b o, Z' b = some o → w'.heap[b]? = some o)
    (hf : ∀ r b, r ≠ [] → root r ∉ S → β r = some b → β' r = some b ∧ w'.heap[b]? = w.heap[b]?)
    (hinj : ∀ p q b, β' p = some b → β' q = some b → p = q) (hbo : ∀ p b, β' p = some b → new κ b ∧ Z' b = none ∧ b < w'.heap.size)
    (hA : ORep Z' w'.heap β' [d] A u) (hAv : ∀ s p, A ≠ .alias s p ∧ A ≠ .valias s p ∧ A ≠ .addr s p) : Rep κ Z' β' ((Wr.set d A).app (dropS S e)) (setV val d u) w' := by
  refine ⟨hos.trans h.os, htape.trans h.tape, hout.trans h.output, Nat.le_trans h.size hsize, fun b hb hn => ?_, fun b o ho => hZ _ _ (h.z0 b o ho), fun b o ho => ?_, hZh, hinj, hbo, fun t => ?_⟩
  · rw [hframe b (fun hn' => hn'.elim hn (fun h' => by omega)) (Nat.lt_of_lt_of_le hb h.size)]
    exact h.frame b hb hn
  · rcases hZo b o ho with h1 | h1
    · exact h.zo b o h1
    · exact .inr h1
  · -- what slot t is now
    have he : (Wr.set d A).app (dropS S e) t = if t = d then A else if isOwn A then killV d [] (dropS S e t) else dropS S e t := by
      simp only [Wr.app]
      split <;> simp only [upd, kill] <;> split <;> simp_all
    -- a place in another slot: either it was there before, or it holds nothing
    have hplace : ∀ s p B, getP ((Wr.set d A).app (dropS S e) s) p = some B → isOwn B = true → (isOwn A = true → s ≠ d) → s ∉ S ∧ getP (e s) p = some B := by
      intro s p B hg hB hsd
      simp only [Wr.app] at hg
      have key : getP (if s = d then A else dropS S e s) p = some B ∨ getP (if s = d then A else killV d [] (dropS S e s)) p = some B := by
        split at hg <;> simp only [upd, kill] at hg <;> split at hg <;> simp_all
      by_cases hs : s = d
      · subst hs
        simp only [if_true, or_self] at key
        cases hAo : isOwn A with
        | true => exact absurd rfl (hsd hAo)
        | false => rw [getP_noOwn _ hAo key] at hB; cases hB
      · simp only [hs, if_false] at key
        by_cases hS : s ∈ S
        · simp only [dropS, hS, if_true, killV, or_self] at key
          rw [getP_junk key] at hB
          cases hB
        · simp only [dropS, hS, if_false] at key
          refine ⟨hS, ?_⟩
          rcases key with key | key
          · exact key
          · cases hes : e s with
            | alias s' q => rw [hes] at key; simp only [killV] at key; split at key <;> cases p <;> simp_all [getP, kids] <;> subst key <;> simp [isOwn] at hB
            | valias s' q => rw [hes] at key; simp only [killV] at key; split at key <;> cases p <;> simp_all [getP, kids] <;> subst key <;> simp [isOwn] at hB
            | addr s' q => rw [hes] at key; simp only [killV] at key; split at key <;> cases p <;> simp_all [getP, kids] <;> subst key <;> simp [isOwn] at hB
            | _ => rw [hes] at key; exact key
    have hmv : ∀ s p B v, s ∉ S → ORep Z w.heap β (s :: p) B v → ORep Z' w'.heap β' (s :: p) B v := fun s p B v hs hB =>
      hB.move hZ fun r b hr => hf _ b (by simp) (by simpa [root] using hs) hr
    unfold TRep
    rw [he]
    by_cases htd : t = d
    · subst htd
      simp only [if_true, setV]
      have := hAv
      cases A with
      | alias s p => exact absurd rfl (this s p).1
      | valias s p => exact absurd rfl (this s p).2.1
      | addr s p => exact absurd rfl (this s p).2.2
      | _ => exact hA
    · simp only [htd, if_false, setV]
      by_cases htS : t ∈ S
      · have : (if isOwn A = true then killV d [] (dropS S e t) else dropS S e t) = .junk := by simp [dropS, htS, killV]
        rw [this]
        exact .pers (.junk _)
      · have hd' : dropS S e t = e t := by simp [dropS, htS]
        rw [hd']
        have ht := h.reps t
        unfold TRep at ht
        have hplace' := hplace
        cases het : e t with
        | alias s p =>
          rw [het] at ht
          have : (if isOwn A = true then killV d [] (.alias s p) else .alias s p) = .junk ∨ ((if isOwn A = true then killV d [] (.alias s p) else .alias s p) = .alias s p ∧ (isOwn A = true → s ≠ d)) := by
            by_cases hAo : isOwn A = true
            · simp only [hAo, if_true, killV, List.nil_prefix, and_true]
              by_cases hs : s = d <;> simp [hs]
            · simp [hAo]
          rcases this with h1 | ⟨h1, h2⟩
          · rw [h1]; exact .pers (.junk _)
          · rw [h1]
            intro B hg hB
            obtain ⟨hs, hg'⟩ := hplace s p B hg hB h2
            exact hmv s p B _ hs (ht B hg' hB)
        | valias s p =>
          rw [het] at ht
          have : (if isOwn A = true then killV d [] (.valias s p) else .valias s p) = .junk ∨ ((if isOwn A = true then killV d [] (.valias s p) else .valias s p) = .valias s p ∧ (isOwn A = true → s ≠ d)) := by
            by_cases hAo : isOwn A = true
            · simp only [hAo, if_true, killV, List.nil_prefix, and_true]
              by_cases hs : s = d <;> simp [hs]
            · simp [hAo]
          rcases this with h1 | ⟨h1, h2⟩
          · rw [h1]; exact .pers (.junk _)
          · rw [h1]
            intro l hg
            obtain ⟨hs, hg'⟩ := hplace s p _ hg rfl h2
            obtain ⟨cs, hv, hr, b, T, hb, hz⟩ := ht l hg'
            have h5 := hf (s :: p) b (by simp) (by simpa [root] using hs) hb
            exact ⟨cs, hv, hmv s p _ _ hs hr, b, T, h5.1, h5.2.trans hz⟩
        | addr s p =>
          rw [het] at ht
          have : (if isOwn A = true then killV d [] (.addr s p) else .addr s p) = .junk ∨ ((if isOwn A = true then killV d [] (.addr s p) else .addr s p) = .addr s p ∧ (isOwn A = true → s ≠ d)) := by
            by_cases hAo : isOwn A = true
            · simp only [hAo, if_true, killV, List.nil_prefix, and_true]
              by_cases hs : s = d <;> simp [hs]
            · simp [hAo]
          rcases this with h1 | ⟨h1, h2⟩
          · rw [h1]; exact .pers (.junk _)
          · rw [h1]
            obtain ⟨q, k, b, hp, hv, hb⟩ := ht
            refine ⟨q, k, b, hp, hv, fun B hg hB => ?_⟩
            obtain ⟨hs, hg'⟩ := hplace s q B hg hB h2
            exact (hf _ b (by simp) (by simpa [root] using hs) (hb B hg' hB)).1
        | _ =>
          rw [het] at ht
          have : ∀ x : AV, (∀ s p, x ≠ .alias s p ∧ x ≠ .valias s p ∧ x ≠ .addr s p) → (if isOwn A = true then killV d [] x else x) = x := by
            intro x hx
            split
            · have := hx
              cases x <;> first | rfl | exact absurd rfl (hx _ _).1 | exact absurd rfl (hx _ _).2.1 | exact absurd rfl (hx _ _).2.2
            · rfl
          rw [this _ (by simp)]
          exact hmv t [] _ _ htS ht

theorem kids_withKids {A : AV} {l l' : List AV} (h : kids A = some l) : kids (withKids A l') = some l' := by
  cases A <;> simp [kids] at h <;> rfl

theorem getP_cons {A : AV} {l : List AV} {k : Nat} {q : List Nat} (h : kids A = some l) : getP A (k :: q) = (l[k]?).bind fun b => getP b q := by
  simp only [getP, h]
  cases l[k]? <;> rfl

theorem getP_set_self (r : List Nat) (B' : AV) : ∀ (p : List Nat) {A B : AV}, getP A p = some B → getP (setP A p B') (p ++ r) = getP B' r
  | [], A, B, _ => by simp [setP]
  | k :: p, A, B, h => by
    cases hl : kids A with
    | none => simp [getP, hl] at h
    | some l =>
      rw [getP_cons hl] at h
      cases hb : l[k]? with
      | none => simp [hb] at h
      | some b =>
        simp only [hb, Option.bind_some] at h
        obtain ⟨hk, rfl⟩ := List.getElem?_eq_some_iff.1 hb
        simp only [setP, hl, List.cons_append]
        rw [getP_cons (kids_withKids hl)]
        simp only [List.getElem?_set_self hk, Option.bind_some, List.getD, hb, Option.getD_some]
        exact getP_set_self r B' p h

theorem getP_set_up (B' : AV) (r : List Nat) : ∀ (q : List Nat) {A B C : AV}, getP A (q ++ r) = some B → getP A q = some C → getP (setP A (q ++ r) B') q = some (setP C r B')
  | [], A, B, C, _, hc => by
    simp only [getP, Option.some.injEq] at hc
    subst hc
    simp [getP]
  | k :: q, A, B, C, h, hc => by
    cases hl : kids A with
    | none => simp [getP, hl] at h
    | some l =>
      rw [List.cons_append, getP_cons hl] at h
      rw [getP_cons hl] at hc
      cases hb : l[k]? with
      | none => simp [hb] at h
      | some b =>
        simp only [hb, Option.bind_some] at h hc
        obtain ⟨hk, rfl⟩ := List.getElem?_eq_some_iff.1 hb
        simp only [setP, hl, List.cons_append]
        rw [getP_cons (kids_withKids hl)]
        simp only [List.getElem?_set_self hk, Option.bind_some, List.getD, hb, Option.getD_some]
        exact getP_set_up B' r q h hc

theorem getP_set_apart (B' : AV) : ∀ (p q : List Nat) {A : AV}, ¬ p <+: q → ¬ q <+: p → getP (setP A p B') q = getP A q
  | [], q, A, h, _ => absurd (List.nil_prefix) h
  | _ :: _, [], A, _, h => absurd (List.nil_prefix) h
  | k :: p, j :: q, A, h1, h2 => by
    cases hl : kids A with
    | none => simp [setP, hl]
    | some l =>
      simp only [setP, hl]
      rw [getP_cons (kids_withKids hl), getP_cons hl]
      by_cases hkj : k = j
      · subst hkj
        by_cases hk : k < l.length
        · simp only [List.getElem?_set_self hk, Option.bind_some, List.getD, List.getElem?_eq_getElem hk, Option.getD_some]
          exact getP_set_apart B' p q (by simpa using h1) (by simpa using h2)
        · rw [List.getElem?_eq_none (l := l.set k _) (by simpa using Nat.le_of_not_lt hk), List.getElem?_eq_none (Nat.le_of_not_lt hk)]
      · rw [List.getElem?_set_ne hkj]

theorem killV_getP {s : Nat} {p q : List Nat} {x B : AV} (h : getP (killV s p x) q = some B) (hB : isOwn B = true) : getP x q = some B := by
  cases x with
  | alias s' q' => simp only [killV] at h; split at h <;> cases q <;> simp_all [getP, kids] <;> subst h <;> simp [isOwn] at hB
  | valias s' q' => simp only [killV] at h; split at h <;> cases q <;> simp_all [getP, kids] <;> subst h <;> simp [isOwn] at hB
  | addr s' q' => simp only [killV] at h; split at h <;> cases q <;> simp_all [getP, kids] <;> subst h <;> simp [isOwn] at hB
  | _ => exact h

theorem killV_same {s : Nat} {p : List Nat} {x : AV} (hx : ∀ s p, x ≠ .alias s p ∧ x ≠ .valias s p ∧ x ≠ .addr s p) : killV s p x = x := by
  cases x <;> first | rfl | exact absurd rfl (hx _ _).1 | exact absurd rfl (hx _ _).2.1 | exact absurd rfl (hx _ _).2.2

theorem getP_up : ∀ (q r : List Nat) {X Y : AV}, getP X (q ++ r) = some Y → ∃ C, getP X q = some C ∧ getP C r = some Y
  | [], r, X, Y, h => ⟨X, rfl, h⟩
  | k :: q, r, X, Y, h => by
    cases hl : kids X with
    | none => simp [getP, hl] at h
    | some l =>
      rw [List.cons_append, getP_cons hl] at h
      rw [getP_cons hl]
      cases hb : l[k]? with
      | none => simp [hb] at h
      | some b => simp only [hb, Option.bind_some] at h ⊢; exact getP_up q r h

theorem setP_noOwn {A' : AV} (hA' : isOwn A' = false) : ∀ (r : List Nat) {C : AV}, isOwn C = false → isOwn (setP C r A') = false
  | [], C, _ => by simpa [setP] using hA'
  | k :: r, C, hc => by
    cases hl : kids C with
    | none => simpa [setP, hl] using hc
    | some l =>
      simp only [setP, hl]
      have hany : anyOwn l = false → anyOwn (l.set k (setP (l.getD k .junk) r A')) = false := by
        intro hl'
        cases hh : anyOwn (l.set k (setP (l.getD k .junk) r A')) with
        | false => rfl
        | true =>
          obtain ⟨a, ha, hao⟩ := (anyOwn_iff _).1 hh
          rcases List.mem_or_eq_of_mem_set ha with h5 | h5
          · rw [(anyOwn_iff _).2 ⟨a, h5, hao⟩] at hl'; cases hl'
          · subst h5
            have : isOwn (l.getD k .junk) = false := by
              cases h6 : isOwn (l.getD k .junk) with
              | false => rfl
              | true =>
                by_cases hk : k < l.length
                · rw [(anyOwn_iff _).2 ⟨l.getD k .junk, by simp [List.getD, List.getElem?_eq_getElem hk], h6⟩] at hl'; cases hl'
                · simp [List.getD, List.getElem?_eq_none (Nat.le_of_not_lt hk), isOwn] at h6
            rw [setP_noOwn hA' r this] at hao
            cases hao
      cases C <;> simp only [kids, Option.some.injEq, reduceCtorEq] at hl
      · simp [isOwn] at hc
      · subst hl; simpa [withKids, isOwn] using hany (by simpa [isOwn] using hc)
      · simp [isOwn] at hc
      · subst hl; simpa [withKids, isOwn] using hany (by simpa [isOwn] using hc)

theorem setP_plain {A' : AV} (hA' : ∀ s' p', A' ≠ .alias s' p' ∧ A' ≠ .valias s' p' ∧ A' ≠ .addr s' p') {X B : AV} : ∀ {p : List Nat}, getP X p = some B → ∀ s' p', setP X p A' ≠ .alias s' p' ∧ setP X p A' ≠ .valias s' p' ∧ setP X p A' ≠ .addr s' p'
  | [], _, s', p' => by simpa [setP] using hA' s' p'
  | k :: p, hg, s', p' => by
    cases hl : kids X with
    | none => simp [getP, hl] at hg
    | some l =>
      simp only [setP, hl]
      generalize l.set k (setP (l.getD k .junk) p A') = l2
      cases X <;> simp_all [kids, withKids]

theorem setP_box {l0 l : List AV} {r : List Nat} {A' : AV} (hr : r ≠ []) (h : setP (.box l0) r A' = .box l) : setP (.agg l0) r A' = .agg l := by
  cases r with
  | nil => exact absurd rfl hr
  | cons k r => simp only [setP, kids, withKids, AV.box.injEq] at h ⊢; rw [h]

theorem getP_agg {l0 : List AV} {r : List Nat} {B : AV} (hr : r ≠ []) (h : getP (.box l0) r = some B) : getP (.agg l0) r = some B := by
  cases r with
  | nil => exact absurd rfl hr
  | cons k r => simpa only [getP, kids] using h

theorem setP_isBox {C A' : AV} {r : List Nat} {l : List AV} (hr : r ≠ []) (h : setP C r A' = .box l) : ∃ l0, C = .box l0 := by
  cases r with
  | nil => exact absurd rfl hr
  | cons k r => cases C <;> simp_all [setP, kids, withKids]

set_option maxHeartbeats 1000000 in
/-- What lies at a place is read otherwise. -/
theorem Rep.mod {κ : Con} {Z Z' : Nat → Option Obj} {β β' : List Nat → Option Nat} {e : Env} {val : Nat → Value} {w w' : World} (h : Rep κ Z β e val w) (s : Nat) (p : List Nat) (A A' : AV) (hg : getP (e s) p = some A)
    (hs : ∀ s' p', e s ≠ .alias s' p' ∧ e s ≠ .valias s' p' ∧ e s ≠ .addr s' p') (hs' : ∀ s' p', A' ≠ .alias s' p' ∧ A' ≠ .valias s' p' ∧ A' ≠ .addr s' p') (hsj : e s ≠ .junk)
    (hos : w'.os = w.os) (htape : w'.tape = w.tape) (hout : w'.output = w.output) (hsize : w.heap.size ≤ w'.heap.size) (hframe : ∀ b, ¬ new κ b → b < w.heap.size → w'.heap[b]? = w.heap[b]?)
    (hZ : ∀ b o, Z b = some o → Z' b = some o) (hZo : ∀ b o, Z' b = some o → Z b = some o ∨ new κ b) (hZh : ∀ b o, Z' b = some o → w'.heap[b]? = some o)
    (hf : ∀ r b, r ≠ [] → e (root r) ≠ .junk → ¬ (s :: p) <+: r → β r = some b → β' r = some b ∧ w'.heap[b]? = w.heap[b]?)
    (hinj : ∀ p q b, β' p = some b → β' q = some b → p = q) (hbo : ∀ p b, β' p = some b → new κ b ∧ Z' b = none ∧ b < w'.heap.size)
    (hr : ∀ u, ORep Z w.heap β (s :: p) A u → ORep Z' w'.heap β' (s :: p) A' u)
    (hC : isOwn A' = true → ∀ q C, q <+: p → q ≠ p → getP (e s) q = some C → isOwn C = true) : Rep κ Z' β' ((Wr.mod s p A').app e) val w' := by
  refine ⟨hos.trans h.os, htape.trans h.tape, hout.trans h.output, Nat.le_trans h.size hsize, fun b hb hn => ?_, fun b o ho => hZ _ _ (h.z0 b o ho), fun b o ho => ?_, hZh, hinj, hbo, fun t => ?_⟩
  · rw [hframe b (fun hn' => hn'.elim hn (fun h' => by omega)) (Nat.lt_of_lt_of_le hb h.size)]
    exact h.frame b hb hn
  · rcases hZo b o ho with h1 | h1
    · exact h.zo b o h1
    · exact .inr h1
  · have he : ∀ t, (Wr.mod s p A').app e t = if t = s then setP (e s) p A' else if isOwn A' then killV s p (e t) else e t := by
      intro t
      simp only [Wr.app]
      cases isOwn A' <;> simp [upd, kill]
    have hes : (Wr.mod s p A').app e s = setP (e s) p A' := by rw [he]; simp
    have hmv : ∀ s2 q B v, s2 ≠ s → e s2 ≠ .junk → ORep Z w.heap β (s2 :: q) B v → ORep Z' w'.heap β' (s2 :: q) B v := fun s2 q B v hne hj hB =>
      hB.move hZ fun r b hr => hf _ b (by simp) (by simpa [root] using hj) (by simp [Ne.symm hne]) hr
    have hof : ∀ s2 q B, s2 ≠ s → getP ((Wr.mod s p A').app e s2) q = some B → isOwn B = true → e s2 ≠ .junk ∧ getP (e s2) q = some B := by
      intro s2 q B hne hq hB
      rw [he, if_neg hne] at hq
      have hq' : getP (e s2) q = some B := by
        split at hq
        · exact killV_getP hq hB
        · exact hq
      refine ⟨fun hj => ?_, hq'⟩
      rw [hj] at hq'
      rw [getP_junk hq'] at hB
      cases hB
    have mvUp : ∀ q r C v, p = q ++ r → getP C r = some A → ORep Z w.heap β (s :: q) C v → ORep Z' w'.heap β' (s :: q) (setP C r A') v := by
      intro q r C v hp hgr hv
      subst hp
      obtain ⟨u, hu, hw⟩ := ORep.place r hv hgr
      refine hw Z' w'.heap β' A' hZ (fun r' b hb hn => ?_) (by simpa using hr u (by simpa using hu))
      exact hf _ b (by simp) (by simpa [root] using hsj) (by simpa [List.prefix_append_right_inj] using hn) hb
    have mvAp : ∀ q C v, ¬ p <+: q → ¬ q <+: p → ORep Z w.heap β (s :: q) C v → ORep Z' w'.heap β' (s :: q) C v := by
      intro q C v h1 h2 hv
      refine hv.move hZ fun r b hb => hf _ b (by simp) (by simpa [root] using hsj) (fun hpre => ?_) hb
      have hpre' : p <+: q ++ r := by simpa using hpre
      rcases List.prefix_or_prefix_of_prefix hpre' (List.prefix_append q r) with h3 | h3
      · exact h1 h3
      · exact h2 h3
    have hap : ∀ q B, getP (setP (e s) p A') q = some B → isOwn B = true → ¬ (isOwn A' = true ∧ p <+: q) → ¬ p <+: q ∧
        ((¬ q <+: p ∧ getP (e s) q = some B) ∨ ∃ r C, r ≠ [] ∧ p = q ++ r ∧ getP (e s) q = some C ∧ isOwn C = true ∧ getP C r = some A ∧ B = setP C r A') := by
      intro q B hq hB hno
      by_cases h1 : p <+: q
      · obtain ⟨r, rfl⟩ := h1
        rw [getP_set_self r A' p hg] at hq
        have hA' : isOwn A' = false := by
          cases hh : isOwn A' with
          | false => rfl
          | true => exact absurd ⟨hh, List.prefix_append _ _⟩ hno
        rw [getP_noOwn r hA' hq] at hB
        cases hB
      · refine ⟨h1, ?_⟩
        by_cases h2 : q <+: p
        · obtain ⟨r, rfl⟩ := h2
          have hrn : r ≠ [] := fun e => h1 (by simp [e])
          obtain ⟨C, hC1, hgr⟩ := getP_up q r hg
          rw [getP_set_up A' r q hg hC1] at hq
          injection hq with hq
          refine .inr ⟨r, C, hrn, rfl, hC1, ?_, hgr, hq.symm⟩
          cases hA' : isOwn A' with
          | true => exact hC hA' q C (List.prefix_append _ _) (fun e => hrn (by simpa using e)) hC1
          | false =>
            cases hc : isOwn C with
            | true => rfl
            | false => rw [← hq, setP_noOwn hA' r hc] at hB; cases hB
        · rw [getP_set_apart A' p q h1 h2] at hq
          exact .inl ⟨h2, hq⟩
    have ht := h.reps t
    unfold TRep
    rw [he t]
    by_cases hts : t = s
    · subst hts
      simp only [if_true]
      unfold TRep at ht
      have hO : ORep Z w.heap β [t] (e t) (val t) := by
        cases het : e t with
        | alias s' p' => exact absurd het (hs s' p').1
        | valias s' p' => exact absurd het (hs s' p').2.1
        | addr s' p' => exact absurd het (hs s' p').2.2
        | _ => rw [het] at ht; exact ht
      have hnew : ORep Z' w'.heap β' [t] (setP (e t) p A') (val t) := mvUp [] p (e t) _ rfl hg hO
      have hna := setP_plain hs' hg
      generalize setP (e t) p A' = X at hnew hna
      cases X with
      | alias s' p' => exact absurd rfl (hna s' p').1
      | valias s' p' => exact absurd rfl (hna s' p').2.1
      | addr s' p' => exact absurd rfl (hna s' p').2.2
      | _ => exact hnew
    · simp only [hts, if_false]
      unfold TRep at ht
      cases het : e t with
      | alias s2 q =>
        rw [het] at ht
        have : (if isOwn A' = true then killV s p (.alias s2 q) else .alias s2 q) = .junk ∨ ((if isOwn A' = true then killV s p (.alias s2 q) else .alias s2 q) = .alias s2 q ∧ (s2 = s → ¬ (isOwn A' = true ∧ p <+: q))) := by
          by_cases hAo : isOwn A' = true
          · simp only [hAo, if_true, killV]
            split
            · exact .inl rfl
            · rename_i hn; exact .inr ⟨rfl, fun h1 h2 => hn ⟨h1, h2.2⟩⟩
          · simp [hAo]
        rcases this with h1 | ⟨h1, h2⟩
        · rw [h1]; exact .pers (.junk _)
        · rw [h1]
          intro B hq hB
          by_cases hss : s2 = s
          · subst hss
            rw [hes] at hq
            obtain ⟨h3, ⟨h4, h5⟩ | ⟨r, C, hrn, hp, hC1, hC2, hgr, rfl⟩⟩ := hap q B hq hB (h2 rfl)
            · exact mvAp q B _ h3 h4 (ht B h5 hB)
            · exact mvUp q r C _ hp hgr (ht C hC1 hC2)
          · obtain ⟨hj, hq'⟩ := hof s2 q B hss hq hB
            exact hmv s2 q B _ hss hj (ht B hq' hB)
      | valias s2 q =>
        rw [het] at ht
        have : (if isOwn A' = true then killV s p (.valias s2 q) else .valias s2 q) = .junk ∨ ((if isOwn A' = true then killV s p (.valias s2 q) else .valias s2 q) = .valias s2 q ∧ (s2 = s → ¬ (isOwn A' = true ∧ p <+: q))) := by
          by_cases hAo : isOwn A' = true
          · simp only [hAo, if_true, killV]
            split
            · exact .inl rfl
            · rename_i hn; exact .inr ⟨rfl, fun h1 h2 => hn ⟨h1, h2.2⟩⟩
          · simp [hAo]
        rcases this with h1 | ⟨h1, h2⟩
        · rw [h1]; exact .pers (.junk _)
        · rw [h1]
          intro l hq
          by_cases hss : s2 = s
          · subst hss
            rw [hes] at hq
            obtain ⟨h3, ⟨h4, h5⟩ | ⟨r, C, hrn, hp, hC1, hC2, hgr, hbx⟩⟩ := hap q _ hq rfl (h2 rfl)
            · obtain ⟨cs, hv, hR, b, T, hb, hz⟩ := ht l h5
              have h6 := hf (s2 :: q) b (by simp) (by simpa [root] using hsj) (by simpa using h3) hb
              exact ⟨cs, hv, mvAp q _ _ h3 h4 hR, b, T, h6.1, h6.2.trans hz⟩
            · obtain ⟨l0, rfl⟩ := setP_isBox hrn hbx.symm
              obtain ⟨cs, hv, hR, b, T, hb, hz⟩ := ht l0 hC1
              have h6 := hf (s2 :: q) b (by simp) (by simpa [root] using hsj) (by simpa using h3) hb
              refine ⟨cs, hv, ?_, b, T, h6.1, h6.2.trans hz⟩
              rw [← setP_box hrn hbx.symm]
              exact mvUp q r _ _ hp (getP_agg hrn hgr) hR
          · obtain ⟨hj, hq'⟩ := hof s2 q _ hss hq rfl
            obtain ⟨cs, hv, hR, b, T, hb, hz⟩ := ht l hq'
            have h6 := hf (s2 :: q) b (by simp) (by simpa [root] using hj) (by simp [Ne.symm hss]) hb
            exact ⟨cs, hv, hmv s2 q _ _ hss hj hR, b, T, h6.1, h6.2.trans hz⟩
      | addr s2 q =>
        rw [het] at ht
        have : (if isOwn A' = true then killV s p (.addr s2 q) else .addr s2 q) = .junk ∨ ((if isOwn A' = true then killV s p (.addr s2 q) else .addr s2 q) = .addr s2 q ∧ (s2 = s → ¬ (isOwn A' = true ∧ p <+: q.dropLast))) := by
          by_cases hAo : isOwn A' = true
          · simp only [hAo, if_true, killV]
            split
            · exact .inl rfl
            · rename_i hn; exact .inr ⟨rfl, fun h1 h2 => hn ⟨h1, h2.2⟩⟩
          · simp [hAo]
        rcases this with h1 | ⟨h1, h2⟩
        · rw [h1]; exact .pers (.junk _)
        · rw [h1]
          obtain ⟨q0, k, b, hp, hv, hb⟩ := ht
          subst hp
          refine ⟨q0, k, b, rfl, hv, fun B hq hB => ?_⟩
          simp only [List.dropLast_concat] at h2
          by_cases hss : s2 = s
          · subst hss
            rw [hes] at hq
            obtain ⟨h3, h4⟩ := hap q0 B hq hB (h2 rfl)
            have hb' : β (s2 :: q0) = some b := by
              rcases h4 with ⟨_, h5⟩ | ⟨r, C, _, _, hC1, hC2, _, _⟩
              · exact hb B h5 hB
              · exact hb C hC1 hC2
            exact (hf _ b (by simp) (by simpa [root] using hsj) (by simpa using h3) hb').1
          · obtain ⟨hj, hq'⟩ := hof s2 q0 B hss hq hB
            exact (hf _ b (by simp) (by simpa [root] using hj) (by simp [Ne.symm hss]) (hb B hq' hB)).1
      | _ =>
        rw [het] at ht
        have hk := killV_same (s := s) (p := p) (x := e t) (by rw [het]; simp)
        rw [het] at hk
        rw [hk, ite_self]
        by_cases hj : e t = .junk
        · rw [het] at hj; first | (cases hj; done) | exact .pers (.junk _)
        · exact hmv t [] _ _ hts hj ht

end Go.Proofs.Ytechllcflknnlaa
