/- Calls: what a function does, told abstractly, met where it is called. No program in sight. -/
import Derived.Test.YtechllcflknnlaaEng11
namespace Go.Proofs.Ytechllcflknnlaa
set_option linter.unusedSimpArgs false
set_option linter.unusedVariables false
set_option maxRecDepth 8000
open Go Go.RowKit AV

/-- The memory that a call starts with, as far as it is known. -/
structure Wf (Z : Nat → Option Obj) (β : List Nat → Option Nat) (w : World) : Prop where
  zh : ∀ b o, Z b = some o → w.heap[b]? = some o
  inj : ∀ p q b, β p = some b → β q = some b → p = q
  bo : ∀ p b, β p = some b → Z b = none ∧ b < w.heap.size

/-- What a call leaves. -/
structure Left (Z : Nat → Option Obj) (β : List Nat → Option Nat) (w : World) (Z' : Nat → Option Obj) (β' : List Nat → Option Nat) (w' : World) : Prop where
  os : w'.os = w.os
  tape : w'.tape = w.tape
  output : w'.output = w.output
  size : w.heap.size ≤ w'.heap.size
  frame : ∀ b, b < w.heap.size → (∀ p, β p ≠ some b) → w'.heap[b]? = w.heap[b]?
  z0 : ∀ b o, Z b = some o → Z' b = some o
  zo : ∀ b o, Z' b = some o → Z b = some o ∨ (∃ p, β p = some b) ∨ w.heap.size ≤ b
  zh : ∀ b o, Z' b = some o → w'.heap[b]? = some o
  inj : ∀ p q b, β' p = some b → β' q = some b → p = q
  bo : ∀ p b, β' p = some b → ((∃ q, β q = some b) ∨ w.heap.size ≤ b) ∧ Z' b = none ∧ b < w'.heap.size

/-- A contract: arguments, result, and the arguments behind the call. One that is not eff reads its arguments alone. -/
structure Ctr where
  eff : Bool
  rel : List AV → AV → List AV → Prop

def canCall (P : Program) (f : Nat) : Prop := ∃ fn c, P.funcs[f]? = some fn ∧ (fn.name == "runtime.NumGoroutine") = false ∧ fn.body = some c

def CtrOK (P : Program) (f : Nat) (c : Ctr) : Prop := canCall P f ∧ ∀ args r args', c.rel args r args' → ∀ (w : World) (Z : Nat → Option Obj) (β : List Nat → Option Nat) (vals : Array Value), vals.size = args.length → Wf Z β w →
  (if c.eff then ∀ i (h : i < args.length), ORep Z w.heap β [i] args[i] (vals.getD i undef) else (β = fun _ => none) ∧ ∀ i (h : i < args.length), PRep Z args[i] (vals.getD i undef)) →
  Calls P f vals w fun en w' => ∃ v Z' β', en = .returned v ∧ Left Z β w Z' β' w' ∧ ORep Z' w'.heap β' [0] r v ∧ ∀ i (h : i < args'.length), ORep Z' w'.heap β' [i + 1] args'[i] (vals.getD i undef)

theorem run_callFunc' {P : Program} {f : Nat} (h : canCall P f) (args : Array Value) (w : World) : (callFunc f args).run P w = .ok (.enter f args) w := by
  obtain ⟨fn, c, hf, hn, hb⟩ := h
  have h1 : fn.name ≠ "runtime.NumGoroutine" := by simpa using hn
  simp [callFunc, hf, h1, hb]

/-- An argument of a call that reads alone. -/
def rdArg (x : Operand) (k : AV → Option (List (Nat × List Nat × AV)) → Rd) : Rd := match x with
  | .const v => .need (cst v ≠ .junk) (k (view (cst v)) (some []))
  | .func f => k (.fn f []) (some [])
  | .global _ => .fail
  | .tmp t => .get t fun v => match v with
    | .alias s p => .get s fun c => rdGetP c p fun A => .need (isOwn A = true) (k (view A) (some [(s, p, view A)]))
    | .valias s p => .get s fun c => rdGetP c p fun X => match X with
      | .box l => k (.agg (viewL l)) none
      | _ => .fail
    | .addr _ _ => .fail
    | .junk => .fail
    | v => if isOwn v then k (view v) (some [(t, [], view v)]) else if isP v then k v (some []) else .fail

def rdArgs : List Operand → (List AV → Option (List (Nat × List Nat × AV)) → Rd) → Rd
  | [], k => k [] (some [])
  | x :: xs, k => rdArg x fun A fz => rdArgs xs fun l fz' => k (A :: l) (match fz, fz' with
    | some a, some b => some (a ++ b)
    | _, _ => none)

/-- How an argument reads; fz: what is to be written no more if the result may name it. -/
inductive ArgOK (Z : Nat → Option Obj) (H : Array Obj) (β : List Nat → Option Nat) (e : Env) : AV → Option (List (Nat × List Nat × AV)) → Value → Prop
  | pers {A v} (h : PRep Z A v) : ArgOK Z H β e A (some []) v
  | own {s p A v} (hg : getP (e s) p = some A) (hA : isOwn A = true) (h : ORep Z H β (s :: p) A v) : ArgOK Z H β e (view A) (some [(s, p, view A)]) v
  | val {s p l v} (h : ORep Z H β (s :: p) (.agg l) v) : ArgOK Z H β e (.agg (viewL l)) none v

theorem rdArg_sound {e : Env} {x : Operand} {k} {ws : List Wr} (h : (rdArg x k).Wo e ws) : ∃ A fz, (k A fz).Wo e ws ∧ ∀ {κ Z β w} {a : Act}, Rep κ Z β e (vals a) w → ArgOK Z w.heap β e A fz (a.eval x) := by
  cases x with
  | const v =>
    obtain ⟨h1, h2⟩ := h
    refine ⟨_, _, h2, fun {κ Z β w a} hR => .pers ?_⟩
    show PRep Z (view (cst v)) v
    unfold cst at h1 ⊢
    split
    · exact .num _ _
    · exact .bool _
    · exact .nil _ _ (by decide)
    · simp at h1
  | func f => exact ⟨_, _, h, fun hR => .pers (.fn f [] #[] rfl (by simp))⟩
  | global g => exact h.elim
  | tmp t =>
    obtain ⟨h1, h2⟩ := h
    cases het : e t with
    | alias s p =>
      simp only [het] at h2
      obtain ⟨hsj, A, hg, hA, h2⟩ := h2
      exact ⟨_, _, h2, fun hR => .own hg hA (hR.aliasAt het A hg hA)⟩
    | valias s p =>
      simp only [het] at h2
      obtain ⟨hsj, X, hl, h2⟩ := h2
      dsimp only at h2
      split at h2
      case h_2 => exact h2.elim
      rename_i l
      refine ⟨_, _, h2, fun hR => ?_⟩
      obtain ⟨cs, hv, hr, _⟩ := hR.valiasAt het l hl
      rw [eval_tmp, hv]
      exact .val hr
    | addr s p => simp only [het] at h2; exact h2.elim
    | junk => exact absurd het h1
    | _ =>
      simp only [het] at h2
      split at h2
      · rename_i ho
        exact ⟨_, _, h2, fun hR => .own (by rw [het]; rfl) ho (hR.slot' het (by simp))⟩
      · split at h2
        · rename_i hp
          exact ⟨_, _, h2, fun hR => .pers (ORep.toP (hR.slot' het (by simp)) hp)⟩
        · exact h2.elim

/-- All arguments. -/
def ArgsOK (Z : Nat → Option Obj) (H : Array Obj) (β : List Nat → Option Nat) (e : Env) : List AV → Option (List (Nat × List Nat × AV)) → List Value → Prop
  | [], fz, vs => fz = some [] ∧ vs = []
  | A :: l, fz, v :: vs => ∃ f1 f2, ArgOK Z H β e A f1 v ∧ ArgsOK Z H β e l f2 vs ∧ fz = (match f1, f2 with
    | some a, some b => some (a ++ b)
    | _, _ => none)
  | _ :: _, _, [] => False

theorem rdArgs_sound {e : Env} {ws : List Wr} : ∀ (xs : List Operand) (k), (rdArgs xs k).Wo e ws → ∃ l fz, (k l fz).Wo e ws ∧ ∀ {κ Z β w} {a : Act}, Rep κ Z β e (vals a) w → ArgsOK Z w.heap β e l fz (xs.map a.eval)
  | [], k, h => ⟨[], some [], h, fun _ => ⟨rfl, rfl⟩⟩
  | x :: xs, k, h => by
    obtain ⟨A, fz, h, h1⟩ := rdArg_sound h
    obtain ⟨l, fz', h, h2⟩ := rdArgs_sound xs _ h
    exact ⟨_, _, h, fun hR => ⟨fz, fz', h1 hR, h2 hR, rfl⟩⟩

theorem ArgsOK.len {Z H β e} : ∀ {l fz vs}, ArgsOK Z H β e l fz vs → vs.length = l.length
  | [], _, _, ⟨_, h⟩ => by rw [h]; rfl
  | _ :: _, _, [], h => h.elim
  | _ :: l, _, _ :: vs, ⟨_, _, _, h, _⟩ => by simp [h.len]

/-- As long as nothing that is held is written, all arguments read. -/
theorem ArgsOK.all {Z Z' : Nat → Option Obj} {H : Array Obj} {β : List Nat → Option Nat} {e : Env} (hZ : ∀ b o, Z b = some o → Z' b = some o) (hb : ∀ p b, β p = some b → Z' b = H[b]?) : ∀ {l fz vs}, ArgsOK Z H β e l fz vs →
    ∀ i (h : i < l.length) (h' : i < vs.length), PRep Z' l[i] vs[i]
  | [], _, _, _, i, h, _ => by simp at h
  | _ :: _, _, [], h, _, _, _ => h.elim
  | A :: l, _, v :: vs, ⟨f1, f2, h1, h2, _⟩, i, hi, hi' => by
    cases i with
    | zero =>
      simp only [List.getElem_cons_zero]
      cases h1 with
      | pers h => exact h.mono hZ
      | own hg hA h => exact h.toView' hZ fun r b hr => hb _ b hr
      | val h =>
        have := h.toView' hZ fun r b hr => hb _ b hr
        simpa only [AV.view] using this
    | succ i => exact ArgsOK.all hZ hb h2 i (by simpa using hi) (by simpa using hi')

def fzW (fz : List (Nat × List Nat × AV)) : List Wr := fz.map fun p => .mod p.1 p.2.1 p.2.2

theorem view_plain (A : AV) : ∀ s p, view A ≠ .alias s p ∧ view A ≠ .valias s p ∧ view A ≠ .addr s p := by
  intro s p; cases A <;> simp [view]

mutual
theorem view_noOwn : ∀ A : AV, isOwn (view A) = false
  | .agg l => by simp only [view, isOwn]; exact viewL_noOwn l
  | .tup l => by simp only [view, isOwn]; exact viewL_noOwn l
  | .junk => rfl
  | .num _ _ => rfl
  | .bool _ => rfl
  | .sh _ => rfl
  | .own _ => rfl
  | .box _ => rfl
  | .pbox _ => rfl
  | .pcell _ => rfl
  | .alias _ _ => rfl
  | .valias _ _ => rfl
  | .addr _ _ => rfl
  | .fn _ _ => rfl
theorem viewL_noOwn : ∀ l : List AV, anyOwn (viewL l) = false
  | [] => rfl
  | a :: l => by simp only [viewL, anyOwn, Bool.or_eq_false_iff]; exact ⟨view_noOwn a, viewL_noOwn l⟩
end

/-- What the arguments name is written no more. -/
theorem Rep.freezes {κ : Con} {val : Nat → Value} {w : World} : ∀ (fz : List (Nat × List Nat × AV)) {Z : Nat → Option Obj} {β : List Nat → Option Nat} {e : Env}, Rep κ Z β e val w → (fz.map (·.1)).Nodup →
    (∀ p ∈ fz, ∃ A, getP (e p.1) p.2.1 = some A ∧ isOwn A = true ∧ p.2.2 = AV.view A) →
    ∃ Z' β', Rep κ Z' β' (apps (fzW fz) e) val w ∧ (∀ b o, Z b = some o → Z' b = some o) ∧ ∀ p ∈ fz, ∀ r b, β (p.1 :: p.2.1 ++ r) = some b → Z' b = w.heap[b]?
  | [], Z, β, e, h, _, _ => ⟨Z, β, h, fun _ _ h => h, by simp⟩
  | (s, p, V) :: fz, Z, β, e, h, hn, hg => by
    obtain ⟨A, h1, h2, h3⟩ := hg (s, p, V) (by simp)
    dsimp only at h1 h2 h3
    subst h3
    have hpl := plain_of_own h1 h2
    obtain ⟨Z1, β1, hR1, hZ1, hb1, hk1⟩ := h.freeze s p A h1 hpl.2 hpl.1 (view_plain A) (view_noOwn A)
    simp only [List.map_cons, List.nodup_cons] at hn
    obtain ⟨Z2, β2, hR2, hZ2, hb2⟩ := Rep.freezes fz hR1 hn.2 (fun q hq => by
      obtain ⟨B, g1, g2, g3⟩ := hg q (by simp [hq])
      refine ⟨B, ?_, g2, g3⟩
      have hqs : q.1 ≠ s := fun e => hn.1 (e ▸ List.mem_map.2 ⟨q, hq, rfl⟩)
      simpa [Wr.app, view_noOwn, upd, hqs] using g1)
    refine ⟨Z2, β2, hR2, fun b o ho => hZ2 b o (hZ1 b o ho), fun q hq r b hb => ?_⟩
    rcases List.mem_cons.1 hq with rfl | hq
    · have h4 := hb1 r b hb
      have hlt := (h.bo _ b hb).2.2
      obtain ⟨o, ho⟩ : ∃ o, w.heap[b]? = some o := ⟨_, Array.getElem?_eq_getElem hlt⟩
      rw [ho] at h4 ⊢
      exact hZ2 b o h4
    · have hqs : q.1 ≠ s := fun e => hn.1 (e ▸ List.mem_map.2 ⟨q, hq, rfl⟩)
      refine hb2 q hq r b ?_
      rw [hk1 _ (by simp [Ne.symm hqs])]
      exact hb

theorem ArgsOK.fz {Z : Nat → Option Obj} {H : Array Obj} {β : List Nat → Option Nat} {e : Env} : ∀ {l fz vs}, ArgsOK Z H β e l (some fz) vs → ∀ p ∈ fz, ∃ A, getP (e p.1) p.2.1 = some A ∧ isOwn A = true ∧ p.2.2 = view A
  | [], fz, vs, ⟨h, _⟩, p, hp => by injection h with h; subst h; cases hp
  | _ :: _, _, [], h, _, _ => h.elim
  | A :: l, fz, v :: vs, ⟨f1, f2, h1, h2, h3⟩, p, hp => by
    cases h1 with
    | pers h =>
      cases f2 with
      | none => cases h3
      | some b => simp at h3; subst h3; exact ArgsOK.fz h2 p hp
    | own hg hA h =>
      cases f2 with
      | none => cases h3
      | some b =>
        simp at h3
        subst h3
        rcases List.mem_cons.1 hp with rfl | hp
        · exact ⟨_, hg, hA, rfl⟩
        · exact ArgsOK.fz h2 p hp
    | val h => cases h3

theorem ArgsOK.frozen {Z Z' : Nat → Option Obj} {H : Array Obj} {β : List Nat → Option Nat} {e : Env} (hZ : ∀ b o, Z b = some o → Z' b = some o) : ∀ {l fz vs}, ArgsOK Z H β e l (some fz) vs → (∀ p ∈ fz, ∀ r b, β (p.1 :: p.2.1 ++ r) = some b → Z' b = H[b]?) →
    ∀ i (h : i < l.length) (h' : i < vs.length), PRep Z' l[i] vs[i]
  | [], _, _, _, _, i, h, _ => by simp at h
  | _ :: _, _, [], h, _, _, _, _ => h.elim
  | A :: l, fz, v :: vs, ⟨f1, f2, h1, h2, h3⟩, hb, i, hi, hi' => by
    cases f2 with
    | none => cases f1 <;> cases h3
    | some b =>
      cases f1 with
      | none => cases h3
      | some a =>
        simp at h3
        subst h3
        cases i with
        | zero =>
          simp only [List.getElem_cons_zero]
          cases h1 with
          | pers h => exact h.mono hZ
          | @own s p A v hg hA h => exact h.toView' hZ fun r b' hr => hb (s, p, view A) (by simp) r b' hr
        | succ i => exact ArgsOK.frozen hZ h2 (fun p hp => hb p (by simp [hp])) i (by simpa using hi) (by simpa using hi')

/-- The result of a call lies in slot d. -/
def mergeB (β β' : List Nat → Option Nat) (d : Nat) : List Nat → Option Nat
  | [] => none
  | x :: q => if x = d then β' (0 :: q) else β (x :: q)

theorem Rep.callBack {κ : Con} {Z : Nat → Option Obj} {β : List Nat → Option Nat} {e : Env} {val : Nat → Value} {w : World} (h : Rep κ Z β e val w) (d : Nat) {Z1 Z' : Nat → Option Obj} {β' : List Nat → Option Nat} {w' : World} {r : AV} {v : Value}
    (hL : Left Z1 (fun _ => none) w Z' β' w') (hr : ORep Z' w'.heap β' [0] r v) (hpl : ∀ s p, r ≠ .alias s p ∧ r ≠ .valias s p ∧ r ≠ .addr s p)
    (hcase : Z1 = Z ∨ noSh r = true) : ∃ Z2 β2, Rep κ Z2 β2 ((Wr.set d r).app e) (setV val d v) w' := by
  have hfr : ∀ b, b < w.heap.size → w'.heap[b]? = w.heap[b]? := fun b hb => hL.frame b hb (by simp)
  have hb' : ∀ p b, β' p = some b → w.heap.size ≤ b ∧ Z' b = none ∧ b < w'.heap.size := fun p b hp => by
    have := hL.bo p b hp
    exact ⟨this.1.resolve_left (by simp), this.2⟩
  have hinj : ∀ p q b, mergeB β β' d p = some b → mergeB β β' d q = some b → p = q := by
    intro p q b h1 h2
    rcases p with _ | ⟨x, p⟩
    · cases h1
    · rcases q with _ | ⟨y, q⟩
      · cases h2
      · simp only [mergeB] at h1 h2
        by_cases hx : x = d <;> by_cases hy : y = d
        · simp only [hx, hy, if_true] at h1 h2
          have := hL.inj _ _ _ h1 h2
          simp at this
          rw [hx, hy, this]
        · simp only [hx, hy, if_true, if_false] at h1 h2
          have g1 := hb' _ _ h1
          have g2 := h.bo _ _ h2
          omega
        · simp only [hx, hy, if_true, if_false] at h1 h2
          have g1 := hb' _ _ h2
          have g2 := h.bo _ _ h1
          omega
        · simp only [hx, hy, if_false] at h1 h2
          exact h.inj _ _ _ h1 h2
  have hf : ∀ r b, r ≠ [] → root r ∉ [d] → β r = some b → mergeB β β' d r = some b ∧ w'.heap[b]? = w.heap[b]? := by
    intro r b hr hn hb
    rcases r with _ | ⟨x, r⟩
    · exact absurd rfl hr
    · simp [root] at hn
      exact ⟨by simp [mergeB, hn, hb], hfr b (h.bo _ b hb).2.2⟩
  have hmg : ORep Z' w'.heap (mergeB β β' d) [d] r v := hr.move (fun _ _ h => h) fun r b hb => ⟨by simpa [mergeB] using hb, rfl⟩
  have hnz : Z w.heap.size = none → True := fun _ => trivial
  rcases hcase with rfl | hns
  · refine ⟨Z', mergeB β β' d, ?_⟩
    rw [← app_set_drop]
    refine h.big [d] d (by simp) r v hL.os hL.tape hL.output hL.size (fun b _ hb => hfr b hb) hL.z0 (fun b o ho => ?_) hL.zh hf hinj (fun p b hp => ?_) hmg hpl
    · rcases hL.zo b o ho with h1 | h1 | h1
      · exact .inl h1
      · obtain ⟨p, hp⟩ := h1; cases hp
      · exact .inr (.inr (Nat.le_trans h.size h1))
    · rcases p with _ | ⟨x, p⟩
      · cases hp
      · simp only [mergeB] at hp
        split at hp
        · have := hb' _ _ hp; exact ⟨.inr (Nat.le_trans h.size this.1), this.2⟩
        · have := h.bo _ _ hp
          refine ⟨this.1, ?_, by have := hL.size; omega⟩
          cases hz : Z' b with
          | none => rfl
          | some o =>
            rcases hL.zo b o hz with h1 | h1 | h1
            · rw [this.2.1] at h1; cases h1
            · obtain ⟨p, hp⟩ := h1; cases hp
            · omega
  · refine ⟨Z, mergeB β β' d, ?_⟩
    rw [← app_set_drop]
    refine h.big [d] d (by simp) r v hL.os hL.tape hL.output hL.size (fun b _ hb => hfr b hb) (fun _ _ h => h) (fun b o ho => .inl ho) (fun b o ho => (hfr b (Array.getElem?_eq_some_iff.1 (h.zh b o ho)).1).trans (h.zh b o ho)) hf hinj (fun p b hp => ?_) (hmg.swap hns) hpl
    rcases p with _ | ⟨x, p⟩
    · cases hp
    · simp only [mergeB] at hp
      split at hp
      · have := hb' _ _ hp
        refine ⟨.inr (Nat.le_trans h.size this.1), ?_, this.2.2⟩
        cases hz : Z b with
        | none => rfl
        | some o => have := (Array.getElem?_eq_some_iff.1 (h.zh b o hz)).1; omega
      · have := h.bo _ _ hp; exact ⟨this.1, this.2.1, by have := hL.size; omega⟩

abbrev Ctx := Nat → Option Ctr

def slotsDistinct (fz : Option (List (Nat × List Nat × AV))) : Prop := match fz with
  | some l => (l.map (·.1)).Nodup
  | none => False

/-- What a contract tells of a call. -/
def rdAsk (Γ : Ctx) (f : Nat) (args : List AV) (k : AV → Rd) : Rd := .ex Ctr fun c => .ex AV fun r => .need (Γ f = some c ∧ c.eff = false ∧ c.rel args r []) (k r)

/-- A call of a function that reads its arguments alone. -/
def rdCallP (Γ : Ctx) (d f : Nat) (args : List AV) (fz : Option (List (Nat × List Nat × AV))) : Rd := rdAsk Γ f args fun r => (if noSh r then .ret [.set d r] else .need (slotsDistinct fz) (.ret (fzW (fz.getD []) ++ [.set d r])))

def rdCall (Γ : Ctx) (d : Nat) (g : Operand) (xs : List Operand) : Rd := match g with
  | .func f => rdArgs xs fun l fz => rdCallP Γ d f l fz
  | .tmp t => .get t fun v => match v with
    | .fn f caps => rdArgs xs fun l fz => rdCallP Γ d f (l ++ caps) fz
    | _ => .fail
  | _ => .fail

theorem ORep.plain {Z H β p A v} (h : ORep Z H β p A v) : ∀ s p, A ≠ .alias s p ∧ A ≠ .valias s p ∧ A ≠ .addr s p := by
  cases h with
  | pers h => exact PRep.plain h
  | _ => simp

theorem callP_sound {P : Program} {κ : Con} {Γ : Ctx} (hΓ : ∀ f c, Γ f = some c → CtrOK P f c) {o : Oper} {e : Env} {ws : List Wr} {d f : Nat} {l : List AV} {fz} (hd : o.dst = some d) (hn : (κ.lim.1 ≤ d ∧ d < κ.lim.2))
    (h : (rdCallP Γ d f l fz).Wo e ws) {Q : Exit → Act → World → Prop} {K : Act → World → Prop} {a : Act} {w : World} (h1 : a.defers = []) (h2 : a.tmps.size = κ.lim.2 ∧ ∀ t, t < κ.lim.1 → vals a t = κ.V0 t) {Z β} (hR : Rep κ Z β e (vals a) w) {vs : List Value}
    (hrun : canCall P f → (execOp a.eval o).run P w = .ok (.enter f vs.toArray) w) (hall : ∀ Z', (∀ b o, Z b = some o → Z' b = some o) → (∀ p b, β p = some b → Z' b = w.heap[b]?) → ∀ i (h : i < l.length) (h' : i < vs.length), PRep Z' l[i] vs[i])
    (hfr : ∀ fz', fz = some fz' → (∀ p ∈ fz', ∃ A, getP (e p.1) p.2.1 = some A ∧ isOwn A = true ∧ p.2.2 = view A) ∧ ∀ Z', (∀ b o, Z b = some o → Z' b = some o) → (∀ p ∈ fz', ∀ r b, β (p.1 :: p.2.1 ++ r) = some b → Z' b = w.heap[b]?) → ∀ i (h : i < l.length) (h' : i < vs.length), PRep Z' l[i] vs[i])
    (hlen : vs.length = l.length) (hK : ∀ a' w', St κ (apps ws e) a' w' → K a' w') : o.wp P a w K Q := by
  classical
  obtain ⟨c, r, ⟨hc, heff, hrel⟩, h⟩ := h
  obtain ⟨hcan, hctr⟩ := hΓ f c hc
  unfold Oper.wp
  rw [hrun hcan, Oper.upon_enter]
  -- whatever memory is taken as settled
  have main : ∀ (Z1 : Nat → Option Obj) (β1 : List Nat → Option Nat) (e1 : Env), Rep κ Z1 β1 e1 (vals a) w → (∃ Zc : Nat → Option Obj, (∀ b o, Zc b = some o → w.heap[b]? = some o) ∧ (∀ i (h : i < l.length) (h' : i < vs.length), PRep Zc l[i] vs[i]) ∧ (Zc = Z1 ∨ noSh r = true)) →
      apps ws e = (Wr.set d r).app e1 → Calls P f vs.toArray w fun
        | .returned v, w'' => K (a.put o.dst v) w''
        | .panicked chain, w'' => Q (.panic chain) a w''
        | .outgrown, _ => LetsOut Q := by
    intro Z1 β1 e1 hR1 ⟨Zc, hzh, hargs, hcase⟩ he
    refine (hctr l r [] hrel w Zc (fun _ => none) vs.toArray (by simpa using hlen) ⟨hzh, by simp, by simp⟩ (by
      rw [heff]
      simp only [Bool.false_eq_true, if_false]
      refine ⟨trivial, fun i hi => ?_⟩
      have hi' : i < vs.length := by omega
      have := hargs i hi hi'
      simpa [hi'] using this)).mono ?_
    rintro en w' ⟨v, Z', β', rfl, hL, hr, _⟩
    obtain ⟨Z2, β2, hR2⟩ := hR1.callBack d hL hr hr.plain (hcase.imp (fun e => e) id)
    show K (a.put o.dst v) w'
    rw [hd]
    refine hK _ _ ⟨h1, keep_put hn h2, Z2, β2, ?_⟩
    rw [vals_put (by omega), he]
    exact hR2
  dsimp only at h
  split at h
  · rename_i hns
    have hw' : ws = _ := h
    subst hw'
    let Zc : Nat → Option Obj := fun b => if ∃ p, β p = some b then w.heap[b]? else Z b
    have hZc : ∀ b o, Z b = some o → Zc b = some o := by
      intro b o ho
      show (if ∃ p, β p = some b then w.heap[b]? else Z b) = some o
      split
      · exact hR.zh b o ho
      · exact ho
    refine main Z β e hR ⟨Zc, fun b o ho => ?_, hall Zc hZc (fun p b hp => ?_), .inr hns⟩ rfl
    · replace ho : (if ∃ p, β p = some b then w.heap[b]? else Z b) = some o := ho
      split at ho
      · exact ho
      · exact hR.zh b o ho
    · show (if ∃ p, β p = some b then w.heap[b]? else Z b) = w.heap[b]?
      rw [if_pos ⟨p, hp⟩]
  · obtain ⟨hsd, h⟩ := h
    have hw' : ws = _ := h
    subst hw'
    cases hfz : fz with
    | none => rw [hfz] at hsd; exact hsd.elim
    | some fz' =>
      rw [hfz] at hsd
      obtain ⟨g1, g2⟩ := hfr fz' hfz
      obtain ⟨Z1, β1, hR1, hZ1, hb1⟩ := hR.freezes fz' hsd g1
      refine main Z1 β1 _ hR1 ⟨Z1, hR1.zh, g2 Z1 hZ1 hb1, .inl rfl⟩ ?_
      rw [hfz, Option.getD_some]
      exact apps_append _ _ _

theorem eval_func (a : Act) (f : Nat) : a.eval (.func f) = .func (.func f) #[] #[] := rfl

theorem PRep.fnv {Z f caps v} (h : PRep Z (.fn f caps) v) : ∃ cs : Array Value, v = .func (.func f) #[] cs ∧ cs.size = caps.length ∧ ∀ k (h : k < caps.length), PRep Z caps[k] (cs.getD k undef) := by
  cases h with
  | fn f l cs h1 hk => exact ⟨cs, rfl, h1, hk⟩

theorem rdCall_sound {P : Program} {κ : Con} {Γ : Ctx} (hΓ : ∀ f c, Γ f = some c → CtrOK P f c) {o : Oper} {e : Env} {ws : List Wr} {d : Nat} {g : Operand} {xs : Array Operand} {ats} (ho : o.op = .call { callee := .value g, args := xs, argTypes := ats }) (hd : o.dst = some d) (hn : (κ.lim.1 ≤ d ∧ d < κ.lim.2))
    (h : (rdCall Γ d g xs.toList).Wo e ws) : Does P κ o e ws := by
  intro Q K a w ⟨h1, h2, Z, β, hR⟩ hK
  cases g with
  | func f =>
    obtain ⟨l, fz, h, hargs⟩ := rdArgs_sound _ _ h
    have hA := hargs hR
    refine callP_sound hΓ hd hn h h1 h2 hR (vs := xs.toList.map a.eval) (fun hcan => ?_) (fun Z' hZ hb i hi hi' => hA.all hZ hb i hi hi') (fun fz' hf => by subst hf; exact ⟨hA.fz, fun Z' hZ hb i hi hi' => ArgsOK.frozen hZ hA hb i hi hi'⟩) hA.len hK
    have he : (xs.toList.map a.eval).toArray = xs.map a.eval := by apply Array.ext'; simp
    rw [he]
    simp [execOp, ho, resolve, Deferred.ofValue, eval_func, invoke, run_callFunc' hcan]
  | tmp t =>
    obtain ⟨hj, h⟩ := h
    cases het : e t with
    | fn f caps =>
      simp only [het] at h
      obtain ⟨l, fz, h, hargs⟩ := rdArgs_sound _ _ h
      have hA := hargs hR
      obtain ⟨cs, hv, hcs, hck⟩ := PRep.fnv (ORep.toP (hR.slot' het (by simp)) rfl)
      have ext : ∀ (Z' : Nat → Option Obj), (∀ b o, Z b = some o → Z' b = some o) → (∀ i (h : i < l.length) (h' : i < (xs.toList.map a.eval).length), PRep Z' l[i] (xs.toList.map a.eval)[i]) →
          ∀ i (h : i < (l ++ caps).length) (h' : i < (xs.toList.map a.eval ++ cs.toList).length), PRep Z' (l ++ caps)[i] (xs.toList.map a.eval ++ cs.toList)[i] := by
        intro Z' hZ hp i hi hi'
        have hl := hA.len
        by_cases hil : i < l.length
        · rw [List.getElem_append_left hil, List.getElem_append_left (by omega)]
          exact hp i hil (by omega)
        · rw [List.getElem_append_right (by omega), List.getElem_append_right (by omega)]
          have hi2 : i - l.length < caps.length := by simp at hi; omega
          have := (hck (i - l.length) hi2).mono hZ
          simp only [hl]
          have h3 : i - l.length < cs.size := by omega
          simpa [h3] using this
      refine callP_sound hΓ hd hn h h1 h2 hR (vs := xs.toList.map a.eval ++ cs.toList) (fun hcan => ?_) (fun Z' hZ hb => ext Z' hZ fun i hi hi' => hA.all hZ hb i hi hi') (fun fz' hf => by subst hf; exact ⟨hA.fz, fun Z' hZ hb => ext Z' hZ fun i hi hi' => ArgsOK.frozen hZ hA hb i hi hi'⟩) (by have := hA.len; simp at this ⊢; omega) hK
      have he : (xs.toList.map a.eval ++ cs.toList).toArray = xs.map a.eval ++ cs := by apply Array.ext'; simp
      rw [he]
      simp [execOp, ho, resolve, Deferred.ofValue, eval_tmp, hv, invoke, run_callFunc' hcan]
    | _ => simp only [het] at h; exact h.elim
  | _ => exact h.elim

end Go.Proofs.Ytechllcflknnlaa
