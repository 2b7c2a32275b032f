/- Operations one by one: slots, numbers, loads, stores, addresses. No program in sight. -/
import Derived.Test.YtechllcflknnlaaEng4
namespace Go.Proofs.Ytechllcflknnlaa
set_option linter.unusedSimpArgs false
set_option linter.unusedVariables false
set_option maxRecDepth 8000
open Go Go.RowKit AV

/-- Whatever follows: the operation turns the state as ws says. -/
def Does (P : Program) (κ : Con) (o : Oper) (e : Env) (ws : List Wr) : Prop :=
  ∀ (Q : Exit → Act → World → Prop) (K : Act → World → Prop) (a : Act) (w : World), St κ e a w → (∀ a' w', St κ (apps ws e) a' w' → K a' w') → o.wp P a w K Q

theorem keep_put {κ : Con} {a : Act} {d : Nat} {u : Value} (hn : κ.lim.1 ≤ d ∧ d < κ.lim.2) (h2 : a.tmps.size = κ.lim.2 ∧ ∀ t, t < κ.lim.1 → vals a t = κ.V0 t) :
    (a.put (some d) u).tmps.size = κ.lim.2 ∧ ∀ t, t < κ.lim.1 → vals (a.put (some d) u) t = κ.V0 t := by
  refine ⟨by simp [Act.put, h2.1], fun t ht => ?_⟩
  rw [vals_put (by omega), setV, if_neg (by omega)]
  exact h2.2 t ht

section
variable {P : Program} {κ : Con} {o : Oper} {e : Env} {ws : List Wr}

theorem does_value {d : Nat} (hd : o.dst = some d) (hn : (κ.lim.1 ≤ d ∧ d < κ.lim.2))
    (h : ∀ a w Z β, Rep κ Z β e (vals a) w → ∃ u w' Z' β', (execOp a.eval o).run P w = .ok (.value u) w' ∧ Rep κ Z' β' (apps ws e) (setV (vals a) d u) w') : Does P κ o e ws := by
  intro Q K a w ⟨h1, h2, Z, β, hR⟩ hK
  obtain ⟨u, w', Z', β', hrun, hR'⟩ := h a w Z β hR
  unfold Oper.wp
  rw [hrun, Oper.upon_value, hd]
  refine hK _ _ ⟨h1, keep_put hn h2, Z', β', ?_⟩
  rw [vals_put (by omega)]
  exact hR'

theorem does_skip (hd : o.dst = none)
    (h : ∀ a w Z β, Rep κ Z β e (vals a) w → ∃ w' Z' β', (execOp a.eval o).run P w = .ok .skip w' ∧ Rep κ Z' β' (apps ws e) (vals a) w') : Does P κ o e ws := by
  intro Q K a w ⟨h1, h2, Z, β, hR⟩ hK
  obtain ⟨w', Z', β', hrun, hR'⟩ := h a w Z β hR
  unfold Oper.wp
  rw [hrun, Oper.upon_skip, hd]
  exact hK _ _ ⟨h1, h2, Z', β', hR'⟩
end

theorem eval_tmp (a : Act) (t : Nat) : a.eval (.tmp t) = vals a t := rfl

theorem cst_rep {Z : Nat → Option Obj} {H : Array Obj} {β : List Nat → Option Nat} (p : List Nat) (v : Value) (h : cst v ≠ .junk) : ORep Z H β p (cst v) v := by
  unfold cst at h ⊢
  split
  · exact .pers (.num _ _)
  · exact .pers (.bool _)
  · exact .nil
  · simp at h

theorem cst_plain (v : Value) : ∀ s p, cst v ≠ .alias s p ∧ cst v ≠ .valias s p ∧ cst v ≠ .addr s p := by
  intro s p
  unfold cst
  split <;> simp

/-- An operand's meaning. -/
def rdX (x : Operand) (k : AV → Rd) : Rd := match x with
  | .tmp t => .get t k
  | .const v => .need (cst v ≠ .junk) (k (cst v))
  | .func f => k (.fn f [])
  | .global _ => .fail

theorem rdX_sound {e : Env} {x : Operand} {k : AV → Rd} {ws : List Wr} (h : (rdX x k).Wo e ws) : ∃ A, (k A).Wo e ws ∧ A ≠ .junk ∧
    ∀ {κ Z β w} {a : Act}, Rep κ Z β e (vals a) w → isP A = true → PRep Z A (a.eval x) := by
  cases x with
  | tmp t =>
    obtain ⟨h1, h2⟩ := h
    exact ⟨_, h2, h1, fun hR hp => ORep.toP (hR.slot t (isP_plain hp)) hp⟩
  | const v =>
    obtain ⟨h1, h2⟩ := h
    exact ⟨_, h2, h1, fun {κ Z β w a} hR hp => ORep.toP (cst_rep (H := w.heap) (β := β) [] v h1) hp⟩
  | func f => exact ⟨_, h, by simp, fun hR hp => .fn f [] #[] rfl (by simp)⟩
  | global g => exact h.elim

/-! ### Slots -/

def rdTake (d t : Nat) (k : AV → List Wr → Rd) : Rd := .get t fun v => match v with
  | .alias s p => .need (s ≠ d) (.get s fun c => rdGetP c p fun A => .need (isOwn A = true) (k A [.set d .junk, .mod s p .junk]))
  | .valias _ _ => .fail
  | .addr _ _ => .fail
  | .junk => .fail
  | v => if isOwn v then k v [.set t .junk] else if isP v then k v [] else .fail

def rdBor (d t : Nat) : Rd := .peek t fun h => match h with
  | .own _ => .need (t ≠ d) (.ret [.set d (.alias t [])])
  | .box _ => .need (t ≠ d) (.ret [.set d (.alias t [])])
  | .alias s p => .need (s ≠ d) (.ret [.set d (.alias s p)])
  | .valias s p => .need (s ≠ d) (.ret [.set d (.valias s p)])
  | .addr s p => .need (s ≠ d) (.ret [.set d (.addr s p)])
  | .junk => .fail
  | _ => .get t fun v => if isP v then .ret [.set d v] else .fail

def rdMv (tr : Bool) (d : Nat) (x : Operand) : Rd := match x with
  | .const v => .need (cst v ≠ .junk) (.ret [.set d (cst v)])
  | .func f => .ret [.set d (.fn f [])]
  | .global _ => .fail
  | .tmp t => if tr then rdTake d t fun A ws => .ret (ws ++ [.set d A]) else rdBor d t

theorem plain_of_own {c A : AV} {p : List Nat} (h : getP c p = some A) (hA : isOwn A = true) : c ≠ .junk ∧ ∀ s p, c ≠ .alias s p ∧ c ≠ .valias s p ∧ c ≠ .addr s p := by
  have hc : isOwn c = true := by
    cases hc : isOwn c with
    | true => rfl
    | false => rw [getP_noOwn p hc h] at hA; cases hA
  cases c <;> simp_all [isOwn]

theorem own_plain {A : AV} (hA : isOwn A = true) : ∀ s p, A ≠ .alias s p ∧ A ≠ .valias s p ∧ A ≠ .addr s p := by
  intro s p; cases A <;> simp_all [isOwn]

/-- What is taken out of a slot: the state behind it, with the slot d filled. -/
theorem rdTake_sound {e : Env} {d t : Nat} {k : AV → List Wr → Rd} {ws : List Wr} (h : (rdTake d t k).Wo e ws) : ∃ A ws0, (k A ws0).Wo e ws ∧ A ≠ .junk ∧ (∀ s p, A ≠ .alias s p ∧ A ≠ .valias s p ∧ A ≠ .addr s p) ∧
    ∀ {κ Z β w} {val : Nat → Value}, Rep κ Z β e val w → ∃ β', Rep κ Z β' (apps (ws0 ++ [.set d A]) e) (setV val d (val t)) w := by
  obtain ⟨h1, h2⟩ := h
  cases het : e t with
  | alias s p =>
    simp only [het] at h2
    obtain ⟨hsd, hsj, A, hg, hA, hk⟩ := h2
    have hpl := plain_of_own hg hA
    refine ⟨A, _, hk, by rintro rfl; simp [isOwn] at hA, own_plain hA, fun hR => ?_⟩
    exact hR.giveP hsd hg hpl.2 (own_plain hA) hsj (hR.aliasAt het A hg hA)
  | valias s p => simp only [het] at h2; exact h2.elim
  | addr s p => simp only [het] at h2; exact h2.elim
  | junk => exact absurd het h1
  | _ =>
    simp only [het] at h2
    split at h2
    · refine ⟨_, _, h2, by simp, by simp, fun hR => ⟨_, hR.give het (by simp)⟩⟩
    · split at h2
      · rename_i hp
        refine ⟨_, _, h2, by simp, by simp, fun hR => ⟨_, hR.put d (ORep.toP (hR.slot' het (by simp)) hp) (by simp)⟩⟩
      · exact h2.elim

theorem rdMv_sound {P : Program} {κ : Con} {o : Oper} {e : Env} {ws : List Wr} {tr : Bool} {d : Nat} {x : Operand} (ho : o.op = .move x ∨ o.op = .assign x) (hd : o.dst = some d) (hn : (κ.lim.1 ≤ d ∧ d < κ.lim.2)) (h : (rdMv tr d x).Wo e ws) : Does P κ o e ws := by
  have hrun : ∀ (a : Act) (w : World), (execOp a.eval o).run P w = .ok (.value (a.eval x)) w := by
    intro a w
    rcases ho with ho | ho <;> simp [execOp, ho]
  refine does_value hd hn fun a w Z β hR => ⟨a.eval x, w, ?_⟩
  cases x with
  | const v =>
    obtain ⟨h1, h2⟩ := h
    subst h2
    by_cases hp : isP (cst v) = true
    · exact ⟨Z, β, hrun a w, hR.put d (ORep.toP (cst_rep (H := w.heap) (β := β) [] v h1) hp) (cst_plain v)⟩
    · refine ⟨Z, β, hrun a w, ?_⟩
      show Rep κ Z β ((Wr.set d (cst v)).app e) _ w
      rw [← app_set_drop]
      exact hR.big [d] d (by simp) _ _ rfl rfl rfl (Nat.le_refl _) (fun _ _ _ => rfl) (fun _ _ h => h) (fun _ _ h => .inl h) hR.zh (fun r b _ _ hb => ⟨hb, rfl⟩) hR.inj hR.bo (cst_rep _ v h1) (cst_plain v)
  | func f =>
    replace h : ws = [Wr.set d (.fn f [])] := h
    subst h
    exact ⟨Z, β, hrun a w, hR.put d (.fn f [] #[] rfl (by simp)) (by simp)⟩
  | global g => exact h.elim
  | tmp t =>
    simp only [rdMv] at h
    split at h
    · obtain ⟨A, ws0, hk, _, _, hg⟩ := rdTake_sound h
      have hk' : ws = ws0 ++ [Wr.set d A] := hk
      subst hk'
      obtain ⟨β', hR'⟩ := hg hR
      exact ⟨Z, β', hrun a w, hR'⟩
    · obtain ⟨h1, h2⟩ := h
      cases het : e t with
      | own l =>
        simp only [het, head] at h2
        obtain ⟨htd, rfl⟩ := h2
        refine ⟨Z, β, hrun a w, hR.view d t [] _ htd fun A hA hAo => ?_⟩
        simp only [getP, Option.some.injEq] at hA
        subst hA
        exact hR.slot t (own_plain hAo)
      | box l =>
        simp only [het, head] at h2
        obtain ⟨htd, rfl⟩ := h2
        refine ⟨Z, β, hrun a w, hR.view d t [] _ htd fun A hA hAo => ?_⟩
        simp only [getP, Option.some.injEq] at hA
        subst hA
        exact hR.slot t (own_plain hAo)
      | alias s p =>
        simp only [het, head] at h2
        obtain ⟨htd, rfl⟩ := h2
        exact ⟨Z, β, hrun a w, hR.view d s p _ htd (hR.aliasAt het)⟩
      | valias s p =>
        simp only [het, head] at h2
        obtain ⟨htd, rfl⟩ := h2
        exact ⟨Z, β, hrun a w, hR.valiasPut d s p _ htd (hR.valiasAt het)⟩
      | addr s p =>
        simp only [het, head] at h2
        obtain ⟨htd, rfl⟩ := h2
        obtain ⟨q, k, b, rfl, hv, hb⟩ := hR.addrAt het
        refine ⟨Z, β, hrun a w, ?_⟩
        rw [eval_tmp, hv]
        exact hR.addrPut d s q k b htd hb
      | junk => exact absurd het h1
      | _ =>
        simp only [het, head] at h2
        obtain ⟨_, h2⟩ := h2
        simp only [het] at h2
        split at h2
        · rename_i hp
          have h2' : ws = _ := h2
          subst h2'
          exact ⟨Z, β, hrun a w, hR.put d (ORep.toP (hR.slot' het (by simp)) hp) (by simp)⟩
        · exact h2.elim

/-! ### Numbers -/

def rdBin (P : Program) (op : BinOp) (T d : Nat) (x y : Operand) : Rd := rdX x fun A => rdX y fun B => match binV P T op A B with
  | some (c, R) => .need c (.ret [.set d R])
  | none => .fail

theorem binV_plain {P : Program} {T : Nat} {op : BinOp} {A B R : AV} {c : Prop} (h : binV P T op A B = some (c, R)) : isP A = true ∧ isP B = true ∧ isP R = true := by
  cases A <;> cases B <;> cases op <;> simp [binV] at h <;> (try (rename_i j _ k _; cases j <;> cases k <;> simp [binV] at h)) <;> (try (obtain ⟨_, rfl⟩ := h)) <;> simp [isP]

theorem rdBin_sound {P : Program} {κ : Con} {o : Oper} {e : Env} {ws : List Wr} {op : BinOp} {T yT d : Nat} {x y : Operand} (ho : o.op = .binOp op T x y yT) (hd : o.dst = some d) (hn : (κ.lim.1 ≤ d ∧ d < κ.lim.2)) (h : (rdBin P op T d x y).Wo e ws) : Does P κ o e ws := by
  obtain ⟨A, h0, -, hA⟩ := rdX_sound h; replace h := h0; clear h0
  obtain ⟨B, h0, -, hB⟩ := rdX_sound h; replace h := h0; clear h0
  split at h
  · rename_i c R hv
    obtain ⟨hc, hw⟩ := h
    have hw' : ws = _ := hw
    subst hw'
    have hp := binV_plain hv
    refine does_value hd hn fun a w Z β hR => ?_
    obtain ⟨u, hu, hRu⟩ := binV_sound hv hc (hA hR hp.1) (hB hR hp.2.1) x y w
    refine ⟨u, w, Z, β, ?_, hR.put d hRu (isP_plain hp.2.2)⟩
    simp only [execOp, ho]
    rw [Sem.run_bind, hu]
    rfl
  · exact h.elim

def rdUn (op : UnOp) (d : Nat) (x : Operand) : Rd := rdX x fun A => match op, A with
  | .not, .bool b => .ret [.set d (.bool !b)]
  | .neg, .num .i64 n => .need (in64 (-n)) (.ret [.set d (.num .i64 (-n))])
  | _, _ => .fail

theorem rdUn_sound {P : Program} {κ : Con} {o : Oper} {e : Env} {ws : List Wr} {op : UnOp} {T d : Nat} {x : Operand} (ho : o.op = .unOp op T x) (hd : o.dst = some d) (hn : (κ.lim.1 ≤ d ∧ d < κ.lim.2)) (h : (rdUn op d x).Wo e ws) : Does P κ o e ws := by
  obtain ⟨A, h0, -, hA⟩ := rdX_sound h; replace h := h0; clear h0
  split at h
  · rename_i b
    have hw' : ws = _ := h
    subst hw'
    refine does_value hd hn fun a w Z β hR => ?_
    have h1 := hA hR rfl
    refine ⟨.bool !b, w, Z, β, ?_, hR.put d (.bool _) (by simp)⟩
    simp only [execOp, ho]
    generalize a.eval x = v at h1
    cases h1
    simp [Op.unary]
  · rename_i n
    obtain ⟨hc, hw⟩ := h
    have hw' : ws = _ := hw
    subst hw'
    refine does_value hd hn fun a w Z β hR => ?_
    have h1 := hA hR rfl
    refine ⟨.int .i64 (-n), w, Z, β, ?_, hR.put d (.num _ _) (by simp)⟩
    simp only [execOp, ho]
    generalize a.eval x = v at h1
    cases h1
    simp [Op.unary, Op.intArith, IntWalk.i64_in _ hc]
  · exact h.elim

def rdConv (P : Program) (S T d : Nat) (x : Operand) : Rd := rdX x fun A => match A with
  | .num _ n => .need (inT P T = some .i64 ∧ (P.underlying S).isSome = true ∧ in64 n) (.ret [.set d (.num .i64 n)])
  | _ => .fail

theorem inT_spec {P : Program} {T : Nat} {k : IntKind} (h : inT P T = some k) : P.underlying T = some (.int k) := by
  unfold inT at h
  split at h
  · rename_i h0; injection h with h; rw [h0, h]
  · cases h

theorem rdConv_sound {P : Program} {κ : Con} {o : Oper} {e : Env} {ws : List Wr} {S T d : Nat} {x : Operand} (ho : o.op = .convert S T x) (hd : o.dst = some d) (hn : (κ.lim.1 ≤ d ∧ d < κ.lim.2)) (h : (rdConv P S T d x).Wo e ws) : Does P κ o e ws := by
  obtain ⟨A, h0, -, hA⟩ := rdX_sound h; replace h := h0; clear h0
  split at h
  · rename_i k n
    obtain ⟨⟨hT, hS, hc⟩, hw⟩ := h
    have hw' : ws = _ := hw
    subst hw'
    refine does_value hd hn fun a w Z β hR => ?_
    have h1 := hA hR rfl
    refine ⟨.int .i64 n, w, Z, β, ?_, hR.put d (.num _ _) (by simp)⟩
    simp only [execOp, ho]
    generalize a.eval x = v at h1
    cases h1
    obtain ⟨ds, hds⟩ := Option.isSome_iff_exists.1 hS
    simp [convert, run_underlying (inT_spec hT), run_underlying hds, Conv.intToInt, IntWalk.i64_in _ hc]
  · exact h.elim

def rdPick (d : Nat) (c x y : Operand) : Rd := rdX c fun C => match C with
  | .bool b => .br (b = true) (rdX x fun A => if isP A then .ret [.set d A] else .fail) (rdX y fun A => if isP A then .ret [.set d A] else .fail)
  | _ => .fail

theorem rdPick_sound {P : Program} {κ : Con} {o : Oper} {e : Env} {ws : List Wr} {d : Nat} {c x y : Operand} (ho : o.op = .pick c x y) (hd : o.dst = some d) (hn : (κ.lim.1 ≤ d ∧ d < κ.lim.2)) (h : (rdPick d c x y).Wo e ws) : Does P κ o e ws := by
  obtain ⟨C, h0, -, hC⟩ := rdX_sound h; replace h := h0; clear h0
  split at h
  · rename_i b
    refine does_value hd hn fun a w Z β hR => ?_
    have h0 := hC hR rfl
    have hrun : (execOp a.eval o).run P w = .ok (.value (if b = true then a.eval x else a.eval y)) w := by
      simp only [execOp, ho]
      generalize a.eval c = v at h0
      cases h0
      simp [asBool]
    rcases h with ⟨hb, h⟩ | ⟨hb, h⟩
    · obtain ⟨A, h0, -, hA⟩ := rdX_sound h; replace h := h0; clear h0
      split at h
      · rename_i hp
        have hw' : ws = _ := h
        subst hw'
        exact ⟨_, w, Z, β, hrun, by rw [if_pos hb]; exact hR.put d (hA hR hp) (isP_plain hp)⟩
      · exact h.elim
    · obtain ⟨A, h0, -, hA⟩ := rdX_sound h; replace h := h0; clear h0
      split at h
      · rename_i hp
        have hw' : ws = _ := h
        subst hw'
        exact ⟨_, w, Z, β, hrun, by rw [if_neg hb]; exact hR.put d (hA hR hp) (isP_plain hp)⟩
      · exact h.elim
  · exact h.elim

end Go.Proofs.Ytechllcflknnlaa
