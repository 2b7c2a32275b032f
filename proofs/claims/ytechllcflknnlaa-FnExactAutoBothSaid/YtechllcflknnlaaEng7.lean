/- Operations one by one: stores, what is built and made. No program in sight. -/
import Derived.Test.YtechllcflknnlaaEng6
import Derived.Test.YtechllcflknnlaaBase
namespace Go.Proofs.Ytechllcflknnlaa
set_option linter.unusedSimpArgs false
set_option linter.unusedVariables false
set_option maxRecDepth 8000
open Go Go.RowKit AV

/-- It lies in one cell. -/
def one : AV → Bool
  | .num _ _ => true
  | .bool _ => true
  | .sh _ => true
  | .own _ => true
  | .box _ => true
  | .pbox _ => true
  | .pcell _ => true
  | .fn _ _ => true
  | _ => false

theorem ORep.one {Z H β p A v} (h : ORep Z H β p A v) (h1 : one A = true) : v.oneCell' = true := by
  cases h with
  | pers h => cases h <;> first | rfl | simp [Proofs.Ytechllcflknnlaa.one] at h1
  | nil => rfl
  | own => rfl
  | box => rfl
  | agg => simp [Proofs.Ytechllcflknnlaa.one] at h1
  | tup => simp [Proofs.Ytechllcflknnlaa.one] at h1

theorem cells_one {v : Value} (h : v.oneCell' = true) : v.cells = #[v] := by cases v <;> simp_all [Value.oneCell', Value.cells]

theorem drop_app (t : Nat) (e : Env) : (Wr.set t AV.junk).app e = dropS [t] e := by
  funext x; simp [Wr.app, isOwn, upd, dropS]

theorem dropS_nil (e : Env) : dropS [] e = e := by funext x; simp [dropS]

/-- Some slots are emptied. -/
theorem Rep.drop {κ : Con} {Z : Nat → Option Obj} {β : List Nat → Option Nat} {e : Env} {val : Nat → Value} {w : World} (h : Rep κ Z β e val w) (t : Nat) : Rep κ Z β ((Wr.set t .junk).app e) val w := by
  have := h.put t (A := .junk) (u := val t) (.junk _) (by simp)
  have e2 : setV val t (val t) = val := by funext x; simp only [setV]; split <;> simp_all
  rwa [e2] at this

/-- A part is stored in what lies at p. -/
theorem ORep.storeK {Z : Nat → Option Obj} {H H' : Array Obj} {β β' : List Nat → Option Nat} {p : List Nat} {C A A0 : AV} {u x : Value} {k b : Nat} {cs T}
    (h : ORep Z H β p C u) (hC : blk C = true) (hk : getP C [k] = some A0) (hb : β p = some b) (hz : H[b]? = some (.cells cs T (0, 0))) (hz' : H'[b]? = some (.cells (cs.setIfInBounds k x) T (0, 0))) (hx : x.oneCell' = true)
    (hinj : ∀ p q b, β p = some b → β q = some b → p = q) (hne : ∀ b', b' ≠ b → H'[b']? = H[b']?) (hb' : β' p = some b) (hβ : ∀ r b, β (p ++ r) = some b → ¬ [k] <+: r → β' (p ++ r) = some b)
    (hA : ORep Z H' β' (p ++ [k]) A x) : ORep Z H' β' p (setP C [k] A) u := by
  have kid : ∀ (j : Nat) (B : AV) (v : Value), j ≠ k → ORep Z H β (p ++ [j]) B v → ORep Z H' β' (p ++ [j]) B v := by
    intro j B v hj hB
    refine hB.move (fun _ _ h => h) fun r b2 hr => ⟨?_, hne _ ?_⟩
    · have := hβ (j :: r) b2 (by simpa using hr) (by simp [Ne.symm hj])
      simpa using this
    · rintro rfl
      have := hinj _ _ _ hr hb
      simp at this
  cases h with
  | pers h => have := h.noOwn; rw [blk_own hC] at this; cases this
  | nil => simp [getP, kids] at hk
  | own l b2 c cs2 T2 us hb2 hz2 h1 h2 h3 hu h4 hkk =>
    rw [hb] at hb2; injection hb2 with hb2; subst hb2
    rw [hz] at hz2; injection hz2 with hz2; injection hz2 with hz2 hz3; subst hz2; subst hz3
    have hlt : k < l.length := by
      simp only [getP, kids] at hk
      split at hk
      · rename_i a ha; exact (List.getElem?_eq_some_iff.1 ha).1
      · cases hk
    simp only [setP, kids, withKids]
    have hlen : (l.set k A).length = l.length := by simp
    have := ORep.own (Z := Z) (H := H') (β := β') (p := p) (l.set k A) b c _ T (fun j => if j = k then x else us j) hb' hz' (by simpa using h1) (by simpa using h2) h3
      (fun j hj => by
        have hj' : j < l.length := by simpa using hj
        by_cases hjk : j = k
        · subst hjk; simp [Array.getElem?_setIfInBounds]; omega
        · simp [Array.getElem?_setIfInBounds_ne (Ne.symm hjk), hjk, hu j hj'])
      (fun j hj => by
        have hj' : j < l.length := by simpa using hj
        show (if j = k then x else us j).oneCell' = true
        split
        · exact hx
        · exact h4 j hj')
      (fun j hj => by
        have hj' : j < l.length := by simpa using hj
        by_cases hjk : j = k
        · subst hjk; simpa using hA
        · simp only [hjk, if_false]
          rw [List.getElem_set_ne (Ne.symm hjk)]
          exact kid j _ _ hjk (hkk j hj'))
    rw [hlen] at this
    exact this
  | box l b2 cs2 T2 hb2 hz2 h1 h4 hkk =>
    rw [hb] at hb2; injection hb2 with hb2; subst hb2
    rw [hz] at hz2; injection hz2 with hz2; injection hz2 with hz2 hz3; subst hz2; subst hz3
    have hlt : k < l.length := by
      simp only [getP, kids] at hk
      split at hk
      · rename_i a ha; exact (List.getElem?_eq_some_iff.1 ha).1
      · cases hk
    simp only [setP, kids, withKids]
    have hg : ∀ j, j < l.length → (cs.setIfInBounds k x).getD j undef = if j = k then x else cs.getD j undef := by
      intro j hj
      by_cases hjk : j = k
      · subst hjk
        simp [Array.getD_eq_getD_getElem?]
        intro h; omega
      · simp [Array.getD_eq_getD_getElem?, Array.getElem?_setIfInBounds_ne (Ne.symm hjk), hjk]
    refine .box (l.set k A) b _ T hb' hz' (by simpa using h1) (fun j hj => ?_) (fun j hj => ?_)
    · have hj' : j < l.length := by simpa using hj
      rw [hg j hj']
      split
      · exact hx
      · exact h4 j hj'
    · have hj' : j < l.length := by simpa using hj
      rw [hg j hj']
      by_cases hjk : j = k
      · subst hjk; simpa using hA
      · simp only [hjk, if_false]
        rw [List.getElem_set_ne (Ne.symm hjk)]
        exact kid j _ _ hjk (hkk j hj')
  | agg => simp [blk] at hC
  | tup => simp [blk] at hC

theorem getP_own_up {X A : AV} {q r : List Nat} {C : AV} (hX : getP X q = some C) (hq : r <+: q) (hC : isOwn C = true) : getP X r = some A → isOwn A = true := by
  intro hA
  obtain ⟨s, rfl⟩ := hq
  rw [getP_append r s hA] at hX
  cases h : isOwn A with
  | true => rfl
  | false => rw [getP_noOwn s h hX] at hC; cases hC

theorem setP_blk {C A A0 : AV} {k : Nat} (hC : blk C = true) (hk : getP C [k] = some A0) : blk (setP C [k] A) = true ∧ (∀ s p, setP C [k] A ≠ .alias s p ∧ setP C [k] A ≠ .valias s p ∧ setP C [k] A ≠ .addr s p) := by
  cases C <;> simp_all [blk, setP, kids, withKids]

/-- A part, taken from slot v or one that may be copied, is stored at a place in slot s. -/
theorem Rep.store {κ : Con} {Z : Nat → Option Obj} {β : List Nat → Option Nat} {e : Env} {val : Nat → Value} {w : World} (h : Rep κ Z β e val w) {s : Nat} {q0 : List Nat} {k b : Nat} {C A A0 : AV} {x : Value} {cs T}
    (hC : getP (e s) q0 = some C) (hCb : blk C = true) (hk : getP C [k] = some A0) (hb : β (s :: q0) = some b) (hz : w.heap[b]? = some (.cells cs T (0, 0))) (hx : x.oneCell' = true)
    (hA : PRep Z A x ∨ ∃ v, e v = .junk ∧ v ≠ s ∧ ORep Z w.heap β [v] A x) :
    ∃ β', Rep κ Z β' ((Wr.mod s q0 (setP C [k] A)).app e) val (w.setCell ⟨b, k, none⟩ x) := by
  have hCo := blk_own hCb
  have hpl := plain_of_own hC hCo
  have hz' : (w.setCell ⟨b, k, none⟩ x).heap[b]? = some (.cells (cs.setIfInBounds k x) T (0, 0)) := by
    simp [World.setCell, Array.getElem?_modify, hz]
  have hne : ∀ b', b' ≠ b → (w.setCell ⟨b, k, none⟩ x).heap[b']? = w.heap[b']? := fun b' hb' => Below.heap_setCell w ⟨b, k, none⟩ x b' hb'
  have hbb := h.bo _ _ hb
  have hset := setP_blk (A := A) hCb hk
  have hzh : ∀ b' o, Z b' = some o → (w.setCell ⟨b, k, none⟩ x).heap[b']? = some o := fun b' o ho => by
    rw [hne b' (by rintro rfl; rw [hbb.2.1] at ho; cases ho)]
    exact h.zh b' o ho
  have hfr : ∀ b', ¬ new κ b' → b' < w.heap.size → (w.setCell ⟨b, k, none⟩ x).heap[b']? = w.heap[b']? := fun b' hn _ => hne b' (by rintro rfl; exact hn hbb.1)
  rcases hA with hA | ⟨v, hv, hvs, hA⟩
  · refine ⟨β, h.mod s q0 C _ hC hpl.2 hset.2 hpl.1 rfl rfl rfl (by simp) hfr (fun _ _ h => h) (fun _ _ h => .inl h) hzh (fun r b' hr hj hn hb' => ⟨hb', hne b' ?_⟩) h.inj (fun p b' hp => by have := h.bo p b' hp; simpa using this) (fun u hu => ?_) (fun _ q C' hq _ hC' => getP_own_up hC hq hCo hC')⟩
    · rintro rfl
      exact hn (by rw [h.inj _ _ _ hb' hb]; exact List.prefix_refl _)
    · exact hu.storeK hCb hk hb hz hz' hx h.inj hne hb (fun _ _ h _ => h) (.pers hA)
  · have hβf : ∀ r b', r ≠ [] → root r ≠ v → ¬ (s :: (q0 ++ [k])) <+: r → β r = some b' → viaF (mvF [v] (s :: (q0 ++ [k]))) β r = some b' := by
      intro r b' hr hrv hn hb'
      cases r with
      | nil => exact absurd rfl hr
      | cons y r =>
        have h1 : ¬ [v] <+: (y :: r) := by simp; exact fun e => hrv e.symm
        simp only [viaF, mvF, hn, if_false, h1, Option.bind_some]
        exact hb'
    refine ⟨viaF (mvF [v] (s :: (q0 ++ [k]))) β, h.mod s q0 C _ hC hpl.2 hset.2 hpl.1 rfl rfl rfl (by simp) hfr (fun _ _ h => h) (fun _ _ h => .inl h) hzh (fun r b' hr hj hn hb' => ⟨hβf r b' hr (fun e => hj (by rw [e]; exact hv)) (fun hp => hn (List.IsPrefix.trans (by simp) hp)) hb', hne b' ?_⟩) (viaF_inj (mvF_inj _ _) h.inj) (viaF_bo (fun p b' hp => by have := h.bo p b' hp; simpa using this)) (fun u hu => ?_) (fun _ q C' hq _ hC' => getP_own_up hC hq hCo hC')⟩
    · rintro rfl
      exact hn (by rw [h.inj _ _ _ hb' hb]; exact List.prefix_refl _)
    · have hbk : viaF (mvF [v] (s :: (q0 ++ [k]))) β (s :: q0) = some b := hβf _ b (by simp) (by simpa [root] using Ne.symm hvs) (by
        intro hp
        have := hp.length_le
        simp at this
        omega) hb
      refine hu.storeK hCb hk hb hz hz' hx h.inj hne hbk (fun r b' hr hn => hβf _ b' (by simp) (by simpa [root] using Ne.symm hvs) (by simpa [List.prefix_append_right_inj] using hn) hr) ?_
      refine hA.move (fun _ _ h => h) fun r b' hr => ⟨?_, hne b' ?_⟩
      · simp only [viaF, mvF]
        rw [if_pos (by simp)]
        simpa using hr
      · rintro rfl
        have := h.inj _ _ _ hr hb
        simp at this
        exact hvs this.1

/-- A value to be stored: taken out of its slot, or copied. -/
def rdVal (x : Operand) (k : AV → Option Nat → Rd) : Rd := match x with
  | .const v => .need (cst v ≠ .junk) (k (cst v) none)
  | .func f => k (.fn f []) none
  | .global _ => .fail
  | .tmp t => .get t fun v => if isOwn v then k v (some t) else if isP v then k v none else .fail

def srcW : Option Nat → List Wr
  | some t => [.set t .junk]
  | none => []

theorem rdVal_sound {e : Env} {x : Operand} {k : AV → Option Nat → Rd} {ws : List Wr} (h : (rdVal x k).Wo e ws) : ∃ A src, (k A src).Wo e ws ∧ (∀ s p, A ≠ .alias s p ∧ A ≠ .valias s p ∧ A ≠ .addr s p) ∧ (∀ t, src = some t → x = .tmp t ∧ e t = A ∧ isOwn A = true) ∧
    ∀ {κ Z β w} {a : Act}, Rep κ Z β e (vals a) w → (∀ t, src = some t → ORep Z w.heap β [t] A (a.eval x)) ∧ (src = none → ∀ p, ORep Z w.heap β p A (a.eval x)) ∧ (src = none → isP A = true ∨ (A = .own [] ∧ a.eval x = .slice none 0 0)) := by
  cases x with
  | const v =>
    obtain ⟨h1, h2⟩ := h
    refine ⟨_, none, h2, cst_plain v, by simp, fun {κ Z β w a} hR => ⟨by simp, fun _ p => cst_rep p v h1, fun _ => ?_⟩⟩
    show isP (cst v) = true ∨ (cst v = .own [] ∧ v = .slice none 0 0)
    unfold cst at h1 ⊢
    split <;> simp_all [isP]
  | func f => exact ⟨_, none, h, by simp, by simp, fun hR => ⟨by simp, fun _ p => .pers (.fn f [] #[] rfl (by simp)), fun _ => .inl rfl⟩⟩
  | global g => exact h.elim
  | tmp t =>
    obtain ⟨h1, h2⟩ := h
    dsimp only at h2
    split at h2
    · rename_i ho
      refine ⟨_, some t, h2, own_plain ho, fun t' ht => ?_, fun hR => ⟨fun t' ht => ?_, by simp, by simp⟩⟩
      · injection ht with ht; subst ht; exact ⟨rfl, rfl, ho⟩
      · injection ht with ht; subst ht; exact hR.slot t (own_plain ho)
    · split at h2
      · rename_i hp
        exact ⟨_, none, h2, isP_plain hp, by simp, fun hR => ⟨by simp, fun _ p => .pers (ORep.toP (hR.slot t (isP_plain hp)) hp), fun _ => .inl hp⟩⟩
      · exact h2.elim

def rdStore (P : Program) (T : Nat) (addr x : Operand) : Rd := match addr with
  | .tmp t => .peek t fun h => match h with
    | .addr s q => .need (szT P T = some 1) (rdVal x fun A src => .need (one A = true ∧ src ≠ some s) (.get s fun c => rdGetP c q.dropLast fun C => .need (blk C = true) (rdGetP C [q.getLast?.getD 0] fun _ =>
        (.ret (srcW src ++ [.mod s q.dropLast (setP C [q.getLast?.getD 0] A)])))))
    | .box _ => .need (szT P T = some 1) (rdVal x fun A src => .need (one A = true ∧ src ≠ some t) (.get t fun c => match c with
      | .box [_] => .ret (srcW src ++ [.mod t [] (.box [A])])
      | _ => .fail))
    | .alias s q => .need (szT P T = some 1) (rdVal x fun A src => .need (one A = true ∧ src ≠ some s) (.get s fun c => rdGetP c q fun X => match X with
      | .box [_] => .ret (srcW src ++ [.mod s q (.box [A])])
      | _ => .fail))
    | _ => .fail
  | _ => .fail

theorem run_storeAt' {P : Program} {w : World} {T b k : Nat} {x : Value} {cs E} (hs : szT P T = some 1) (hx : x.oneCell' = true) (hz : w.heap[b]? = some (.cells cs E (0, 0))) (hk : k < cs.size) :
    (Instr.storeAt T (.pointer (some ⟨b, k, none⟩)) x).run P w = .ok () (w.setCell ⟨b, k, none⟩ x) := by
  obtain ⟨i, hi, hi1⟩ := szT_spec hs
  have hadd : (⟨b, k, none⟩ : Addr).add 0 = ⟨b, k, none⟩ := by unfold Addr.add; simp
  have hc := cell_heap (w := w) hz (Array.getElem?_eq_getElem hk)
  have hf : w.frozen? ⟨b, k, none⟩ = false := by simp [World.frozen?, hz]
  have hst := run_store P w ⟨b, k, none⟩ x .plain hx
  simp only [hc, hf, Bool.false_eq_true, if_false] at hst
  simp [Instr.storeAt, Instr.sureAddr, storeVar, cells_one hx, sizeOf, typeInfo, hi, hi1, storeCells, hadd, hst]

theorem rdStore_sound {P : Program} {κ : Con} {o : Oper} {e : Env} {ws : List Wr} {T : Nat} {addr x : Operand} (ho : o.op = .store T addr x) (hd : o.dst = none) (h : (rdStore P T addr x).Wo e ws) : Does P κ o e ws := by
  have hrun : ∀ (a : Act) (w w' : World), (Instr.storeAt T (a.eval addr) (a.eval x)).run P w = .ok () w' → (execOp a.eval o).run P w = .ok .skip w' := by
    intro a w w' hu
    simp only [execOp, ho]
    rw [Sem.run_bind, hu]
    rfl
  cases addr with
  | tmp t =>
    obtain ⟨hj, h⟩ := h
    refine does_skip hd fun a w Z β hR => ?_
    -- a place, however it was named
    have main : ∀ (s : Nat) (q0 : List Nat) (k b : Nat) (C B A : AV) (src : Option Nat), szT P T = some 1 → (∀ t, src = some t → x = .tmp t ∧ e t = A ∧ isOwn A = true) →
        ((∀ t, src = some t → ORep Z w.heap β [t] A (a.eval x)) ∧ (src = none → ∀ p, ORep Z w.heap β p A (a.eval x)) ∧ (src = none → isP A = true ∨ (A = .own [] ∧ a.eval x = .slice none 0 0))) → one A = true → src ≠ some s →
        getP (e s) q0 = some C → blk C = true → getP C [k] = some B → vals a t = .pointer (some ⟨b, k, none⟩) → β (s :: q0) = some b → ws = srcW src ++ [.mod s q0 (setP C [k] A)] →
        ∃ w' Z' β', (execOp a.eval o).run P w = .ok .skip w' ∧ Rep κ Z' β' (apps ws e) (vals a) w' := by
      intro s q0 k b C B A src hT hsrc hval hA1 hss hC hCb hk hv hb hws
      subst hws
      have hCo := blk_own hCb
      have hpl := plain_of_own hC hCo
      obtain ⟨u0, hu0, _⟩ := ORep.place q0 (hR.slot s hpl.2) hC
      obtain ⟨cs, E, u, hz, hcu, h1, hAu⟩ := ORep.cell (by simpa using hu0) hCb hk hb
      have hks : k < cs.size := (Array.getElem?_eq_some_iff.1 hcu).1
      cases src with
      | none =>
        have hx1 := ORep.one (hval.2.1 rfl []) hA1
        have hrun' := hrun a w _ (by rw [eval_tmp, hv]; exact run_storeAt' hT hx1 hz hks)
        rcases hval.2.2 rfl with hp | ⟨rfl, hnil⟩
        · obtain ⟨β', hR'⟩ := hR.store hC hCb hk hb hz hx1 (.inl (ORep.toP (hval.2.1 rfl []) hp))
          exact ⟨_, Z, β', hrun', hR'⟩
        · -- an empty slice: it is stored as one that owns nothing yet
          have hz' : (w.setCell ⟨b, k, none⟩ (a.eval x)).heap[b]? = some (.cells (cs.setIfInBounds k (a.eval x)) E (0, 0)) := by simp [World.setCell, Array.getElem?_modify, hz]
          have hne : ∀ b', b' ≠ b → (w.setCell ⟨b, k, none⟩ (a.eval x)).heap[b']? = w.heap[b']? := fun b' hb' => Below.heap_setCell w ⟨b, k, none⟩ _ b' hb'
          have hbb := hR.bo _ _ hb
          have hset := setP_blk (A := AV.own []) hCb hk
          refine ⟨_, Z, β, hrun', hR.mod s q0 C _ hC hpl.2 hset.2 hpl.1 rfl rfl rfl (by simp) (fun b' hn _ => hne b' (by rintro rfl; exact hn hbb.1)) (fun _ _ h => h) (fun _ _ h => .inl h)
            (fun b' o ho => by rw [hne b' (by rintro rfl; rw [hbb.2.1] at ho; cases ho)]; exact hR.zh b' o ho) (fun r b' hr hj hn hb' => ⟨hb', hne b' (by rintro rfl; exact hn (by rw [hR.inj _ _ _ hb' hb]; exact List.prefix_refl _))⟩) hR.inj
            (fun p b' hp => by have := hR.bo p b' hp; simpa using this) (fun u hu => hu.storeK hCb hk hb hz hz' hx1 hR.inj hne hb (fun _ _ h _ => h) (by rw [hnil]; exact .nil)) (fun _ q C' hq _ hC' => getP_own_up hC hq hCo hC')⟩
      | some v =>
        obtain ⟨rfl, hev, hAo⟩ := hsrc v rfl
        have hx1 := ORep.one (hval.1 v rfl) hA1
        have hrun' := hrun a w _ (by rw [eval_tmp, hv]; exact run_storeAt' hT hx1 hz hks)
        have hvs : v ≠ s := by rintro rfl; exact hss rfl
        have hR1 := hR.drop v
        have e1 : (Wr.set v AV.junk).app e s = e s := by simp [Wr.app, isOwn, upd, Ne.symm hvs]
        obtain ⟨β', hR'⟩ := hR1.store (A := A) (x := a.eval (.tmp v)) (by rw [e1]; exact hC) hCb hk hb hz hx1 (.inr ⟨v, by simp [Wr.app, isOwn, upd], hvs, hval.1 v rfl⟩)
        exact ⟨_, Z, β', hrun', hR'⟩
    cases het : e t with
    | addr s q =>
      simp only [het, head] at h
      obtain ⟨hT, h⟩ := h
      obtain ⟨A, src, ⟨⟨hA1, hss⟩, hsj, C, hC, hCb, B, hk, hw⟩, hApl, hsrc, hval⟩ := rdVal_sound h
      obtain ⟨q0, k, b, rfl, hv, hb⟩ := hR.addrAt het
      simp only [List.dropLast_concat, List.getLast?_concat, Option.getD_some] at hC hk hw
      have hw' : ws = _ := hw
      exact main s q0 k b C B A src hT hsrc (hval hR) hA1 hss hC hCb hk hv (hb C hC (blk_own hCb)) hw'
    | box l =>
      simp only [het, head] at h
      obtain ⟨hT, h⟩ := h
      obtain ⟨A, src, ⟨⟨hA1, hss⟩, hsj, hw⟩, hApl, hsrc, hval⟩ := rdVal_sound h
      dsimp only at hw
      split at hw
      case h_2 => exact hw.elim
      rename_i B hB
      have hw' : ws = _ := hw
      have hs0 := hR.slot' hB (by simp)
      generalize hvv : vals a t = vv at hs0
      cases hs0 with
      | pers h => cases h
      | box l b cs E hb hz h1 h4 hk => exact main t [] 0 b (.box [B]) B A src hT hsrc (hval hR) hA1 hss (by rw [hB]; rfl) rfl rfl hvv hb hw'
    | alias s q =>
      simp only [het, head] at h
      obtain ⟨hT, h⟩ := h
      obtain ⟨A, src, ⟨⟨hA1, hss⟩, hsj, X, hB, hw⟩, hApl, hsrc, hval⟩ := rdVal_sound h
      dsimp only at hw
      split at hw
      case h_2 => exact hw.elim
      rename_i B
      have hw' : ws = _ := hw
      have hs0 := hR.aliasAt het _ hB rfl
      generalize hvv : vals a t = vv at hs0
      cases hs0 with
      | pers h => cases h
      | box l b cs E hb hz h1 h4 hk => exact main s q 0 b (.box [B]) B A src hT hsrc (hval hR) hA1 hss hB rfl rfl hvv hb hw'
    | _ => simp only [het, head] at h; exact h.elim
  | _ => exact h.elim

end Go.Proofs.Ytechllcflknnlaa
