/- append, and a struct stored whole. No program in sight. -/
import Derived.Test.YtechllcflknnlaaEng10
namespace Go.Proofs.Ytechllcflknnlaa
set_option linter.unusedSimpArgs false
set_option linter.unusedVariables false
set_option maxRecDepth 8000
open Go Go.RowKit AV

/-- What setCells leaves in the block that it writes. -/
theorem setCells_heap {b : Nat} {T : TypeId} {fz : Nat × Nat} : ∀ (vs : List Value) (o : Nat) (w : World) (cs : Array Value), w.heap[b]? = some (.cells cs T fz) → o + vs.length ≤ cs.size →
    ∃ cs', (w.setCells b o vs).heap[b]? = some (.cells cs' T fz) ∧ cs'.size = cs.size ∧ (∀ j, j < o → cs'[j]? = cs[j]?) ∧ (∀ j, j < vs.length → cs'[o + j]? = vs[j]?) ∧ (∀ j, o + vs.length ≤ j → cs'[j]? = cs[j]?) ∧
      (∀ b', b' ≠ b → (w.setCells b o vs).heap[b']? = w.heap[b']?) ∧ (w.setCells b o vs).heap.size = w.heap.size ∧ (w.setCells b o vs).os = w.os ∧ (w.setCells b o vs).tape = w.tape ∧ (w.setCells b o vs).output = w.output
  | [], o, w, cs, h, _ => ⟨cs, h, rfl, fun _ _ => rfl, fun j hj => by simp at hj, fun _ _ => rfl, fun _ _ => rfl, rfl, rfl, rfl, rfl⟩
  | v :: vs, o, w, cs, h, hl => by
    have h1 : (w.setCell ⟨b, o, none⟩ v).heap[b]? = some (.cells (cs.setIfInBounds o v) T fz) := by simp [World.setCell, Array.getElem?_modify, h]
    simp only [List.length_cons] at hl
    obtain ⟨cs', g1, g2, g3, g4, g5, g6, g7, g8, g9, g10⟩ := setCells_heap vs (o + 1) (w.setCell ⟨b, o, none⟩ v) (cs.setIfInBounds o v) h1 (by simp; omega)
    refine ⟨cs', g1, by simpa using g2, fun j hj => ?_, fun j hj => ?_, fun j hj => ?_, fun b' hb' => ?_, g7.trans (by simp), g8, g9, g10⟩
    · rw [g3 j (by omega), Array.getElem?_setIfInBounds_ne (by omega)]
    · cases j with
      | zero =>
        rw [Nat.add_zero, g3 o (by omega)]
        have : o < cs.size := by omega
        simp [Array.getElem?_setIfInBounds, this]
      | succ j =>
        have := g4 j (by simpa using hj)
        rw [show o + (j + 1) = o + 1 + j by omega]
        simpa using this
    · simp only [List.length_cons] at hj
      rw [g5 j (by omega), Array.getElem?_setIfInBounds_ne (by omega)]
    · exact (g6 b' hb').trans (Below.heap_setCell w ⟨b, o, none⟩ v b' hb')

/-- What is appended: its parts, and the slot that they are taken out of. -/
def rdSrc (y : Operand) (k : List AV → Option Nat → Rd) : Rd := match y with
  | .const (.slice none 0 0) => k [] none
  | .tmp t => .get t fun v => match v with
    | .own l => k l (some t)
    | .sh l => k l none
    | .alias s q => .get s fun c => rdGetP c q fun X => match X with
      | .own l => .need (allP l = true) (k l none)
      | _ => .fail
    | _ => .fail
  | _ => .fail

/-- Where the parts of a row come from: the first n out of slot t1, the others out of slot t2. -/
def apF (t1 t2 : Option Nat) (n d : Nat) : List Nat → Option (List Nat)
  | [] => none
  | [x] => if x = d then t1.map fun t => [t] else if some x = t1 ∨ some x = t2 then none else some [x]
  | x :: k :: r => if x = d then (if k < n then t1.map fun t => t :: k :: r else t2.map fun t => t :: (k - n) :: r) else if some x = t1 ∨ some x = t2 then none else some (x :: k :: r)

theorem apF_inj {t1 t2 : Option Nat} {n d : Nat} (h : t1 = none ∨ t1 ≠ t2) : ∀ r1 r2 x, apF t1 t2 n d r1 = some x → apF t1 t2 n d r2 = some x → r1 = r2 := by
  intro r1 r2 x h1 h2
  have key : ∀ r, apF t1 t2 n d r = some x → (∃ t, t1 = some t ∧ ((r = [d] ∧ x = [t]) ∨ ∃ k s, k < n ∧ r = d :: k :: s ∧ x = t :: k :: s)) ∨ (∃ t, t2 = some t ∧ ∃ k s, n ≤ k ∧ r = d :: k :: s ∧ x = t :: (k - n) :: s) ∨
      (r = x ∧ ∃ y s, x = y :: s ∧ some y ≠ t1 ∧ some y ≠ t2) := by
    intro r hr
    rcases r with _ | ⟨y, _ | ⟨k, s⟩⟩
    · simp [apF] at hr
    · simp only [apF] at hr
      split at hr
      · rename_i hy
        cases t1 with
        | none => simp at hr
        | some t => simp at hr; exact .inl ⟨t, rfl, .inl ⟨by rw [hy], hr.symm⟩⟩
      · split at hr
        · cases hr
        · rename_i hn; injection hr with hr; exact .inr (.inr ⟨hr, y, [], hr.symm, fun e => hn (.inl e), fun e => hn (.inr e)⟩)
    · simp only [apF] at hr
      split at hr
      · rename_i hy
        split at hr
        · rename_i hk
          cases t1 with
          | none => simp at hr
          | some t => simp at hr; exact .inl ⟨t, rfl, .inr ⟨k, s, hk, by rw [hy], hr.symm⟩⟩
        · rename_i hk
          cases t2 with
          | none => simp at hr
          | some t => simp at hr; exact .inr (.inl ⟨t, rfl, k, s, by omega, by rw [hy], hr.symm⟩)
      · split at hr
        · cases hr
        · rename_i hn; injection hr with hr; exact .inr (.inr ⟨hr, y, k :: s, hr.symm, fun e => hn (.inl e), fun e => hn (.inr e)⟩)
  rcases key r1 h1 with ⟨t, ht, ⟨ha, hb⟩ | ⟨k, s, hk, ha, hb⟩⟩ | ⟨t, ht, k, s, hk, ha, hb⟩ | ⟨ha, y, s, hb, hy1, hy2⟩ <;>
    rcases key r2 h2 with ⟨t', ht', ⟨ha', hb'⟩ | ⟨k', s', hk', ha', hb'⟩⟩ | ⟨t', ht', k', s', hk', ha', hb'⟩ | ⟨ha', y', s', hb', hy1', hy2'⟩ <;>
    (subst ha; subst ha'; rw [hb] at hb'; all_goals (try (simp_all <;> omega)); all_goals (try simp_all))

theorem apF_keep (t1 t2 : Option Nat) (n d : Nat) (S : List Nat) (h1 : ∀ t, t1 = some t → t ∈ S) (h2 : ∀ t, t2 = some t → t ∈ S) : ∀ r, r ≠ [] → root r ∉ d :: S → apF t1 t2 n d r = some r := by
  intro r hr hn
  have hx : ∀ x, x ∉ d :: S → x ≠ d ∧ ¬ (some x = t1 ∨ some x = t2) := by
    intro x hx
    simp at hx
    exact ⟨hx.1, fun h => h.elim (fun e => hx.2 (h1 x e.symm)) (fun e => hx.2 (h2 x e.symm))⟩
  rcases r with _ | ⟨x, _ | ⟨k, r⟩⟩
  · exact absurd rfl hr
  · have := hx x (by simpa [root] using hn); simp [apF, this.1, this.2]
  · have := hx x (by simpa [root] using hn); simp [apF, this.1, this.2]

/-- The cells of a slice's parts. -/
theorem ORep.row {Z : Nat → Option Obj} {β : List Nat → Option Nat} {p : List Nat} {l : List AV} {v : Value} {w : World} (h : ORep Z w.heap β p (.own l) v) :
    ∃ us : Nat → Value, (∀ k, k < l.length → (us k).oneCell' = true) ∧ (∀ k (h : k < l.length), ORep Z w.heap β (p ++ [k]) l[k] (us k)) ∧
      ((l = [] ∧ v = .slice none 0 0) ∨ ∃ b c cs T, v = .slice (some ⟨b, 0, none⟩) l.length c ∧ β p = some b ∧ w.heap[b]? = some (.cells cs T (0, 0)) ∧ l.length ≤ c ∧ c = cs.size ∧ c ≤ maxLen ∧ ∀ k, k < l.length → cs[k]? = some (us k)) := by
  cases h with
  | pers h => cases h
  | nil => exact ⟨fun _ => undef, by simp, by simp, .inl ⟨rfl, rfl⟩⟩
  | own l b c cs T us hb hz h1 h2 h3 hu h4 hk => exact ⟨us, h4, hk, .inr ⟨b, c, cs, T, rfl, hb, hz, h1, h2, h3, hu⟩⟩

/-- A source of an append. -/
structure SrcOK (w : World) (v : Value) (n : Nat) (us : Nat → Value) : Prop where
  one : ∀ k, k < n → (us k).oneCell' = true
  at_ : (n = 0 ∧ ∃ A c, v = .slice A 0 c) ∨ ∃ b o c, v = .slice (some ⟨b, o, none⟩) n c ∧ ∀ k, k < n → w.cell? ⟨b, o + k, none⟩ = some (us k)

def newsOf (n : Nat) (us : Nat → Value) : List Value := (List.range n).map us

theorem newsOf_get {n : Nat} {us : Nat → Value} {k : Nat} (h : k < n) : (newsOf n us)[k]? = some (us k) := by simp [newsOf, h]

theorem SrcOK.src {P : Program} {w : World} {v : Value} {n : Nat} {us : Nat → Value} (h : SrcOK w v n us) {T E : TypeId} (hT : P.underlying T = some (.slice E)) : Src P 1 T v n (newsOf n us) w := by
  have h1 : ∀ u ∈ newsOf n us, u.oneCell' = true := by
    intro u hu
    simp only [newsOf, List.mem_map, List.mem_range] at hu
    obtain ⟨k, hk, rfl⟩ := hu
    exact h.one k hk
  rcases h.at_ with ⟨hn, A, c, hv⟩ | ⟨b, o, c, hv, hc⟩
  · subst hn
    subst hv
    cases A with
    | none => exact Src.ofNil w hT c
    | some ad => exact Src.ofSlice w hT ad 0 c [] (by simp) (by simp) (by simp)
  · subst hv
    refine Src.ofSlice w hT ⟨b, o, none⟩ n c _ (by simp [newsOf]) (fun j u hj => ?_) h1
    have hadd : (⟨b, o, none⟩ : Addr).add j = ⟨b, o + j, none⟩ := by unfold Addr.add; split <;> simp_all
    rw [hadd]
    have hjn : j < n := by have := (List.getElem?_eq_some_iff.1 hj).1; simpa [newsOf] using this
    rw [newsOf_get hjn] at hj
    injection hj with hj
    rw [← hj]; exact hc j hjn

theorem rdSrc_sound {e : Env} {y : Operand} {k : List AV → Option Nat → Rd} {ws : List Wr} (h : (rdSrc y k).Wo e ws) : ∃ m src, (k m src).Wo e ws ∧ (∀ t, src = some t → y = .tmp t ∧ e t = .own m) ∧
    ∀ {κ Z β w} {a : Act}, Rep κ Z β e (vals a) w → ∃ us, SrcOK w (a.eval y) m.length us ∧ (∀ t, src = some t → ∀ k (h : k < m.length), ORep Z w.heap β [t, k] m[k] (us k)) ∧ (src = none → ∀ k (h : k < m.length), PRep Z m[k] (us k)) := by
  cases y with
  | const v =>
    simp only [rdSrc] at h
    split at h
    · rename_i heq
      injection heq with heq
      subst heq
      exact ⟨[], none, h, by simp, fun _ => ⟨fun _ => undef, ⟨by simp, .inl ⟨rfl, _, _, rfl⟩⟩, by simp, by simp⟩⟩
    · rename_i heq; cases heq
    · exact h.elim
  | tmp t =>
    obtain ⟨hj, h⟩ := h
    cases het : e t with
    | own l =>
      simp only [het] at h
      refine ⟨l, some t, h, fun t' ht => by injection ht with ht; subst ht; exact ⟨rfl, het⟩, fun {κ Z β w a} hR => ?_⟩
      obtain ⟨us, h1, h2, h3⟩ := ORep.row (hR.slot' het (by simp))
      refine ⟨us, ⟨h1, ?_⟩, fun t' ht k hk => ?_, by simp⟩
      · rcases h3 with ⟨hl, hv⟩ | ⟨b, c, cs, T, hv, hb, hz, _, _, _, hu⟩
        · exact .inl ⟨by simp [hl], none, 0, hv⟩
        · exact .inr ⟨b, 0, c, hv, fun k hk => cell_heap hz (by simpa using hu k hk)⟩
      · injection ht with ht; subst ht; exact h2 k hk
    | sh l =>
      simp only [het] at h
      refine ⟨l, none, h, by simp, fun {κ Z β w a} hR => ?_⟩
      have hp := ORep.toP (hR.slot' het (by simp)) rfl
      rw [eval_tmp]
      generalize vals a t = v at hp
      cases hp with
      | nil A c hc => exact ⟨fun _ => undef, ⟨by simp, .inl ⟨rfl, A, c, rfl⟩⟩, by simp, by simp⟩
      | sh l b of c cs E fz us hz h1 h2 hu h3 hk => exact ⟨us, ⟨h3, .inr ⟨b, of, c, rfl, fun k hk => cell_heap (hR.zh _ _ hz) (hu k hk)⟩⟩, by simp, fun _ => hk⟩
    | alias s q =>
      simp only [het] at h
      obtain ⟨hsj, X, hl, h⟩ := h
      dsimp only at h
      split at h
      case h_2 => exact h.elim
      rename_i l
      obtain ⟨hp, h⟩ := h
      refine ⟨l, none, h, by simp, fun {κ Z β w a} hR => ?_⟩
      obtain ⟨us, h1, h2, h3⟩ := ORep.row (hR.aliasAt het _ hl rfl)
      refine ⟨us, ⟨h1, ?_⟩, by simp, fun _ k hk => ORep.toP (h2 k hk) ((allP_iff l).1 hp _ (List.getElem_mem hk))⟩
      rcases h3 with ⟨hl, hv⟩ | ⟨b, c, cs, T, hv, hb, hz, _, _, _, hu⟩
      · exact .inl ⟨by simp [hl], none, 0, hv⟩
      · exact .inr ⟨b, 0, c, hv, fun k hk => cell_heap hz (by simpa using hu k hk)⟩
    | _ => simp only [het] at h; exact h.elim
  | _ => exact h.elim

/-- What is appended to: a list held in a slot, or none. -/
def rdDst (x : Operand) (k : List AV → Option Nat → Rd) : Rd := match x with
  | .const (.slice none 0 0) => k [] none
  | .tmp t => .get t fun v => match v with
    | .own l => k l (some t)
    | _ => .fail
  | _ => .fail

def rdApp (P : Program) (T T2 d : Nat) (x y : Operand) : Rd := .need (slOK P T = true ∧ slOK P T2 = true) (rdSrc y fun m t2 => rdDst x fun l t1 => .need ((t1 = none ∨ t1 ≠ t2) ∧ l.length + m.length ≤ 1099511627776 ∧ t1 ≠ some d ∧ t2 ≠ some d)
  (.ret (srcW t1 ++ srcW t2 ++ [.set d (.own (l ++ m))])))

theorem rdDst_sound {e : Env} {x : Operand} {k : List AV → Option Nat → Rd} {ws : List Wr} (h : (rdDst x k).Wo e ws) : ∃ l src, (k l src).Wo e ws ∧ ((src = none ∧ l = [] ∧ x = .const (.slice none 0 0)) ∨ ∃ t, src = some t ∧ x = .tmp t ∧ e t = .own l) := by
  cases x with
  | const v =>
    simp only [rdDst] at h
    split at h
    · rename_i heq
      injection heq with heq
      subst heq
      exact ⟨[], none, h, .inl ⟨rfl, rfl, rfl⟩⟩
    · rename_i heq; cases heq
    · exact h.elim
  | tmp t =>
    obtain ⟨hj, h⟩ := h
    cases het : e t with
    | own l => simp only [het] at h; exact ⟨l, some t, h, .inr ⟨t, rfl, rfl, het⟩⟩
    | _ => simp only [het] at h; exact h.elim
  | _ => exact h.elim

theorem rdApp_sound {P : Program} {κ : Con} {o : Oper} {e : Env} {ws : List Wr} {T T2 d : Nat} {x y : Operand} (ho : o.op = .call { callee := .builtin .append, args := #[x, y], argTypes := #[T, T2] }) (hd : o.dst = some d) (hn : (κ.lim.1 ≤ d ∧ d < κ.lim.2)) (h : (rdApp P T T2 d x y).Wo e ws) : Does P κ o e ws := by
  obtain ⟨⟨hT, hT2⟩, h⟩ := h
  obtain ⟨m, t2, h, hs2, hsrc⟩ := rdSrc_sound h
  obtain ⟨l, t1, h, hdst⟩ := rdDst_sound h
  obtain ⟨⟨ht12, hlen, ht1d, ht2d⟩, hw⟩ := h
  have hw' : ws = _ := hw
  subst hw'
  obtain ⟨E, i, z, hu, hi, hi1, hi2, hz, hz1⟩ := slOK_spec hT
  obtain ⟨E2, i2, z2, hu2, _, _, _, _, _⟩ := slOK_spec hT2
  refine does_value hd hn fun a w Z β hR => ?_
  obtain ⟨us2, hso, hown2, hper2⟩ := hsrc hR
  have hS := hso.src (P := P) hu2
  have hrun : ∀ v w', (Builtin.append_ #[T, T2] o.type #[a.eval x, a.eval y]).run P w = .ok v w' → (execOp a.eval o).run P w = .ok (.value v) w' := by
    intro v w' hv
    simp [execOp, ho, resolve, invoke, builtin, hv]
  -- the slots that the parts come out of
  let S : List Nat := t1.toList ++ t2.toList
  have hSd : d ∉ S := by simp [S]; exact ⟨fun h => ht1d (by simp [h]), fun h => ht2d (by simp [h])⟩
  have hws : (srcW t1 ++ srcW t2 ++ [Wr.set d (.own (l ++ m))]) = (S.map fun t => Wr.set t .junk) ++ [.set d (.own (l ++ m))] := by
    cases t1 <;> cases t2 <;> rfl
  have hkeep := apF_keep t1 t2 l.length d S (by intro t ht; simp [S, ht]) (by intro t ht; simp [S, ht])
  have hinjF := apF_inj (t1 := t1) (t2 := t2) (n := l.length) (d := d) ht12
  -- what was there before
  have hold : ∃ us1 : Nat → Value, (∀ k, k < l.length → (us1 k).oneCell' = true) ∧ (∀ k (h : k < l.length), ∀ (β' : List Nat → Option Nat) (H' : Array Obj), (∀ r b, viaF (apF t1 t2 l.length d) β (d :: k :: r) = some b → β' (d :: k :: r) = some b ∧ H'[b]? = w.heap[b]?) → ORep Z H' β' [d, k] l[k] (us1 k)) ∧
      ((l = [] ∧ a.eval x = .slice none 0 0) ∨ ∃ b c cs Tb, a.eval x = .slice (some ⟨b, 0, none⟩) l.length c ∧ viaF (apF t1 t2 l.length d) β [d] = some b ∧ w.heap[b]? = some (.cells cs Tb (0, 0)) ∧ l.length ≤ c ∧ c = cs.size ∧ c ≤ maxLen ∧ ∀ k, k < l.length → cs[k]? = some (us1 k)) := by
    rcases hdst with ⟨rfl, rfl, rfl⟩ | ⟨t, rfl, rfl, het⟩
    · exact ⟨fun _ => undef, by simp, by simp, .inl ⟨rfl, rfl⟩⟩
    · obtain ⟨us, h1, h2, h3⟩ := ORep.row (hR.slot' het (by simp))
      refine ⟨us, h1, fun k hk β' H' hβ => ?_, ?_⟩
      · refine (h2 k hk).move (fun _ _ h => h) fun r b hr => ?_
        have := hβ r b (by simp [viaF, apF, hk]; simpa using hr)
        simpa using this
      · rcases h3 with ⟨hl, hv⟩ | ⟨b, c, cs, Tb, hv, hb, rest⟩
        · exact .inl ⟨hl, hv⟩
        · exact .inr ⟨b, c, cs, Tb, hv, by simp [viaF, apF]; exact hb, rest⟩
  obtain ⟨us1, hone1, hrep1, hv1⟩ := hold
  have hrep2 : ∀ k (h : k < m.length), ∀ (β' : List Nat → Option Nat) (H' : Array Obj), (∀ r b, viaF (apF t1 t2 l.length d) β (d :: (l.length + k) :: r) = some b → β' (d :: (l.length + k) :: r) = some b ∧ H'[b]? = w.heap[b]?) → ORep Z H' β' [d, l.length + k] m[k] (us2 k) := by
    intro k hk β' H' hβ
    cases hs : t2 with
    | none => exact .pers (hper2 hs k hk)
    | some t =>
      refine (hown2 t hs k hk).move (fun _ _ h => h) fun r b hr => ?_
      have := hβ r b (by
        have : ¬ (l.length + k < l.length) := by omega
        simp [viaF, apF, this, hs]; simpa using hr)
      simpa using this
  let us : Nat → Value := fun k => if k < l.length then us1 k else us2 (k - l.length)
  have hus : ∀ k, k < (l ++ m).length → (us k).oneCell' = true := by
    intro k hk
    simp only [List.length_append] at hk
    show (if k < l.length then us1 k else us2 (k - l.length)).oneCell' = true
    split
    · exact hone1 k (by assumption)
    · exact hso.one _ (by omega)
  -- the row, once its block is known
  have fin : ∀ (β' : List Nat → Option Nat) (w' : World) (b c : Nat) (cs : Array Value) (Tb : TypeId), β' [d] = some b → w'.heap[b]? = some (.cells cs Tb (0, 0)) → l.length + m.length ≤ c → c = cs.size → c ≤ maxLen → (∀ k, k < l.length + m.length → cs[k]? = some (us k)) →
      (∀ k r b, viaF (apF t1 t2 l.length d) β (d :: k :: r) = some b → β' (d :: k :: r) = some b ∧ w'.heap[b]? = w.heap[b]?) → ORep Z w'.heap β' [d] (.own (l ++ m)) (.slice (some ⟨b, 0, none⟩) (l.length + m.length) c) := by
    intro β' w' b c cs Tb hb hzb h1 h2 h3 hcs hβ
    have := ORep.own (Z := Z) (H := w'.heap) (β := β') (p := [d]) (l ++ m) b c cs Tb us hb hzb (by simpa using h1) h2 h3 (fun k hk => hcs k (by simpa using hk)) hus (fun k hk => by
      simp only [List.length_append] at hk
      by_cases hkl : k < l.length
      · rw [List.getElem_append_left hkl]
        show ORep Z w'.heap β' [d, k] l[k] (if k < l.length then us1 k else us2 (k - l.length))
        rw [if_pos hkl]
        exact hrep1 k hkl β' w'.heap (hβ k)
      · rw [List.getElem_append_right (by omega)]
        show ORep Z w'.heap β' [d, k] m[k - l.length] (if k < l.length then us1 k else us2 (k - l.length))
        rw [if_neg hkl]
        have := hrep2 (k - l.length) (by omega) β' w'.heap (by rw [show l.length + (k - l.length) = k by omega]; exact hβ k)
        rwa [show l.length + (k - l.length) = k by omega] at this)
    rw [List.length_append] at this
    exact this
  have h48 : ∀ cap, cap < l.length + m.length → Builtin.nextslicecap (l.length + m.length) cap * i.bytes ≤ 281474976710656 := by
    intro cap hc
    refine growslice_fits hc ?_
    have := Nat.mul_le_mul hlen hi2
    omega
  have h63 : ((l.length + m.length : Nat) : Int) ≤ 9223372036854775807 := by omega
  -- a new row
  have grow : ∀ (base : Option Addr) (cap : Nat), a.eval x = .slice base l.length cap → (Builtin.firstCells i.size l.length (.slice base l.length cap)).run P w.drew = .ok (newsOf l.length us1).toArray w.drew → cap < l.length + m.length →
      ∃ u w' Z' β', (execOp a.eval o).run P w = .ok (.value u) w' ∧ Rep κ Z' β' (apps ((S.map fun t => Wr.set t .junk) ++ [.set d (.own (l ++ m))]) e) (setV (vals a) d u) w' := by
    intro base cap hx hfc hc
    have hg := run_append_grow_src w T T2 o.type E i z hu hi hz base l.length cap (newsOf l.length us1) hfc (a.eval y) m.length (newsOf m.length us2) (by rw [hi1]; exact hS) hc h63 (h48 cap hc)
    have hge := grownCap_ge w (l.length + m.length) cap E
    have hle := grownCap_le_maxLen w (l.length + m.length) cap E (by unfold maxLen; omega)
    generalize hgc : grownCap w (l.length + m.length) cap E = gc at hg hge hle
    generalize hcs : ((newsOf l.length us1 ++ newsOf m.length us2).toArray ++ Builtin.zeroCells z.cells (gc - (l.length + m.length))) = cs at hg
    have hcsz : cs.size = gc := by
      rw [← hcs]; simp [newsOf, size_zeroCells, cells_one hz1]; omega
    have hck : ∀ k, k < l.length + m.length → cs[k]? = some (us k) := by
      intro k hk
      rw [← hcs]
      rw [Array.getElem?_append_left (by simp [newsOf]; omega)]
      simp only [List.getElem?_toArray]
      by_cases hkl : k < l.length
      · rw [List.getElem?_append_left (by simpa [newsOf] using hkl), newsOf_get hkl]
        simp [us, hkl]
      · rw [List.getElem?_append_right (by simp [newsOf]; omega)]
        simp only [newsOf, List.length_map, List.length_range]
        have := newsOf_get (us := us2) (show k - l.length < m.length by omega)
        simp only [newsOf] at this
        rw [this]
        simp [us, hkl]
    have hori := fin (withB (viaF (apF t1 t2 l.length d) β) d w.heap.size) (w.drew.alloc (.cells cs E)) w.heap.size gc cs E (by simp [withB]) (heap_alloc_new w.drew _) hge (by omega) hle hck (fun k r b hb => ⟨by simpa [withB] using hb, Below.heap_alloc w.drew _ b (by
      have := viaF_bo (Q := fun b => b < w.heap.size) (fun p b hp => (hR.bo p b hp).2.2) _ b hb; exact this)⟩)
    refine ⟨_, _, Z, withB (viaF (apF t1 t2 l.length d) β) d w.heap.size, hrun _ _ (by rw [hx]; exact hg), ?_⟩
    exact hR.bigParts S d (apF t1 t2 l.length d) _ _ _ rfl rfl rfl (by show w.heap.size ≤ (w.drew.alloc _).heap.size; simp) (fun b hb => Below.heap_alloc w.drew _ b hb) hkeep (.inr ⟨rfl, by show w.heap.size < (w.drew.alloc _).heap.size; simp⟩) hinjF hori (by simp)
  rw [hws]
  rcases hv1 with ⟨hl0, hx⟩ | ⟨b, c, cs, Tb, hx, hb, hzb, hlc, hcc, hcm, hcs⟩
  · subst hl0
    by_cases hm0 : m = []
    · subst hm0
      have hn := hS.newsLen
      have hap : (Builtin.append_ #[T, T2] o.type #[a.eval x, a.eval y]).run P w = .ok (.slice none 0 0) w := by
        rw [hx]
        have hl := hS.len w
        have hc := hS.cells
        simp only [List.length_nil] at hl hc
        simp [Builtin.append_, run_underlying hu, run_underlying hu2, sizeOf, typeInfo, hi, hi1, hl, hc, newsOf]
      refine ⟨_, w, Z, viaF (apF t1 t2 0 d) β, hrun _ _ hap, ?_⟩
      exact hR.bigParts S d (apF t1 t2 0 d) (.own ([] ++ [])) _ _ rfl rfl rfl (Nat.le_refl _) (fun b hb => rfl) hkeep (.inl rfl) hinjF .nil (by simp)
    · have hm1 : 0 < m.length := List.length_pos_iff.2 hm0
      refine grow none 0 hx ?_ (by simpa using hm1)
      have := run_firstCells_none (P := P) w.drew i.size 0 0 0
      simpa [newsOf] using this
  · by_cases hroom : l.length + m.length ≤ c
    · have hcell : ∀ j, j < (newsOf m.length us2).length → l.length * i.size + j < cs.size := by
        intro j hj; simp [newsOf] at hj; rw [hi1]; omega
      have hrm := run_append_room_src w T T2 o.type E i hu hi b 0 l.length c (a.eval y) m.length (newsOf m.length us2) (by rw [hi1]; exact hS) hroom (fun j hj => by
          rw [cell_of_row w b _ cs Tb (0, 0) hzb]
          have := hcell j hj
          rw [show 0 + l.length * i.size + j = l.length * i.size + j by omega]
          simp [this]) (fun j hj => by simp [World.frozen?, hzb])
      rw [hi1] at hrm
      simp only [Nat.mul_one, Nat.zero_add] at hrm
      obtain ⟨cs', g1, g2, g3, g4, g5, g6, g7, g8, g9, g10⟩ := setCells_heap (newsOf m.length us2) l.length w cs hzb (by simp [newsOf]; omega)
      have hck : ∀ k, k < l.length + m.length → cs'[k]? = some (us k) := by
        intro k hk
        by_cases hkl : k < l.length
        · rw [g3 k hkl, hcs k hkl]; simp [us, hkl]
        · have := g4 (k - l.length) (by simp [newsOf]; omega)
          rw [show l.length + (k - l.length) = k by omega] at this
          rw [this, newsOf_get (by omega)]
          simp [us, hkl]
      have hinjV := viaF_inj hinjF hR.inj
      have hori := fin (viaF (apF t1 t2 l.length d) β) (w.setCells b l.length (newsOf m.length us2)) b c cs' Tb hb g1 hroom (by omega) hcm hck (fun k r b' hb' => ⟨hb', g6 b' (by
        rintro rfl
        have := hinjV _ _ _ hb' hb
        simp at this)⟩)
      refine ⟨_, _, Z, viaF (apF t1 t2 l.length d) β, hrun _ _ (by rw [hx]; exact hrm), ?_⟩
      rw [apps_append, apps_drops]
      show Rep κ Z _ ((Wr.set d (.own (l ++ m))).app (dropS S e)) _ _
      rw [← app_set_dropC]
      have hbo := viaF_bo (f := apF t1 t2 l.length d) hR.bo
      have hbb := hbo _ _ hb
      refine hR.big (d :: S) d (by simp) _ _ g8 g9 g10 (by rw [g7]; exact Nat.le_refl _) (fun b' hn _ => g6 b' (by rintro rfl; exact hn hbb.1)) (fun _ _ h => h) (fun _ _ h => .inl h)
        (fun b' o' ho' => by rw [g6 b' (by rintro rfl; rw [hbb.2.1] at ho'; cases ho')]; exact hR.zh b' o' ho') (fun r b' hr hn hb' => ⟨by simp [viaF, hkeep r hr hn, hb'], g6 b' ?_⟩) hinjV (fun p b' hp => by have := hbo p b' hp; rw [g7]; exact this) hori (by simp)
      rintro rfl
      have h1 : viaF (apF t1 t2 l.length d) β r = some b' := by simp [viaF, hkeep r hr hn, hb']
      have := hinjV _ _ _ h1 hb
      subst this
      simp [root] at hn
    · refine grow (some ⟨b, 0, none⟩) c hx ?_ (by omega)
      rw [hi1]
      refine run_firstCells_some w.drew 1 l.length ⟨b, 0, none⟩ l.length c _ (by simp [newsOf]) (fun j v hj => ?_)
      have hjl : j < l.length := by have := (List.getElem?_eq_some_iff.1 hj).1; simpa [newsOf] using this
      rw [newsOf_get hjl] at hj
      injection hj with hj
      subst hj
      have hadd : (⟨b, 0, none⟩ : Addr).add j = ⟨b, j, none⟩ := by unfold Addr.add; split <;> simp_all
      rw [hadd]
      exact cell_heap (w := w.drew) hzb (hcs j hjl)

end Go.Proofs.Ytechllcflknnlaa
