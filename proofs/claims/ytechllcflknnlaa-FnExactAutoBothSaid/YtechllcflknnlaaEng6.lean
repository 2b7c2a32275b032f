/- Operations one by one: loads, stores, addresses, structs. No program in sight. -/
import Derived.Test.YtechllcflknnlaaEng5
namespace Go.Proofs.Ytechllcflknnlaa
set_option linter.unusedSimpArgs false
set_option linter.unusedVariables false
set_option maxRecDepth 8000
open Go Go.RowKit AV

def blk : AV → Bool
  | .own _ => true
  | .box _ => true
  | _ => false

theorem blk_own {A : AV} (h : blk A = true) : isOwn A = true := by cases A <;> simp_all [blk, isOwn]

theorem PRep.plain {Z A v} (h : PRep Z A v) : ∀ s p, A ≠ .alias s p ∧ A ≠ .valias s p ∧ A ≠ .addr s p := by
  intro s p; cases h <;> simp

theorem ORep.cell {Z : Nat → Option Obj} {H : Array Obj} {β : List Nat → Option Nat} {p : List Nat} {C A : AV} {u : Value} {k b : Nat} (h : ORep Z H β p C u) (hC : blk C = true) (hk : getP C [k] = some A) (hb : β p = some b) :
    ∃ cs T x, H[b]? = some (.cells cs T (0, 0)) ∧ cs[k]? = some x ∧ x.oneCell' = true ∧ ORep Z H β (p ++ [k]) A x := by
  cases h with
  | pers h => have := h.noOwn; rw [blk_own hC] at this; cases this
  | nil => simp [getP, kids] at hk
  | own l b' c cs T us hb' hz h1 h2 h3 hu h4 hkk =>
    rw [hb] at hb'; injection hb' with hb'; subst hb'
    simp only [getP, kids] at hk
    split at hk
    · rename_i a ha
      simp only [Option.some.injEq] at hk
      subst hk
      obtain ⟨hlt, rfl⟩ := List.getElem?_eq_some_iff.1 ha
      exact ⟨cs, T, us k, hz, hu k hlt, h4 k hlt, hkk k hlt⟩
    · cases hk
  | box l b' cs T hb' hz h1 h4 hkk =>
    rw [hb] at hb'; injection hb' with hb'; subst hb'
    simp only [getP, kids] at hk
    split at hk
    · rename_i a ha
      simp only [Option.some.injEq] at hk
      subst hk
      obtain ⟨hlt, rfl⟩ := List.getElem?_eq_some_iff.1 ha
      have hlt' : k < cs.size := by omega
      have hg : cs[k]? = some (cs.getD k undef) := by simp [hlt']
      exact ⟨cs, T, cs.getD k undef, hz, hg, h4 k hlt, hkk k hlt⟩
    · cases hk
  | agg => simp [blk] at hC
  | tup => simp [blk] at hC

theorem aggT_false {P : Program} {T : Nat} (h : aggT P T = some false) : ∃ D, P.underlying T = some D ∧ (match D with | .struct _ | .array _ _ => true | _ => false) = false := by
  unfold aggT at h
  cases hD : P.underlying T with
  | none => simp [hD] at h
  | some D => cases D <;> simp_all
theorem aggT_true {P : Program} {T : Nat} (h : aggT P T = some true) : ∃ fs, P.underlying T = some (.struct fs) := by
  unfold aggT at h
  cases hD : P.underlying T with
  | none => simp [hD] at h
  | some D => cases D <;> simp_all

section
variable {P : Program} {w : World} {T : Nat}
theorem run_isAgg_false (h : aggT P T = some false) : (isAgg T).run P w = .ok false w := by
  obtain ⟨D, hD, hm⟩ := aggT_false h
  cases D <;> simp_all [isAgg, run_underlying hD]
theorem run_isAgg_true (h : aggT P T = some true) : (isAgg T).run P w = .ok true w := by
  obtain ⟨fs, hD⟩ := aggT_true h
  simp [isAgg, run_underlying hD]
theorem szT_spec {n : Nat} (h : szT P T = some n) : ∃ i, P.info? T = some i ∧ i.size = n := by
  unfold szT at h
  cases hi : P.info? T with
  | none => simp [hi] at h
  | some i => simp [hi] at h; exact ⟨i, rfl, h⟩
theorem run_loadAt_one' {ad : Addr} {u : Value} (h : aggT P T = some false) (hc : w.cell? ad = some u) : (Instr.loadAt T (.pointer (some ad))).run P w = .ok u w := by
  simp [Instr.loadAt, Instr.sureAddr, loadVar, run_isAgg_false h, hc]
theorem run_loadAt_agg' {b : Nat} {cs : Array Value} {E fz} (h : aggT P T = some true) (hs : szT P T = some cs.size) (hc : w.heap[b]? = some (.cells cs E fz)) : (Instr.loadAt T (.pointer (some ⟨b, 0, none⟩))).run P w = .ok (.agg cs) w := by
  obtain ⟨fs, hD⟩ := aggT_true h
  have := run_loadVar_row (P := P) w b E T cs fz _ hc hD rfl hs
  simp [Instr.loadAt, Instr.sureAddr, this]
end

/-- The parts of a box are handed to slot d, all of them. -/
def mvK (t d : Nat) : List Nat → Option (List Nat)
  | [] => none
  | [x] => if x = d then none else some [x]
  | x :: k :: r => if x = d then some (t :: k :: r) else if x = t then none else some (x :: k :: r)

theorem mvK_inj (t d : Nat) : ∀ r1 r2 x, mvK t d r1 = some x → mvK t d r2 = some x → r1 = r2 := by
  intro r1 r2 x h1 h2
  rcases r1 with _ | ⟨a, _ | ⟨k, r1⟩⟩ <;> rcases r2 with _ | ⟨b, _ | ⟨j, r2⟩⟩ <;> simp only [mvK, reduceCtorEq] at h1 h2
  · split at h1 <;> split at h2 <;> simp_all
  · split at h1 <;> split at h2 <;> (try split at h2) <;> simp_all <;> subst h1 <;> simp_all
  · split at h1 <;> split at h2 <;> (try split at h1) <;> simp_all <;> subst h2 <;> simp_all
  · split at h1 <;> split at h2 <;> (try split at h1) <;> (try split at h2) <;> simp_all <;> subst h1 <;> simp_all

theorem Rep.giveBox {κ : Con} {Z : Nat → Option Obj} {β : List Nat → Option Nat} {e : Env} {val : Nat → Value} {w : World} (h : Rep κ Z β e val w) {t d : Nat} (htd : t ≠ d) {l : List AV} (he : e t = .box l) :
    ∃ β' b cs T, val t = .pointer (some ⟨b, 0, none⟩) ∧ w.heap[b]? = some (.cells cs T (0, 0)) ∧ cs.size = l.length ∧ Rep κ Z β' (apps [.set d .junk, .mod t [] (.box (l.map fun _ => .junk)), .set d (.agg l)] e) (setV val d (.agg cs)) w := by
  have hs := h.slot' he (by simp)
  generalize hv : val t = v at hs
  cases hs with
  | pers h => cases h
  | box l b cs T hb hz h1 h4 hk =>
    have h0 := h.put d (A := .junk) (u := undef) (.junk _) (by simp)
    have e1 : (Wr.set d AV.junk).app e t = .box l := by simp [Wr.app, upd, isOwn, htd, he]
    have h2 := h0.mod t [] (.box l) (.box (l.map fun _ => .junk)) (by rw [e1]; rfl) (by rw [e1]; simp) (by simp) (by rw [e1]; simp) (β' := viaF (mvK t d) β) rfl rfl rfl (Nat.le_refl _) (fun _ _ _ => rfl) (fun _ _ h => h) (fun _ _ h => .inl h) h.zh
      (fun r b hr hj hn hb => ⟨by
        rcases r with _ | ⟨x, _ | ⟨k, r⟩⟩
        · exact absurd rfl hr
        · have hxd : ¬ x = d := by rintro rfl; exact hj (by simp [root, Wr.app, upd, isOwn])
          simpa [viaF, mvK, hxd] using hb
        · have hxd : ¬ x = d := by rintro rfl; exact hj (by simp [root, Wr.app, upd, isOwn])
          have hxt : ¬ x = t := by rintro rfl; exact hn (by simp)
          simpa [viaF, mvK, hxd, hxt] using hb, rfl⟩)
      (viaF_inj (mvK_inj _ _) h.inj) (viaF_bo h.bo) (fun u hu => by
        generalize hB : AV.box l = B at hu
        cases hu with
        | pers h => subst hB; cases h
        | box l' b' cs' T' hb' hz' h1' h4' hk' =>
          injection hB with hB; subst hB
          refine .box _ b' cs' T' ?_ hz' (by simpa using h1') (fun k hk => h4' k (by simpa using hk)) (fun k hk => ?_)
          · simpa [viaF, mvK, htd] using hb'
          · simp only [List.getElem_map]; exact .pers (.junk _)
        | _ => cases hB) (by intro _ q C hq hne; simp at hq; exact absurd hq hne)
    have h3 := h2.big [d] d (by simp) (.agg l) (.agg cs) rfl rfl rfl (Nat.le_refl _) (fun _ _ _ => rfl) (fun _ _ h => h) (fun _ _ h => .inl h) h.zh (fun r b _ _ hb => ⟨hb, rfl⟩) h2.inj h2.bo (by
      refine .agg l cs h1 fun k hk' => ?_
      refine (hk k hk').move (fun _ _ h => h) fun r b hb => ⟨?_, rfl⟩
      simpa [viaF, mvK] using hb) (by simp)
    refine ⟨viaF (mvK t d) β, b, cs, T, rfl, hz, h1, ?_⟩
    rw [app_set_drop] at h3
    have : setV (setV val d undef) d (.agg cs) = setV val d (.agg cs) := by funext t; simp only [setV]; split <;> rfl
    rw [this] at h3
    exact h3

def rdLoad (P : Program) (tr : Bool) (T d : Nat) (addr : Operand) : Rd := match addr with
  | .tmp t => .peek t fun h => match h with
    | .addr s q => .need (aggT P T = some false ∧ s ≠ d) (.get s fun c => rdGetP c q.dropLast fun C => .need (blk C = true) (rdGetP c q fun A =>
        (if isP A then .ret [.set d A] else if isOwn A then (if tr then .ret [.set d .junk, .mod s q .junk, .set d A] else .ret [.set d (.alias s q)]) else .fail)))
    | .pcell _ => .get t fun v => match v with
      | .pcell x => .need (aggT P T = some false) (.ret [.set d x])
      | _ => .fail
    | .pbox _ => .get t fun v => match v with
      | .pbox l => (match aggT P T with
        | some true => .need (szT P T = some l.length) (.ret [.set d (.agg l)])
        | some false => (match l with
          | [x] => .ret [.set d x]
          | _ => .fail)
        | none => .fail)
      | _ => .fail
    | .box _ => .need (t ≠ d) (.get t fun v => match v with
      | .box l => (match aggT P T with
        | some true => .need (szT P T = some l.length) (if allP l then .ret [.set d (.agg l)] else if tr then .ret [.set d .junk, .mod t [] (.box (l.map fun _ => .junk)), .set d (.agg l)] else .ret [.set d (.valias t [])])
        | some false => (match l with
          | [x] => if isP x then .ret [.set d x] else if isOwn x then (if tr then .ret [.set d .junk, .mod t [0] .junk, .set d x] else .ret [.set d (.alias t [0])]) else .fail
          | _ => .fail)
        | none => .fail)
      | _ => .fail)
    | .alias s p => .need (s ≠ d) (.get s fun c => rdGetP c p fun X => match X with
      | .box l => (match aggT P T with
        | some true => .need (szT P T = some l.length) (if allP l then .ret [.set d (.agg l)] else .ret [.set d (.valias s p)])
        | some false => (match l with
          | [x] => if isP x then .ret [.set d x] else if isOwn x && !tr then .ret [.set d (.alias s (p ++ [0]))] else .fail
          | _ => .fail)
        | none => .fail)
      | _ => .fail)
    | _ => .fail
  | _ => .fail

theorem cell_heap {w : World} {b o : Nat} {cs : Array Value} {T fz} {u : Value} (h : w.heap[b]? = some (.cells cs T fz)) (hu : cs[o]? = some u) : w.cell? ⟨b, o, none⟩ = some u := (cell_of_row w b o cs T fz h).trans hu

theorem list_head1 {α : Type} {l : List α} {n : Nat} (h : n = l.length) (h1 : ∃ x, l = [x]) : n = 1 := by
  obtain ⟨x, rfl⟩ := h1; simpa using h

theorem rdLoad_sound {P : Program} {κ : Con} {o : Oper} {e : Env} {ws : List Wr} {tr : Bool} {T d : Nat} {x : Operand} (ho : o.op = .load T x) (hd : o.dst = some d) (hn : (κ.lim.1 ≤ d ∧ d < κ.lim.2)) (h : (rdLoad P tr T d x).Wo e ws) : Does P κ o e ws := by
  have hrun : ∀ (a : Act) (w : World) (u : Value), (Instr.loadAt T (a.eval x)).run P w = .ok u w → (execOp a.eval o).run P w = .ok (.value u) w := by
    intro a w u hu
    simp only [execOp, ho]
    rw [Sem.run_bind, hu]
    rfl
  cases x with
  | tmp t =>
    obtain ⟨hj, h⟩ := h
    refine does_value hd hn fun a w Z β hR => ?_
    cases het : e t with
    | addr s q =>
      simp only [het, head] at h
      obtain ⟨⟨hT, hsd⟩, hsj, C, hC, hCb, A, hA, h⟩ := h
      obtain ⟨q0, k, b, rfl, hv, hb⟩ := hR.addrAt het
      rw [List.dropLast_concat] at hC
      have hCo := blk_own hCb
      have hpl := plain_of_own hC hCo
      have hk : getP C [k] = some A := by rw [← getP_append q0 [k] hC]; exact hA
      obtain ⟨u0, hu0, _⟩ := ORep.place q0 (hR.slot s hpl.2) hC
      obtain ⟨cs, E, u, hz, hcu, h1, hAu⟩ := ORep.cell hu0 hCb hk (hb C hC hCo)
      have hload := hrun a w u (by rw [eval_tmp, hv]; exact run_loadAt_one' hT (cell_heap hz hcu))
      have hAu' : ORep Z w.heap β (s :: (q0 ++ [k])) A u := by simpa using hAu
      dsimp only at h
      split at h
      · rename_i hp
        have h' : ws = _ := h
        subst h'
        exact ⟨u, w, Z, β, hload, hR.put d (hAu'.toP hp) (isP_plain hp)⟩
      · split at h
        · rename_i hAo
          split at h
          · have h' : ws = _ := h
            subst h'
            obtain ⟨β', hR'⟩ := hR.giveP hsd hA hpl.2 (own_plain hAo) hsj hAu'
            exact ⟨u, w, Z, β', hload, hR'⟩
          · have h' : ws = _ := h
            subst h'
            refine ⟨u, w, Z, β, hload, hR.view d s _ u hsd fun A2 hA2 _ => ?_⟩
            rw [hA] at hA2
            injection hA2 with hA2
            exact hA2 ▸ hAu'
        · exact h.elim
    | pcell v =>
      simp only [het, head] at h
      obtain ⟨_, h⟩ := h
      simp only [het] at h
      obtain ⟨hT, h⟩ := h
      have h' : ws = _ := h
      subst h'
      have hp := ORep.toP (hR.slot' het (by simp)) rfl
      generalize hvv : vals a t = vv at hp
      cases hp with
      | pcell v b o cs E fz u hz hu h3 hk =>
        exact ⟨u, w, Z, β, hrun a w u (by rw [eval_tmp, hvv]; exact run_loadAt_one' hT (cell_heap (hR.zh _ _ hz) hu)), hR.put d hk hk.plain⟩
    | pbox l =>
      simp only [het, head] at h
      obtain ⟨_, h⟩ := h
      simp only [het] at h
      have hp := ORep.toP (hR.slot' het (by simp)) rfl
      generalize hvv : vals a t = vv at hp
      cases hp with
      | pbox l b cs E fz hz h1 h3 hk =>
        cases hT : aggT P T with
        | none => simp only [hT] at h; exact h.elim
        | some ag =>
          cases ag with
          | true =>
            simp only [hT] at h
            obtain ⟨hs, h⟩ := h
            have h' : ws = _ := h
            subst h'
            exact ⟨.agg cs, w, Z, β, hrun a w _ (by rw [eval_tmp, hvv]; exact run_loadAt_agg' hT (by rw [hs, h1]) (hR.zh _ _ hz)), hR.put d (.agg l cs h1 hk) (by simp)⟩
          | false =>
            simp only [hT] at h
            split at h
            · rename_i x
              have h' : ws = _ := h
              subst h'
              have hk0 := hk 0 (by simp)
              have hg : cs[0]? = some (cs.getD 0 undef) := by simp at h1; simp [h1]
              exact ⟨_, w, Z, β, hrun a w _ (by rw [eval_tmp, hvv]; exact run_loadAt_one' hT (cell_heap (hR.zh _ _ hz) hg)), hR.put d hk0 (PRep.plain hk0)⟩
            · exact h.elim
    | box l =>
      simp only [het, head] at h
      obtain ⟨htd, _, h⟩ := h
      simp only [het] at h
      have hs0 := hR.slot' het (by simp)
      generalize hvv : vals a t = vv at hs0
      cases hs0 with
      | pers h => cases h
      | box l b cs E hb hz h1 h4 hk =>
        cases hT : aggT P T with
        | none => simp only [hT] at h; exact h.elim
        | some ag =>
          cases ag with
          | true =>
            simp only [hT] at h
            obtain ⟨hs, h⟩ := h
            have hload := hrun a w (.agg cs) (by rw [eval_tmp, hvv]; exact run_loadAt_agg' hT (by rw [hs, h1]) hz)
            split at h
            · rename_i hp
              have h' : ws = _ := h
              subst h'
              refine ⟨.agg cs, w, Z, β, hload, hR.put d (.agg l cs h1 fun k hk' => (hk k hk').toP ((allP_iff l).1 hp _ (List.getElem_mem hk'))) (by simp)⟩
            · split at h
              · have h' : ws = _ := h
                subst h'
                obtain ⟨β', b', cs', E', hv', hz', h1', hR'⟩ := hR.giveBox htd het
                rw [hvv] at hv'
                injection hv' with hv'; injection hv' with hv'; injection hv' with hv'
                subst hv'
                rw [hz] at hz'
                injection hz' with hz'; injection hz' with hz'
                subst hz'
                exact ⟨.agg cs, w, Z, β', hload, hR'⟩
              · have h' : ws = _ := h
                subst h'
                refine ⟨.agg cs, w, Z, β, hload, hR.valiasPut d t [] _ htd fun l' hl' => ?_⟩
                rw [het] at hl'
                simp only [getP, Option.some.injEq, AV.box.injEq] at hl'
                subst hl'
                exact ⟨cs, rfl, .agg l cs h1 hk, b, _, hb, hz⟩
          | false =>
            simp only [hT] at h
            split at h
            · rename_i x
              have hk0 := hk 0 (by simp)
              have hg : cs[0]? = some (cs.getD 0 undef) := by simp at h1; simp [h1]
              have hload := hrun a w _ (by rw [eval_tmp, hvv]; exact run_loadAt_one' hT (cell_heap hz hg))
              have hgp : getP (e t) [0] = some x := by rw [het]; rfl
              split at h
              · rename_i hp
                have h' : ws = _ := h
                subst h'
                exact ⟨_, w, Z, β, hload, hR.put d (ORep.toP hk0 hp) (isP_plain hp)⟩
              · split at h
                · rename_i hAo
                  split at h
                  · have h' : ws = _ := h
                    subst h'
                    obtain ⟨β', hR'⟩ := hR.giveP (u := cs.getD 0 undef) htd hgp (by rw [het]; simp) (own_plain hAo) (by rw [het]; simp) (by simpa using hk0)
                    exact ⟨_, w, Z, β', hload, hR'⟩
                  · have h' : ws = _ := h
                    subst h'
                    refine ⟨_, w, Z, β, hload, hR.view d t _ _ htd fun A2 hA2 _ => ?_⟩
                    rw [hgp] at hA2
                    injection hA2 with hA2
                    exact hA2 ▸ (by simpa using hk0)
                · exact h.elim
            · exact h.elim
    | alias s p =>
      simp only [het, head] at h
      obtain ⟨hsd, hsj, X, hl, h⟩ := h
      dsimp only at h
      split at h
      case h_2 => exact h.elim
      rename_i l
      have hs0 := hR.aliasAt het _ hl rfl
      generalize hvv : vals a t = vv at hs0
      cases hs0 with
      | pers h => cases h
      | box l b cs E hb hz h1 h4 hk =>
        cases hT : aggT P T with
        | none => simp only [hT] at h; exact h.elim
        | some ag =>
          cases ag with
          | true =>
            simp only [hT] at h
            obtain ⟨hs, h⟩ := h
            have hload := hrun a w (.agg cs) (by rw [eval_tmp, hvv]; exact run_loadAt_agg' hT (by rw [hs, h1]) hz)
            split at h
            · rename_i hp
              have h' : ws = _ := h
              subst h'
              refine ⟨.agg cs, w, Z, β, hload, hR.put d (.agg l cs h1 fun k hk' => (hk k hk').toP ((allP_iff l).1 hp _ (List.getElem_mem hk'))) (by simp)⟩
            · have h' : ws = _ := h
              subst h'
              refine ⟨.agg cs, w, Z, β, hload, hR.valiasPut d s p _ hsd fun l' hl' => ?_⟩
              rw [hl] at hl'
              simp only [Option.some.injEq, AV.box.injEq] at hl'
              subst hl'
              exact ⟨cs, rfl, .agg l cs h1 hk, b, _, hb, hz⟩
          | false =>
            simp only [hT] at h
            split at h
            · rename_i x
              have hk0 := hk 0 (by simp)
              have hg : cs[0]? = some (cs.getD 0 undef) := by simp at h1; simp [h1]
              have hload := hrun a w _ (by rw [eval_tmp, hvv]; exact run_loadAt_one' hT (cell_heap hz hg))
              split at h
              · rename_i hp
                have h' : ws = _ := h
                subst h'
                exact ⟨_, w, Z, β, hload, hR.put d (ORep.toP hk0 hp) (isP_plain hp)⟩
              · split at h
                · have h' : ws = _ := h
                  subst h'
                  refine ⟨_, w, Z, β, hload, hR.view d s _ _ hsd fun A2 hA2 _ => ?_⟩
                  rw [getP_append p [0] hl] at hA2
                  simp only [getP, kids, List.getElem?_cons_zero, Option.some.injEq] at hA2
                  exact hA2 ▸ (by simpa using hk0)
                · exact h.elim
            · exact h.elim
    | _ => simp only [het, head] at h; exact h.elim
  | _ => exact h.elim

/-! ### Addresses -/

def rdField (P : Program) (T d : Nat) (x : Operand) (f : Nat) : Rd := match x with
  | .tmp t => match stO P T f with
    | some off => .peek t fun h => match h with
      | .box _ => .need (t ≠ d) (.ret [.set d (.addr t [off])])
      | .alias s q => .need (s ≠ d) (.get s fun c => rdGetP c q fun X => match X with
        | .box _ => .ret [.set d (.addr s (q ++ [off]))]
        | _ => .fail)
      | .pbox _ => .get t fun v => match v with
        | .pbox l => rdIdx l off fun a => .ret [.set d (.pcell a)]
        | _ => .fail
      | _ => .fail
    | none => .fail
  | _ => .fail

theorem stO_spec {P : Program} {T f off : Nat} (h : stO P T f = some off) : ∃ fs fl, P.underlying T = some (.struct fs) ∧ fs[f]? = some fl ∧ fl.offset = off ∧ szT P fl.type = some 1 ∧ aggT P fl.type = some false := by
  unfold stO at h
  split at h
  · rename_i fs hfs
    split at h
    · rename_i fl hfl
      split at h
      · rename_i hc
        injection h with h
        exact ⟨fs, fl, hfs, hfl, h, hc.1, hc.2⟩
      · cases h
    · cases h
  · cases h

theorem run_fieldAt' {P : Program} {w : World} {T f off b k : Nat} (h : stO P T f = some off) (h0 : off = 0 ∨ k = 0) : (Instr.fieldAt T (.pointer (some ⟨b, k, none⟩)) f).run P w = .ok (.pointer (some ⟨b, k + off, none⟩)) w := by
  obtain ⟨fs, fl, hu, hf, ho, hs, ha⟩ := stO_spec h
  obtain ⟨i, hi, hi1⟩ := szT_spec hs
  have hadd : (⟨b, k, none⟩ : Addr).add off = ⟨b, k + off, none⟩ := by unfold Addr.add; split <;> simp_all
  simp [Instr.fieldAt, run_underlying hu, hf, Instr.sureAddr, fieldPlace, sizeOf, typeInfo, hi, hi1, ho, hadd]

theorem rdField_sound {P : Program} {κ : Con} {o : Oper} {e : Env} {ws : List Wr} {T d f : Nat} {x : Operand} (ho : o.op = .fieldAddr T x f) (hd : o.dst = some d) (hn : (κ.lim.1 ≤ d ∧ d < κ.lim.2)) (h : (rdField P T d x f).Wo e ws) : Does P κ o e ws := by
  have hrun : ∀ (a : Act) (w : World) (u : Value), (Instr.fieldAt T (a.eval x) f).run P w = .ok u w → (execOp a.eval o).run P w = .ok (.value u) w := by
    intro a w u hu
    simp only [execOp, ho]
    rw [Sem.run_bind, hu]
    rfl
  cases x with
  | tmp t =>
    simp only [rdField] at h
    split at h
    case h_2 => exact h.elim
    rename_i off hoff
    obtain ⟨hj, h⟩ := h
    refine does_value hd hn fun a w Z β hR => ?_
    cases het : e t with
    | box l =>
      simp only [het, head] at h
      obtain ⟨htd, h⟩ := h
      have h' : ws = _ := h
      subst h'
      have hs0 := hR.slot' het (by simp)
      generalize hvv : vals a t = vv at hs0
      cases hs0 with
      | pers h => cases h
      | box l b cs E hb hz h1 h4 hk =>
        refine ⟨_, w, Z, β, hrun a w (.pointer (some ⟨b, off, none⟩)) (by rw [eval_tmp, hvv]; simpa using run_fieldAt' (b := b) (k := 0) hoff (.inr rfl)), ?_⟩
        refine hR.addrPut d t [] off b htd fun A hA hAo => ?_
        exact hb
    | alias s q =>
      simp only [het, head] at h
      obtain ⟨hsd, _, X, hl, h⟩ := h
      dsimp only at h
      split at h
      case h_2 => exact h.elim
      have h' : ws = _ := h
      subst h'
      have hs0 := hR.aliasAt het _ hl rfl
      generalize hvv : vals a t = vv at hs0
      cases hs0 with
      | pers h => cases h
      | box l b cs E hb hz h1 h4 hk =>
        refine ⟨_, w, Z, β, hrun a w (.pointer (some ⟨b, off, none⟩)) (by rw [eval_tmp, hvv]; simpa using run_fieldAt' (b := b) (k := 0) hoff (.inr rfl)), ?_⟩
        refine hR.addrPut d s q off b hsd fun A hA hAo => ?_
        exact hb
    | pbox l =>
      simp only [het, head] at h
      obtain ⟨_, h⟩ := h
      simp only [het] at h
      obtain ⟨A, hA, h⟩ := h
      have h' : ws = _ := h
      subst h'
      have hp := ORep.toP (hR.slot' het (by simp)) rfl
      generalize hvv : vals a t = vv at hp
      cases hp with
      | pbox l b cs E fz hz h1 h3 hk =>
        obtain ⟨hlt, rfl⟩ := List.getElem?_eq_some_iff.1 hA
        have hg : cs[off]? = some (cs.getD off undef) := by have : off < cs.size := by omega
                                                            simp [this]
        exact ⟨_, w, Z, β, hrun a w (.pointer (some ⟨b, off, none⟩)) (by rw [eval_tmp, hvv]; simpa using run_fieldAt' (b := b) (k := 0) hoff (.inr rfl)), hR.put d (.pcell _ b off cs E fz _ hz hg (h3 off hlt) (hk off hlt)) (by simp)⟩
    | _ => simp only [het, head] at h; exact h.elim
  | _ => exact h.elim

def rdIndex (P : Program) (T d : Nat) (x i : Operand) : Rd := match x with
  | .tmp t => .need (slOK P T = true) (rdX i fun I => match I with
    | .num _ n => .peek t fun h => match h with
      | .own _ => .need (t ≠ d) (.get t fun v => match v with
        | .own l => .need (0 ≤ n ∧ n.toNat < l.length) (.ret [.set d (.addr t [n.toNat])])
        | _ => .fail)
      | .alias s q => .need (s ≠ d) (.get s fun c => rdGetP c q fun X => match X with
        | .own l => .need (0 ≤ n ∧ n.toNat < l.length) (.ret [.set d (.addr s (q ++ [n.toNat]))])
        | _ => .fail)
      | .sh _ => .get t fun v => match v with
        | .sh l => .need (0 ≤ n) (rdIdx l n.toNat fun a => .ret [.set d (.pcell a)])
        | _ => .fail
      | _ => .fail
    | _ => .fail)
  | _ => .fail

theorem slOK_spec {P : Program} {T : Nat} (h : slOK P T = true) : ∃ E i z, P.underlying T = some (.slice E) ∧ P.info? E = some i ∧ i.size = 1 ∧ i.bytes ≤ 64 ∧ i.zero = some z ∧ z.oneCell' = true := by
  unfold slOK slE elOK at h
  cases hu : P.underlying T with
  | none => simp [hu] at h
  | some D =>
    cases D <;> simp [hu] at h
    rename_i E
    cases hi : P.info? E with
    | none => simp [hi] at h
    | some i =>
      simp [hi] at h
      obtain ⟨⟨h1, h2⟩, h3⟩ := h
      cases hz : i.zero with
      | none => simp [hz] at h3
      | some z => simp [hz] at h3; exact ⟨E, i, z, rfl, hi, h1, h2, hz, h3⟩

theorem run_indexAt' {P : Program} {w : World} {T b o len c : Nat} {k : IntKind} {n : Int} (h : slOK P T = true) (h0 : 0 ≤ n) (h1 : n.toNat < len) :
    (Instr.indexAt T (.slice (some ⟨b, o, none⟩) len c) (.int k n)).run P w = .ok (.pointer (some ⟨b, o + n.toNat, none⟩)) w := by
  obtain ⟨E, i, z, hu, hi, hi1, _, _, _⟩ := slOK_spec h
  have hadd : (⟨b, o, none⟩ : Addr).add n.toNat = ⟨b, o + n.toNat, none⟩ := by unfold Addr.add; split <;> simp_all
  have h2 : n < len := by omega
  simp [Instr.indexAt, asIntOf, run_underlying hu, h0, h2, sizeOf, typeInfo, hi, hi1, hadd]

theorem rdIndex_sound {P : Program} {κ : Con} {o : Oper} {e : Env} {ws : List Wr} {T d : Nat} {x i : Operand} (ho : o.op = .indexAddr T x i) (hd : o.dst = some d) (hn : (κ.lim.1 ≤ d ∧ d < κ.lim.2)) (h : (rdIndex P T d x i).Wo e ws) : Does P κ o e ws := by
  have hrun : ∀ (a : Act) (w : World) (u : Value), (Instr.indexAt T (a.eval x) (a.eval i)).run P w = .ok u w → (execOp a.eval o).run P w = .ok (.value u) w := by
    intro a w u hu
    simp only [execOp, ho]
    rw [Sem.run_bind, hu]
    rfl
  cases x with
  | tmp t =>
    obtain ⟨hT, h⟩ := h
    obtain ⟨I, h, -, hI⟩ := rdX_sound h
    cases I with
    | num k n =>
      obtain ⟨hj, h⟩ := h
      refine does_value hd hn fun a w Z β hR => ?_
      have hiv := hI hR rfl
      generalize hie : a.eval i = iv at hiv
      cases hiv
      cases het : e t with
      | own l =>
        simp only [het, head] at h
        obtain ⟨htd, _, h⟩ := h
        simp only [het] at h
        obtain ⟨⟨h0, h1⟩, h⟩ := h
        have h' : ws = _ := h
        subst h'
        have hs0 := hR.slot' het (by simp)
        generalize hvv : vals a t = vv at hs0
        cases hs0 with
        | pers h => cases h
        | nil => simp at h1
        | own l b c cs E us hb hz h1' h2 h3 hu h4 hk =>
          refine ⟨_, w, Z, β, hrun a w (.pointer (some ⟨b, n.toNat, none⟩)) (by rw [eval_tmp, hvv, hie]; simpa using run_indexAt' (b := b) (o := 0) (c := c) hT h0 h1), ?_⟩
          exact hR.addrPut d t [] n.toNat b htd fun A hA hAo => hb
      | alias s q =>
        simp only [het, head] at h
        obtain ⟨hsd, _, X, hl, h⟩ := h
        dsimp only at h
        split at h
        case h_2 => exact h.elim
        rename_i l
        obtain ⟨⟨h0, h1⟩, h⟩ := h
        have h' : ws = _ := h
        subst h'
        have hs0 := hR.aliasAt het _ hl rfl
        generalize hvv : vals a t = vv at hs0
        cases hs0 with
        | pers h => cases h
        | nil => simp at h1
        | own l b c cs E us hb hz h1' h2 h3 hu h4 hk =>
          refine ⟨_, w, Z, β, hrun a w (.pointer (some ⟨b, n.toNat, none⟩)) (by rw [eval_tmp, hvv, hie]; simpa using run_indexAt' (b := b) (o := 0) (c := c) hT h0 h1), ?_⟩
          exact hR.addrPut d s q n.toNat b hsd fun A hA hAo => hb
      | sh l =>
        simp only [het, head] at h
        obtain ⟨_, h⟩ := h
        simp only [het] at h
        obtain ⟨h0, A, hA, h⟩ := h
        have h' : ws = _ := h
        subst h'
        obtain ⟨hlt, rfl⟩ := List.getElem?_eq_some_iff.1 hA
        have hp := ORep.toP (hR.slot' het (by simp)) rfl
        generalize hvv : vals a t = vv at hp
        cases hp with
        | nil => simp at hlt
        | sh l b of c cs E fz us hz h1 h2 hu h3 hk =>
          exact ⟨_, w, Z, β, hrun a w (.pointer (some ⟨b, of + n.toNat, none⟩)) (by rw [eval_tmp, hvv, hie]; exact run_indexAt' hT h0 hlt), hR.put d (.pcell _ b _ cs E fz _ hz (hu _ hlt) (h3 _ hlt) (hk _ hlt)) (by simp)⟩
      | _ => simp only [het, head] at h; exact h.elim
    | _ => exact h.elim
  | _ => exact h.elim

def rdLen (P : Program) (T d : Nat) (x : Operand) : Rd := match x with
  | .tmp t => .need ((slE P T).isSome = true) (.get t fun v => match v with
    | .sh l => .ret [.set d (.num .i64 l.length)]
    | .own l => .ret [.set d (.num .i64 l.length)]
    | .alias s q => .get s fun c => rdGetP c q fun X => match X with
      | .own l => .ret [.set d (.num .i64 l.length)]
      | _ => .fail
    | _ => .fail)
  | _ => .fail

theorem slE_spec {P : Program} {T : Nat} (h : (slE P T).isSome = true) : ∃ E, P.underlying T = some (.slice E) := by
  unfold slE at h
  cases hu : P.underlying T with
  | none => simp [hu] at h
  | some D => cases D <;> simp_all

theorem ORep.len {Z H β p l v} (h : ORep Z H β p (.own l) v) : ∃ A c, v = .slice A l.length c := by
  cases h with
  | pers h => cases h
  | nil => exact ⟨_, _, rfl⟩
  | own l b c => exact ⟨_, c, rfl⟩
theorem PRep.len {Z l v} (h : PRep Z (.sh l) v) : ∃ A c, v = .slice A l.length c := by
  cases h with
  | nil => exact ⟨_, _, rfl⟩
  | sh l b o c => exact ⟨_, c, rfl⟩

theorem rdLen_sound {P : Program} {κ : Con} {o : Oper} {e : Env} {ws : List Wr} {T d : Nat} {x : Operand} (ho : o.op = .call { callee := .builtin .len, args := #[x], argTypes := #[T] }) (hd : o.dst = some d) (hn : (κ.lim.1 ≤ d ∧ d < κ.lim.2)) (h : (rdLen P T d x).Wo e ws) : Does P κ o e ws := by
  cases x with
  | tmp t =>
    obtain ⟨hT, hj, h⟩ := h
    obtain ⟨E, hE⟩ := slE_spec hT
    have hrun : ∀ (a : Act) (w : World) A n c, vals a t = .slice A n c → (execOp a.eval o).run P w = .ok (.value (.int .i64 n)) w := by
      intro a w A n c hv
      simp [execOp, ho, resolve, invoke, builtin, eval_tmp, hv, Builtin.len_, run_underlying hE, goInt]
    refine does_value hd hn fun a w Z β hR => ?_
    cases het : e t with
    | sh l =>
      simp only [het] at h
      have h' : ws = _ := h
      subst h'
      obtain ⟨A, c, hv⟩ := PRep.len (ORep.toP (hR.slot' het (by simp)) rfl)
      exact ⟨_, w, Z, β, hrun a w A _ c hv, hR.put d (.num _ _) (by simp)⟩
    | own l =>
      simp only [het] at h
      have h' : ws = _ := h
      subst h'
      obtain ⟨A, c, hv⟩ := ORep.len (hR.slot' het (by simp))
      exact ⟨_, w, Z, β, hrun a w A _ c hv, hR.put d (.num _ _) (by simp)⟩
    | alias s q =>
      simp only [het] at h
      obtain ⟨_, X, hl, h⟩ := h
      dsimp only at h
      split at h
      case h_2 => exact h.elim
      have h' : ws = _ := h
      subst h'
      obtain ⟨A, c, hv⟩ := ORep.len (hR.aliasAt het _ hl rfl)
      exact ⟨_, w, Z, β, hrun a w A _ c hv, hR.put d (.num _ _) (by simp)⟩
    | _ => simp only [het] at h; exact h.elim
  | _ => exact h.elim

end Go.Proofs.Ytechllcflknnlaa
