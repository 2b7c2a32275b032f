/- Calls that write what one argument holds. No program in sight. -/
import Derived.Test.YtechllcflknnlaaEng12
namespace Go.Proofs.Ytechllcflknnlaa
set_option linter.unusedSimpArgs false
set_option linter.unusedVariables false
set_option maxRecDepth 8000
open Go Go.RowKit AV

def toBox : AV → AV := fun A => match A with | .agg l' => .box l' | A => A

/-- How an argument that the call may write lies at (s, p): itself, or as the parts of the box there. -/
inductive GiveOK (Z : Nat → Option Obj) (H : Array Obj) (β : List Nat → Option Nat) (e : Env) (s : Nat) (p : List Nat) : AV → AV → (AV → AV) → Value → Prop
  | own {l v} (hg : getP (e s) p = some (.own l)) (h : ORep Z H β (s :: p) (.own l) v) : GiveOK Z H β e s p (.own l) (.own l) id v
  | box {l cs} (hg : getP (e s) p = some (.box l)) (h : ORep Z H β (s :: p) (.agg l) (.agg cs)) (hb : InBox H β (s :: p) cs) : GiveOK Z H β e s p (.agg l) (.box l) toBox (.agg cs)

def rdGive (x : Operand) (k : AV → Nat → List Nat → (AV → AV) → Rd) : Rd := match x with
  | .tmp t => .get t fun v => match v with
    | .alias s p => .get s fun c => rdGetP c p fun A => match A with
      | .own l => k (.own l) s p id
      | _ => .fail
    | .valias s p => .get s fun c => rdGetP c p fun X => match X with
      | .box l => k (.agg l) s p toBox
      | _ => .fail
    | .own l => k (.own l) t [] id
    | _ => .fail
  | _ => .fail

theorem rdGive_sound {e : Env} {x : Operand} {k} {ws : List Wr} (h : (rdGive x k).Wo e ws) : ∃ A0 A s p back, (k A0 s p back).Wo e ws ∧ ∀ {κ Z β w} {a : Act}, Rep κ Z β e (vals a) w → GiveOK Z w.heap β e s p A0 A back (a.eval x) := by
  cases x with
  | tmp t =>
    obtain ⟨h1, h2⟩ := h
    cases het : e t with
    | alias s p =>
      simp only [het] at h2
      obtain ⟨hsj, A, hg, h2⟩ := h2
      dsimp only at h2
      split at h2
      case h_2 => exact h2.elim
      exact ⟨_, _, _, _, _, h2, fun hR => .own hg (hR.aliasAt het _ hg rfl)⟩
    | valias s p =>
      simp only [het] at h2
      obtain ⟨hsj, X, hl, h2⟩ := h2
      dsimp only at h2
      split at h2
      case h_2 => exact h2.elim
      rename_i l
      refine ⟨_, .box l, _, _, _, h2, fun hR => ?_⟩
      obtain ⟨cs, hv, hr, hb⟩ := hR.valiasAt het l hl
      rw [eval_tmp, hv]
      exact .box hl hr hb
    | own l =>
      simp only [het] at h2
      exact ⟨_, _, _, _, _, h2, fun hR => .own (by rw [het]; rfl) (hR.slot' het (by simp))⟩
    | _ => simp only [het] at h2; exact h2.elim
  | _ => exact h.elim

/-- What a contract tells of a call that writes. -/
def rdAskE (Γ : Ctx) (f : Nat) (args : List AV) (k : AV → AV → Rd) : Rd := .ex Ctr fun c => .ex AV fun r => .ex AV fun A' => .need (Γ f = some c ∧ c.eff = true ∧ c.rel args r [A']) (k r A')

/-- A call of a function that writes what its first argument holds. -/
def rdCallE (Γ : Ctx) (d f : Nat) : List Operand → Rd
  | [] => .fail
  | x :: xs => rdGive x fun A0 s p back => rdArgs xs fun l fz => .need (fz = some []) (rdAskE Γ f (A0 :: l) fun r A' => .need (isP r = true ∧ isOwn A' = true) (.ret [.mod s p (back A'), .set d r]))

theorem ArgsOK.pers {Z : Nat → Option Obj} {H : Array Obj} {β : List Nat → Option Nat} {e : Env} : ∀ {l vs}, ArgsOK Z H β e l (some []) vs → ∀ i (h : i < l.length) (h' : i < vs.length), PRep Z l[i] vs[i] := fun {l vs} hA i hi hi' => hA.frozen (Z' := Z) (fun _ _ h => h) (by simp) i hi hi'

section
variable {κ : Con} {Z : Nat → Option Obj} {β : List Nat → Option Nat} {e : Env} {val : Nat → Value} {w : World}

/-- Which memory the call is given: what lies at (s, p) and below, as far as U tells. -/
def giveB (β : List Nat → Option Nat) (s : Nat) (p : List Nat) (U : List Nat → Bool) : List Nat → Option Nat
  | 0 :: r => if U r then β (s :: p ++ r) else none
  | _ => none

/-- The memory of the caller, with what the call left. -/
noncomputable def takeB (β β' : List Nat → Option Nat) (s : Nat) (p : List Nat) (U : List Nat → Bool) (q : List Nat) : Option Nat :=
  if (s :: p) <+: q ∧ U (q.drop (p.length + 1)) = true then β' (1 :: q.drop (p.length + 1)) else β q

theorem giveB_spec {s : Nat} {p : List Nat} {U : List Nat → Bool} {q : List Nat} {b : Nat} (h : giveB β s p U q = some b) : ∃ r, q = 0 :: r ∧ U r = true ∧ β (s :: p ++ r) = some b := by
  rcases q with _ | ⟨x, r⟩
  · cases h
  · cases x with
    | zero =>
      simp only [giveB] at h
      split at h
      · exact ⟨r, rfl, by assumption, h⟩
      · cases h
    | succ x => cases h

theorem takeB_in (β β' : List Nat → Option Nat) (s : Nat) (p : List Nat) (U : List Nat → Bool) (r : List Nat) (hr : U r = true) : takeB β β' s p U (s :: p ++ r) = β' (1 :: r) := by
  have e1 : (s :: p ++ r).drop (p.length + 1) = r := by simp
  unfold takeB
  rw [e1, if_pos ⟨by simp, hr⟩]

theorem takeB_out {β' : List Nat → Option Nat} {s : Nat} {p : List Nat} {U : List Nat → Bool} {q : List Nat} (h : ∀ r, q = s :: p ++ r → U r = false) : takeB β β' s p U q = β q := by
  unfold takeB
  rw [if_neg]
  rintro ⟨⟨r, rfl⟩, h2⟩
  have e1 : (s :: p ++ r).drop (p.length + 1) = r := by simp
  rw [e1, h r rfl] at h2
  cases h2

theorem takeB_cases (β' : List Nat → Option Nat) (s : Nat) (p : List Nat) (U : List Nat → Bool) (q : List Nat) : (∃ r, q = s :: p ++ r ∧ U r = true ∧ takeB β β' s p U q = β' (1 :: r)) ∨ ((∀ r, q = s :: p ++ r → U r = false) ∧ takeB β β' s p U q = β q) := by
  by_cases h : ∃ r, q = s :: p ++ r ∧ U r = true
  · obtain ⟨r, rfl, hr⟩ := h
    exact .inl ⟨r, rfl, hr, takeB_in _ _ _ _ _ _ hr⟩
  · have h' : ∀ r, q = s :: p ++ r → U r = false := fun r hr => by
      cases hu : U r with
      | false => rfl
      | true => exact absurd ⟨r, hr, hu⟩ h
    exact .inr ⟨h', takeB_out h'⟩

/-- The state behind a call that wrote what lies at (s, p). -/
theorem Rep.callE (h : Rep κ Z β e val w) (s : Nat) (p : List Nat) (U : List Nat → Bool) {Z' : Nat → Option Obj} {β' : List Nat → Option Nat} {w' : World} (hL : Left Z (giveB β s p U) w Z' β' w') {A A' : AV} (hg : getP (e s) p = some A) (hA : isOwn A = true) (hA' : ∀ s' p', A' ≠ .alias s' p' ∧ A' ≠ .valias s' p' ∧ A' ≠ .addr s' p')
    (hr : ∀ u, ORep Z w.heap β (s :: p) A u → ORep Z' w'.heap (takeB β β' s p U) (s :: p) A' u) : Rep κ Z' (takeB β β' s p U) ((Wr.mod s p A').app e) val w' := by
  have hpl := plain_of_own hg hA
  have hout : ∀ q b, (∀ r, q = s :: p ++ r → U r = false) → β q = some b → ∀ q', giveB β s p U q' ≠ some b := by
    intro q b hq hb q' hq'
    obtain ⟨r, rfl, hu, hr'⟩ := giveB_spec hq'
    have := h.inj _ _ _ hb hr'
    rw [hq r this] at hu
    cases hu
  have hnewB : ∀ q b, giveB β s p U q = some b → new κ b := fun q b hq => by
    obtain ⟨r, rfl, hu, hr'⟩ := giveB_spec hq
    exact (h.bo _ b hr').1
  have hnewS : ∀ b, w.heap.size ≤ b → new κ b := fun b hb => .inr (Nat.le_trans h.size hb)
  refine h.mod s p A A' hg hpl.2 hA' hpl.1 hL.os hL.tape hL.output hL.size (fun b hn hb => hL.frame b hb fun q hq => hn (hnewB q b hq)) hL.z0 (fun b o ho => ?_) hL.zh (fun r b hr0 hj hn hb => ?_) (fun p1 p2 b h1 h2 => ?_) (fun q b hq => ?_) hr (fun _ q C' hq _ hC' => getP_own_up hg hq hA hC')
  · rcases hL.zo b o ho with h1 | ⟨q, hq⟩ | h1
    · exact .inl h1
    · exact .inr (hnewB q b hq)
    · exact .inr (hnewS b h1)
  · have hno : ∀ r', r = s :: p ++ r' → U r' = false := fun r' hr' => absurd (hr' ▸ List.prefix_append _ _) hn
    exact ⟨(takeB_out hno).trans hb, hL.frame b (h.bo r b hb).2.2 (hout r b hno hb)⟩
  · rcases takeB_cases (β := β) β' s p U p1 with ⟨r1, rfl, hu1, e1⟩ | ⟨hn1, e1⟩ <;> rcases takeB_cases (β := β) β' s p U p2 with ⟨r2, rfl, hu2, e2⟩ | ⟨hn2, e2⟩ <;> rw [e1] at h1 <;> rw [e2] at h2
    · have := hL.inj _ _ _ h1 h2
      simp at this
      rw [this]
    · exfalso
      have hb := hL.bo _ _ h1
      rcases hb.1 with ⟨q, hq⟩ | hb'
      · exact hout _ _ hn2 h2 q hq
      · have := (h.bo _ _ h2).2.2; omega
    · exfalso
      have hb := hL.bo _ _ h2
      rcases hb.1 with ⟨q, hq⟩ | hb'
      · exact hout _ _ hn1 h1 q hq
      · have := (h.bo _ _ h1).2.2; omega
    · exact h.inj _ _ _ h1 h2
  · rcases takeB_cases (β := β) β' s p U q with ⟨r1, rfl, hu1, e1⟩ | ⟨hn1, e1⟩ <;> rw [e1] at hq
    · have hb := hL.bo _ _ hq
      refine ⟨?_, hb.2⟩
      rcases hb.1 with ⟨q, hq⟩ | hb'
      · exact hnewB q b hq
      · exact hnewS b hb'
    · have hb := h.bo _ _ hq
      refine ⟨hb.1, ?_, Nat.lt_of_lt_of_le hb.2.2 hL.size⟩
      cases hz : Z' b with
      | none => rfl
      | some o =>
        exfalso
        rcases hL.zo b o hz with h1 | ⟨q', hq'⟩ | h1
        · rw [hb.2.1] at h1; cases h1
        · exact hout _ _ hn1 hq q' hq'
        · omega
end

theorem own_inv {Z : Nat → Option Obj} {H : Array Obj} {β : List Nat → Option Nat} {p A b n c} (h : ORep Z H β p A (.slice (some ⟨b, 0, none⟩) n c)) (ho : isOwn A = true) : ∃ (l : List AV) (cs : Array Value) (T : TypeId) (us : Nat → Value), A = .own l ∧ n = l.length ∧ β p = some b ∧ H[b]? = some (.cells cs T (0, 0)) ∧ l.length ≤ c ∧ c = cs.size ∧ c ≤ maxLen ∧
    (∀ k, k < l.length → cs[k]? = some (us k)) ∧ (∀ k, k < l.length → (us k).oneCell' = true) ∧ ∀ k (h : k < l.length), ORep Z H β (p ++ [k]) l[k] (us k) := by
  cases h with
  | pers h => rw [h.noOwn] at ho; cases ho
  | own l b c cs T us hb hz g1 g2 g3 gu g4 gk => exact ⟨l, cs, T, us, rfl, rfl, hb, hz, g1, g2, g3, gu, g4, gk⟩

theorem own_nil_inv {Z : Nat → Option Obj} {H : Array Obj} {β : List Nat → Option Nat} {p A} (h : ORep Z H β p A (.slice none 0 0)) (ho : isOwn A = true) : A = .own [] := by
  cases h with
  | pers h => rw [h.noOwn] at ho; cases ho
  | nil => rfl

theorem agg_inv {Z : Nat → Option Obj} {H : Array Obj} {β : List Nat → Option Nat} {p A cs} (h : ORep Z H β p A (.agg cs)) (ho : isOwn A = true) : ∃ l : List AV, A = .agg l ∧ cs.size = l.length ∧ ∀ k (h : k < l.length), ORep Z H β (p ++ [k]) l[k] (cs.getD k undef) := by
  cases h with
  | pers h => rw [h.noOwn] at ho; cases ho
  | agg l cs h1 hk => exact ⟨l, rfl, h1, hk⟩

theorem toBox_plain {A : AV} (hA : isOwn A = true) : ∀ s p, toBox A ≠ .alias s p ∧ toBox A ≠ .valias s p ∧ toBox A ≠ .addr s p := by
  cases A <;> simp [isOwn] at hA <;> simp [toBox]

set_option maxHeartbeats 1000000 in
theorem rdCallE_sound {P : Program} {κ : Con} {Γ : Ctx} (hΓ : ∀ f c, Γ f = some c → CtrOK P f c) {o : Oper} {e : Env} {ws : List Wr} {d f : Nat} {xs : Array Operand} {ats} (ho : o.op = .call { callee := .value (.func f), args := xs, argTypes := ats }) (hd : o.dst = some d) (hn : κ.lim.1 ≤ d ∧ d < κ.lim.2)
    (h : (rdCallE Γ d f xs.toList).Wo e ws) : Does P κ o e ws := by
  intro Q K a w ⟨h1, h2, Z, β, hR⟩ hK
  cases hxs : xs.toList with
  | nil => rw [hxs] at h; exact h.elim
  | cons x xr =>
    rw [hxs] at h
    unfold rdCallE at h
    obtain ⟨A0, A, s, p, back, h, hgive⟩ := rdGive_sound h
    obtain ⟨l, fz, h, hargs⟩ := rdArgs_sound _ _ h
    obtain ⟨hfz, c, r, A', ⟨hc, heff, hrel⟩, ⟨hrP, hAo⟩, hw⟩ := h
    have hw' : ws = _ := hw
    subst hw'
    subst hfz
    have hG := hgive hR
    have hAr := hargs hR
    have hPa := hAr.pers
    have hlen := hAr.len
    obtain ⟨hcan, hctr⟩ := hΓ f c hc
    have hvs : (xs.map a.eval).toList = a.eval x :: xr.map a.eval := by simp [hxs]
    have hvs' : xs.map a.eval = (a.eval x :: xr.map a.eval).toArray := by rw [← hvs]
    unfold Oper.wp
    have hrun : (execOp a.eval o).run P w = .ok (.enter f (xs.map a.eval)) w := by
      simp [execOp, ho, resolve, Deferred.ofValue, eval_func, invoke, run_callFunc' hcan]
    rw [hrun, Oper.upon_enter]
    -- once it is told what lies at the place afterwards
    have main : ∀ (U : List Nat → Bool) (v : Value), a.eval x = v → ORep Z w.heap (giveB β s p U) [0] A0 v → getP (e s) p = some A → isOwn A = true → (∀ s' p', back A' ≠ .alias s' p' ∧ back A' ≠ .valias s' p' ∧ back A' ≠ .addr s' p') →
        (∀ Z' β' w', Left Z (giveB β s p U) w Z' β' w' → ORep Z' w'.heap β' [1] A' v → ∀ u, ORep Z w.heap β (s :: p) A u → ORep Z' w'.heap (takeB β β' s p U) (s :: p) (back A') u) →
        Calls P f (xs.map a.eval) w fun
        | .returned v, w'' => K (a.put o.dst v) w''
        | .panicked chain, w'' => Q (.panic chain) a w''
        | .outgrown, _ => LetsOut Q := by
      intro U v hv h0 hg hA hpl hback
      refine (hctr (A0 :: l) r [A'] hrel w Z (giveB β s p U) (xs.map a.eval) (by simp at hlen; simp [hvs', hlen]) ⟨hR.zh, fun q1 q2 b g1 g2 => ?_, fun q b g => ?_⟩ (by
        rw [heff]
        simp only [if_true]
        intro i hi
        cases i with
        | zero => rw [hvs']; simpa [hv] using h0
        | succ i =>
          have hi1 : i < l.length := by simpa using hi
          have hi2 : i < (xr.map a.eval).length := by rw [hlen]; exact hi1
          have := hPa i hi1 hi2
          have e1 : (xs.map a.eval).getD (i + 1) undef = (xr.map a.eval)[i] := by
            rw [hvs']; simp at hi2; simp [hi2]
          rw [e1]
          exact .pers (by simpa using this))).mono ?_
      · obtain ⟨r1, rfl, _, e1⟩ := giveB_spec g1
        obtain ⟨r2, rfl, _, e2⟩ := giveB_spec g2
        have := hR.inj _ _ _ e1 e2
        simp at this
        rw [this]
      · obtain ⟨r1, rfl, _, e1⟩ := giveB_spec g
        exact (hR.bo _ _ e1).2
      · rintro en w' ⟨vr, Z', β', rfl, hL, hr, ha'⟩
        have hA1 := ha' 0 (by simp)
        simp only [List.getElem_cons_zero] at hA1
        have e0 : (xs.map a.eval).getD 0 undef = v := by rw [hvs']; simp [hv]
        rw [e0] at hA1
        have hR1 := hR.callE s p U hL hg hA hpl (hback Z' β' w' hL hA1)
        have hR2 := hR1.put d (ORep.toP hr hrP) (isP_plain hrP)
        show K (a.put o.dst vr) w'
        rw [hd]
        refine hK _ _ ⟨h1, keep_put hn h2, Z', takeB β β' s p U, ?_⟩
        rw [vals_put (by omega)]
        exact hR2
    clear h hw hgive hargs
    generalize hvx : a.eval x = v at hG
    cases hG with
    | @own l0 v hg h0 =>
      by_cases hnil : v = .slice none 0 0
      · subst hnil
        have hl0 : AV.own l0 = .own [] := own_nil_inv h0 rfl
        injection hl0 with hl0
        subst hl0
        refine main (fun _ => false) _ hvx .nil hg rfl (own_plain hAo) fun Z' β' w' hL hA1 u hu => ?_
        have hA'' : A' = .own [] := own_nil_inv hA1 hAo
        rw [hA'']
        have hbt : ∀ q, takeB β β' s p (fun _ => false) q = β q := fun q => takeB_out fun _ _ => rfl
        refine hu.move hL.z0 fun r b hb => ⟨(hbt _).trans hb, hL.frame b (hR.bo _ b hb).2.2 fun q hq => ?_⟩
        obtain ⟨_, _, hf, _⟩ := giveB_spec hq
        cases hf
      · refine main (fun _ => true) v hvx (h0.move (fun _ _ h => h) fun r b hb => ⟨by simpa [giveB] using hb, rfl⟩) hg rfl (own_plain hAo) fun Z' β' w' hL hA1 u hu => ?_
        cases h0 with
        | pers h => cases h
        | nil => exact absurd rfl hnil
        | own l b c cs T us hb hz g1 g2 g3 gu g4 gk =>
          obtain ⟨l', cs', T', us', hA2, e2, hb', hz', g1', g2', g3', gu', g4', gk'⟩ := own_inv hA1 hAo
          show ORep Z' w'.heap _ (s :: p) A' u
          rw [hA2]
          cases hu with
          | pers h => cases h
          | nil =>
            have : l' = [] := List.length_eq_zero_iff.1 e2.symm
            rw [this]
            exact .nil
          | own l b2 c2 cs2 T2 us2 hb2 hz2 k1 k2 k3 ku k4 kk =>
            rw [hb] at hb2
            injection hb2 with hb2
            subst hb2
            rw [hz] at hz2
            injection hz2 with hz2
            injection hz2 with hz2 hz3
            subst hz2
            rw [show c2 = c by rw [k2, g2], e2]
            refine .own l' b c cs' T' us' ?_ hz' g1' g2' g3' gu' g4' fun k hk => ?_
            · have := takeB_in β β' s p (fun _ => true) [] rfl
              rw [List.append_nil] at this
              rw [this]; exact hb'
            · refine (gk' k hk).move (fun _ _ h => h) fun r b hr => ⟨?_, rfl⟩
              have := takeB_in β β' s p (fun _ => true) (k :: r) rfl
              rw [show s :: p ++ [k] ++ r = s :: p ++ k :: r by simp, this]
              simpa using hr
    | @box l0 cs hg h0 hib =>
      obtain ⟨b, T, hb, hz⟩ := hib
      have key : cs.size = l0.length ∧ ∀ k (h : k < l0.length), ORep Z w.heap β (s :: p ++ [k]) l0[k] (cs.getD k undef) := by
        cases h0 with
        | pers h => cases h with | agg l cs h1 hk => exact ⟨h1, fun k h => .pers (hk k h)⟩
        | agg l cs h1 hk => exact ⟨h1, hk⟩
      obtain ⟨hcs, hk0⟩ := key
      refine main (fun r => !r.isEmpty) _ hvx (.agg l0 cs hcs fun k hk => (hk0 k hk).move (fun _ _ h => h) fun r b hb => ⟨by simpa [giveB] using hb, rfl⟩) hg rfl (toBox_plain hAo) fun Z' β' w' hL hA1 u hu => ?_
      cases hu with
      | pers h => cases h
      | box l b2 cs2 T2 hb2 hz2 k1 k4 kk =>
        rw [hb] at hb2
        injection hb2 with hb2
        subst hb2
        rw [hz] at hz2
        injection hz2 with hz2
        injection hz2 with hz2 hz3
        subst hz2
        have hfr : w'.heap[b]? = w.heap[b]? := hL.frame b (hR.bo _ b hb).2.2 fun q hq => by
          obtain ⟨r, rfl, hur, hr⟩ := giveB_spec hq
          have := hR.inj _ _ _ hb hr
          cases r with
          | nil => simp at hur
          | cons k r => simp at this
        have hbt : takeB β β' s p (fun r => !r.isEmpty) (s :: p) = some b := by
          rw [takeB_out (fun r hr => by
            cases r with
            | nil => rfl
            | cons k r => simp at hr)]
          exact hb
        obtain ⟨l', rfl, h1, hk⟩ := agg_inv hA1 hAo
        refine .box l' b cs T hbt (hfr.trans hz) h1 (fun k hk' => k4 k (by omega)) fun k hk' => (hk k hk').move (fun _ _ h => h) fun r b' hr => ⟨?_, rfl⟩
        have := takeB_in β β' s p (fun r => !r.isEmpty) (k :: r) rfl
        rw [show s :: p ++ [k] ++ r = s :: p ++ k :: r by simp, this]
        simpa using hr

/-- Whether a function's contract lets it write. -/
def isE (Γ : Ctx) (f : Nat) : Bool := match Γ f with
  | some c => c.eff
  | none => false

def rdCallX (Γ : Ctx) (d : Nat) (g : Operand) (xs : List Operand) : Rd := match g with
  | .func f => if isE Γ f then rdCallE Γ d f xs else rdCall Γ d (.func f) xs
  | g => rdCall Γ d g xs

theorem rdCallX_sound {P : Program} {κ : Con} {Γ : Ctx} (hΓ : ∀ f c, Γ f = some c → CtrOK P f c) {o : Oper} {e : Env} {ws : List Wr} {d : Nat} {g : Operand} {xs : Array Operand} {ats} (ho : o.op = .call { callee := .value g, args := xs, argTypes := ats }) (hd : o.dst = some d) (hn : κ.lim.1 ≤ d ∧ d < κ.lim.2)
    (h : (rdCallX Γ d g xs.toList).Wo e ws) : Does P κ o e ws := by
  cases g with
  | func f =>
    simp only [rdCallX] at h
    split at h
    · exact rdCallE_sound hΓ ho hd hn h
    · exact rdCall_sound hΓ ho hd hn h
  | _ => exact rdCall_sound hΓ ho hd hn h

end Go.Proofs.Ytechllcflknnlaa
