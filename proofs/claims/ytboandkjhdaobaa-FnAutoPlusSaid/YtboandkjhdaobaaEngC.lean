/- Closures that write a box that they have captured. No program in sight. -/
import Derived.Test.YtboandkjhdaobaaGrpJ
namespace Go.Proofs.Ytboandkjhdaobaa
set_option linter.unusedSimpArgs false
set_option linter.unusedVariables false
set_option maxRecDepth 8000
set_option maxHeartbeats 2000000
open Go Go.RowKit AV

theorem CW.raise {P : Program} {κ : Con} {c : Code} {Q : QA} {e : Env} (m : Nat) (hm : κ.lim.1 ≤ m ∧ m ≤ κ.lim.2) (h : ∀ κ' : Con, κ'.lim = (m, κ.lim.2) → CW P κ' c Q e) : CW P κ c Q e := by
  intro a w ⟨h1, h2, Z, β, hR⟩
  let κ' : Con := ⟨κ.W0, κ.Z0, κ.O0, vals a, (m, κ.lim.2)⟩
  have hR' : Rep κ' Z β e (vals a) w := ⟨hR.os, hR.tape, hR.output, hR.size, hR.frame, hR.z0, hR.zo, hR.zh, hR.inj, hR.bo, hR.reps⟩
  refine wp_mono (h κ' rfl a w ⟨h1, ⟨h2.1, fun _ _ => rfl⟩, Z, β, hR'⟩) fun x a' w' ⟨e', hq, g1, g2, Z', β', hR2⟩ => ⟨e', hq, g1, ⟨g2.1, fun t ht => ?_⟩, Z', β', ⟨hR2.os, hR2.tape, hR2.output, hR2.size, hR2.frame, hR2.z0, hR2.zo, hR2.zh, hR2.inj, hR2.bo, hR2.reps⟩⟩
  rw [g2.2 t (Nat.lt_of_lt_of_le ht hm.1)]
  exact h2.2 t ht

noncomputable def rdArgC (x : Operand) (k : AV → Rd) : Rd := match x with
  | .tmp t => .get t fun v => match v with
    | .valias s p => .get s fun c => rdGetP c p fun X => match X with
      | .box l => .need (allP l = true) (k (.agg (viewL l)))
      | _ => .fail
    | v => .need (isP v = true) (k v)
  | .const v => .need (cst v ≠ .junk ∧ isP (cst v) = true) (k (cst v))
  | _ => .fail

theorem rdArgC_sound {e : Env} {x : Operand} {k} {ws : List Wr} (h : (rdArgC x k).Wo e ws) : ∃ A, (k A).Wo e ws ∧ ∀ {κ Z β w} {a : Act}, Rep κ Z β e (vals a) w → PRep Z A (a.eval x) := by
  cases x with
  | tmp t =>
    obtain ⟨hj, h⟩ := h
    cases het : e t with
    | valias s p =>
      simp only [het] at h
      obtain ⟨hsj, X, hl, h⟩ := h
      dsimp only at h
      split at h
      case h_2 => exact h.elim
      rename_i l
      obtain ⟨hp, h⟩ := h
      refine ⟨_, h, fun hR => ?_⟩
      obtain ⟨cs, hv, hr, _⟩ := hR.valiasAt het l hl
      rw [eval_tmp, hv]
      have := (ORep.toP hr hp).view
      simpa only [AV.view] using this
    | _ =>
      simp only [het] at h
      obtain ⟨hp, h⟩ := h
      first
        | (exfalso; simp [isP] at hp; done)
        | exact ⟨_, h, fun hR => ORep.toP (hR.slot' het (by simp)) hp⟩
  | const v =>
    obtain ⟨⟨h1, h2⟩, h⟩ := h
    exact ⟨_, h, fun {κ Z β w a} hR => ORep.toP (cst_rep (Z := Z) (H := w.heap) (β := β) [] v h1) h2⟩
  | _ => exact h.elim

noncomputable def rdArgsC : List Operand → (List AV → Rd) → Rd
  | [], k => k []
  | x :: xs, k => rdArgC x fun A => rdArgsC xs fun l => k (A :: l)

theorem rdArgsC_sound {e : Env} {ws : List Wr} : ∀ (xs : List Operand) (k), (rdArgsC xs k).Wo e ws → ∃ l, l.length = xs.length ∧ (k l).Wo e ws ∧ ∀ {κ Z β w} {a : Act}, Rep κ Z β e (vals a) w → ∀ i (h : i < l.length) (h' : i < (xs.map a.eval).length), PRep Z l[i] (xs.map a.eval)[i]
  | [], k, h => ⟨[], rfl, h, fun _ i h => by simp at h⟩
  | x :: xs, k, h => by
    obtain ⟨A, h, h1⟩ := rdArgC_sound h
    obtain ⟨l, hl, h, h2⟩ := rdArgsC_sound xs _ h
    refine ⟨_, by simp [hl], h, fun hR i hi hi' => ?_⟩
    cases i with
    | zero => exact h1 hR
    | succ i => exact h2 hR i (by simpa using hi) (by simpa using hi')

noncomputable def rdMkC (κ : Con) (s d f : Nat) : Rd := .get s fun c => match c with
  | .box _ => .need (s < κ.lim.1 ∧ d ≠ s) (.ret [.set d (.fn f [.pin .junk (κ.V0 s)])])
  | _ => .fail

theorem rdMkC_sound {P : Program} {κ : Con} {o : Oper} {e : Env} {ws : List Wr} {s d f : Nat} (ho : o.op = .makeFunc (.func f) #[] #[.tmp s]) (hd : o.dst = some d) (hn : κ.lim.1 ≤ d ∧ d < κ.lim.2) (h : (rdMkC κ s d f).Wo e ws) : Does P κ o e ws := by
  intro Q K a w hs hK
  obtain ⟨hj, h⟩ := h
  dsimp only at h
  split at h
  case h_2 => exact h.elim
  rename_i l0 hes
  obtain ⟨⟨hs1, hds⟩, hw⟩ := h
  have hw' : ws = _ := hw
  subst hw'
  have hv8 : vals a s = κ.V0 s := hs.2.1.2 s hs1
  obtain ⟨h1, h2, Z, β, hR⟩ := hs
  have hrun : (execOp a.eval o).run P w = .ok (.value (.func (.func f) #[] #[κ.V0 s])) w := by
    simp [execOp, ho, Instr.makeFunc, eval_tmp, hv8]
  unfold Oper.wp
  rw [hrun, Oper.upon_value, hd]
  refine hK _ _ ⟨h1, keep_put hn h2, Z, β, ?_⟩
  rw [vals_put (by omega)]
  refine hR.put d (.fn f [.pin .junk (κ.V0 s)] #[κ.V0 s] rfl fun k hk => ?_) (by simp)
  have : k = 0 := by simpa using hk
  subst this
  exact .pin _ _ (.junk _)

noncomputable def rdCallC (Γ : Ctx) (κ : Con) (s d t : Nat) (xs : List Operand) : Rd := .get t fun v => match v with
  | .fn f [.pin .junk u] => .get s fun c => match c with
    | .box l0 => rdArgsC xs fun l => .ex Ctr fun ct => .ex (List AV) fun l1 => .need (u = κ.V0 s ∧ s < κ.lim.1 ∧ Γ f = some ct ∧ ct.eff = true ∧ ct.rel (l ++ [.box l0]) (.tup []) (l ++ [.box l1])) (.ret [.mod s [] (.box l1), .set d (.tup [])])
    | _ => .fail
  | _ => .fail

def capB (β : List Nat → Option Nat) (s n : Nat) : List Nat → Option Nat
  | x :: r => if x = n then β (s :: r) else none
  | [] => none
def outC (β' : List Nat → Option Nat) (n : Nat) : List Nat → Option Nat
  | 0 :: r => β' (0 :: r)
  | 1 :: r => β' ((n + 1) :: r)
  | _ => none
theorem capB_spec {β : List Nat → Option Nat} {s n : Nat} {q : List Nat} {b : Nat} (h : capB β s n q = some b) : ∃ r, q = n :: r ∧ β (s :: r) = some b := by
  cases q with
  | nil => cases h
  | cons x r =>
    simp only [capB] at h
    split at h
    · rename_i e; subst e; exact ⟨r, rfl, h⟩
    · cases h
theorem outC_spec {β' : List Nat → Option Nat} {n : Nat} {q : List Nat} {b : Nat} (h : outC β' n q = some b) : (∃ r, q = 0 :: r ∧ β' (0 :: r) = some b) ∨ ∃ r, q = 1 :: r ∧ β' ((n + 1) :: r) = some b := by
  unfold outC at h
  split at h
  · exact .inl ⟨_, rfl, h⟩
  · exact .inr ⟨_, rfl, h⟩
  · cases h
theorem rdCallC_sound {P : Program} {κ : Con} {Γ : Ctx} (hΓ : ∀ f c, Γ f = some c → CtrOK P f c) {o : Oper} {e : Env} {ws : List Wr} {s d t : Nat} {xs : Array Operand} {ats} (ho : o.op = .call { callee := .value (.tmp t), args := xs, argTypes := ats }) (hd : o.dst = some d) (hn : κ.lim.1 ≤ d ∧ d < κ.lim.2)
    (h : (rdCallC Γ κ s d t xs.toList).Wo e ws) : Does P κ o e ws := by
  intro Q K a w ⟨h1, h2, Z, β, hR⟩ hK
  obtain ⟨hj, h⟩ := h
  dsimp only at h
  split at h
  case h_2 => exact h.elim
  rename_i f u het
  obtain ⟨hjs, h⟩ := h
  dsimp only at h
  split at h
  case h_2 => exact h.elim
  rename_i l0 hes
  obtain ⟨l, hll, h, hargs⟩ := rdArgsC_sound _ _ h
  obtain ⟨ct, l1, ⟨hu, hs, hc, heff, hrel⟩, hw⟩ := h
  have hw' : ws = _ := hw
  subst hw'
  subst hu
  obtain ⟨hcan, hctr⟩ := hΓ f ct hc
  have hv8 : vals a s = κ.V0 s := h2.2 s hs
  obtain ⟨cs, hv, hcs, hck⟩ := PRep.fnv (ORep.toP (hR.slot' het (by simp)) rfl)
  have hc0 : cs.getD 0 undef = κ.V0 s := by
    have := hck 0 (by simp)
    simp only [List.getElem_cons_zero] at this
    generalize cs.getD 0 undef = x at this
    cases this
    rfl
  have hcs1 : cs.size = 1 := by simpa using hcs
  have hPa := hargs hR
  have hxl : xs.size = l.length := by rw [hll]; simp
  have hO := hR.slot' hes (by simp)
  rw [hv8] at hO
  obtain ⟨b0, hb0⟩ : ∃ b, κ.V0 s = .pointer (some ⟨b, 0, none⟩) ∧ β [s] = some b := by
    generalize κ.V0 s = x at hO
    cases hO with
    | pers h => cases h
    | box l b cs T hb hz g1 g4 gk => exact ⟨b, rfl, hb⟩
  have hrun : (execOp a.eval o).run P w = .ok (.enter f (xs.map a.eval ++ cs)) w := by
    simp [execOp, ho, resolve, Deferred.ofValue, eval_tmp, hv, invoke, run_callFunc' hcan]
  have hval : ∀ i (h : i < l.length), (xs.map a.eval ++ cs).getD i undef = (xs.toList.map a.eval)[i]'(by simp; omega) := fun i hi => by
    have : i < (xs.map a.eval).size := by simp; omega
    simp [Array.getD_eq_getD_getElem?, Array.getElem?_append_left this, show i < xs.size by omega]
  have hvaln : (xs.map a.eval ++ cs).getD l.length undef = κ.V0 s := by
    rw [← hc0]
    simp [Array.getD_eq_getD_getElem?, Array.getElem?_append_right, hxl]
  unfold Oper.wp
  rw [hrun, Oper.upon_enter]
  refine (hctr (l ++ [.box l0]) (.tup []) (l ++ [.box l1]) hrel w Z (capB β s l.length) (xs.map a.eval ++ cs) (by simp [hcs1, hxl]) ⟨hR.zh, fun p q b g1 g2 => ?_, fun p b g => ?_⟩ (by
    rw [heff]
    simp only [if_true]
    intro i hi
    by_cases hil : i < l.length
    · rw [List.getElem_append_left hil, hval i hil]
      exact .pers (hPa i hil (by simp; omega))
    · have : i = l.length := by simp at hi; omega
      subst this
      rw [List.getElem_append_right (Nat.le_refl _), hvaln]
      simp only [Nat.sub_self, List.getElem_cons_zero]
      exact hO.move (fun _ _ h => h) fun r b hb => ⟨by simpa [capB] using hb, rfl⟩)).mono ?_
  · obtain ⟨r1, rfl, e1⟩ := capB_spec g1
    obtain ⟨r2, rfl, e2⟩ := capB_spec g2
    have := hR.inj _ _ _ e1 e2
    simp at this
    rw [this]
  · obtain ⟨r1, rfl, e1⟩ := capB_spec g
    exact (hR.bo _ _ e1).2
  · rintro en w' ⟨vr, Z', β', rfl, hL, hr, ha'⟩
    have hA1 := ha' l.length (by simp)
    rw [hvaln] at hA1
    have eL : (l ++ [AV.box l1])[l.length]'(by simp) = .box l1 := by simp
    rw [eL] at hA1
    have hL2 : Left Z (giveB β s [] (fun _ => true)) w Z' (outC β' l.length) w' := by
      refine ⟨hL.os, hL.tape, hL.output, hL.size, fun b hb hn' => hL.frame b hb fun q hq => ?_, hL.z0, fun b o' ho' => ?_, hL.zh, fun p q b g1 g2 => ?_, fun p b g => ?_⟩
      · obtain ⟨r, rfl, e1⟩ := capB_spec hq
        exact hn' (0 :: r) e1
      · rcases hL.zo b o' ho' with g | ⟨q, g⟩ | g
        · exact .inl g
        · obtain ⟨r, rfl, e1⟩ := capB_spec g
          exact .inr (.inl ⟨0 :: r, e1⟩)
        · exact .inr (.inr g)
      · rcases outC_spec g1 with ⟨r1, rfl, e1⟩ | ⟨r1, rfl, e1⟩ <;> rcases outC_spec g2 with ⟨r2, rfl, e2⟩ | ⟨r2, rfl, e2⟩ <;> (have := hL.inj _ _ _ e1 e2; simp at this)
        · rw [this]
        · rw [this]
      · have key : ∀ p', β' p' = some b → ((∃ q, giveB β s [] (fun _ => true) q = some b) ∨ w.heap.size ≤ b) ∧ Z' b = none ∧ b < w'.heap.size := fun p' g' => by
          have hb := hL.bo _ _ g'
          refine ⟨?_, hb.2⟩
          rcases hb.1 with ⟨q, hq⟩ | hb'
          · obtain ⟨r, rfl, e1⟩ := capB_spec hq
            exact .inl ⟨0 :: r, e1⟩
          · exact .inr hb'
        rcases outC_spec g with ⟨r1, rfl, e1⟩ | ⟨r1, rfl, e1⟩
        · exact key _ e1
        · exact key _ e1
    have hA2 : ORep Z' w'.heap (outC β' l.length) [1] (.box l1) (κ.V0 s) := hA1.move (fun _ _ h => h) fun r b hb => ⟨by simpa [outC] using hb, rfl⟩
    have hR1 := hR.callE s [] (fun _ => true) hL2 (A := .box l0) (A' := .box l1) (by rw [hes]; rfl) rfl (by simp) fun u hu => by
      have hu' : u = κ.V0 s := by
        cases hu with
        | pers h => cases h
        | box l b cs T hb hz g1 g4 gk =>
          rw [hb0.2] at hb
          injection hb with hb
          rw [hb0.1, hb]
      rw [hu']
      refine hA2.move (fun _ _ h => h) fun r b hb => ⟨?_, rfl⟩
      have := takeB_in β (outC β' l.length) s [] (fun _ => true) r rfl
      rw [show s :: [] ++ r = s :: ([] ++ r) from rfl] at this
      rw [show [s] ++ r = s :: ([] ++ r) from rfl, this]
      simpa using hb
    show K (a.put o.dst vr) w'
    rw [hd]
    have hR2 := hR1.put d (ORep.toP hr rfl) (by simp)
    refine hK _ _ ⟨h1, keep_put hn h2, Z', takeB β (outC β' l.length) s [] (fun _ => true), ?_⟩
    rw [vals_put (by omega)]
    exact hR2

inductive CapOp where
  | call (d t : Nat) (xs : List Operand)
  | mk (d f : Nat)
  | other
def capOf (s : Nat) (o : Oper) : CapOp := match o.dst, o.guard, o.op with
  | some d, none, .call c => (match c.callee with
    | .value (.tmp t) => .call d t c.args.toList
    | _ => .other)
  | some d, none, .makeFunc (.func f) fs xs => (match fs.toList, xs.toList with
    | [], [.tmp s'] => if s' = s then .mk d f else .other
    | _, _ => .other)
  | _, _, _ => .other

noncomputable def rdGC (P : Program) (Γ : Ctx) (κ : Con) (s : Nat) (tl : List Nat) (ops : Array Oper) (o : Oper) : Rd := match capOf s o with
  | .call d t xs => rdCallC Γ κ s d t xs
  | .mk d f => rdMkC κ s d f
  | .other => rdG P Γ tl ops o

theorem rdGC_sound {P : Program} {κ : Con} {Γ : Ctx} (hΓ : ∀ f c, Γ f = some c → CtrOK P f c) {s : Nat} {tl : List Nat} {ops : Array Oper} {o : Oper} {e : Env} {ws : List Wr} (hn : ∀ d, o.dst = some d → (κ.lim.1 ≤ d ∧ d < κ.lim.2)) (h : (rdGC P Γ κ s tl ops o).Wo e ws) : Steps1 P κ ops o e ws := by
  unfold rdGC at h
  split at h
  · rename_i d t xs hm
    unfold capOf at hm
    split at hm
    · rename_i d' c g1 g2 g3
      split at hm
      · rename_i t' g4
        injection hm with e1 e2 e3
        subst e1 e2 e3
        intro Q K a w hs hK
        have hw : Region.wanted o (yielded ops a.tmps) = true := by simp [Region.wanted, g2]
        rw [if_pos hw]
        refine .inl (rdCallC_sound hΓ (o := o) (xs := c.args) (ats := c.argTypes) ?_ g1 (hn _ g1) h Q K a w hs hK)
        rw [g3]
        obtain ⟨cal, args, ats⟩ := c
        dsimp only at g4 ⊢
        rw [g4]
      · cases hm
    · split at hm
      · split at hm <;> cases hm
      · cases hm
    · cases hm
  · rename_i d f hm
    unfold capOf at hm
    split at hm
    · split at hm <;> cases hm
    · rename_i d' f' fs xs g1 g2 g3
      split at hm
      · rename_i s' g4 g5
        split at hm
        · rename_i g6
          subst g6
          injection hm with e1 e2
          subst e1 e2
          intro Q K a w hs hK
          have hw : Region.wanted o (yielded ops a.tmps) = true := by simp [Region.wanted, g2]
          rw [if_pos hw]
          refine .inl (rdMkC_sound (o := o) ?_ g1 (hn _ g1) h Q K a w hs hK)
          rw [g3]
          have e1 : fs = #[] := by rw [← Array.toArray_toList (xs := fs), g4]
          have e2 : xs = #[.tmp s'] := by rw [← Array.toArray_toList (xs := xs), g5]
          rw [e1, e2]
        · cases hm
      · cases hm
    · cases hm
  · exact rdG_sound hΓ hn h

def wpOpsC (P : Program) (Γ : Ctx) (κ : Con) (s : Nat) (tl : List Nat) (ops : Array Oper) : List Oper → Env → (Env → Prop) → Prop
  | [], e, K => K e
  | o :: rest, e, K => (rdGC P Γ κ s tl ops o).W e fun ws => wpOpsC P Γ κ s tl ops rest (apps ws e) K

theorem wpOpsC_sound {P : Program} {κ : Con} {Γ : Ctx} (hΓ : ∀ f c, Γ f = some c → CtrOK P f c) {s : Nat} {tl : List Nat} {ops : Array Oper} {Q : Exit → Act → World → Prop} {K : Env → Prop} (hK : ∀ e a w, K e → St κ e a w → Q .normal a w) :
    ∀ (l : List Oper) (e : Env) (a : Act) (w : World), dstOK κ.lim l = true → wpOpsC P Γ κ s tl ops l e K → St κ e a w → wpList P ops Q l a w
  | [], e, a, w, _, h, hs => hK e a w h hs
  | o :: rest, e, a, w, hd, h, hs => by
    obtain ⟨ws, hw, h⟩ := Rd.W.wo h
    have hn := dstOK_spec hd (List.mem_cons_self ..)
    have hd' : dstOK κ.lim rest = true := by simp only [dstOK, List.all_cons, Bool.and_eq_true] at hd; exact hd.2
    have := rdGC_sound hΓ hn hw Q (wpList P ops Q rest) a w hs fun a' w' hs' => wpOpsC_sound hΓ hK rest _ a' w' hd' h hs'
    unfold wpList
    exact this

def KOpsC (P : Program) (Γ : Ctx) (κ : Con) (s : Nat) (tl : List Nat) (ops : Array Oper) (rest : List Oper) (e : Env) (K : Env → Prop) (ws : List Wr) : Prop := wpOpsC P Γ κ s tl ops rest (apps ws e) K
theorem wpOpsC_cons {P : Program} {Γ : Ctx} {κ : Con} {s : Nat} {tl : List Nat} {ops : Array Oper} {e : Env} {K : Env → Prop} (o : Oper) (rest : List Oper) : wpOpsC P Γ κ s tl ops (o :: rest) e K = (rdGC P Γ κ s tl ops o).W e (KOpsC P Γ κ s tl ops rest e K) := rfl
theorem wpOpsC_nil {P : Program} {Γ : Ctx} {κ : Con} {s : Nat} {tl : List Nat} {ops : Array Oper} {e : Env} {K : Env → Prop} : wpOpsC P Γ κ s tl ops [] e K = K e := rfl
theorem KOpsC_app {P : Program} {Γ : Ctx} {κ : Con} {s : Nat} {tl : List Nat} {ops : Array Oper} {e : Env} {K : Env → Prop} (rest : List Oper) (ws : List Wr) : KOpsC P Γ κ s tl ops rest e K ws = wpOpsC P Γ κ s tl ops rest (apps ws e) K := rfl

theorem CW.regC {P : Program} {κ : Con} {Q : QA} {e : Env} {Γ : Ctx} (hΓ : ∀ f c, Γ f = some c → CtrOK P f c) (s : Nat) {id : Nat} {ops : List Oper} (hd : dstOK κ.lim ops = true) (h : wpOpsC P Γ κ s (takenL ops) ops.toArray ops e (Q .normal)) : CW P κ (.region id ops.toArray false) Q e := fun a w hs =>
  wp_region_lit (wpOpsC_sound hΓ (fun e' _ _ hq hs' => ⟨e', hq, hs'⟩) ops e a w hd h hs)

def retC (n : Nat) (A : AV) : QA
  | .normal, e => e n = A
  | .ret, e => e n = A
  | _, _ => False
theorem retC_normal (n : Nat) (A : AV) (e : Env) : retC n A .normal e = (e n = A) := rfl
def lfC (n : Nat) : List Nat → Option (List Nat)
  | x :: q => if x = n + 1 then some (n :: q) else none
  | [] => none
theorem lfC_inj {n : Nat} : ∀ r1 r2 x, lfC n r1 = some x → lfC n r2 = some x → r1 = r2 := by
  intro r1 r2 x h1 h2
  cases r1 with
  | nil => cases h1
  | cons y r1 =>
    cases r2 with
    | nil => cases h2
    | cons z r2 =>
      simp only [lfC] at h1 h2
      split at h1 <;> split at h2 <;> simp_all
      subst h1
      simpa using h2.symm

theorem ctr_cap {P : Program} {f : Nat} {fn : Func} {c : Code} (hf : P.funcs[f]? = some fn) (hname : (fn.name == "runtime.NumGoroutine") = false) (hb : fn.body = some c) {nt : Nat} (hnt : fn.ntmps = nt) (hres : fn.results = #[]) {rel : List AV → AV → List AV → Prop}
    (h : ∀ args r args', rel args r args' → ∃ l l0 l1, args = l ++ [.box l0] ∧ args' = l ++ [.box l1] ∧ r = .tup [] ∧ allP l = true ∧ l.length + 1 ≤ nt ∧ ∀ κ : Con, κ.lim = (l.length + 1, nt) → CW P κ c (retC l.length (.box l1)) (argEnv args)) : CtrOK P f (effC rel) := by
  refine ⟨⟨fn, c, hf, hname, hb⟩, fun args r args' hrel w Z β vs hvs hwf hargs => ?_⟩
  obtain ⟨l, l0, l1, rfl, rfl, rfl, hP, hlen, hcw⟩ := h args r args' hrel
  replace hargs : ∀ i (h : i < (l ++ [AV.box l0]).length), ORep Z w.heap β [i] (l ++ [AV.box l0])[i] (vs.getD i undef) := hargs
  have hvs' : vs.size = l.length + 1 := by simpa using hvs
  let κ : Con := ⟨w, Z, fun b => ∃ p, β p = some b, fun t => vs.getD t undef, (l.length + 1, nt)⟩
  have hval : ∀ t, t < (l ++ [AV.box l0]).length → vals { tmps := vs ++ Array.replicate (fn.ntmps - vs.size) undef, defers := [] } t = vs.getD t undef := by
    intro t ht
    have : t < vs.size := by omega
    simp [vals, Array.getD_eq_getD_getElem?, Array.getElem?_append_left this]
  refine calls_of_wp hf hb (wp_mono (hcw κ rfl { tmps := vs ++ Array.replicate (fn.ntmps - vs.size) undef, defers := [] } w ⟨rfl, ⟨by simp [hnt, hvs']; show _ = nt; omega, fun t ht => hval t (by have : t < l.length + 1 := ht; simp; omega)⟩, Z, β, ?_⟩) fun x a w' ⟨e', hq, hs'⟩ => ?_)
  · refine ⟨rfl, rfl, rfl, Nat.le_refl _, fun _ _ _ => rfl, fun _ _ h => h, fun _ _ h => .inl h, hwf.zh, hwf.inj, fun p b hp => ⟨.inl ⟨p, hp⟩, hwf.bo p b hp⟩, fun t => ?_⟩
    unfold TRep argEnv
    by_cases ht : t < (l ++ [AV.box l0]).length
    · have e1 : (l ++ [AV.box l0]).getD t .junk = (l ++ [AV.box l0])[t] := by simp [List.getD, List.getElem?_eq_getElem ht]
      rw [e1, hval t ht]
      have := hargs t ht
      have hpl := this.plain
      generalize (l ++ [AV.box l0])[t] = X at this hpl
      cases X with
      | alias s p => exact absurd rfl (hpl s p).1
      | valias s p => exact absurd rfl (hpl s p).2.1
      | addr s p => exact absurd rfl (hpl s p).2.2.1
      | win s p k => exact absurd rfl ((hpl s p).2.2.2 k)
      | _ => exact this
    · have e1 : (l ++ [AV.box l0]).getD t .junk = .junk := by simp [List.getD, List.getElem?_eq_none (Nat.le_of_not_lt ht)]
      rw [e1]
      exact .pers (.junk _)
  · have hd : a.defers = [] := hs'.1
    have key : e' l.length = .box l1 → ∃ v, (results fn a.tmps).run P w' = .ok v w' ∧ ∃ v' Z' β', Ending.returned v = .returned v' ∧ Left Z β w Z' β' w' ∧ ORep Z' w'.heap β' [0] (.tup []) v' ∧ ∀ i (h : i < (l ++ [AV.box l1]).length), ORep Z' w'.heap β' [i + 1] (l ++ [AV.box l1])[i] (vs.getD i undef) := by
      intro hr
      obtain ⟨_, h2, Z', β', hR⟩ := hs'
      have hvn : vals a l.length = vs.getD l.length undef := h2.2 l.length (Nat.lt_succ_self _)
      have hsl := hR.slot' (t := l.length) hr (by simp)
      rw [hvn] at hsl
      refine ⟨.tuple #[], results_none hres _ _ _, .tuple #[], Z', viaF (lfC l.length) β', rfl, ?_, .pers (.tup [] #[] rfl (by simp)), fun i hi => ?_⟩
      · refine ⟨hR.os, hR.tape, hR.output, hR.size, fun b hb hn => hR.frame b hb ?_, hR.z0, fun b o ho => hR.zo b o ho, hR.zh, viaF_inj lfC_inj hR.inj, fun p b hp => ?_⟩
        · rintro ⟨p, hp⟩; exact hn p hp
        · have := viaF_bo (Q := fun b => new κ b ∧ Z' b = none ∧ b < w'.heap.size) hR.bo p b hp
          exact ⟨this.1, this.2⟩
      · by_cases hil : i < l.length
        · rw [List.getElem_append_left hil]
          have := hargs i (by simp; omega)
          rw [List.getElem_append_left hil] at this
          exact .pers ((ORep.toP this ((allP_iff _).1 hP _ (List.getElem_mem hil))).mono hR.z0)
        · have : i = l.length := by simp at hi; omega
          subst this
          rw [List.getElem_append_right (Nat.le_refl _)]
          simp only [Nat.sub_self, List.getElem_cons_zero]
          exact hsl.move (fun _ _ h => h) fun q b hb => ⟨by simpa [viaF, lfC] using hb, rfl⟩
    cases x with
    | normal => obtain ⟨v, g1, g2⟩ := key hq; exact ⟨hd, v, g1, g2⟩
    | ret => obtain ⟨v, g1, g2⟩ := key hq; exact ⟨hd, v, g1, g2⟩
    | _ => exact hq.elim

end Go.Proofs.Ytboandkjhdaobaa
