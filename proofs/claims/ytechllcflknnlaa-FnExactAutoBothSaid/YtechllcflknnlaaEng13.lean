/- All operations together; a row of operations in the text's order. No program in sight. -/
import Derived.Test.YtechllcflknnlaaEngE
namespace Go.Proofs.Ytechllcflknnlaa
set_option linter.unusedSimpArgs false
set_option linter.unusedVariables false
set_option maxRecDepth 8000
open Go Go.RowKit AV

/-- The parts of slot v become the parts of the box in slot t. -/
def mvB (v t : Nat) : List Nat → Option (List Nat)
  | [] => none
  | [x] => if x = v then none else some [x]
  | x :: k :: r => if x = t then some (v :: k :: r) else if x = v then none else some (x :: k :: r)

theorem mvB_inj (t d : Nat) : ∀ r1 r2 x, mvB t d r1 = some x → mvB t d r2 = some x → r1 = r2 := by
  intro r1 r2 x h1 h2
  rcases r1 with _ | ⟨a, _ | ⟨k, r1⟩⟩ <;> rcases r2 with _ | ⟨b, _ | ⟨j, r2⟩⟩ <;> simp only [mvB, reduceCtorEq] at h1 h2
  · split at h1 <;> split at h2 <;> simp_all
  · split at h1 <;> split at h2 <;> (try split at h2) <;> simp_all <;> subst h1 <;> simp_all
  · split at h1 <;> split at h2 <;> (try split at h1) <;> simp_all <;> subst h2 <;> simp_all
  · split at h1 <;> split at h2 <;> (try split at h1) <;> (try split at h2) <;> simp_all <;> subst h1 <;> simp_all

/-- A struct stored whole into a box. -/
def rdStoreA (P : Program) (T : Nat) (addr x : Operand) : Rd := match addr with
  | .tmp t => .peek t fun h => match h with
    | .box _ => rdVal x fun A src => .get t fun c => match A, c with
      | .agg l', .box l => .need (l.length = l'.length ∧ szT P T = some l'.length ∧ allOne l' = true ∧ src ≠ some t) (.ret (srcW src ++ [.mod t [] (.box l')]))
      | _, _ => .fail
    | _ => .fail
  | _ => .fail

theorem rdStoreA_sound {P : Program} {κ : Con} {o : Oper} {e : Env} {ws : List Wr} {T : Nat} {addr x : Operand} (ho : o.op = .store T addr x) (hd : o.dst = none) (h : (rdStoreA P T addr x).Wo e ws) : Does P κ o e ws := by
  cases addr with
  | tmp t =>
    obtain ⟨hj, h⟩ := h
    cases het : e t with
    | box lb =>
      simp only [het, head] at h
      obtain ⟨A, src, ⟨_, hw⟩, hApl, hsrc, hval⟩ := rdVal_sound h
      dsimp only at hw
      split at hw
      case h_2 => exact hw.elim
      rename_i l' l hc
      obtain ⟨⟨hll, hT, hone, hst⟩, hw⟩ := hw
      have hw' : ws = _ := hw
      subst hw'
      refine does_skip hd fun a w Z β hR => ?_
      obtain ⟨hv1, hv2, hv3⟩ := hval hR
      have hone' : ∀ a ∈ l', one a = true := by simpa [allOne] using hone
      have hs0 := hR.slot' hc (by simp)
      generalize hvv : vals a t = vv at hs0
      cases hs0 with
      | pers h => cases h
      | box l b cs E hb hz h1 h4 hk =>
        -- what is stored
        have key : ∃ cs2 : Array Value, a.eval x = .agg cs2 ∧ cs2.size = l'.length ∧ ((src = none ∧ ∀ k (h : k < l'.length), PRep Z l'[k] (cs2.getD k undef)) ∨ ∃ v, src = some v ∧ ∀ k (h : k < l'.length), ORep Z w.heap β [v, k] l'[k] (cs2.getD k undef)) := by
          cases src with
          | none =>
            rcases hv3 rfl with hp | ⟨hA, _⟩
            · have := ORep.toP (hv2 rfl [0]) hp
              generalize a.eval x = vx at this
              cases this with
              | agg l cs g1 g2 => exact ⟨cs, rfl, g1, .inl ⟨rfl, g2⟩⟩
            · cases hA
          | some v =>
            have := hv1 v rfl
            generalize a.eval x = vx at this
            cases this with
            | pers h => cases h with | agg l cs g1 g2 => exact ⟨cs, rfl, g1, .inr ⟨v, rfl, fun k h => .pers (g2 k h)⟩⟩
            | agg l cs g1 g2 => exact ⟨cs, rfl, g1, .inr ⟨v, rfl, g2⟩⟩
        obtain ⟨cs2, hx, hcs2, hparts⟩ := key
        obtain ⟨i, hi, hi1⟩ := szT_spec hT
        have hone2 : ∀ u ∈ cs2.toList, u.oneCell' = true := by
          intro u hu
          obtain ⟨k, hk', rfl⟩ := List.getElem_of_mem hu
          have hkl : k < l'.length := by simpa [hcs2] using hk'
          have h5 : cs2.toList[k] = cs2.getD k undef := by simp [show k < cs2.size by omega]
          rw [h5]
          rcases hparts with ⟨_, g⟩ | ⟨v, _, g⟩
          · exact ORep.one (Z := Z) (H := w.heap) (β := β) (p := []) (.pers (g k hkl)) (hone' _ (List.getElem_mem hkl))
          · exact ORep.one (g k hkl) (hone' _ (List.getElem_mem hkl))
        have hst := run_storeCells_cells (P := P) b 0 cs2.toList 0 w (fun j hj => by
            rw [cell_of_row w b _ cs E (0, 0) hz]
            simp at hj ⊢; omega) (fun j hj => by simp [World.frozen?, hz]) hone2
        simp only [Nat.add_zero] at hst
        obtain ⟨cs', g1, g2, g3, g4, g5, g6, g7, g8, g9, g10⟩ := setCells_heap cs2.toList 0 w cs hz (by simp; omega)
        have hrun : (execOp a.eval o).run P w = .ok .skip (w.setCells b 0 cs2.toList) := by
          simp only [execOp, ho, eval_tmp, hvv, hx]
          simp [Instr.storeAt, Instr.sureAddr, storeVar, Value.cells, sizeOf, typeInfo, hi, hi1, hcs2, hst]
        have hck : ∀ k, k < l'.length → cs'.getD k undef = cs2.getD k undef := by
          intro k hk'
          have := g4 k (by simp; omega)
          simp only [Nat.zero_add] at this
          simp only [Array.getD_eq_getD_getElem?, this]
          simp
        have hbb := hR.bo _ _ hb
        have hpl : ∀ s' p', e t ≠ .alias s' p' ∧ e t ≠ .valias s' p' ∧ e t ≠ .addr s' p' := by rw [hc]; simp
        have hzh : ∀ b' o, Z b' = some o → (w.setCells b 0 cs2.toList).heap[b']? = some o := fun b' o ho => by
          rw [g6 b' (by rintro rfl; rw [hbb.2.1] at ho; cases ho)]; exact hR.zh b' o ho
        have fin : ∀ (e1 : Env) (β' : List Nat → Option Nat), Rep κ Z β e1 (vals a) w → e1 t = .box l → (∀ r b', r ≠ [] → e1 (root r) ≠ .junk → ¬ [t] <+: r → β r = some b' → β' r = some b') → β' [t] = some b → (∀ p q b, β' p = some b → β' q = some b → p = q) → (∀ p b', β' p = some b' → ∃ q, β q = some b') →
            (∀ k (h : k < l'.length), ORep Z (w.setCells b 0 cs2.toList).heap β' [t, k] l'[k] (cs2.getD k undef)) → ∃ Z' β', Rep κ Z' β' ((Wr.mod t [] (.box l')).app e1) (vals a) (w.setCells b 0 cs2.toList) := by
          intro e1 β' hR1 he1 hβ hβt hinj hsub hk'
          refine ⟨Z, β', hR1.mod t [] (.box l) (.box l') (by rw [he1]; rfl) (by rw [he1]; simp) (by simp) (by rw [he1]; simp) g8 g9 g10 (by rw [g7]; exact Nat.le_refl _) (fun b' hn _ => g6 b' (by rintro rfl; exact hn hbb.1)) (fun _ _ h => h) (fun _ _ h => .inl h) hzh
            (fun r b' hr hj hn hb' => ⟨hβ r b' hr hj hn hb', g6 b' (by rintro rfl; exact hn (by rw [hR1.inj _ _ _ hb' hb]; exact List.prefix_refl _))⟩) hinj (fun p b' hp => by obtain ⟨q, hq⟩ := hsub p b' hp; have := hR1.bo q b' hq; rw [g7]; exact this) (fun u hu => ?_) (by intro _ q C hq hne; simp at hq; exact absurd hq hne)⟩
          generalize hB : AV.box l = B at hu
          cases hu with
          | pers h => subst hB; cases h
          | box l2 b2 cs3 E3 hb2 hz2 h12 h42 hk2 =>
            have : b2 = b := by rw [hb] at hb2; injection hb2 with h; exact h.symm
            subst this
            refine .box l' b2 cs' E hβt g1 (by rw [g2]; omega) (fun k hk3 => ?_) (fun k hk3 => by rw [hck k hk3]; exact hk' k hk3)
            rw [hck k hk3]
            have : cs2.getD k undef ∈ cs2.toList := by
              have hk4 : k < cs2.size := by omega
              simp [hk4]
            exact hone2 _ this
          | _ => cases hB
        rcases hparts with ⟨hsn, hp⟩ | ⟨v, hsv, hp⟩
        · subst hsn
          obtain ⟨Z', β', hR'⟩ := fin e β hR hc (fun _ _ _ _ _ h => h) hb hR.inj (fun p b' h => ⟨p, h⟩) (fun k hk' => .pers (hp k hk'))
          exact ⟨_, Z', β', hrun, hR'⟩
        · subst hsv
          have hvt : v ≠ t := by rintro rfl; exact hst rfl
          have e1 : (Wr.set v AV.junk).app e t = .box l := by simp [Wr.app, isOwn, upd, Ne.symm hvt, hc]
          obtain ⟨Z', β', hR'⟩ := fin _ (viaF (mvB v t) β) (hR.drop v) e1 (fun r b' hr hj hn hb' => by
              rcases r with _ | ⟨y, _ | ⟨k, r⟩⟩
              · exact absurd rfl hr
              · have hyv : ¬ y = v := by rintro rfl; exact hj (by simp [root, Wr.app, isOwn, upd])
                simpa [viaF, mvB, hyv] using hb'
              · have hyv : ¬ y = v := by rintro rfl; exact hj (by simp [root, Wr.app, isOwn, upd])
                have hyt : ¬ y = t := by rintro rfl; exact hn (by simp)
                simpa [viaF, mvB, hyv, hyt] using hb') (by simpa [viaF, mvB, Ne.symm hvt] using hb) (viaF_inj (mvB_inj v t) hR.inj) (fun p b' hp' => viaF_bo (Q := fun b => ∃ q, β q = some b) (fun p b hp => ⟨p, hp⟩) p b' hp')
              (fun k hk' => (hp k hk').move (fun _ _ h => h) fun r b' hr => ⟨by simpa [viaF, mvB] using hr, g6 b' (by
                rintro rfl
                have := hR.inj _ _ _ hr hb
                simp at this)⟩)
          exact ⟨_, Z', β', hrun, hR'⟩
    | _ => simp only [het, head] at h; exact h.elim
  | _ => exact h.elim

/-! ### All operations -/

def opT : Operand → List Nat
  | .tmp t => [t]
  | _ => []
def opTs : List (Nat × Operand) → List Nat
  | [] => []
  | p :: ps => opT p.2 ++ opTs ps
/-- The slots that an operation takes from. -/
def takesOf (o : Oper) : List Nat := match o.op with
  | .call c => (match c.callee with
    | .builtin .append => (match c.args.toList with
      | x :: _ => opT x
      | _ => [])
    | _ => [])
  | .buildSlice _ _ ps => opTs ps.toList
  | .build _ ps => opTs ps.toList
  | .store _ _ v => opT v
  | .assign x => opT x
  | .box _ x => opT x
  | _ => []
/-- The slots of a region that are taken from. -/
def takenL : List Oper → List Nat
  | [] => []
  | o :: l => takesOf o ++ takenL l

def rdO (P : Program) (Γ : Ctx) (tl : List Nat) (o : Oper) : Rd := match o.dst with
  | some d => match o.op with
    | .move x => rdMv (tl.contains d) d x
    | .assign x => rdMv true d x
    | .pick c x y => rdPick d c x y
    | .alloc T => rdAlloc P T d
    | .box _ x => rdBox d x
    | .build T ps => rdBuild P T d ps.toList
    | .buildSlice T n ps => rdBuildS P T d n ps.toList
    | .load T x => rdLoad P (tl.contains d) T d x
    | .binOp op T x y _ => rdBin P op T d x y
    | .unOp op _ x => rdUn op d x
    | .convert S T x => rdConv P S T d x
    | .makeSlice T x y => rdMakeS P T d x y
    | .slice T x lo hi none => rdSlice P T d x lo hi
    | .fieldAddr T x f => rdField P T d x f
    | .field T x f => rdFieldV P T d x f
    | .indexAddr T x i => rdIndex P T d x i
    | .extract x i => rdExtract d x i
    | .call c => (match c.callee with
      | .builtin .len => (match c.args.toList, c.argTypes.toList with
        | [x], [T] => rdLen P T d x
        | _, _ => .fail)
      | .builtin .append => (match c.args.toList, c.argTypes.toList with
        | [x, y], [T, T2] => rdApp P T T2 d x y
        | _, _ => .fail)
      | .value g => rdCallX Γ d g c.args.toList
      | _ => .fail)
    | _ => .fail
  | none => match o.op with
    | .store T a x => (match aggT P T with
      | some true => rdStoreA P T a x
      | some false => rdStore P T a x
      | none => .fail)
    | _ => .fail

section
variable {P : Program} {κ : Con} {Γ : Ctx} (hΓ : ∀ f c, Γ f = some c → CtrOK P f c)
include hΓ

theorem rdO_sound {tl : List Nat} {o : Oper} {e : Env} {ws : List Wr} (hn : ∀ d, o.dst = some d → (κ.lim.1 ≤ d ∧ d < κ.lim.2)) (h : (rdO P Γ tl o).Wo e ws) : Does P κ o e ws := by
  unfold rdO at h
  cases hd : o.dst with
  | some d =>
    simp only [hd] at h
    have hn := hn d hd
    split at h
    · rename_i ho; exact rdMv_sound (.inl ho) hd hn h
    · rename_i ho; exact rdMv_sound (.inr ho) hd hn h
    · rename_i ho; exact rdPick_sound ho hd hn h
    · rename_i ho; exact rdAlloc_sound ho hd hn h
    · rename_i ho; exact rdBox_sound ho hd hn h
    · rename_i ho; exact rdBuild_sound ho hd hn h
    · rename_i ho; exact rdBuildS_sound ho hd hn h
    · rename_i ho; exact rdLoad_sound ho hd hn h
    · rename_i ho; exact rdBin_sound ho hd hn h
    · rename_i ho; exact rdUn_sound ho hd hn h
    · rename_i ho; exact rdConv_sound ho hd hn h
    · rename_i ho; exact rdMakeS_sound ho hd hn h
    · rename_i ho; exact rdSlice_sound ho hd hn h
    · rename_i ho; exact rdField_sound ho hd hn h
    · rename_i ho; exact rdFieldV_sound ho hd hn h
    · rename_i ho; exact rdIndex_sound ho hd hn h
    · rename_i ho; exact rdExtract_sound ho hd hn h
    · rename_i c ho
      obtain ⟨callee, args, ats⟩ := c
      simp only at h
      split at h
      · split at h
        · rename_i x T hx hT
          have e1 : args = #[x] := by rw [← Array.toArray_toList (xs := args), hx]
          have e2 : ats = #[T] := by rw [← Array.toArray_toList (xs := ats), hT]
          subst e1 e2
          exact rdLen_sound ho hd hn h
        · exact h.elim
      · split at h
        · rename_i x y T T2 hx hT
          have e1 : args = #[x, y] := by rw [← Array.toArray_toList (xs := args), hx]
          have e2 : ats = #[T, T2] := by rw [← Array.toArray_toList (xs := ats), hT]
          subst e1 e2
          exact rdApp_sound ho hd hn h
        · exact h.elim
      · exact rdCallX_sound hΓ ho hd hn h
      · exact h.elim
    · exact h.elim
  | none =>
    simp only [hd] at h
    split at h
    · rename_i T a x ho
      cases hT : aggT P T with
      | none => simp only [hT] at h; exact h.elim
      | some b =>
        cases b with
        | true => simp only [hT] at h; exact rdStoreA_sound ho hd h
        | false => simp only [hT] at h; exact rdStore_sound ho hd h
    · exact h.elim

/-- An operation that is left out writes this. -/
def rdSkip (o : Oper) : Rd := match o.dst with
  | some d => .ret [.set d (.tup [])]
  | none => .ret []

def rdG (P : Program) (Γ : Ctx) (tl : List Nat) (ops : Array Oper) (o : Oper) : Rd := match o.guard with
  | none => rdO P Γ tl o
  | some (g, want) => match (ops[g]?).bind (·.dst) with
    | some t => .get t fun v => match v with
      | .bool b => .br (b = want) (rdO P Γ tl o) (rdSkip o)
      | .tup [] => rdSkip o
      | _ => .fail
    | none => .fail

/-- A step: the operation is carried out, or left out. -/
def Steps1 (P : Program) (κ : Con) (ops : Array Oper) (o : Oper) (e : Env) (ws : List Wr) : Prop :=
  ∀ (Q : Exit → Act → World → Prop) (K : Act → World → Prop) (a : Act) (w : World), St κ e a w → (∀ a' w', St κ (apps ws e) a' w' → K a' w') →
    if Region.wanted o (yielded ops a.tmps) then o.wp P a w K Q ∨ (o.asks P a w ∧ LetsOut Q) else K (a.put o.dst undef) w

omit hΓ in
theorem skip_sound {o : Oper} {e : Env} {ws : List Wr} (hn : ∀ d, o.dst = some d → (κ.lim.1 ≤ d ∧ d < κ.lim.2)) (h : (rdSkip o).Wo e ws) {a : Act} {w : World} (hs : St κ e a w) : St κ (apps ws e) (a.put o.dst undef) w := by
  obtain ⟨h1, h2, Z, β, hR⟩ := hs
  unfold rdSkip at h
  cases hd : o.dst with
  | none =>
    simp only [hd] at h
    have h' : ws = _ := h
    subst h'
    exact ⟨h1, h2, Z, β, hR⟩
  | some d =>
    simp only [hd] at h
    have h' : ws = _ := h
    subst h'
    refine ⟨h1, keep_put (hn d hd) h2, Z, β, ?_⟩
    rw [vals_put (show d < a.tmps.size by rw [h2.1]; exact (hn d hd).2)]
    exact hR.put d (.tup [] #[] rfl (by simp)) (by simp)

theorem rdG_sound {tl : List Nat} {ops : Array Oper} {o : Oper} {e : Env} {ws : List Wr} (hn : ∀ d, o.dst = some d → (κ.lim.1 ≤ d ∧ d < κ.lim.2)) (h : (rdG P Γ tl ops o).Wo e ws) : Steps1 P κ ops o e ws := by
  intro Q K a w hs hK
  unfold rdG at h
  cases hg : o.guard with
  | none =>
    simp only [hg] at h
    have hw : Region.wanted o (yielded ops a.tmps) = true := by simp [Region.wanted, hg]
    rw [if_pos hw]
    exact .inl (rdO_sound hΓ hn h Q K a w hs hK)
  | some gw =>
    obtain ⟨g, want⟩ := gw
    simp only [hg] at h
    cases ht : (ops[g]?).bind (·.dst) with
    | none => simp only [ht] at h; exact h.elim
    | some t =>
      simp only [ht] at h
      obtain ⟨hj, h⟩ := h
      obtain ⟨h1, h2, Z, β, hR⟩ := hs
      dsimp only at h
      split at h
      · rename_i b het
        have hv := ORep.toP (hR.slot' het (by simp)) rfl
        generalize hvv : vals a t = vv at hv
        cases hv
        have hat : a.tmps[t]? = some (.bool b) := by
          simp only [vals, Array.getD_eq_getD_getElem?] at hvv
          cases hh : a.tmps[t]? with
          | none => rw [hh] at hvv; cases hvv
          | some x => rw [hh] at hvv; simp at hvv; rw [hvv]
        have hy : yielded ops a.tmps g = some b := by simp [yielded, ht, hat]
        rcases h with ⟨hb, h⟩ | ⟨hb, h⟩
        · subst hb
          rw [if_pos (by simp [Region.wanted, hg, hy])]
          exact .inl (rdO_sound hΓ hn h Q K a w ⟨h1, h2, Z, β, hR⟩ hK)
        · rw [if_neg (by simp [Region.wanted, hg, hy, hb])]
          exact hK _ _ (skip_sound hn h ⟨h1, h2, Z, β, hR⟩)
      · rename_i het
        have hv := ORep.toP (hR.slot' het (by simp)) rfl
        generalize hvv : vals a t = vv at hv
        have hy : yielded ops a.tmps g = none := by
          cases hv with
          | tup l cs hcs hk =>
            simp only [vals, Array.getD_eq_getD_getElem?] at hvv
            simp only [yielded, ht, Option.bind_some]
            cases hh : a.tmps[t]? with
            | none => rfl
            | some x => rw [hh] at hvv; simp at hvv; rw [hvv]
        rw [if_neg (by simp [Region.wanted, hg, hy])]
        exact hK _ _ (skip_sound hn h ⟨h1, h2, Z, β, hR⟩)
      · exact h.elim
end

/-! ### Rows of operations -/

/-- What is asked of the environment for K of what is written. -/
def Rd.W (e : Env) : Rd → (List Wr → Prop) → Prop
  | .ret ws, K => K ws
  | .fail, _ => False
  | .get t k, K => e t ≠ .junk ∧ Rd.W e (k (e t)) K
  | .peek t k, K => e t ≠ .junk ∧ Rd.W e (k (head (e t))) K
  | .need c k, K => c ∧ Rd.W e k K
  | .ex _ k, K => ∃ x, Rd.W e (k x) K
  | .br c x y, K => (c → Rd.W e x K) ∧ (¬ c → Rd.W e y K)

theorem Rd.W.wo {e : Env} : ∀ {r : Rd} {K : List Wr → Prop}, r.W e K → ∃ ws, r.Wo e ws ∧ K ws
  | .ret ws, _, h => ⟨ws, rfl, h⟩
  | .fail, _, h => h.elim
  | .get _ _, _, ⟨h1, h2⟩ => let ⟨ws, h3, h4⟩ := h2.wo; ⟨ws, ⟨h1, h3⟩, h4⟩
  | .peek _ _, _, ⟨h1, h2⟩ => let ⟨ws, h3, h4⟩ := h2.wo; ⟨ws, ⟨h1, h3⟩, h4⟩
  | .need _ _, _, ⟨h1, h2⟩ => let ⟨ws, h3, h4⟩ := h2.wo; ⟨ws, ⟨h1, h3⟩, h4⟩
  | .ex _ _, _, ⟨x, h⟩ => let ⟨ws, h3, h4⟩ := h.wo; ⟨ws, ⟨x, h3⟩, h4⟩
  | .br c x y, K, ⟨h1, h2⟩ => by
    by_cases hc : c
    · obtain ⟨ws, h3, h4⟩ := (h1 hc).wo; exact ⟨ws, .inl ⟨hc, h3⟩, h4⟩
    · obtain ⟨ws, h3, h4⟩ := (h2 hc).wo; exact ⟨ws, .inr ⟨hc, h3⟩, h4⟩

def wpOpsA (P : Program) (Γ : Ctx) (tl : List Nat) (ops : Array Oper) : List Oper → Env → (Env → Prop) → Prop
  | [], e, K => K e
  | o :: rest, e, K => (rdG P Γ tl ops o).W e fun ws => wpOpsA P Γ tl ops rest (apps ws e) K

/-- Every slot that is written is there. -/
def dstOK (lim : Nat × Nat) (ops : List Oper) : Bool := ops.all fun o => match o.dst with
  | some d => decide (lim.1 ≤ d ∧ d < lim.2)
  | none => true

theorem dstOK_spec {lim : Nat × Nat} {ops : List Oper} (h : dstOK lim ops = true) {o : Oper} (ho : o ∈ ops) : ∀ d, o.dst = some d → (lim.1 ≤ d ∧ d < lim.2) := by
  intro d hd
  have := List.all_eq_true.1 h o ho
  simpa [hd] using this

theorem wpOpsA_sound {P : Program} {κ : Con} {Γ : Ctx} (hΓ : ∀ f c, Γ f = some c → CtrOK P f c) {tl : List Nat} {ops : Array Oper} {Q : Exit → Act → World → Prop} {K : Env → Prop} (hK : ∀ e a w, K e → St κ e a w → Q .normal a w) :
    ∀ (l : List Oper) (e : Env) (a : Act) (w : World), dstOK κ.lim l = true → wpOpsA P Γ tl ops l e K → St κ e a w → wpList P ops Q l a w
  | [], e, a, w, _, h, hs => hK e a w h hs
  | o :: rest, e, a, w, hd, h, hs => by
    obtain ⟨ws, hw, h⟩ := Rd.W.wo h
    have hn := dstOK_spec hd (List.mem_cons_self ..)
    have hd' : dstOK κ.lim rest = true := by simp only [dstOK, List.all_cons, Bool.and_eq_true] at hd; exact hd.2
    have := rdG_sound hΓ hn hw Q (wpList P ops Q rest) a w hs fun a' w' hs' => wpOpsA_sound hΓ hK rest _ a' w' hd' h hs'
    unfold wpList
    exact this

end Go.Proofs.Ytechllcflknnlaa
