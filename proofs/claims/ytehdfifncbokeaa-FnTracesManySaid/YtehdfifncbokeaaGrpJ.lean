/- All operations together; a row of operations in the text's order. No program in sight. -/
import Derived.Test.YtehdfifncbokeaaGrpB
namespace Go.Proofs.Ytehdfifncbokeaa
set_option linter.unusedSimpArgs false
set_option linter.unusedVariables false
set_option maxRecDepth 8000
set_option maxHeartbeats 2000000
open Go Go.RowKit AV

def mvB (v t : Nat) : List Nat → Option (List Nat)
  | [] => none
  | [x] => if x = v then none else some [x]
  | x :: k :: r => if x = t then some (v :: k :: r) else if x = v then none else some (x :: k :: r)

theorem mvB_inj (t d : Nat) : ∀ r1 r2 x, mvB t d r1 = some x → mvB t d r2 = some x → r1 = r2 := by
  intro r1 r2 x h1 h2
  rcases r1 with _ | ⟨a, _ | ⟨k, r1⟩⟩ <;> rcases r2 with _ | ⟨b, _ | ⟨j, r2⟩⟩ <;> simp only [mvB, reduceCtorEq] at h1 h2
  · split at h1 <;> split at h2 <;> simp_all
  · split at h1 <;> split at h2 <;> (try split at h2) <;> simp_all <;> subst h1 <;> simp_all
  · split at h1 <;> split at h2 <;> (try split at h1) <;> simp_all <;> subst h2 <;> simp_all
  · split at h1 <;> split at h2 <;> (try split at h1) <;> (try split at h2) <;> simp_all <;> subst h1 <;> simp_all

noncomputable def rdStoreA (P : Program) (T : Nat) (addr x : Operand) : Rd := match addr with
  | .tmp t => .peek t fun h => match h with
    | .box _ => rdVal x fun A src => .get t fun c => match A, c with
      | .agg l', .box l => .need (l.length = l'.length ∧ szT P T = some l'.length ∧ allOne l' = true ∧ src ≠ some t) (.ret (srcW src ++ [.mod t [] (.box l')]))
      | _, _ => .fail
    | _ => .fail
  | _ => .fail

theorem rdStoreA_sound {P : Program} {κ : Con} {o : Oper} {e : Env} {ws : List Wr} {T : Nat} {addr x : Operand} (ho : o.op = .store T addr x) (hd : o.dst = none) (h : (rdStoreA P T addr x).Wo e ws) : Does P κ o e ws := by
  cases addr with
  | tmp t =>
    obtain ⟨hj, h⟩ := h
    cases het : e t with
    | box lb =>
      simp only [het, head] at h
      obtain ⟨A, src, ⟨_, hw⟩, hApl, hsrc, hval⟩ := rdVal_sound h
      dsimp only at hw
      split at hw
      case h_2 => exact hw.elim
      rename_i l' l hc
      obtain ⟨⟨hll, hT, hone, hst⟩, hw⟩ := hw
      have hw' : ws = _ := hw
      subst hw'
      refine does_skip hd fun a w Z β hR => ?_
      obtain ⟨hv1, hv2, hv3⟩ := hval hR
      have hone' : ∀ a ∈ l', one a = true := by simpa [allOne] using hone
      have hs0 := hR.slot' hc (by simp)
      generalize hvv : vals a t = vv at hs0
      cases hs0 with
      | pers h => cases h
      | box l b cs E hb hz h1 h4 hk =>
        have key : ∃ cs2 : Array Value, a.eval x = .agg cs2 ∧ cs2.size = l'.length ∧ ((src = none ∧ ∀ k (h : k < l'.length), PRep Z l'[k] (cs2.getD k undef)) ∨ ∃ v, src = some v ∧ ∀ k (h : k < l'.length), ORep Z w.heap β [v, k] l'[k] (cs2.getD k undef)) := by
          cases src with
          | none =>
            rcases hv3 rfl with hp | ⟨hA, _⟩
            · have := ORep.toP (hv2 rfl [0]) hp
              generalize a.eval x = vx at this
              cases this with
              | agg l cs g1 g2 => exact ⟨cs, rfl, g1, .inl ⟨rfl, g2⟩⟩
            · cases hA
          | some v =>
            have := hv1 v rfl
            generalize a.eval x = vx at this
            cases this with
            | pers h => cases h with | agg l cs g1 g2 => exact ⟨cs, rfl, g1, .inr ⟨v, rfl, fun k h => .pers (g2 k h)⟩⟩
            | agg l cs g1 g2 => exact ⟨cs, rfl, g1, .inr ⟨v, rfl, g2⟩⟩
        obtain ⟨cs2, hx, hcs2, hparts⟩ := key
        obtain ⟨i, hi, hi1⟩ := szT_spec hT
        have hone2 : ∀ u ∈ cs2.toList, u.oneCell' = true := by
          intro u hu
          obtain ⟨k, hk', rfl⟩ := List.getElem_of_mem hu
          have hkl : k < l'.length := by simpa [hcs2] using hk'
          have h5 : cs2.toList[k] = cs2.getD k undef := by simp [show k < cs2.size by omega]
          rw [h5]
          rcases hparts with ⟨_, g⟩ | ⟨v, _, g⟩
          · exact ORep.one (Z := Z) (H := w.heap) (β := β) (p := []) (.pers (g k hkl)) (hone' _ (List.getElem_mem hkl))
          · exact ORep.one (g k hkl) (hone' _ (List.getElem_mem hkl))
        have hst := run_storeCells_cells (P := P) b 0 cs2.toList 0 w (fun j hj => by
            rw [cell_of_row w b _ cs E (0, 0) hz]
            simp at hj ⊢; omega) (fun j hj => by simp [World.frozen?, hz]) hone2
        simp only [Nat.add_zero] at hst
        obtain ⟨cs', g1, g2, g3, g4, g5, g6, g7, g8, g9, g10⟩ := setCells_heap cs2.toList 0 w cs hz (by simp; omega)
        have hrun : (execOp a.eval o).run P w = .ok .skip (w.setCells b 0 cs2.toList) := by
          simp only [execOp, ho, eval_tmp, hvv, hx]
          simp [Instr.storeAt, Instr.sureAddr, storeVar, Value.cells, sizeOf, typeInfo, hi, hi1, hcs2, hst]
        have hck : ∀ k, k < l'.length → cs'.getD k undef = cs2.getD k undef := by
          intro k hk'
          have := g4 k (by simp; omega)
          simp only [Nat.zero_add] at this
          simp only [Array.getD_eq_getD_getElem?, this]
          simp
        have hbb := hR.bo _ _ hb
        have hpl : ∀ s' p', e t ≠ .alias s' p' ∧ e t ≠ .valias s' p' ∧ e t ≠ .addr s' p' ∧ ∀ k, e t ≠ .win s' p' k := by rw [hc]; simp
        have hzh : ∀ b' o, Z b' = some o → (w.setCells b 0 cs2.toList).heap[b']? = some o := fun b' o ho => by
          rw [g6 b' (by rintro rfl; rw [hbb.2.1] at ho; cases ho)]; exact hR.zh b' o ho
        have fin : ∀ (e1 : Env) (β' : List Nat → Option Nat), Rep κ Z β e1 (vals a) w → e1 t = .box l → (∀ r b', r ≠ [] → e1 (root r) ≠ .junk → ¬ [t] <+: r → β r = some b' → β' r = some b') → β' [t] = some b → (∀ p q b, β' p = some b → β' q = some b → p = q) → (∀ p b', β' p = some b' → ∃ q, β q = some b') →
            (∀ k (h : k < l'.length), ORep Z (w.setCells b 0 cs2.toList).heap β' [t, k] l'[k] (cs2.getD k undef)) → ∃ Z' β', Rep κ Z' β' ((Wr.mod t [] (.box l')).app e1) (vals a) (w.setCells b 0 cs2.toList) := by
          intro e1 β' hR1 he1 hβ hβt hinj hsub hk'
          refine ⟨Z, β', hR1.mod t [] (.box l) (.box l') (by rw [he1]; rfl) (by rw [he1]; simp) (by simp) (by rw [he1]; simp) g8 g9 g10 (by rw [g7]; exact Nat.le_refl _) (fun b' hn _ => g6 b' (by rintro rfl; exact hn hbb.1)) (fun _ _ h => h) (fun _ _ h => .inl h) hzh
            (fun r b' hr hj hn hb' => ⟨hβ r b' hr hj hn hb', g6 b' (by rintro rfl; exact hn (by rw [hR1.inj _ _ _ hb' hb]; exact List.prefix_refl _))⟩) hinj (fun p b' hp => by obtain ⟨q, hq⟩ := hsub p b' hp; have := hR1.bo q b' hq; rw [g7]; exact this) (fun u hu => ?_) (by intro _ q C hq hne; simp at hq; exact absurd hq hne)⟩
          generalize hB : AV.box l = B at hu
          cases hu with
          | pers h => subst hB; cases h
          | box l2 b2 cs3 E3 hb2 hz2 h12 h42 hk2 =>
            have : b2 = b := by rw [hb] at hb2; injection hb2 with h; exact h.symm
            subst this
            refine .box l' b2 cs' E hβt g1 (by rw [g2]; omega) (fun k hk3 => ?_) (fun k hk3 => by rw [hck k hk3]; exact hk' k hk3)
            rw [hck k hk3]
            have : cs2.getD k undef ∈ cs2.toList := by
              have hk4 : k < cs2.size := by omega
              simp [hk4]
            exact hone2 _ this
          | _ => cases hB
        rcases hparts with ⟨hsn, hp⟩ | ⟨v, hsv, hp⟩
        · subst hsn
          obtain ⟨Z', β', hR'⟩ := fin e β hR hc (fun _ _ _ _ _ h => h) hb hR.inj (fun p b' h => ⟨p, h⟩) (fun k hk' => .pers (hp k hk'))
          exact ⟨_, Z', β', hrun, hR'⟩
        · subst hsv
          have hvt : v ≠ t := by rintro rfl; exact hst rfl
          have e1 : (Wr.set v AV.junk).app e t = .box l := by simp [Wr.app, isOwn, upd, Ne.symm hvt, hc]
          obtain ⟨Z', β', hR'⟩ := fin _ (viaF (mvB v t) β) (hR.drop v) e1 (fun r b' hr hj hn hb' => by
              rcases r with _ | ⟨y, _ | ⟨k, r⟩⟩
              · exact absurd rfl hr
              · have hyv : ¬ y = v := by rintro rfl; exact hj (by simp [root, Wr.app, isOwn, upd])
                simpa [viaF, mvB, hyv] using hb'
              · have hyv : ¬ y = v := by rintro rfl; exact hj (by simp [root, Wr.app, isOwn, upd])
                have hyt : ¬ y = t := by rintro rfl; exact hn (by simp)
                simpa [viaF, mvB, hyv, hyt] using hb') (by simpa [viaF, mvB, Ne.symm hvt] using hb) (viaF_inj (mvB_inj v t) hR.inj) (fun p b' hp' => viaF_bo (Q := fun b => ∃ q, β q = some b) (fun p b hp => ⟨p, hp⟩) p b' hp')
              (fun k hk' => (hp k hk').move (fun _ _ h => h) fun r b' hr => ⟨by simpa [viaF, mvB] using hr, g6 b' (by
                rintro rfl
                have := hR.inj _ _ _ hr hb
                simp at this)⟩)
          exact ⟨_, Z', β', hrun, hR'⟩
    | _ => simp only [het, head] at h; exact h.elim
  | _ => exact h.elim

def opT : Operand → List Nat
  | .tmp t => [t]
  | _ => []
def opTs : List (Nat × Operand) → List Nat
  | [] => []
  | p :: ps => opT p.2 ++ opTs ps
def takesOf (o : Oper) : List Nat := match o.op with
  | .call c => (match c.callee with
    | .builtin .append => (match c.args.toList with
      | x :: _ => opT x
      | _ => [])
    | _ => [])
  | .buildSlice _ _ ps => opTs ps.toList
  | .build _ ps => opTs ps.toList
  | .store _ _ v => opT v
  | .assign x => opT x
  | .box _ x => opT x
  | _ => []
def takenL : List Oper → List Nat
  | [] => []
  | o :: l => takesOf o ++ takenL l

noncomputable def rdO (P : Program) (Γ : Ctx) (tl : List Nat) (o : Oper) : Rd := match o.dst with
  | some d => match o.op with
    | .move x => rdMv (tl.contains d) d x
    | .assign x => rdAsg P o.type d x
    | .pick c x y => rdPick d c x y
    | .alloc T => rdAlloc P T d
    | .box _ x => rdBox d x
    | .build T ps => rdBuildX P T d ps.toList
    | .buildSlice T n ps => if recT P T = 0 then rdBuildS P T d n ps.toList else rdBuildR P T d n ps.toList
    | .load T x => if aggT P T = some true then rdLoadX P (tl.contains d) T d x else rdLoad P (tl.contains d) T d x
    | .binOp op T x y _ => rdBin2 P op T d x y
    | .nilCheck x => rdNil d x
    | .unOp op _ x => rdUn op d x
    | .convert S T x => rdConv P S T d x
    | .makeSlice T x y => rdMakeS P T d x y
    | .slice T x lo hi none => rdSlice P T d x lo hi
    | .fieldAddr T x f => rdFieldX P T d x f
    | .field T x f => rdFieldV P T d x f
    | .indexAddr T x i => if recT P T = 0 then rdIndex P T d x i else rdIndexR P T d x i
    | .extract x i => rdExtract d x i
    | .makeMap _ none => .ret [.set d (.omap [] [])]
    | .lookup T x y false => rdLook P T d x y
    | .lookup T x y true => rdLook2 P T d x y
    | .range T x => rdRange P T d x
    | .entry x => rdEntry d x
    | .makeFunc fnc first caps => (match fnc with
      | .func g => (match first.toList with
        | [] => rdMakeFn d g caps.toList
        | f :: fs => (match caps.toList with
          | [] => rdMakeM d g (f :: fs)
          | _ => .fail))
      | _ => .fail)
    | .call c => (match c.callee with
      | .builtin .len => (match c.args.toList, c.argTypes.toList with
        | [x], [T] => if (mpT P T).isSome then rdLenM d x else if recT P T = 0 then rdLen P T d x else rdLenR P T d x
        | _, _ => .fail)
      | .builtin .append => (match c.args.toList, c.argTypes.toList with
        | [x, y], [T, T2] => if recT P T = 0 then rdApp2 P T T2 d x y else rdAppR P T T2 d x y
        | _, _ => .fail)
      | .value g => rdCallY Γ d g c.args.toList
      | _ => .fail)
    | _ => .fail
  | none => match o.op with
    | .store T a x => (match aggT P T with
      | some true => rdStoreA P T a x
      | some false => rdStore P T a x
      | none => .fail)
    | .mapUpdate T x y z => rdMapUpd P T x y z
    | .insert T x y z => rdMapUpd P T x y z
    | .call c => (match c.callee with
      | .builtin .clear => (match c.args.toList, c.argTypes.toList with
        | [x], [T] => rdClear P T x
        | _, _ => .fail)
      | _ => .fail)
    | _ => .fail

section
variable {P : Program} {κ : Con} {Γ : Ctx} (hΓ : ∀ f c, Γ f = some c → CtrOK P f c)
include hΓ

theorem rdO_sound {tl : List Nat} {o : Oper} {e : Env} {ws : List Wr} (hn : ∀ d, o.dst = some d → (κ.lim.1 ≤ d ∧ d < κ.lim.2)) (h : (rdO P Γ tl o).Wo e ws) : Does P κ o e ws := by
  unfold rdO at h
  cases hd : o.dst with
  | some d =>
    simp only [hd] at h
    have hn := hn d hd
    split at h
    · rename_i ho; exact rdMv_sound (.inl ho) hd hn h
    · rename_i ho; exact rdAsg_sound ho hd hn h
    · rename_i ho; exact rdPick_sound ho hd hn h
    · rename_i ho; exact rdAlloc_sound ho hd hn h
    · rename_i ho; exact rdBox_sound ho hd hn h
    · rename_i ho; exact rdBuildX_sound ho hd hn h
    · rename_i ho
      split at h
      · exact rdBuildS_sound ho hd hn h
      · exact rdBuildR_sound ho hd hn h
    · rename_i ho
      split at h
      · exact rdLoadX_sound ho hd hn h
      · exact rdLoad_sound ho hd hn h
    · rename_i ho; exact rdBin2_sound ho hd hn h
    · rename_i ho; exact rdNil_sound ho hd hn h
    · rename_i ho; exact rdUn_sound ho hd hn h
    · rename_i ho; exact rdConv_sound ho hd hn h
    · rename_i ho; exact rdMakeS_sound ho hd hn h
    · rename_i ho; exact rdSlice_sound ho hd hn h
    · rename_i ho; exact rdFieldX_sound ho hd hn h
    · rename_i ho; exact rdFieldV_sound ho hd hn h
    · rename_i ho
      split at h
      · exact rdIndex_sound ho hd hn h
      · exact rdIndexR_sound ho hd hn h
    · rename_i ho; exact rdExtract_sound ho hd hn h
    · rename_i ho; exact rdMakeMap_sound ho hd hn h
    · rename_i ho; exact rdLook_sound ho hd hn h
    · rename_i ho; exact rdLook2_sound ho hd hn h
    · rename_i ho; exact rdRange_sound ho hd hn h
    · rename_i ho; exact rdEntry_sound ho hd hn h
    · rename_i fnc first caps ho
      split at h
      · rename_i g
        split at h
        · rename_i hf
          have e1 : first = #[] := by rw [← Array.toArray_toList (xs := first), hf]
          subst e1
          exact rdMakeFn_sound ho hd hn h
        · rename_i f fs hf
          split at h
          · rename_i hc
            have e1 : caps = #[] := by rw [← Array.toArray_toList (xs := caps), hc]
            subst e1
            rw [← hf] at h
            exact rdMakeM_sound ho hd hn h
          · exact h.elim
      · exact h.elim
    · rename_i c ho
      obtain ⟨callee, args, ats⟩ := c
      simp only at h
      split at h
      · split at h
        · rename_i x T hx hT
          have e1 : args = #[x] := by rw [← Array.toArray_toList (xs := args), hx]
          have e2 : ats = #[T] := by rw [← Array.toArray_toList (xs := ats), hT]
          subst e1 e2
          split at h
          · rename_i hm; exact rdLenM_sound hm ho hd hn h
          · split at h
            · exact rdLen_sound ho hd hn h
            · exact rdLenR_sound ho hd hn h
        · exact h.elim
      · split at h
        · rename_i x y T T2 hx hT
          have e1 : args = #[x, y] := by rw [← Array.toArray_toList (xs := args), hx]
          have e2 : ats = #[T, T2] := by rw [← Array.toArray_toList (xs := ats), hT]
          subst e1 e2
          split at h
          · exact rdApp2_sound ho hd hn h
          · exact rdAppR_sound ho hd hn h
        · exact h.elim
      · exact rdCallY_sound hΓ ho hd hn h
      · exact h.elim
    · exact h.elim
  | none =>
    simp only [hd] at h
    split at h
    · rename_i T a x ho
      cases hT : aggT P T with
      | none => simp only [hT] at h; exact h.elim
      | some b =>
        cases b with
        | true => simp only [hT] at h; exact rdStoreA_sound ho hd h
        | false => simp only [hT] at h; exact rdStore_sound ho hd h
    · rename_i ho; exact rdMapUpd_sound (.inl ho) hd h
    · rename_i ho; exact rdMapUpd_sound (.inr ho) hd h
    · rename_i c ho
      obtain ⟨callee, args, ats⟩ := c
      simp only at h
      split at h
      · split at h
        · rename_i x T hx hT
          have e1 : args = #[x] := by rw [← Array.toArray_toList (xs := args), hx]
          have e2 : ats = #[T] := by rw [← Array.toArray_toList (xs := ats), hT]
          subst e1 e2
          exact rdClear_sound ho hd h
        · exact h.elim
      · exact h.elim
    · exact h.elim

noncomputable def rdSkip (o : Oper) : Rd := match o.dst with
  | some d => .ret [.set d (.tup [])]
  | none => .ret []

noncomputable def rdG (P : Program) (Γ : Ctx) (tl : List Nat) (ops : Array Oper) (o : Oper) : Rd := match o.guard with
  | none => rdO P Γ tl o
  | some (g, want) => match (ops[g]?).bind (·.dst) with
    | some t => .get t fun v => match v with
      | .bool b => .br (b = want) (rdO P Γ tl o) (rdSkip o)
      | .tup [] => rdSkip o
      | _ => .fail
    | none => .fail

def Steps1 (P : Program) (κ : Con) (ops : Array Oper) (o : Oper) (e : Env) (ws : List Wr) : Prop :=
  ∀ (Q : Exit → Act → World → Prop) (K : Act → World → Prop) (a : Act) (w : World), St κ e a w → (∀ a' w', St κ (apps ws e) a' w' → K a' w') →
    if Region.wanted o (yielded ops a.tmps) then o.wp P a w K Q ∨ (o.asks P a w ∧ LetsOut Q) else K (a.put o.dst undef) w

omit hΓ in
theorem skip_sound {o : Oper} {e : Env} {ws : List Wr} (hn : ∀ d, o.dst = some d → (κ.lim.1 ≤ d ∧ d < κ.lim.2)) (h : (rdSkip o).Wo e ws) {a : Act} {w : World} (hs : St κ e a w) : St κ (apps ws e) (a.put o.dst undef) w := by
  obtain ⟨h1, h2, Z, β, hR⟩ := hs
  unfold rdSkip at h
  cases hd : o.dst with
  | none =>
    simp only [hd] at h
    have h' : ws = _ := h
    subst h'
    exact ⟨h1, h2, Z, β, hR⟩
  | some d =>
    simp only [hd] at h
    have h' : ws = _ := h
    subst h'
    refine ⟨h1, keep_put (hn d hd) h2, Z, β, ?_⟩
    rw [vals_put (show d < a.tmps.size by rw [h2.1]; exact (hn d hd).2)]
    exact hR.put d (.tup [] #[] rfl (by simp)) (by simp)

theorem rdG_sound {tl : List Nat} {ops : Array Oper} {o : Oper} {e : Env} {ws : List Wr} (hn : ∀ d, o.dst = some d → (κ.lim.1 ≤ d ∧ d < κ.lim.2)) (h : (rdG P Γ tl ops o).Wo e ws) : Steps1 P κ ops o e ws := by
  intro Q K a w hs hK
  unfold rdG at h
  cases hg : o.guard with
  | none =>
    simp only [hg] at h
    have hw : Region.wanted o (yielded ops a.tmps) = true := by simp [Region.wanted, hg]
    rw [if_pos hw]
    exact .inl (rdO_sound hΓ hn h Q K a w hs hK)
  | some gw =>
    obtain ⟨g, want⟩ := gw
    simp only [hg] at h
    cases ht : (ops[g]?).bind (·.dst) with
    | none => simp only [ht] at h; exact h.elim
    | some t =>
      simp only [ht] at h
      obtain ⟨hj, h⟩ := h
      obtain ⟨h1, h2, Z, β, hR⟩ := hs
      dsimp only at h
      split at h
      · rename_i b het
        have hv := ORep.toP (hR.slot' het (by simp)) rfl
        generalize hvv : vals a t = vv at hv
        cases hv
        have hat : a.tmps[t]? = some (.bool b) := by
          simp only [vals, Array.getD_eq_getD_getElem?] at hvv
          cases hh : a.tmps[t]? with
          | none => rw [hh] at hvv; cases hvv
          | some x => rw [hh] at hvv; simp at hvv; rw [hvv]
        have hy : yielded ops a.tmps g = some b := by simp [yielded, ht, hat]
        rcases h with ⟨hb, h⟩ | ⟨hb, h⟩
        · subst hb
          rw [if_pos (by simp [Region.wanted, hg, hy])]
          exact .inl (rdO_sound hΓ hn h Q K a w ⟨h1, h2, Z, β, hR⟩ hK)
        · rw [if_neg (by simp [Region.wanted, hg, hy, hb])]
          exact hK _ _ (skip_sound hn h ⟨h1, h2, Z, β, hR⟩)
      · rename_i het
        have hv := ORep.toP (hR.slot' het (by simp)) rfl
        generalize hvv : vals a t = vv at hv
        have hy : yielded ops a.tmps g = none := by
          cases hv with
          | tup l cs hcs hk =>
            simp only [vals, Array.getD_eq_getD_getElem?] at hvv
            simp only [yielded, ht, Option.bind_some]
            cases hh : a.tmps[t]? with
            | none => rfl
            | some x => rw [hh] at hvv; simp at hvv; rw [hvv]
        rw [if_neg (by simp [Region.wanted, hg, hy])]
        exact hK _ _ (skip_sound hn h ⟨h1, h2, Z, β, hR⟩)
      · exact h.elim
end

def Rd.W (e : Env) : Rd → (List Wr → Prop) → Prop
  | .ret ws, K => K ws
  | .fail, _ => False
  | .get t k, K => e t ≠ .junk ∧ Rd.W e (k (e t)) K
  | .peek t k, K => e t ≠ .junk ∧ Rd.W e (k (head (e t))) K
  | .need c k, K => c ∧ Rd.W e k K
  | .ex _ k, K => ∃ x, Rd.W e (k x) K
  | .br c x y, K => (c → Rd.W e x K) ∧ (¬ c → Rd.W e y K)

theorem Rd.W.wo {e : Env} : ∀ {r : Rd} {K : List Wr → Prop}, r.W e K → ∃ ws, r.Wo e ws ∧ K ws
  | .ret ws, _, h => ⟨ws, rfl, h⟩
  | .fail, _, h => h.elim
  | .get _ _, _, ⟨h1, h2⟩ => let ⟨ws, h3, h4⟩ := h2.wo; ⟨ws, ⟨h1, h3⟩, h4⟩
  | .peek _ _, _, ⟨h1, h2⟩ => let ⟨ws, h3, h4⟩ := h2.wo; ⟨ws, ⟨h1, h3⟩, h4⟩
  | .need _ _, _, ⟨h1, h2⟩ => let ⟨ws, h3, h4⟩ := h2.wo; ⟨ws, ⟨h1, h3⟩, h4⟩
  | .ex _ _, _, ⟨x, h⟩ => let ⟨ws, h3, h4⟩ := h.wo; ⟨ws, ⟨x, h3⟩, h4⟩
  | .br c x y, K, ⟨h1, h2⟩ => by
    by_cases hc : c
    · obtain ⟨ws, h3, h4⟩ := (h1 hc).wo; exact ⟨ws, .inl ⟨hc, h3⟩, h4⟩
    · obtain ⟨ws, h3, h4⟩ := (h2 hc).wo; exact ⟨ws, .inr ⟨hc, h3⟩, h4⟩

def wpOpsA (P : Program) (Γ : Ctx) (tl : List Nat) (ops : Array Oper) : List Oper → Env → (Env → Prop) → Prop
  | [], e, K => K e
  | o :: rest, e, K => (rdG P Γ tl ops o).W e fun ws => wpOpsA P Γ tl ops rest (apps ws e) K

def dstOK (lim : Nat × Nat) (ops : List Oper) : Bool := ops.all fun o => match o.dst with
  | some d => decide (lim.1 ≤ d ∧ d < lim.2)
  | none => true

theorem dstOK_spec {lim : Nat × Nat} {ops : List Oper} (h : dstOK lim ops = true) {o : Oper} (ho : o ∈ ops) : ∀ d, o.dst = some d → (lim.1 ≤ d ∧ d < lim.2) := by
  intro d hd
  have := List.all_eq_true.1 h o ho
  simpa [hd] using this

theorem wpOpsA_sound {P : Program} {κ : Con} {Γ : Ctx} (hΓ : ∀ f c, Γ f = some c → CtrOK P f c) {tl : List Nat} {ops : Array Oper} {Q : Exit → Act → World → Prop} {K : Env → Prop} (hK : ∀ e a w, K e → St κ e a w → Q .normal a w) :
    ∀ (l : List Oper) (e : Env) (a : Act) (w : World), dstOK κ.lim l = true → wpOpsA P Γ tl ops l e K → St κ e a w → wpList P ops Q l a w
  | [], e, a, w, _, h, hs => hK e a w h hs
  | o :: rest, e, a, w, hd, h, hs => by
    obtain ⟨ws, hw, h⟩ := Rd.W.wo h
    have hn := dstOK_spec hd (List.mem_cons_self ..)
    have hd' : dstOK κ.lim rest = true := by simp only [dstOK, List.all_cons, Bool.and_eq_true] at hd; exact hd.2
    have := rdG_sound hΓ hn hw Q (wpList P ops Q rest) a w hs fun a' w' hs' => wpOpsA_sound hΓ hK rest _ a' w' hd' h hs'
    unfold wpList
    exact this

end Go.Proofs.Ytehdfifncbokeaa

namespace Go.Proofs.Ytehdfifncbokeaa
set_option linter.unusedSimpArgs false
set_option linter.unusedVariables false
set_option maxRecDepth 8000
set_option maxHeartbeats 2000000
open Go Go.RowKit AV

theorem head_junk {A : AV} : head A = .junk ↔ A = .junk := by cases A <;> simp [head]
theorem tg_head (A : AV) : tg (head A) = tg A := by cases A <;> rfl

theorem Rd.Ok.local {e e' : Env} : ∀ {r : Rd} {f : Fp}, r.Ok e f → (∀ t ∈ f.gets, e' t = e t) → (∀ t ∈ f.peeks, head (e' t) = head (e t)) → r.Ok e' f
  | .ret _, _, h, _, _ => h
  | .fail, _, h, _, _ => h
  | .get t k, f, ⟨h1, f', h2, h3⟩, hg, hp => by
    subst h3
    have := hg t (by simp)
    refine ⟨by rw [this]; exact h1, f', ?_, by rw [this]⟩
    rw [this]
    exact h2.local (fun s hs => hg s (by simp [hs])) (fun s hs => hp s hs)
  | .peek t k, f, ⟨h1, f', h2, h3⟩, hg, hp => by
    subst h3
    have := hp t (by simp)
    have htg : tg (e' t) = tg (e t) := by rw [← tg_head (e' t), this, tg_head]
    refine ⟨fun hj => h1 (head_junk.1 (by rw [← this]; exact head_junk.2 hj)), f', ?_, by rw [htg]⟩
    rw [this]
    exact h2.local (fun s hs => hg s hs) (fun s hs => hp s (by simp [hs]))
  | .need c k, f, ⟨h1, h2⟩, hg, hp => ⟨h1, h2.local hg hp⟩
  | .ex α k, f, ⟨x, h⟩, hg, hp => ⟨x, h.local hg hp⟩
  | .br c x y, f, .inl ⟨h1, h2⟩, hg, hp => .inl ⟨h1, h2.local hg hp⟩
  | .br c x y, f, .inr ⟨h1, h2⟩, hg, hp => .inr ⟨h1, h2.local hg hp⟩

theorem Rd.Ok.gets {e : Env} : ∀ {r : Rd} {f : Fp}, r.Ok e f → (∀ t ∈ f.gets, e t ≠ .junk ∧ ∀ s ∈ tg (e t), s ∈ f.tgs) ∧ (∀ t ∈ f.peeks, e t ≠ .junk ∧ ∀ s ∈ tg (e t), s ∈ f.tgs)
  | .ret _, _, h => by cases h; simp
  | .fail, _, h => h.elim
  | .get t k, f, ⟨h1, f', h2, h3⟩ => by
    subst h3
    have := h2.gets
    refine ⟨fun s hs => ?_, fun s hs => ⟨(this.2 s hs).1, fun x hx => by simp [(this.2 s hs).2 x hx]⟩⟩
    rcases List.mem_cons.1 hs with rfl | hs
    · exact ⟨h1, fun x hx => by simp [hx]⟩
    · exact ⟨(this.1 s hs).1, fun x hx => by simp [(this.1 s hs).2 x hx]⟩
  | .peek t k, f, ⟨h1, f', h2, h3⟩ => by
    subst h3
    have := h2.gets
    refine ⟨fun s hs => ⟨(this.1 s hs).1, fun x hx => by simp [(this.1 s hs).2 x hx]⟩, fun s hs => ?_⟩
    rcases List.mem_cons.1 hs with rfl | hs
    · exact ⟨h1, fun x hx => by simp [hx]⟩
    · exact ⟨(this.2 s hs).1, fun x hx => by simp [(this.2 s hs).2 x hx]⟩
  | .need c k, f, ⟨_, h2⟩ => h2.gets
  | .ex α k, f, ⟨x, h⟩ => h.gets
  | .br c x y, f, .inl ⟨_, h2⟩ => h2.gets
  | .br c x y, f, .inr ⟨_, h2⟩ => h2.gets

namespace Wr
def slot : Wr → Nat
  | .set d _ => d
  | .mod s _ _ => s
def val : Wr → AV
  | .set _ v => v
  | .mod _ _ v => v
def hslot : Wr → List Nat
  | .set d _ => [d]
  | .mod s p _ => if p = [] then [s] else []
def kills (x : Wr) : List Nat := if isOwn x.val then [x.slot] else []
def path : Wr → List Nat
  | .set _ _ => []
  | .mod _ p _ => p
def cell : Wr → AV → AV
  | .set _ v, _ => v
  | .mod _ p v, A => setP A p v
def killer (x : Wr) (A : AV) : AV := if isOwn x.val then killV x.slot x.path A else A

theorem app_slot (x : Wr) (e : Env) : x.app e x.slot = x.cell (e x.slot) := by
  cases x <;> simp only [app, slot, cell] <;> split <;> simp [upd]
theorem app_other (x : Wr) (e : Env) {t : Nat} (h : t ≠ x.slot) : x.app e t = x.killer (e t) := by
  cases x with
  | set d v => simp only [slot] at h; simp only [app, killer, val, slot, path]; by_cases hv : isOwn v = true <;> simp [hv, upd, kill, h]
  | mod s p v => simp only [slot] at h; simp only [app, killer, val, slot, path]; by_cases hv : isOwn v = true <;> simp [hv, upd, kill, h]
end Wr

theorem killV_cases (s : Nat) (p : List Nat) (A : AV) : killV s p A = A ∨ (killV s p A = .junk ∧ s ∈ tg A) := by
  cases A <;> simp only [killV, true_or]
  all_goals (split <;> simp_all [tg])

theorem killer_cases (x : Wr) (A : AV) : x.killer A = A ∨ (x.killer A = .junk ∧ ∃ s ∈ x.kills, s ∈ tg A) := by
  unfold Wr.killer Wr.kills
  split
  · rcases killV_cases x.slot x.path A with h | h
    · exact .inl h
    · exact .inr ⟨h.1, _, by simp, h.2⟩
  · exact .inl rfl

theorem killV_comm (s s' : Nat) (p p' : List Nat) (A : AV) : killV s p (killV s' p' A) = killV s' p' (killV s p A) := by
  rcases killV_cases s p A with h1 | ⟨h1, _⟩ <;> rcases killV_cases s' p' A with h2 | ⟨h2, _⟩ <;> rw [h1, h2] <;> first | exact h1 | exact h2.symm | rfl | (rw [h1]; rfl)

theorem killer_comm (x y : Wr) (A : AV) : x.killer (y.killer A) = y.killer (x.killer A) := by
  unfold Wr.killer
  split <;> split <;> first | rfl | exact killV_comm _ _ _ _ _

theorem killer_head (x : Wr) {A : AV} {k : Nat} {p : List Nat} {v : AV} : x.killer (setP A (k :: p) v) = setP (x.killer A) (k :: p) v := by
  unfold Wr.killer
  split
  · cases A <;> simp only [setP, kids, withKids, killV]
    all_goals (split <;> simp [setP, kids])
  · rfl

theorem Wr.comm {x y : Wr} (h1 : x.slot ≠ y.slot) (h2 : ∀ s ∈ x.kills, s ∉ tg y.val) (h3 : ∀ s ∈ y.kills, s ∉ tg x.val) (e : Env) : x.app (y.app e) = y.app (x.app e) := by
  have cellK : ∀ (x y : Wr) (A : AV), (∀ s ∈ y.kills, s ∉ tg x.val) → x.cell (y.killer A) = y.killer (x.cell A) := by
    intro x y A h
    have hv : y.killer x.val = x.val := by
      rcases killer_cases y x.val with h' | ⟨_, s, hs, ht⟩
      · exact h'
      · exact absurd ht (h s hs)
    cases x with
    | set d v => exact hv.symm
    | mod s p v =>
      cases p with
      | nil => simp only [Wr.cell, setP]; exact hv.symm
      | cons k p => simp only [Wr.cell]; exact killer_head y |>.symm
  funext t
  by_cases hx : t = x.slot
  · subst hx
    rw [Wr.app_slot, Wr.app_other y _ h1, Wr.app_other y _ h1, Wr.app_slot]
    exact cellK x y _ h3
  · by_cases hy : t = y.slot
    · subst hy
      rw [Wr.app_other x _ hx, Wr.app_slot, Wr.app_slot, Wr.app_other x _ hx]
      exact (cellK y x _ h2).symm
    · rw [Wr.app_other x _ hx, Wr.app_other y _ hy, Wr.app_other y _ hy, Wr.app_other x _ hx]
      exact killer_comm x y _

def slotsW (ws : List Wr) : List Nat := ws.map Wr.slot
def hslotsW (ws : List Wr) : List Nat := ws.flatMap Wr.hslot
def killsW (ws : List Wr) : List Nat := ws.flatMap Wr.kills
def tgsW (ws : List Wr) : List Nat := ws.flatMap fun x => tg x.val

def disj (a b : List Nat) : Bool := a.all fun x => !b.contains x
theorem disj_spec {a b : List Nat} (h : disj a b = true) : ∀ x ∈ a, x ∉ b := by
  intro x hx hb
  have := List.all_eq_true.1 h x hx
  simp at this
  exact this hb

theorem apps_comm {a b : List Wr} (h1 : ∀ x ∈ slotsW a, x ∉ slotsW b) (h2 : ∀ s ∈ killsW a, s ∉ tgsW b) (h3 : ∀ s ∈ killsW b, s ∉ tgsW a) (e : Env) : apps a (apps b e) = apps b (apps a e) := by
  have one : ∀ (x : Wr) (b : List Wr), (x.slot ∉ slotsW b) → (∀ s ∈ x.kills, s ∉ tgsW b) → (∀ s ∈ killsW b, s ∉ tg x.val) → ∀ e, x.app (apps b e) = apps b (x.app e) := by
    intro x b
    induction b with
    | nil => intro _ _ _ e; rfl
    | cons y b ih =>
      intro g1 g2 g3 e
      simp only [slotsW, List.map_cons, List.mem_cons, not_or] at g1
      have c : x.app (y.app e) = y.app (x.app e) := Wr.comm g1.1 (fun s hs ht => g2 s hs (by simp [tgsW, ht])) (fun s hs => g3 s (by simp [killsW, hs])) e
      simp only [apps]
      rw [ih g1.2 (fun s hs ht => g2 s hs (by simp only [tgsW, List.flatMap_cons, List.mem_append]; exact .inr ht)) (fun s hs => g3 s (by simp only [killsW, List.flatMap_cons, List.mem_append]; exact .inr hs)), c]
  induction a generalizing e with
  | nil => rfl
  | cons x a ih =>
    simp only [apps]
    rw [one x b (h1 x.slot (by simp [slotsW])) (fun s hs => h2 s (by simp [killsW, hs])) (fun s hs ht => h3 s hs (by simp [tgsW, ht])) e]
    exact ih (fun y hy => h1 y (by simp only [slotsW, List.map_cons, List.mem_cons]; exact .inr hy)) (fun s hs => h2 s (by simp only [killsW, List.flatMap_cons, List.mem_append]; exact .inr hs)) (fun s hs ht => h3 s hs (by simp only [tgsW, List.flatMap_cons, List.mem_append]; exact .inr ht)) _

theorem apps_other : ∀ (ws : List Wr) (e : Env) {t : Nat}, t ∉ slotsW ws → apps ws e t = e t ∨ (apps ws e t = .junk ∧ ∃ s ∈ killsW ws, s ∈ tg (e t))
  | [], _, _, _ => .inl rfl
  | x :: ws, e, t, h => by
    simp only [slotsW, List.map_cons, List.mem_cons, not_or] at h
    have h1 := Wr.app_other x e h.1
    rcases apps_other ws (x.app e) h.2 with h2 | ⟨h2, s, hs, ht⟩
    · rcases killer_cases x (e t) with h3 | ⟨h3, s, hs, ht⟩
      · exact .inl (by simp only [apps]; rw [h2, h1, h3])
      · exact .inr ⟨by simp only [apps]; rw [h2, h1, h3], s, by simp only [killsW, List.flatMap_cons, List.mem_append]; exact .inl hs, ht⟩
    · refine .inr ⟨h2, s, by simp only [killsW, List.flatMap_cons, List.mem_append]; exact .inr hs, ?_⟩
      rw [h1] at ht
      rcases killer_cases x (e t) with h3 | ⟨h3, _⟩
      · rwa [h3] at ht
      · rw [h3] at ht; simp [tg] at ht

theorem head_setP {A v : AV} {k : Nat} {p : List Nat} : head (setP A (k :: p) v) = head A := by
  simp only [setP]
  cases A <;> simp [kids, withKids, head]

theorem apps_head : ∀ (ws : List Wr) (e : Env) {t : Nat}, t ∉ hslotsW ws → head (apps ws e t) = head (e t) ∨ (apps ws e t = .junk ∧ ∃ s ∈ killsW ws, s ∈ tg (e t))
  | [], _, _, _ => .inl rfl
  | x :: ws, e, t, h => by
    simp only [hslotsW, List.flatMap_cons, List.mem_append, not_or] at h
    have h1 : head (x.app e t) = head (e t) ∨ (x.app e t = .junk ∧ ∃ s ∈ x.kills, s ∈ tg (e t)) := by
      by_cases hx : t = x.slot
      · cases x with
        | set d v => exact absurd (by simp [Wr.hslot, hx, Wr.slot]) h.1
        | mod s p v =>
          cases p with
          | nil => exact absurd (by simp [Wr.hslot, hx, Wr.slot]) h.1
          | cons k p =>
            have := Wr.app_slot (.mod s (k :: p) v) e
            rw [hx, this]
            exact .inl head_setP
      · rw [Wr.app_other x e hx]
        rcases killer_cases x (e t) with h3 | h3
        · exact .inl (by rw [h3])
        · exact .inr h3
    rcases apps_head ws (x.app e) h.2 with h2 | ⟨h2, s, hs, ht⟩
    · rcases h1 with h3 | ⟨h3, s, hs, ht⟩
      · exact .inl (h2.trans h3)
      · refine .inr ⟨?_, s, by simp only [killsW, List.flatMap_cons, List.mem_append]; exact .inl hs, ht⟩
        rw [h3] at h2
        exact head_junk.1 h2
    · refine .inr ⟨h2, s, by simp only [killsW, List.flatMap_cons, List.mem_append]; exact .inr hs, ?_⟩
      rcases h1 with h3 | ⟨h3, _⟩
      · rw [← tg_head, ← h3, tg_head]; exact ht
      · rw [h3] at ht; simp [tg] at ht

def indep (f g : Fp) : Bool :=
  disj (slotsW f.ws) g.gets && disj (slotsW f.ws) (slotsW g.ws) && disj (slotsW g.ws) f.gets && disj (hslotsW f.ws) g.peeks && disj (hslotsW g.ws) f.peeks &&
  disj (killsW f.ws) g.tgs && disj (killsW f.ws) (tgsW g.ws) && disj (killsW g.ws) f.tgs && disj (killsW g.ws) (tgsW f.ws)

theorem swap {e : Env} {r1 r2 : Rd} {f g : Fp} (h1 : r1.Ok e f) (h2 : r2.Ok (apps f.ws e) g) (hi : indep f g = true) : r2.Ok e g ∧ r1.Ok (apps g.ws e) f ∧ apps g.ws (apps f.ws e) = apps f.ws (apps g.ws e) := by
  simp only [indep, Bool.and_eq_true] at hi
  obtain ⟨⟨⟨⟨⟨⟨⟨⟨i1, i2⟩, i3⟩, i4⟩, i5⟩, i6⟩, i7⟩, i8⟩, i9⟩ := hi
  have d1 := disj_spec i1
  have d2 := disj_spec i2
  have d3 := disj_spec i3
  have d4 := disj_spec i4
  have d5 := disj_spec i5
  have d7 := disj_spec i7
  have d8 := disj_spec i8
  have d9 := disj_spec i9
  have k2 := h2.gets
  have k1 := h1.gets
  have hback : r2.Ok e g := by
    refine h2.local (fun t ht => ?_) (fun t ht => ?_)
    · have hn : t ∉ slotsW f.ws := fun hm => d1 t hm ht
      rcases apps_other f.ws e hn with h | ⟨h, _⟩
      · exact h.symm
      · exact absurd h (k2.1 t ht).1
    · have hn : t ∉ hslotsW f.ws := fun hm => d4 t hm ht
      rcases apps_head f.ws e hn with h | ⟨h, _⟩
      · exact h.symm
      · exact absurd h (k2.2 t ht).1
  refine ⟨hback, ?_, ?_⟩
  · refine h1.local (fun t ht => ?_) (fun t ht => ?_)
    · have hn : t ∉ slotsW g.ws := fun hm => d3 t hm ht
      rcases apps_other g.ws e hn with h | ⟨_, s, hs, hst⟩
      · exact h
      · exact absurd ((k1.1 t ht).2 s hst) (d8 s hs)
    · have hn : t ∉ hslotsW g.ws := fun hm => d5 t hm ht
      rcases apps_head g.ws e hn with h | ⟨_, s, hs, hst⟩
      · exact h
      · exact absurd ((k1.2 t ht).2 s hst) (d8 s hs)
  · exact (apps_comm d2 d7 d9 e).symm

section
variable (P : Program) (Γ : Ctx) (tl : List Nat) (ops : Array Oper)

def RunF (F : Nat → Fp) : List Nat → Env → Env → Prop
  | [], e, e' => e' = e
  | i :: l, e, e' => (∃ o, ops[i]? = some o ∧ (rdG P Γ tl ops o).Ok e (F i)) ∧ RunF F l (apps (F i).ws e) e'

def anyA (K : Env → Prop) : Nat → Array Bool → Env → Prop
  | 0, listed, e => Region.ready .any ops listed = [] ∧ K e
  | n + 1, listed, e => (Region.ready .any ops listed = [] → K e) ∧ ∀ i ∈ Region.ready .any ops listed, ∃ o f, ops[i]? = some o ∧ (rdG P Γ tl ops o).Ok e f ∧ anyA K n (listed.setIfInBounds i true) (apps f.ws e)
end

section
variable {P : Program} {Γ : Ctx} {tl : List Nat} {ops : Array Oper}

theorem bubble {F : Nat → Fp} {i : Nat} {l2 : List Nat} {e' : Env} : ∀ (l1 : List Nat) {e : Env}, RunF P Γ tl ops F (l1 ++ i :: l2) e e' → (∀ j ∈ l1, indep (F j) (F i) = true) → RunF P Γ tl ops F (i :: (l1 ++ l2)) e e'
  | [], e, h, _ => h
  | j :: l1, e, ⟨⟨oj, hoj, h1⟩, h⟩, hi => by
    obtain ⟨⟨o, ho, h2⟩, h3⟩ := bubble l1 h fun k hk => hi k (by simp [hk])
    obtain ⟨g1, g2, g3⟩ := swap h1 h2 (hi j (by simp))
    refine ⟨⟨o, ho, g1⟩, ⟨oj, hoj, g2⟩, ?_⟩
    rw [← g3]
    exact h3

def befB (ops : Array Oper) : Array Nat := Region.before ops
def ordB (B : Array Nat) (j i : Nat) : Bool := (B.getD i 0).testBit j
def fwdB (ops : Array Oper) : Bool := ops.toList.zipIdx.all fun p => p.1.after.all fun e => !Region.binds .any e || decide (e.on < p.2)

def Down (ops : Array Oper) (listed : Array Bool) : Prop := ∀ i o, ops[i]? = some o → listed.getD i true = true → i < listed.size → ∀ e ∈ o.after, Region.binds .any e = true → listed.getD e.on false = true

theorem before_spec (hf : fwdB ops = true) : ∀ (i : Nat) (o : Oper), ops[i]? = some o → ∀ j, ordB (befB ops) j i = true → ∃ e ∈ o.after, Region.binds .any e = true ∧ (e.on = j ∨ ordB (befB ops) j e.on = true) := by
  intro i o ho j hj
  have step : ∀ (l : List Oper) (acc : Array Nat), (l.foldl (fun acc o => acc.push (o.after.foldl (fun s e => if Region.binds .any e then s ||| 2 ^ e.on ||| acc.getD e.on 0 else s) 0)) acc).size = acc.size + l.length ∧
      (∀ k, k < acc.size → (l.foldl (fun acc o => acc.push (o.after.foldl (fun s e => if Region.binds .any e then s ||| 2 ^ e.on ||| acc.getD e.on 0 else s) 0)) acc)[k]? = acc[k]?) := by
    intro l
    induction l with
    | nil => intro acc; simp
    | cons o l ih =>
      intro acc
      simp only [List.foldl_cons]
      have := ih (acc.push (o.after.foldl (fun s e => if Region.binds .any e then s ||| 2 ^ e.on ||| acc.getD e.on 0 else s) 0))
      refine ⟨by rw [this.1]; simp; omega, fun k hk => ?_⟩
      rw [this.2 k (by simp; omega), Array.getElem?_push, if_neg (by omega)]
  have hlt : i < ops.size := (Array.getElem?_eq_some_iff.1 ho).1
  have hB : befB ops = ops.toList.foldl (fun acc o => acc.push (o.after.foldl (fun s e => if Region.binds .any e then s ||| 2 ^ e.on ||| acc.getD e.on 0 else s) 0)) #[] := by
    unfold befB Region.before
    rw [← Array.foldl_toList]
  have hsplit : ops.toList = ops.toList.take i ++ o :: ops.toList.drop (i + 1) := by
    have h1 : ops.toList[i]? = some o := by simpa using ho
    obtain ⟨h2, h3⟩ := List.getElem?_eq_some_iff.1 h1
    rw [← h3, ← List.drop_eq_getElem_cons h2]
    exact (List.take_append_drop i _).symm
  generalize hacc : ((ops.toList.take i).foldl (fun acc o => acc.push (o.after.foldl (fun s e => if Region.binds .any e then s ||| 2 ^ e.on ||| acc.getD e.on 0 else s) 0)) #[]) = acc at *
  have hasz : acc.size = i := by
    rw [← hacc, (step _ _).1]
    simp; omega
  have hBi : (befB ops).getD i 0 = o.after.foldl (fun s e => if Region.binds .any e then s ||| 2 ^ e.on ||| acc.getD e.on 0 else s) 0 := by
    have : befB ops = (ops.toList.drop (i + 1)).foldl (fun acc o => acc.push (o.after.foldl (fun s e => if Region.binds .any e then s ||| 2 ^ e.on ||| acc.getD e.on 0 else s) 0)) (acc.push (o.after.foldl (fun s e => if Region.binds .any e then s ||| 2 ^ e.on ||| acc.getD e.on 0 else s) 0)) := by
      rw [hB]
      conv => lhs; rw [hsplit]
      rw [List.foldl_append, hacc]
      rfl
    rw [this, Array.getD_eq_getD_getElem?, (step _ _).2 i (by simp; omega), Array.getElem?_push, if_pos hasz.symm]
    rfl
  have haccB : ∀ k, k < i → acc.getD k 0 = (befB ops).getD k 0 := by
    intro k hk
    have : befB ops = (o :: ops.toList.drop (i + 1)).foldl (fun acc o => acc.push (o.after.foldl (fun s e => if Region.binds .any e then s ||| 2 ^ e.on ||| acc.getD e.on 0 else s) 0)) acc := by
      rw [hB]
      conv => lhs; rw [hsplit]
      rw [List.foldl_append, hacc]
    rw [this, Array.getD_eq_getD_getElem?, Array.getD_eq_getD_getElem?, (step _ _).2 k (by omega)]
  have hfold : ∀ (l : List Edge) (s : Nat), (l.foldl (fun s e => if Region.binds .any e then s ||| 2 ^ e.on ||| acc.getD e.on 0 else s) s).testBit j = true → s.testBit j = true ∨ ∃ e ∈ l, Region.binds .any e = true ∧ (e.on = j ∨ (acc.getD e.on 0).testBit j = true) := by
    intro l
    induction l with
    | nil => intro s h; exact .inl h
    | cons e l ih =>
      intro s h
      simp only [List.foldl_cons] at h
      rcases ih _ h with h1 | ⟨e', he', h1⟩
      · split at h1
        · rename_i hb
          simp only [Nat.testBit_or, Bool.or_eq_true] at h1
          rcases h1 with (h1 | h1) | h1
          · exact .inl h1
          · rw [Nat.testBit_two_pow] at h1
            exact .inr ⟨e, by simp, hb, .inl (by simpa using h1)⟩
          · exact .inr ⟨e, by simp, hb, .inr h1⟩
        · exact .inl h1
      · exact .inr ⟨e', by simp [he'], h1⟩
  unfold ordB at hj
  rw [hBi, ← Array.foldl_toList] at hj
  rcases hfold _ _ hj with h0 | ⟨e, he, hb, h1⟩
  · simp at h0
  · refine ⟨e, by simpa using he, hb, h1.imp id fun h => ?_⟩
    have hel : e.on < i := by
      have := List.all_eq_true.1 hf (o, i) (by
        rw [List.mem_zipIdx_iff_getElem?]
        simpa using ho)
      simp only [Array.all_eq_true_iff_forall_mem] at this
      have := this e (by simpa using he)
      simpa [hb] using this
    unfold ordB
    rw [← haccB e.on hel]
    exact h

theorem ord_listed (hf : fwdB ops = true) {listed : Array Bool} (hD : Down ops listed) (hsz : listed.size = ops.size) : ∀ (n i : Nat), i < n → (i ∈ Region.ready .any ops listed ∨ listed.getD i false = true) → ∀ j, ordB (befB ops) j i = true → listed.getD j false = true := by
  intro n
  induction n with
  | zero => intro i hi; omega
  | succ n ih =>
    intro i hi hr j hj
    have key : ∃ o, ops[i]? = some o ∧ ∀ e ∈ o.after, Region.binds .any e = true → listed.getD e.on false = true := by
      rcases hr with hr | hr
      · exact (mem_ready.1 hr).2
      · have hlt : i < listed.size := by
          rcases Nat.lt_or_ge i listed.size with h | h
          · exact h
          · simp [Array.getElem?_eq_none h] at hr
        have ho : ops[i]? = some ops[i] := Array.getElem?_eq_getElem (by omega)
        refine ⟨_, ho, hD i _ ho ?_ hlt⟩
        simpa [hlt] using hr
    obtain ⟨o, ho, hall⟩ := key
    obtain ⟨e, he, hb, h1⟩ := before_spec hf i o ho j hj
    have hel := hall e he hb
    rcases h1 with rfl | h1
    · exact hel
    · have hlt : e.on < i := by
        have := List.all_eq_true.1 hf (o, i) (by
          rw [List.mem_zipIdx_iff_getElem?]
          simpa using ho)
        simp only [Array.all_eq_true_iff_forall_mem] at this
        have := this e he
        simpa [hb] using this
      exact ih e.on (by omega) (.inr hel) j h1

theorem anyA_of_run {F : Nat → Fp} {K : Env → Prop} {e' : Env} (hf : fwdB ops = true) (hK : K e') : ∀ (n : Nat) (l : List Nat) (listed : Array Bool) (e : Env), l.length = n → listed.size = ops.size → (∀ i, i ∈ l ↔ i < ops.size ∧ listed.getD i true = false) → l.Pairwise (· < ·) →
    (∀ j ∈ l, ∀ i ∈ l, j < i → ordB (befB ops) j i = true ∨ indep (F j) (F i) = true) → Down ops listed → RunF P Γ tl ops F l e e' → anyA P Γ tl ops K n listed e := by
  have hready : ∀ (l : List Nat) (listed : Array Bool), listed.size = ops.size → (∀ i, i ∈ l ↔ i < ops.size ∧ listed.getD i true = false) → l.Pairwise (· < ·) → l ≠ [] → Region.ready .any ops listed ≠ [] := by
    intro l listed hsz hl hp hne hr
    cases l with
    | nil => exact hne rfl
    | cons i l =>
      obtain ⟨hi, hli⟩ := (hl i).1 (by simp)
      have : i ∈ Region.ready .any ops listed := by
        rw [mem_ready]
        refine ⟨hli, ops[i], Array.getElem?_eq_getElem hi, fun ed he hb => ?_⟩
        have hlt : ed.on < i := by
          have := List.all_eq_true.1 hf (ops[i], i) (by
            rw [List.mem_zipIdx_iff_getElem?]
            simp [hi])
          simp only [Array.all_eq_true_iff_forall_mem] at this
          have := this ed he
          simpa [hb] using this
        have hlts : ed.on < listed.size := by omega
        cases hv : listed.getD ed.on false with
        | true => rfl
        | false =>
          have : ed.on ∈ i :: l := (hl _).2 ⟨by omega, by simpa [hlts] using hv⟩
          rcases List.mem_cons.1 this with h | h
          · omega
          · have := (List.pairwise_cons.1 hp).1 _ h; omega
      rw [hr] at this
      cases this
  intro n
  induction n with
  | zero =>
    intro l listed e hn hsz hl hp hi hD hrun
    have : l = [] := List.eq_nil_of_length_eq_zero hn
    subst this
    have : e' = e := hrun
    subst this
    refine ⟨?_, hK⟩
    cases hr : Region.ready .any ops listed with
    | nil => rfl
    | cons i r =>
      exfalso
      have hm : i ∈ Region.ready .any ops listed := by rw [hr]; simp
      obtain ⟨h1, o, ho, _⟩ := mem_ready.1 hm
      have := (hl i).2 ⟨(Array.getElem?_eq_some_iff.1 ho).1, h1⟩
      cases this
  | succ n ih =>
    intro l listed e hn hsz hl hp hi hD hrun
    have hne : l ≠ [] := by rintro rfl; simp at hn
    refine ⟨fun h => absurd h (hready l listed hsz hl hp hne), fun i hir => ?_⟩
    obtain ⟨h1, o, ho, hall⟩ := mem_ready.1 hir
    have hios : i < ops.size := (Array.getElem?_eq_some_iff.1 ho).1
    have him : i ∈ l := (hl i).2 ⟨hios, h1⟩
    obtain ⟨l1, l2, rfl⟩ := List.append_of_mem him
    have hp' := List.pairwise_append.1 hp
    have hlt1 : ∀ j ∈ l1, j < i := fun j hj => hp'.2.2 j hj i (by simp)
    obtain ⟨⟨o', ho', hok⟩, hrest⟩ := bubble l1 hrun fun j hj => by
      rcases hi j (by simp [hj]) i (by simp) (hlt1 j hj) with h | h
      · exfalso
        have := ord_listed hf hD hsz (i + 1) i (by omega) (.inl hir) j h
        have hj' := (hl j).1 (by simp [hj])
        have hjs : j < listed.size := by omega
        have h3 := hj'.2
        simp [hjs] at this h3
        rw [h3] at this
        cases this
      · exact h
    refine ⟨o', F i, ho', hok, ?_⟩
    have hne1 : ∀ j, j ∈ l1 ++ l2 → j ≠ i := by
      intro j hj
      rcases List.mem_append.1 hj with h | h
      · have := hlt1 j h; omega
      · have := (List.pairwise_cons.1 hp'.2.1).1 j h; omega
    refine ih (l1 ++ l2) _ _ (by simp at hn ⊢; omega) (by simpa using hsz) (fun j => ?_) ?_ (fun j hj k hk hlt => hi j (by simp at hj ⊢; rcases hj with h | h <;> simp [h]) k (by simp at hk ⊢; rcases hk with h | h <;> simp [h]) hlt) ?_ hrest
    · constructor
      · intro hj
        have hji := hne1 j hj
        have := (hl j).1 (by simp at hj ⊢; rcases hj with h | h <;> simp [h])
        exact ⟨this.1, by rw [getD_set_ne true (Ne.symm hji)]; exact this.2⟩
      · rintro ⟨hj, hjl⟩
        by_cases hji : j = i
        · subst hji
          have hjs : j < listed.size := by omega
          simp [hjs] at hjl
        · rw [getD_set_ne true (Ne.symm hji)] at hjl
          have := (hl j).2 ⟨hj, hjl⟩
          simp at this ⊢
          rcases this with h | h | h
          · exact .inl h
          · exact absurd h hji
          · exact .inr h
    · refine List.pairwise_append.2 ⟨hp'.1, (List.pairwise_cons.1 hp'.2.1).2, fun a ha b hb => hp'.2.2 a ha b (by simp [hb])⟩
    · intro k ok hok' hlk hks ed hed hb
      by_cases hki : k = i
      · subst hki
        rw [ho] at hok'
        injection hok' with hok'
        subst hok'
        exact getD_set_true (hall ed hed hb)
      · rw [getD_set_ne true (Ne.symm hki)] at hlk
        exact getD_set_true (hD k ok hok' hlk (by simpa using hks) ed hed hb)

theorem wpAny_of_anyA {κ : Con} (hΓ : ∀ f c, Γ f = some c → CtrOK P f c) (hd : dstOK κ.lim ops.toList = true) {Q : Exit → Act → World → Prop} {K : Env → Prop} (hK : ∀ e a w, K e → St κ e a w → Q .normal a w) :
    ∀ (n : Nat) (listed : Array Bool) (e : Env) (a : Act) (w : World), anyA P Γ tl ops K n listed e → St κ e a w → wpAny P .any ops Q n listed a w
  | 0, listed, e, a, w, h, hs => ⟨h.1, hK e a w h.2 hs⟩
  | n + 1, listed, e, a, w, h, hs => by
    refine ⟨fun h0 => hK e a w (h.1 h0) hs, fun i hi => ?_⟩
    obtain ⟨o, f, ho, hok, hrest⟩ := h.2 i hi
    have hn := dstOK_spec hd (show o ∈ ops.toList by simpa using Array.mem_of_getElem? ho)
    have := rdG_sound hΓ hn hok.wo Q (wpAny P .any ops Q n (listed.setIfInBounds i true)) a w hs fun a' w' hs' => wpAny_of_anyA hΓ hd hK n _ _ a' w' hrest hs'
    unfold wpOp
    simp only [ho]
    exact this

def Rd.D (e : Env) : Rd → List Nat → List Nat → List Nat → (Fp → Prop) → Prop
  | .ret ws, gs, ps, ts, K => K ⟨gs, ps, ts, ws⟩
  | .fail, _, _, _, _ => False
  | .get t k, gs, ps, ts, K => e t ≠ .junk ∧ Rd.D e (k (e t)) (t :: gs) ps (tg (e t) ++ ts) K
  | .peek t k, gs, ps, ts, K => e t ≠ .junk ∧ Rd.D e (k (head (e t))) gs (t :: ps) (tg (e t) ++ ts) K
  | .need c k, gs, ps, ts, K => c ∧ Rd.D e k gs ps ts K
  | .ex _ k, gs, ps, ts, K => ∃ x, Rd.D e (k x) gs ps ts K
  | .br c x y, gs, ps, ts, K => (c → Rd.D e x gs ps ts K) ∧ (¬ c → Rd.D e y gs ps ts K)

def Fp.le (f g : Fp) : Prop := (∀ t ∈ f.gets, t ∈ g.gets) ∧ (∀ t ∈ f.peeks, t ∈ g.peeks) ∧ (∀ t ∈ f.tgs, t ∈ g.tgs) ∧ f.ws = g.ws

theorem Rd.D.ok {e : Env} : ∀ {r : Rd} {gs ps ts : List Nat} {K : Fp → Prop}, r.D e gs ps ts K → ∃ f g, r.Ok e f ∧ K g ∧ f.le g ∧ (∀ t ∈ gs, t ∈ g.gets) ∧ (∀ t ∈ ps, t ∈ g.peeks) ∧ (∀ t ∈ ts, t ∈ g.tgs)
  | .ret ws, gs, ps, ts, K, h => ⟨⟨[], [], [], ws⟩, _, rfl, h, by simp [Fp.le], by simp, by simp, by simp⟩
  | .fail, _, _, _, _, h => h.elim
  | .get t k, gs, ps, ts, K, ⟨h1, h2⟩ => by
    obtain ⟨f, g, g1, g2, g3, g4, g5, g6⟩ := h2.ok
    refine ⟨_, g, ⟨h1, f, g1, rfl⟩, g2, ⟨fun s hs => ?_, g3.2.1, fun s hs => ?_, g3.2.2.2⟩, fun s hs => g4 s (by simp [hs]), g5, fun s hs => g6 s (by simp [hs])⟩
    · rcases List.mem_cons.1 hs with rfl | hs
      · exact g4 _ (by simp)
      · exact g3.1 s hs
    · rcases List.mem_append.1 hs with hs | hs
      · exact g6 s (by simp [hs])
      · exact g3.2.2.1 s hs
  | .peek t k, gs, ps, ts, K, ⟨h1, h2⟩ => by
    obtain ⟨f, g, g1, g2, g3, g4, g5, g6⟩ := h2.ok
    refine ⟨_, g, ⟨h1, f, g1, rfl⟩, g2, ⟨g3.1, fun s hs => ?_, fun s hs => ?_, g3.2.2.2⟩, g4, fun s hs => g5 s (by simp [hs]), fun s hs => g6 s (by simp [hs])⟩
    · rcases List.mem_cons.1 hs with rfl | hs
      · exact g5 _ (by simp)
      · exact g3.2.1 s hs
    · rcases List.mem_append.1 hs with hs | hs
      · exact g6 s (by simp [hs])
      · exact g3.2.2.1 s hs
  | .need c k, gs, ps, ts, K, ⟨h1, h2⟩ => by
    obtain ⟨f, g, g1, g2⟩ := h2.ok
    exact ⟨f, g, ⟨h1, g1⟩, g2⟩
  | .ex α k, gs, ps, ts, K, ⟨x, h2⟩ => by
    obtain ⟨f, g, g1, g2⟩ := h2.ok
    exact ⟨f, g, ⟨x, g1⟩, g2⟩
  | .br c x y, gs, ps, ts, K, ⟨h1, h2⟩ => by
    by_cases hc : c
    · obtain ⟨f, g, g1, g2⟩ := (h1 hc).ok
      exact ⟨f, g, .inl ⟨hc, g1⟩, g2⟩
    · obtain ⟨f, g, g1, g2⟩ := (h2 hc).ok
      exact ⟨f, g, .inr ⟨hc, g1⟩, g2⟩

theorem disj_mono {a b a' b' : List Nat} (ha : ∀ t ∈ a', t ∈ a) (hb : ∀ t ∈ b', t ∈ b) (h : disj a b = true) : disj a' b' = true := by
  have := disj_spec h
  unfold disj
  rw [List.all_eq_true]
  intro x hx
  simp
  exact fun hm => this x (ha x hx) (hb x hm)

theorem indep_mono {f g f' g' : Fp} (hf : f'.le f) (hg : g'.le g) (h : indep f g = true) : indep f' g' = true := by
  simp only [indep, Bool.and_eq_true] at h ⊢
  obtain ⟨⟨⟨⟨⟨⟨⟨⟨i1, i2⟩, i3⟩, i4⟩, i5⟩, i6⟩, i7⟩, i8⟩, i9⟩ := h
  obtain ⟨f1, f2, f3, f4⟩ := hf
  obtain ⟨g1, g2, g3, g4⟩ := hg
  rw [f4, g4]
  have id' : ∀ (l : List Nat), ∀ t ∈ l, t ∈ l := fun l t h => h
  exact ⟨⟨⟨⟨⟨⟨⟨⟨disj_mono (id' _) g1 i1, i2⟩, disj_mono (id' _) f1 i3⟩, disj_mono (id' _) g2 i4⟩, disj_mono (id' _) f2 i5⟩, disj_mono (id' _) g3 i6⟩, i7⟩, disj_mono (id' _) f3 i8⟩, i9⟩

def chkP (B : Array Nat) : List (Nat × Fp) → Bool
  | [] => true
  | (i, f) :: acc => (acc.all fun p => ordB B p.1 i || indep p.2 f) && chkP B acc

def wpOpsD (P : Program) (Γ : Ctx) (tl : List Nat) (ops : Array Oper) (B : Array Nat) : List Oper → Nat → List (Nat × Fp) → Env → (Env → Prop) → Prop
  | [], _, acc, e, K => chkP B acc = true ∧ K e
  | o :: rest, i, acc, e, K => (rdG P Γ tl ops o).D e [] [] [] fun f => wpOpsD P Γ tl ops B rest (i + 1) ((i, f) :: acc) (apps f.ws e) K

theorem wpOpsD_run {K : Env → Prop} : ∀ (l : List Oper) (i : Nat) (acc : List (Nat × Fp)) (e : Env), (∀ j, l[j]? = ops[i + j]?) → wpOpsD P Γ tl ops (befB ops) l i acc e K →
    ∃ (F : Nat → Fp) (e' : Env), RunF P Γ tl ops F (List.range' i l.length) e e' ∧ K e' ∧ (∀ p ∈ acc, ∀ k, i ≤ k → k < i + l.length → ordB (befB ops) p.1 k = true ∨ indep p.2 (F k) = true) ∧
      (∀ j k, i ≤ j → j < k → k < i + l.length → ordB (befB ops) j k = true ∨ indep (F j) (F k) = true) ∧ chkP (befB ops) acc = true
  | [], i, acc, e, _, h => ⟨fun _ => ⟨[], [], [], []⟩, e, rfl, h.2, fun p _ k h1 h2 => by simp at h2; omega, fun j k h1 h2 h3 => by simp at h3; omega, h.1⟩
  | o :: l, i, acc, e, hl, h => by
    obtain ⟨f, g, g1, g3, g4, _⟩ := Rd.D.ok h
    have h0 : ops[i]? = some o := by simpa using (hl 0).symm
    obtain ⟨F, e', r1, r2, r3, r4, r5⟩ := wpOpsD_run l (i + 1) _ _ (fun j => by have := hl (j + 1); simpa [Nat.add_assoc, Nat.add_comm 1 j] using this) g3
    simp only [chkP, Bool.and_eq_true] at r5
    obtain ⟨g2, r6⟩ := r5
    have hF : ∀ k, i < k → (fun k => if k = i then f else F k) k = F k := fun k hk => by simp [Nat.ne_of_gt hk]
    refine ⟨fun k => if k = i then f else F k, e', ?_, r2, fun p hp k hk1 hk2 => ?_, fun j k hj hjk hk => ?_, r6⟩
    · simp only [List.length_cons, List.range'_succ, RunF, if_true]
      refine ⟨⟨o, h0, g1⟩, ?_⟩
      rw [g4.2.2.2]
      have cong : ∀ (m : List Nat) (e1 : Env), (∀ x ∈ m, i < x) → RunF P Γ tl ops F m e1 e' → RunF P Γ tl ops (fun k => if k = i then f else F k) m e1 e' := by
        intro m
        induction m with
        | nil => intro e1 _ h; exact h
        | cons x m ih =>
          intro e1 hm ⟨h1, h2⟩
          have hx := hF x (hm x (by simp))
          simp only at hx
          simp only [RunF, hx]
          exact ⟨h1, ih _ (fun y hy => hm y (by simp [hy])) h2⟩
      exact cong _ _ (fun x hx => by have := List.mem_range'_1.1 hx; omega) r1
    · simp only [List.length_cons] at hk2
      by_cases hki : k = i
      · subst hki
        have := List.all_eq_true.1 g2 p hp
        simp only [Bool.or_eq_true] at this
        simp only [if_true]
        exact this.imp id fun h => indep_mono ⟨fun _ h => h, fun _ h => h, fun _ h => h, rfl⟩ g4 h
      · simp only [hki, if_false]
        exact r3 p (by simp [hp]) k (by omega) (by omega)
    · simp only [List.length_cons] at hk
      by_cases hji : j = i
      · subst hji
        have hkj : k ≠ j := by omega
        simp only [if_true, hkj, if_false]
        exact (r3 (j, g) (by simp) k (by omega) (by omega)).imp id fun h => indep_mono g4 ⟨fun _ h => h, fun _ h => h, fun _ h => h, rfl⟩ h
      · have hki : k ≠ i := by omega
        simp only [hji, hki, if_false]
        exact r4 j k (by omega) hjk (by omega)

theorem wpOpsD_sound {κ : Con} (hΓ : ∀ f c, Γ f = some c → CtrOK P f c) (hm : P.follows .mixedOrders = true) {id : Nat} {Q : Exit → Act → World → Prop} {K : Env → Prop} (hK : ∀ e a w, K e → St κ e a w → Q .normal a w)
    (hd : dstOK κ.lim ops.toList = true) (hf : fwdB ops = true) {e : Env} {a : Act} {w : World} (h : wpOpsD P Γ tl ops (befB ops) ops.toList 0 [] e K) (hs : St κ e a w) : (Code.region id ops true).wp P Q a w := by
  obtain ⟨F, e', r1, r2, _, r4, _⟩ := wpOpsD_run ops.toList 0 [] e (by simp) h
  have hs' : St κ e a { w with drawn := w.drawn + 1 } := ⟨hs.1, hs.2.1, let ⟨Z, β, hR⟩ := hs.2.2; ⟨Z, β, hR.drew⟩⟩
  refine wp_region_any hm (wpAny_of_anyA (tl := tl) hΓ hd hK _ _ _ _ _ ?_ hs')
  refine anyA_of_run (F := F) hf r2 ops.size (List.range ops.size) (Array.replicate ops.size false) e (by simp) (by simp) (fun i => ?_) ?_ (fun j hj i hi hji => r4 j i (by omega) hji (by simp at hi ⊢; omega)) (fun i o ho hl hlt => ?_) ?_
  · simp only [List.mem_range]
    constructor
    · intro hi; exact ⟨hi, by simp [hi]⟩
    · exact fun h => h.1
  · exact List.pairwise_lt_range
  · have : i < ops.size := by simpa using hlt
    simp [this] at hl
  · rw [List.range_eq_range']
    simpa using r1
end

end Go.Proofs.Ytehdfifncbokeaa

namespace Go.Proofs.Ytehdfifncbokeaa
set_option linter.unusedSimpArgs false
set_option linter.unusedVariables false
set_option maxRecDepth 8000
set_option maxHeartbeats 2000000
open Go Go.RowKit AV

def Le (e e' : Env) : Prop := ∀ t, e' t = .junk ∨ e' t = e t ∨ e' t = view (e t)

theorem Rep.weaken {κ : Con} {Z : Nat → Option Obj} {β : List Nat → Option Nat} {e e' : Env} {val : Nat → Value} {w : World} (h : Rep κ Z β e val w) (hle : Le e e') : ∃ Z' β', Rep κ Z' β' e' val w := by
  classical
  let fz : Nat → Prop := fun t => e' t ≠ .junk ∧ e' t ≠ e t
  let under : Nat → Prop := fun b => ∃ t r, fz t ∧ β (t :: r) = some b
  let Z' : Nat → Option Obj := fun b => if under b then w.heap[b]? else Z b
  let β' : List Nat → Option Nat := fun r => match r with
    | [] => none
    | t :: r => if fz t then none else β (t :: r)
  have hZ : ∀ b o, Z b = some o → Z' b = some o := by
    intro b o ho
    show (if under b then w.heap[b]? else Z b) = some o
    split
    · exact h.zh b o ho
    · exact ho
  have hsub : ∀ p b, β' p = some b → β p = some b ∧ ∃ t r, p = t :: r ∧ ¬ fz t := by
    intro p b hp
    cases p with
    | nil => cases hp
    | cons t r =>
      replace hp : (if fz t then none else β (t :: r)) = some b := hp
      split at hp
      · cases hp
      · rename_i hn; exact ⟨hp, t, r, rfl, hn⟩
  have hkeep : ∀ t r b, ¬ fz t → β (t :: r) = some b → β' (t :: r) = some b := by
    intro t r b hn hb
    show (if fz t then none else β (t :: r)) = some b
    rw [if_neg hn]; exact hb
  refine ⟨Z', β', h.os, h.tape, h.output, h.size, h.frame, fun b o ho => hZ b o (h.z0 b o ho), fun b o ho => ?_, fun b o ho => ?_, fun p q b hp hq => h.inj p q b (hsub p b hp).1 (hsub q b hq).1, fun p b hp => ?_, fun t => ?_⟩
  · replace ho : (if under b then w.heap[b]? else Z b) = some o := ho
    split at ho
    · rename_i hu; obtain ⟨t, r, _, hr⟩ := hu; exact .inr (h.bo _ b hr).1
    · exact h.zo b o ho
  · replace ho : (if under b then w.heap[b]? else Z b) = some o := ho
    split at ho
    · exact ho
    · exact h.zh b o ho
  · obtain ⟨h1, t, r, rfl, hn⟩ := hsub p b hp
    have := h.bo _ b h1
    refine ⟨this.1, ?_, this.2.2⟩
    show (if under b then w.heap[b]? else Z b) = none
    rw [if_neg ?_]
    · exact this.2.1
    · rintro ⟨t', r', hf, hr'⟩
      have := h.inj _ _ b h1 hr'
      injection this with h2 h3
      subst h2
      exact hn hf
  · have hmv : ∀ s p A v, ¬ fz s → ORep Z w.heap β (s :: p) A v → ORep Z' w.heap β' (s :: p) A v := fun s p A v hn hA =>
      hA.move hZ fun r b hr => ⟨by simpa using hkeep s (p ++ r) b hn (by simpa using hr), rfl⟩
    have hof : ∀ s p A, getP (e' s) p = some A → isOwn A = true → ¬ fz s ∧ getP (e s) p = some A := by
      intro s p A hg hA
      rcases hle s with h1 | h1 | h1
      · rw [h1] at hg; rw [getP_junk hg] at hA; cases hA
      · exact ⟨fun hf => hf.2 h1, by rw [← h1]; exact hg⟩
      · rw [h1] at hg; rw [getP_noOwn p (view_noOwn _) hg] at hA; cases hA
    by_cases hj : e' t = .junk
    · unfold TRep; rw [hj]; exact .pers (.junk _)
    · by_cases hs : e' t = e t
      · have hn : ¬ fz t := fun hf => hf.2 hs
        unfold TRep
        rw [hs]
        cases het : e t with
        | alias s p => exact fun A hg hA => let ⟨h1, h2⟩ := hof s p A hg hA; hmv s p A _ h1 (h.aliasAt het A h2 hA)
        | valias s p =>
          intro l hg
          obtain ⟨h1, h2⟩ := hof s p _ hg rfl
          obtain ⟨cs, hv, hr, b, T, hb, hz⟩ := h.valiasAt het l h2
          exact ⟨cs, hv, hmv s p _ _ h1 hr, b, T, hkeep s p b h1 hb, hz⟩
        | addr s p =>
          obtain ⟨q, k, b, hp, hv, hb⟩ := h.addrAt het
          refine ⟨q, k, b, hp, hv, fun A hg hA => ?_⟩
          obtain ⟨h1, h2⟩ := hof s q A hg hA
          exact hkeep s q b h1 (hb A h2 hA)
        | win s p k =>
          intro l hg
          obtain ⟨h1, h2⟩ := hof s p _ hg rfl
          obtain ⟨u, hu, hv⟩ := h.winAt het l h2
          exact ⟨u, hmv s p _ _ h1 hu, hv⟩
        | _ => exact hmv t [] _ _ hn (h.slot' het (by simp))
      · have hv : e' t = AV.view (e t) := by
          rcases hle t with h1 | h1 | h1
          · exact absurd h1 hj
          · exact absurd h1 hs
          · exact h1
        have hf : fz t := ⟨hj, hs⟩
        have hpl : ∀ s p, e t ≠ .alias s p ∧ e t ≠ .valias s p ∧ e t ≠ .addr s p ∧ ∀ k, e t ≠ .win s p k := by
          intro s p
          refine ⟨fun h1 => ?_, fun h1 => ?_, fun h1 => ?_, fun k h1 => ?_⟩ <;> (rw [h1] at hv; exact hj hv)
        have hP : PRep Z' (AV.view (e t)) (val t) := (h.slot t hpl).toView' hZ fun r b hr => by
          show (if under b then w.heap[b]? else Z b) = w.heap[b]?
          rw [if_pos ⟨t, r, hf, hr⟩]
        unfold TRep
        rw [hv]
        have hvp := view_plain (e t)
        generalize AV.view (e t) = X at hP hvp
        cases X with
        | alias s p => exact absurd rfl (hvp s p).1
        | valias s p => exact absurd rfl (hvp s p).2.1
        | addr s p => exact absurd rfl (hvp s p).2.2.1
        | win s p k => exact absurd rfl ((hvp s p).2.2.2 k)
        | _ => exact .pers hP

theorem St.weaken {κ : Con} {e e' : Env} {a : Act} {w : World} (h : St κ e a w) (hle : Le e e') : St κ e' a w :=
  let ⟨h1, h2, Z, β, hR⟩ := h
  let ⟨Z', β', hR'⟩ := hR.weaken hle
  ⟨h1, h2, Z', β', hR'⟩

def envOf : List (Nat × AV) → Env
  | [] => fun _ => .junk
  | (t, v) :: L => upd (envOf L) t v

def LeL (e : Env) : List (Nat × AV) → Prop
  | [] => True
  | (t, v) :: L => (v = e t ∨ v = view (e t)) ∧ LeL e L

theorem LeL.le {e : Env} : ∀ {L : List (Nat × AV)}, LeL e L → Le e (envOf L)
  | [], _, t => .inl rfl
  | (s, v) :: L, ⟨h1, h2⟩, t => by
    by_cases hts : t = s
    · subst hts; simp only [envOf, upd_same]; exact .inr h1
    · simp only [envOf, upd_ne _ _ _ _ hts]; exact h2.le t

abbrev QA := Exit → Env → Prop

theorem exists_min {p : Nat → Prop} (h : ∃ n, p n) : ∃ n, p n ∧ ∀ m, p m → n ≤ m := by
  obtain ⟨n, hn⟩ := h
  induction n using Nat.strongRecOn with
  | ind n ih =>
    by_cases hm : ∃ m, m < n ∧ p m
    · obtain ⟨m, h1, h2⟩ := hm; exact ih m h1 h2
    · exact ⟨n, hn, fun m h => Nat.le_of_not_lt fun h1 => hm ⟨m, h1, h⟩⟩

open Classical in
noncomputable def minN (p : Nat → Prop) : Nat := if h : ∃ n, p n then Classical.choose (exists_min h) else 0
theorem minN_spec {p : Nat → Prop} (h : ∃ n, p n) : p (minN p) ∧ ∀ m, p m → minN p ≤ m := by
  unfold minN; rw [dif_pos h]; exact Classical.choose_spec (exists_min h)

def CW (P : Program) (κ : Con) (c : Code) (Q : QA) (e : Env) : Prop := ∀ a w, St κ e a w → c.wp P (fun x a' w' => ∃ e', Q x e' ∧ St κ e' a' w') a w

def thenA (N : Env → Prop) (Q : QA) : QA
  | .normal, e => N e
  | x, e => Q x e

def inBlockA (id : Nat) (Q : QA) : QA
  | .exit id', e => if id' = id then Q .normal e else Q (.exit id') e
  | x, e => Q x e

section
variable {P : Program} {κ : Con} {Q : QA} {e : Env}

theorem CW.weaken {c : Code} {e' : Env} (hle : Le e e') (h : CW P κ c Q e') : CW P κ c Q e := fun a w hs => h a w (hs.weaken hle)

theorem CW.skip (h : Q .normal e) : CW P κ .skip Q e := fun _ _ hs => wp_skip ⟨e, h, hs⟩
theorem CW.exit {id : Nat} (h : Q (.exit id) e) : CW P κ (.exit id) Q e := fun _ _ hs => wp_exit ⟨e, h, hs⟩
theorem CW.ret (h : Q .ret e) : CW P κ .ret Q e := fun _ _ hs => wp_ret ⟨e, h, hs⟩

theorem CW.seq {x y : Code} (h : CW P κ x (thenA (CW P κ y Q) Q) e) : CW P κ (.seq x y) Q e := fun a w hs => by
  refine wp_seq (wp_mono (h a w hs) fun x' a' w' ⟨e', hq, hs'⟩ => ?_)
  cases x' with
  | normal => exact hq a' w' hs'
  | _ => exact ⟨e', hq, hs'⟩

theorem CW.block {id : Nat} {c : Code} (h : CW P κ c (inBlockA id Q) e) : CW P κ (.block id c) Q e := fun a w hs => by
  refine wp_block (wp_mono (h a w hs) fun x' a' w' ⟨e', hq, hs'⟩ => ?_)
  cases x' with
  | exit id' =>
    simp only [inBlockA] at hq
    simp only [Exit.inBlock]
    split at hq
    · rename_i hid; rw [if_pos hid]; exact ⟨e', hq, hs'⟩
    · rename_i hid; rw [if_neg hid]; exact ⟨e', hq, hs'⟩
  | _ => exact ⟨e', hq, hs'⟩

theorem CW.cond {t : Nat} {x y : Code} {b : Bool} (hb : e t = .bool b) (h1 : b = true → CW P κ x Q e) (h2 : b = false → CW P κ y Q e) : CW P κ (.cond (.tmp t) x y) Q e := fun a w hs => by
  obtain ⟨g1, g2, Z, β, hR⟩ := hs
  have hv := ORep.toP (hR.slot' hb (by simp)) rfl
  generalize hvv : vals a t = v at hv
  cases hv
  exact wp_cond_split (t := b) (by rw [eval_tmp, hvv]) (fun h => h1 h a w ⟨g1, g2, Z, β, hR⟩) (fun h => h2 h a w ⟨g1, g2, Z, β, hR⟩)

theorem CW.region {Γ : Ctx} (hΓ : ∀ f c, Γ f = some c → CtrOK P f c) {id : Nat} {ops : List Oper} (tl : List Nat) (hd : dstOK κ.lim ops = true) (h : wpOpsA P Γ tl ops.toArray ops e (Q .normal)) : CW P κ (.region id ops.toArray false) Q e := fun a w hs =>
  wp_region_lit (wpOpsA_sound hΓ (fun e' _ _ hq hs' => ⟨e', hq, hs'⟩) ops e a w hd h hs)

theorem CW.draw {Γ : Ctx} (hΓ : ∀ f c, Γ f = some c → CtrOK P f c) (hm : P.follows .mixedOrders = true) {id : Nat} {ops : List Oper} (tl : List Nat) (B : Array Nat) (hd : dstOK κ.lim ops = true) (hf : fwdB ops.toArray = true) (hB : befB ops.toArray = B)
    (h : wpOpsD P Γ tl ops.toArray B ops 0 [] e (Q .normal)) : CW P κ (.region id ops.toArray true) Q e := fun a w hs => by
  subst hB
  exact wpOpsD_sound hΓ hm (fun e' _ _ hq hs' => ⟨e', hq, hs'⟩) (by simpa using hd) hf (by simpa using h) hs

theorem CW.mono {c : Code} {Q' : QA} (h : CW P κ c Q e) (hq : ∀ x e, Q x e → Q' x e) : CW P κ c Q' e := fun a w hs =>
  wp_mono (h a w hs) fun _ _ _ ⟨e', h1, h2⟩ => ⟨e', hq _ _ h1, h2⟩

theorem CW.loop {c : Code} {ι : Type} (inv : ι → List (Nat × AV)) (pre : ι → Prop) (μ : ι → Nat) (x0 : ι) (h0 : LeL e (inv x0) ∧ pre x0)
    (round : ∀ x, pre x → CW P κ c (thenA (fun e' => ∃ x', LeL e' (inv x') ∧ pre x' ∧ μ x' < μ x) Q) (envOf (inv x))) : CW P κ (.loop c) Q e := fun a w hs => by
  let I : Act → World → Prop := fun a w => ∃ n x, pre x ∧ μ x = n ∧ St κ (envOf (inv x)) a w
  let M : Act → World → Nat := fun a w => minN fun n => ∃ x, pre x ∧ μ x = n ∧ St κ (envOf (inv x)) a w
  refine wp_loop I M ⟨_, x0, h0.2, rfl, hs.weaken h0.1.le⟩ fun a w hI => ?_
  obtain ⟨⟨x, hx, hn, hsx⟩, _⟩ := minN_spec hI
  refine wp_mono (round x hx a w hsx) fun x' a' w' ⟨e', hq, hs'⟩ => ?_
  cases x' with
  | normal =>
    obtain ⟨y, g1, g2, g3⟩ := hq
    have hI' : I a' w' := ⟨_, y, g2, rfl, hs'.weaken g1.le⟩
    refine ⟨hI', ?_⟩
    have : M a' w' ≤ μ y := (minN_spec hI').2 _ ⟨y, g2, rfl, hs'.weaken g1.le⟩
    have h2 : M a w = μ x := hn.symm
    omega
  | _ => exact ⟨e', hq, hs'⟩
end

def plainB : AV → Bool
  | .alias _ _ => false
  | .valias _ _ => false
  | .addr _ _ => false
  | .win _ _ _ => false
  | .junk => false
  | _ => true

theorem plainB_spec {A : AV} (h : plainB A = true) : A ≠ .junk ∧ ∀ s p, A ≠ .alias s p ∧ A ≠ .valias s p ∧ A ≠ .addr s p ∧ ∀ k, A ≠ .win s p k := by
  cases A <;> simp_all [plainB]

def RetOK (P : Program) (rs : List ResultVar) (e : Env) (r : AV) : Prop := match rs with
  | [.tmp t] => plainB r = true ∧ (r = e t ∨ r = view (e t))
  | [.tmp t1, .tmp t2] => ∃ r1 r2, r = .tup [r1, r2] ∧ t1 ≠ t2 ∧ plainB r1 = true ∧ plainB r2 = true ∧ (r1 = e t1 ∨ r1 = view (e t1)) ∧ (r2 = e t2 ∨ r2 = view (e t2))
  | [.cell t T] => ∃ l, aggT P T = some true ∧ szT P T = some l.length ∧ e t = .box l ∧ (r = .agg l ∨ r = .agg (viewL l))
  | [] => r = .tup []
  | _ => False

def retQ (P : Program) (rs : List ResultVar) (r : AV) : QA
  | .normal, e => RetOK P rs e r
  | .ret, e => RetOK P rs e r
  | _, _ => False

def argEnv (args : List AV) : Env := fun t => args.getD t .junk

theorem results_spec {P : Program} {fn : Func} {tmps : Array Value} {w : World} {t : Nat} {T : TypeId} {v : Value} {ad : Addr} (h : fn.results = #[.cell t T]) (ht : tmps.getD t undef = .pointer (some ad)) (hv : (loadVar T ad).run P w = .ok v w) : (results fn tmps).run P w = .ok v w := by
  have h2 : (tmps[t]?).getD undef = .pointer (some ad) := by rw [← Array.getD_eq_getD_getElem?]; exact ht
  simp [results, h, ht, h2, asAddr, hv]

theorem ret_left {P : Program} {fn : Func} {κ : Con} {β0 : List Nat → Option Nat} (hO : κ.O0 = fun b => ∃ p, β0 p = some b) {e : Env} {a : Act} {w : World} {r : AV} (hs : St κ e a w) (hr : RetOK P fn.results.toList e r) :
    ∃ v Z' β', (results fn a.tmps).run P w = .ok v w ∧ Left κ.Z0 β0 κ.W0 Z' β' w ∧ ORep Z' w.heap β' [0] r v := by
  obtain ⟨h1, h2, Z, β, hR⟩ := hs
  have mk : ∀ (Z' : Nat → Option Obj) (β' : List Nat → Option Nat) (e' : Env) (β2 : List Nat → Option Nat), Rep κ Z' β' e' (vals a) w → (∀ p q b, β2 p = some b → β2 q = some b → p = q) → (∀ p b, β2 p = some b → ∃ q, β' q = some b) → Left κ.Z0 β0 κ.W0 Z' β2 w := by
    intro Z' β' e' β2 hR' hinj hsub
    have hnew : ∀ b, new κ b → (∃ q, β0 q = some b) ∨ κ.W0.heap.size ≤ b := fun b hb => by
      unfold new at hb; rw [hO] at hb; exact hb
    refine ⟨hR'.os, hR'.tape, hR'.output, hR'.size, fun b hb hn => hR'.frame b hb ?_, hR'.z0, fun b o ho => (hR'.zo b o ho).imp id fun h => hnew b h, hR'.zh, hinj, fun p b hp => ?_⟩
    · rw [hO]; rintro ⟨p, hp⟩; exact hn p hp
    · obtain ⟨q, hq⟩ := hsub p b hp
      have := hR'.bo q b hq
      exact ⟨hnew b this.1, this.2⟩
  unfold RetOK at hr
  split at hr
  · -- one slot
    rename_i t hrs
    obtain ⟨hp, hrt⟩ := hr
    have hres : fn.results = #[.tmp t] := by rw [← Array.toArray_toList (xs := fn.results), hrs]
    obtain ⟨Z', β', hR'⟩ := hR.weaken (e' := envOf [(t, r)]) (LeL.le ⟨hrt, trivial⟩)
    have hsl := hR'.slot' (t := t) (A := r) (by simp [envOf, upd]) (plainB_spec hp).2
    refine ⟨vals a t, Z', fun p => match p with | 0 :: q => β' (t :: q) | _ => none, results_tmp hres _ _ _, mk Z' β' _ _ hR' ?_ ?_, hsl.move (fun _ _ h => h) fun r b hb => ⟨by simpa using hb, rfl⟩⟩
    · intro p q b hp hq
      rcases p with _ | ⟨x, p⟩
      · cases hp
      · rcases q with _ | ⟨y, q⟩
        · cases hq
        · cases x <;> cases y <;> simp at hp hq
          have := hR'.inj _ _ _ hp hq
          simp at this
          rw [this]
    · intro p b hp
      rcases p with _ | ⟨x, p⟩
      · cases hp
      · cases x <;> simp at hp
        exact ⟨_, hp⟩
  · -- two slots
    rename_i t1 t2 hrs
    obtain ⟨r1, r2, rfl, h12, hp1, hp2, hr1, hr2⟩ := hr
    have hres : fn.results = #[.tmp t1, .tmp t2] := by rw [← Array.toArray_toList (xs := fn.results), hrs]
    obtain ⟨Z', β', hR'⟩ := hR.weaken (e' := envOf [(t1, r1), (t2, r2)]) (LeL.le ⟨hr1, hr2, trivial⟩)
    have hs1 := hR'.slot' (t := t1) (A := r1) (by simp [envOf, upd]) (plainB_spec hp1).2
    have hs2 := hR'.slot' (t := t2) (A := r2) (by simp [envOf, upd, Ne.symm h12]) (plainB_spec hp2).2
    refine ⟨.tuple #[vals a t1, vals a t2], Z', fun p => match p with | 0 :: 0 :: q => β' (t1 :: q) | 0 :: 1 :: q => β' (t2 :: q) | _ => none, results_tmp2 hres _ _ _, mk Z' β' _ _ hR' ?_ ?_, ?_⟩
    · intro p q b hp hq
      have form : ∀ p, (match p with | 0 :: 0 :: q => β' (t1 :: q) | 0 :: 1 :: q => β' (t2 :: q) | _ => none) = some b → (∃ s, p = 0 :: 0 :: s ∧ β' (t1 :: s) = some b) ∨ ∃ s, p = 0 :: 1 :: s ∧ β' (t2 :: s) = some b := by
        intro p hp
        split at hp
        · exact .inl ⟨_, rfl, hp⟩
        · exact .inr ⟨_, rfl, hp⟩
        · cases hp
      rcases form p hp with ⟨s, rfl, g1⟩ | ⟨s, rfl, g1⟩ <;> rcases form q hq with ⟨s', rfl, g2⟩ | ⟨s', rfl, g2⟩
      · have := hR'.inj _ _ _ g1 g2; simp at this; rw [this]
      · have := hR'.inj _ _ _ g1 g2; simp at this; exact absurd this.1 h12
      · have := hR'.inj _ _ _ g1 g2; simp at this; exact absurd this.1.symm h12
      · have := hR'.inj _ _ _ g1 g2; simp at this; rw [this]
    · intro p b hp
      split at hp
      · exact ⟨_, hp⟩
      · exact ⟨_, hp⟩
      · cases hp
    · refine .tup [r1, r2] _ rfl fun k hk => ?_
      have hk' : k = 0 ∨ k = 1 := by simp at hk; omega
      rcases hk' with rfl | rfl
      · exact hs1.move (fun _ _ h => h) fun r b hb => ⟨by simpa using hb, rfl⟩
      · exact hs2.move (fun _ _ h => h) fun r b hb => ⟨by simpa using hb, rfl⟩
  · -- a struct in memory
    rename_i t T hrs
    obtain ⟨l, hT, hsz, het, hrl⟩ := hr
    have hres : fn.results = #[.cell t T] := by rw [← Array.toArray_toList (xs := fn.results), hrs]
    obtain ⟨l', hl', hle, hlen⟩ : ∃ l', r = .agg l' ∧ (∃ Z' β', Rep κ Z' β' (envOf [(t, .box l')]) (vals a) w) ∧ l'.length = l.length := by
      rcases hrl with rfl | rfl
      · exact ⟨l, rfl, hR.weaken (LeL.le ⟨.inl het.symm, trivial⟩), rfl⟩
      · refine ⟨viewL l, rfl, ?_, by rw [viewL_map]; simp⟩
        obtain ⟨Z1, β1, hR1⟩ := hR.weaken (e' := envOf [(t, .box l)]) (LeL.le ⟨.inl het.symm, trivial⟩)
        have hs1 := hR1.slot' (t := t) (A := .box l) (by simp [envOf, upd]) (by simp)
        generalize hvv : vals a t = v at hs1
        cases hs1 with
        | pers h => cases h
        | box l b cs E hb hz g1 g4 hk =>
          classical
          let under : Nat → Prop := fun b' => ∃ k r, β1 (t :: k :: r) = some b'
          let Z2 : Nat → Option Obj := fun b' => if under b' then w.heap[b']? else Z1 b'
          let β2 : List Nat → Option Nat := fun p => if p = [t] then some b else none
          have hZ : ∀ b o, Z1 b = some o → Z2 b = some o := by
            intro b o ho
            show (if under b then w.heap[b]? else Z1 b) = some o
            split
            · exact hR1.zh b o ho
            · exact ho
          have hbb := hR1.bo _ b hb
          refine ⟨Z2, β2, hR1.os, hR1.tape, hR1.output, hR1.size, hR1.frame, fun b o ho => hZ b o (hR1.z0 b o ho), fun b' o ho => ?_, fun b' o ho => ?_, fun p q b' hp hq => ?_, fun p b' hp => ?_, fun s => ?_⟩
          · replace ho : (if under b' then w.heap[b']? else Z1 b') = some o := ho
            split at ho
            · rename_i hu; obtain ⟨k, r, hr⟩ := hu; exact .inr (hR1.bo _ b' hr).1
            · exact hR1.zo b' o ho
          · replace ho : (if under b' then w.heap[b']? else Z1 b') = some o := ho
            split at ho
            · exact ho
            · exact hR1.zh b' o ho
          · replace hp : (if p = [t] then some b else none) = some b' := hp
            replace hq : (if q = [t] then some b else none) = some b' := hq
            split at hp
            · split at hq
              · simp_all
              · cases hq
            · cases hp
          · replace hp : (if p = [t] then some b else none) = some b' := hp
            split at hp
            · injection hp with hp
              subst hp
              refine ⟨hbb.1, ?_, hbb.2.2⟩
              show (if under b then w.heap[b]? else Z1 b) = none
              rw [if_neg]
              · exact hbb.2.1
              · rintro ⟨k, r, hr⟩
                have := hR1.inj _ _ b hr hb
                simp at this
            · cases hp
          · unfold TRep
            by_cases hst : s = t
            · subst hst
              simp only [envOf, upd_same]
              rw [hvv]
              refine .box _ b cs E (if_pos rfl) hz (by rw [viewL_map]; simpa using g1) (fun k hk' => g4 k (by rw [viewL_map] at hk'; simpa using hk')) (fun k hk' => ?_)
              have hkl : k < l.length := by rw [viewL_map] at hk'; simpa using hk'
              have : (viewL l)[k] = view l[k] := by simp [viewL_map]
              rw [this]
              exact .pers ((hk k hkl).toView' hZ fun r b' hr => by
                show (if under b' then w.heap[b']? else Z1 b') = w.heap[b']?
                rw [if_pos ⟨k, r, by simpa using hr⟩])
            · simp only [envOf, upd_ne _ _ _ _ hst]
              exact .pers (.junk _)
    subst hl'
    obtain ⟨Z', β', hR'⟩ := hle
    have hsl := hR'.slot' (t := t) (A := .box l') (by simp [envOf, upd]) (by simp)
    generalize hvv : vals a t = v at hsl
    cases hsl with
    | pers h => cases h
    | box l' b cs E hb hz g1 g4 hk =>
      refine ⟨.agg cs, Z', fun p => match p with | 0 :: k :: q => β' (t :: k :: q) | _ => none, results_spec hres hvv ?_, mk Z' β' _ _ hR' ?_ ?_, .agg l' cs g1 fun k hk' => (hk k hk').move (fun _ _ h => h) fun r b' hr => ⟨by simpa using hr, rfl⟩⟩
      · have := run_loadAt_agg' (P := P) hT (by rw [hsz, g1, hlen]) hz
        simpa [Instr.loadAt, Instr.sureAddr] using this
      · intro p q b' hp hq
        have form : ∀ p, (match p with | 0 :: k :: q => β' (t :: k :: q) | _ => none) = some b' → ∃ k s, p = 0 :: k :: s ∧ β' (t :: k :: s) = some b' := by
          intro p hp
          split at hp
          · exact ⟨_, _, rfl, hp⟩
          · cases hp
        obtain ⟨k, s, rfl, e1⟩ := form p hp
        obtain ⟨k', s', rfl, e2⟩ := form q hq
        have := hR'.inj _ _ _ e1 e2
        simp at this
        rw [this.1, this.2]
      · intro p b' hp
        split at hp
        · exact ⟨_, hp⟩
        · cases hp
  · rename_i hrs
    subst hr
    have hres : fn.results = #[] := by rw [← Array.toArray_toList (xs := fn.results), hrs]
    exact ⟨.tuple #[], Z, fun _ => none, results_none hres _ _ _, mk Z β e _ hR (by simp) (by simp), .pers (.tup [] #[] rfl (by simp))⟩
  · exact hr.elim

theorem ctr_pure {P : Program} {f : Nat} {fn : Func} {c : Code} (hf : P.funcs[f]? = some fn) (hname : (fn.name == "runtime.NumGoroutine") = false) (hb : fn.body = some c) {nt : Nat} (hnt : fn.ntmps = nt) {rel : List AV → AV → List AV → Prop}
    (h : ∀ args r args', rel args r args' → args' = [] ∧ args.length ≤ nt ∧ ∀ κ : Con, κ.lim = (0, nt) → CW P κ c (retQ P fn.results.toList r) (argEnv args)) : CtrOK P f ⟨false, rel, false⟩ := by
  refine ⟨⟨fn, c, hf, hname, hb⟩, fun args r args' hrel w Z β vs hvs hwf hargs => ?_⟩
  obtain ⟨rfl, hlen, hcw⟩ := h args r args' hrel
  simp only [Bool.false_eq_true, if_false] at hargs
  obtain ⟨hβ, hargs⟩ := hargs
  subst hβ
  let κ : Con := ⟨w, Z, fun b => ∃ p, (fun _ : List Nat => (none : Option Nat)) p = some b, fun _ => undef, (0, nt)⟩
  refine calls_of_wp hf hb (wp_mono (hcw κ rfl { tmps := vs ++ Array.replicate (fn.ntmps - vs.size) undef, defers := [] } w ⟨rfl, ⟨by simp [hnt, hvs]; show _ = nt; omega, fun t ht => absurd ht (Nat.not_lt_zero t)⟩, Z, fun _ => none, ?_⟩) fun x a w' ⟨e', hq, hs'⟩ => ?_)
  · refine ⟨rfl, rfl, rfl, Nat.le_refl _, fun _ _ _ => rfl, fun _ _ h => h, fun _ _ h => .inl h, hwf.zh, by simp, by simp, fun t => ?_⟩
    unfold TRep argEnv
    by_cases ht : t < args.length
    · have e1 : args.getD t .junk = args[t] := by simp [List.getD, List.getElem?_eq_getElem ht]
      have e2 : vals { tmps := vs ++ Array.replicate (fn.ntmps - vs.size) undef, defers := [] } t = vs.getD t undef := by
        have : t < vs.size := by omega
        simp [vals, Array.getD_eq_getD_getElem?, Array.getElem?_append_left this]
      rw [e1, e2]
      have := hargs t ht
      have hpl := this.plain
      generalize args[t] = X at this hpl
      cases X with
      | alias s p => exact absurd rfl (hpl s p).1
      | valias s p => exact absurd rfl (hpl s p).2.1
      | addr s p => exact absurd rfl (hpl s p).2.2.1
      | win s p k => exact absurd rfl ((hpl s p).2.2.2 k)
      | _ => exact .pers this
    · have e1 : args.getD t .junk = .junk := by simp [List.getD, List.getElem?_eq_none (Nat.le_of_not_lt ht)]
      rw [e1]
      exact .pers (.junk _)
  · have hd : a.defers = [] := hs'.1
    have key : RetOK P fn.results.toList e' r → ∃ v, (results fn a.tmps).run P w' = .ok v w' ∧ ∃ v' Z' β', Ending.returned v = .returned v' ∧ Left Z (fun _ => none) w Z' β' w' ∧ ORep Z' w'.heap β' [0] r v' ∧ ∀ i (h : i < ([] : List AV).length), ORep Z' w'.heap β' [i + 1] [][i] (vs.getD i undef) := by
      intro hr
      obtain ⟨v, Z', β', g1, g2, g3⟩ := ret_left (κ := κ) rfl hs' hr
      exact ⟨v, g1, v, Z', β', rfl, g2, g3, by simp⟩
    cases x with
    | normal => obtain ⟨v, g1, g2⟩ := key hq; exact ⟨hd, v, g1, g2⟩
    | ret => obtain ⟨v, g1, g2⟩ := key hq; exact ⟨hd, v, g1, g2⟩
    | _ => exact hq.elim

end Go.Proofs.Ytehdfifncbokeaa

namespace Go.Proofs.Ytehdfifncbokeaa
set_option linter.unusedSimpArgs false
set_option linter.unusedVariables false
set_option maxRecDepth 8000
set_option maxHeartbeats 2000000
open Go Go.RowKit AV

abbrev I (n : Int) : AV := .num .i64 n
abbrev ints (l : List Int) : AV := .sh (l.map I)
abbrev oints (l : List Int) : AV := .own (l.map I)
abbrev rows (l : List (List Int)) : AV := .sh (l.map ints)
abbrev oorows (l : List (List Int)) : AV := .own (l.map oints)

def envA : Nat → List AV → Env
  | _, [] => fun _ => .junk
  | k, a :: l => upd (envA (k + 1) l) k a

theorem envA_get : ∀ (l : List AV) (k t : Nat), envA k l t = if k ≤ t then l.getD (t - k) .junk else .junk
  | [], k, t => by simp [envA]
  | a :: l, k, t => by
    simp only [envA, upd]
    by_cases h : t = k
    · subst h; simp
    · rw [if_neg h, envA_get l (k + 1) t]
      by_cases h2 : k + 1 ≤ t
      · rw [if_pos h2, if_pos (by omega), show t - k = (t - (k + 1)) + 1 by omega]; simp
      · rw [if_neg h2, if_neg (by omega)]

theorem argEnv_eq (l : List AV) : argEnv l = envA 0 l := by funext t; simp [argEnv, envA_get]

theorem upd_at (e : Env) (k : Nat) (v : AV) (t : Nat) : upd e k v t = if t = k then v else e t := rfl
theorem kill_upd (s : Nat) (p : List Nat) (e : Env) (t : Nat) (v : AV) : kill s p (upd e t v) = upd (kill s p e) t (killV s p v) := by
  funext x; simp only [kill, upd]; split <;> rfl
theorem kill_nil (s : Nat) (p : List Nat) : kill s p (fun _ => AV.junk) = fun _ => .junk := rfl

section
variable {P : Program} {κ : Con} {Γ : Ctx} {tl : List Nat} {ops : Array Oper} {e : Env} {K : Env → Prop} {B : Array Nat}

def KOps (P : Program) (Γ : Ctx) (tl : List Nat) (ops : Array Oper) (rest : List Oper) (e : Env) (K : Env → Prop) (ws : List Wr) : Prop := wpOpsA P Γ tl ops rest (apps ws e) K
theorem wpOpsA_cons (o : Oper) (rest : List Oper) : wpOpsA P Γ tl ops (o :: rest) e K = (rdG P Γ tl ops o).W e (KOps P Γ tl ops rest e K) := rfl
theorem wpOpsA_nil : wpOpsA P Γ tl ops [] e K = K e := rfl
theorem KOps_app (rest : List Oper) (ws : List Wr) : KOps P Γ tl ops rest e K ws = wpOpsA P Γ tl ops rest (apps ws e) K := rfl

def KOpsD (P : Program) (Γ : Ctx) (tl : List Nat) (ops : Array Oper) (B : Array Nat) (rest : List Oper) (i : Nat) (acc : List (Nat × Fp)) (e : Env) (K : Env → Prop) (f : Fp) : Prop :=
  wpOpsD P Γ tl ops B rest (i + 1) ((i, f) :: acc) (apps f.ws e) K
theorem wpOpsD_cons (o : Oper) (rest : List Oper) (i : Nat) (acc) : wpOpsD P Γ tl ops B (o :: rest) i acc e K = (rdG P Γ tl ops o).D e [] [] [] (KOpsD P Γ tl ops B rest i acc e K) := rfl
theorem wpOpsD_nil (i : Nat) (acc) : wpOpsD P Γ tl ops B [] i acc e K = (chkP B acc = true ∧ K e) := rfl
theorem KOpsD_app (rest : List Oper) (i acc) (gs ps ts : List Nat) (ws : List Wr) : KOpsD P Γ tl ops B rest i acc e K ⟨gs, ps, ts, ws⟩ = wpOpsD P Γ tl ops B rest (i + 1) ((i, ⟨gs, ps, ts, ws⟩) :: acc) (apps ws e) K := rfl

theorem W_ret (ws : List Wr) (K : List Wr → Prop) : Rd.W e (.ret ws) K = K ws := rfl
theorem W_fail (K : List Wr → Prop) : Rd.W e .fail K = False := rfl
theorem W_get (t : Nat) (k : AV → Rd) (K : List Wr → Prop) : Rd.W e (.get t k) K = (e t ≠ .junk ∧ Rd.W e (k (e t)) K) := rfl
theorem W_peek (t : Nat) (k : AV → Rd) (K : List Wr → Prop) : Rd.W e (.peek t k) K = (e t ≠ .junk ∧ Rd.W e (k (head (e t))) K) := rfl
theorem W_need (c : Prop) (k : Rd) (K : List Wr → Prop) : Rd.W e (.need c k) K = (c ∧ Rd.W e k K) := rfl
theorem W_ex (α : Type) (k : α → Rd) (K : List Wr → Prop) : Rd.W e (.ex α k) K = ∃ x, Rd.W e (k x) K := rfl
theorem W_idx_map {α : Type} (f : α → AV) (l : List α) (n : Nat) (k : AV → Rd) (K : List Wr → Prop) : Rd.W e (rdIdx (l.map f) n k) K = ∃ a, l[n]? = some a ∧ Rd.W e (k (f a)) K := by
  simp only [rdIdx, Rd.W, List.getElem?_map]
  refine propext ⟨fun ⟨x, h1, h2⟩ => ?_, fun ⟨a, h1, h2⟩ => ⟨f a, by simp [h1], h2⟩⟩
  cases h : l[n]? with
  | none => simp [h] at h1
  | some a => simp [h] at h1; subst h1; exact ⟨a, rfl, h2⟩
theorem W_idx_zero (a : AV) (l : List AV) (k : AV → Rd) (K : List Wr → Prop) : Rd.W e (rdIdx (a :: l) 0 k) K = Rd.W e (k a) K := by
  simp [rdIdx, Rd.W]
theorem W_idx_succ (a : AV) (l : List AV) (n : Nat) (k : AV → Rd) (K : List Wr → Prop) : Rd.W e (rdIdx (a :: l) (n + 1) k) K = Rd.W e (rdIdx l n k) K := by
  simp [rdIdx, Rd.W]
theorem W_getP_nil (c : AV) (k : AV → Rd) (K : List Wr → Prop) : Rd.W e (rdGetP c [] k) K = Rd.W e (k c) K := by
  simp [rdGetP, Rd.W, getP]
theorem W_getP_own (l : List AV) (i : Nat) (q : List Nat) (k : AV → Rd) (K : List Wr → Prop) : Rd.W e (rdGetP (.own l) (i :: q) k) K = Rd.W e (rdIdx l i fun a => rdGetP a q k) K := by
  simp only [rdGetP, rdIdx, Rd.W, getP, kids]
  cases l[i]? <;> simp
theorem W_getP_box (l : List AV) (i : Nat) (q : List Nat) (k : AV → Rd) (K : List Wr → Prop) : Rd.W e (rdGetP (.box l) (i :: q) k) K = Rd.W e (rdIdx l i fun a => rdGetP a q k) K := by
  simp only [rdGetP, rdIdx, Rd.W, getP, kids]
  cases l[i]? <;> simp
theorem D_idx_map {α : Type} (f : α → AV) (l : List α) (n : Nat) (k : AV → Rd) (gs ps ts) (K : Fp → Prop) : Rd.D e (rdIdx (l.map f) n k) gs ps ts K = ∃ a, l[n]? = some a ∧ Rd.D e (k (f a)) gs ps ts K := by
  simp only [rdIdx, Rd.D, List.getElem?_map]
  refine propext ⟨fun ⟨x, h1, h2⟩ => ?_, fun ⟨a, h1, h2⟩ => ⟨f a, by simp [h1], h2⟩⟩
  cases h : l[n]? with
  | none => simp [h] at h1
  | some a => simp [h] at h1; subst h1; exact ⟨a, rfl, h2⟩
theorem D_idx_zero (a : AV) (l : List AV) (k : AV → Rd) (gs ps ts) (K : Fp → Prop) : Rd.D e (rdIdx (a :: l) 0 k) gs ps ts K = Rd.D e (k a) gs ps ts K := by
  simp [rdIdx, Rd.D]
theorem D_idx_succ (a : AV) (l : List AV) (n : Nat) (k : AV → Rd) (gs ps ts) (K : Fp → Prop) : Rd.D e (rdIdx (a :: l) (n + 1) k) gs ps ts K = Rd.D e (rdIdx l n k) gs ps ts K := by
  simp [rdIdx, Rd.D]
theorem D_getP_nil (c : AV) (k : AV → Rd) (gs ps ts) (K : Fp → Prop) : Rd.D e (rdGetP c [] k) gs ps ts K = Rd.D e (k c) gs ps ts K := by
  simp [rdGetP, Rd.D, getP]
theorem D_getP_own (l : List AV) (i : Nat) (q : List Nat) (k : AV → Rd) (gs ps ts) (K : Fp → Prop) : Rd.D e (rdGetP (.own l) (i :: q) k) gs ps ts K = Rd.D e (rdIdx l i fun a => rdGetP a q k) gs ps ts K := by
  simp only [rdGetP, rdIdx, Rd.D, getP, kids]
  cases l[i]? <;> simp
theorem D_getP_box (l : List AV) (i : Nat) (q : List Nat) (k : AV → Rd) (gs ps ts) (K : Fp → Prop) : Rd.D e (rdGetP (.box l) (i :: q) k) gs ps ts K = Rd.D e (rdIdx l i fun a => rdGetP a q k) gs ps ts K := by
  simp only [rdGetP, rdIdx, Rd.D, getP, kids]
  cases l[i]? <;> simp
theorem D_ret (ws : List Wr) (gs ps ts) (K : Fp → Prop) : Rd.D e (.ret ws) gs ps ts K = K ⟨gs, ps, ts, ws⟩ := rfl
theorem D_fail (gs ps ts) (K : Fp → Prop) : Rd.D e .fail gs ps ts K = False := rfl
theorem D_get (t : Nat) (k : AV → Rd) (gs ps ts) (K : Fp → Prop) : Rd.D e (.get t k) gs ps ts K = (e t ≠ .junk ∧ Rd.D e (k (e t)) (t :: gs) ps (tg (e t) ++ ts) K) := rfl
theorem D_peek (t : Nat) (k : AV → Rd) (gs ps ts) (K : Fp → Prop) : Rd.D e (.peek t k) gs ps ts K = (e t ≠ .junk ∧ Rd.D e (k (head (e t))) gs (t :: ps) (tg (e t) ++ ts) K) := rfl
theorem D_need (c : Prop) (k : Rd) (gs ps ts) (K : Fp → Prop) : Rd.D e (.need c k) gs ps ts K = (c ∧ Rd.D e k gs ps ts K) := rfl
theorem D_ex (α : Type) (k : α → Rd) (gs ps ts) (K : Fp → Prop) : Rd.D e (.ex α k) gs ps ts K = ∃ x, Rd.D e (k x) gs ps ts K := rfl
end

theorem CW.seqK {P : Program} {κ : Con} {Q : QA} {e : Env} {x y : Code} (h : ∀ K : Env → Prop, (∀ e', CW P κ y Q e' → K e') → CW P κ x (thenA K Q) e) : CW P κ (.seq x y) Q e :=
  CW.seq (h _ fun _ h => h)

theorem CW.reg {P : Program} {κ : Con} {Q : QA} {e : Env} {Γ : Ctx} (hΓ : ∀ f c, Γ f = some c → CtrOK P f c) {id : Nat} {ops : List Oper} (hd : dstOK κ.lim ops = true) (h : wpOpsA P Γ (takenL ops) ops.toArray ops e (Q .normal)) : CW P κ (.region id ops.toArray false) Q e :=
  CW.region hΓ _ hd h
theorem CW.drw {P : Program} {κ : Con} {Q : QA} {e : Env} {Γ : Ctx} (hΓ : ∀ f c, Γ f = some c → CtrOK P f c) (hm : P.follows .mixedOrders = true) {id : Nat} {ops : List Oper} (hd : dstOK κ.lim ops = true) (hf : fwdB ops.toArray = true)
    (h : ∀ B, befB ops.toArray = B → wpOpsD P Γ (takenL ops) ops.toArray B ops 0 [] e (Q .normal)) : CW P κ (.region id ops.toArray true) Q e :=
  CW.draw hΓ hm _ _ hd hf rfl (h _ rfl)

theorem thenA_normal (N : Env → Prop) (Q : QA) (e : Env) : thenA N Q .normal e = N e := rfl
theorem thenA_normal' (N : Env → Prop) (Q : QA) : thenA N Q .normal = N := rfl
def noCtx : Ctx := fun _ => none
theorem noCtx_ok (P : Program) : ∀ f c, noCtx f = some c → CtrOK P f c := by intro f c h; cases h

theorem ex_idx {α : Type} {l : List α} {n : Nat} {Q : α → Prop} (h : n < l.length) (hq : Q l[n]) : ∃ a, l[n]? = some a ∧ Q a := ⟨l[n], List.getElem?_eq_getElem h, hq⟩

theorem noSh_ints (l : List Int) : AV.allN (l.map I) = true := by rw [allN_iff]; simp [noSh]
theorem allP_ints (l : List Int) : AV.allP (l.map I) = true := by rw [allP_iff]; simp [isP]
theorem allP_rows (l : List (List Int)) : AV.allP (l.map ints) = true := by rw [allP_iff]; simp [isP]
theorem Nat.cast_ofNat_Int : ((0 : Nat) : Int) = 0 := rfl

end Go.Proofs.Ytehdfifncbokeaa

namespace Go.Proofs.Ytehdfifncbokeaa
set_option linter.unusedSimpArgs false
set_option linter.unusedVariables false
set_option maxRecDepth 8000
set_option maxHeartbeats 2000000
open Go Go.RowKit AV

def RetP (rs : List ResultVar) (e : Env) (r : AV) : Prop := match rs with
  | [.tmp t] => isP r = true ∧ e t = r
  | [] => r = .tup []
  | _ => False

def backA (e : Env) (A : AV) : Prop := match e 0 with
  | .alias s p => getP (e s) p = some A ∧ isOwn A = true
  | .valias s p => ∃ l, getP (e s) p = some (.box l) ∧ A = .agg l
  | X => X = A ∧ isOwn A = true

def retE (rs : List ResultVar) (r A : AV) : QA
  | .normal, e => RetP rs e r ∧ backA e A
  | .ret, e => RetP rs e r ∧ backA e A
  | _, _ => False

def ctxOf : List (Nat × Ctr) → Ctx
  | [], _ => none
  | (g, c) :: L, f => if f = g then some c else ctxOf L f

theorem ctxOf_ok {P : Program} : ∀ {L : List (Nat × Ctr)}, (∀ x ∈ L, CtrOK P x.1 x.2) → ∀ f c, ctxOf L f = some c → CtrOK P f c
  | [], _, f, c, h => by cases h
  | (g, c0) :: L, hL, f, c, h => by
    simp only [ctxOf] at h
    split at h
    · rename_i hfg
      injection h with h
      subst hfg; subst h
      exact hL (f, c0) (by simp)
    · exact ctxOf_ok (fun x hx => hL x (by simp [hx])) f c h

theorem allN_oints (l : List (List Int)) : AV.allN (l.map oints) = true := by rw [allN_iff]; intro a ha; obtain ⟨x, _, rfl⟩ := List.mem_map.1 ha; exact noSh_ints x
theorem view_I : AV.view ∘ I = I := by funext n; rfl
theorem view_ints : AV.view ∘ ints = ints := by funext l; rfl
theorem view_oo : AV.view ∘ oints = ints := by funext l; simp [oints, ints, view, viewL_map, view_I]

theorem W_br_t {e : Env} (x y : Rd) (K : List Wr → Prop) : Rd.W e (.br True x y) K = Rd.W e x K := by simp [Rd.W]
theorem W_br_f {e : Env} (x y : Rd) (K : List Wr → Prop) : Rd.W e (.br False x y) K = Rd.W e y K := by simp [Rd.W]
theorem D_br_t {e : Env} (x y : Rd) (gs ps ts) (K : Fp → Prop) : Rd.D e (.br True x y) gs ps ts K = Rd.D e x gs ps ts K := by simp [Rd.D]
theorem D_br_f {e : Env} (x y : Rd) (gs ps ts) (K : Fp → Prop) : Rd.D e (.br False x y) gs ps ts K = Rd.D e y gs ps ts K := by simp [Rd.D]
theorem W_brs {e : Env} {c : Prop} {x y : Rd} {K : List Wr → Prop} (h1 : c → Rd.W e x K) (h2 : ¬ c → Rd.W e y K) : Rd.W e (.br c x y) K := ⟨h1, h2⟩
theorem D_brs {e : Env} {c : Prop} {x y : Rd} {gs ps ts} {K : Fp → Prop} (h1 : c → Rd.D e x gs ps ts K) (h2 : ¬ c → Rd.D e y gs ps ts K) : Rd.D e (.br c x y) gs ps ts K := ⟨h1, h2⟩

theorem cast_div (a b : Nat) : (a : Int) / (b : Int) = ((a / b : Nat) : Int) := (Int.natCast_ediv a b).symm
theorem cast_mod (a b : Nat) : (a : Int) % (b : Int) = ((a % b : Nat) : Int) := (Int.natCast_emod a b).symm

def killIf (b : Bool) (s : Nat) (p : List Nat) (e : Env) : Env := match b with
  | true => kill s p e
  | false => e
theorem killIf_t (s : Nat) (p : List Nat) (e : Env) : killIf true s p e = kill s p e := rfl
theorem killIf_f (s : Nat) (p : List Nat) (e : Env) : killIf false s p e = e := rfl
theorem app_set_junk (d : Nat) (e : Env)  : (Wr.set d AV.junk).app e = upd e d AV.junk := rfl
theorem app_mod_junk (s : Nat) (p : List Nat) (e : Env)  : (Wr.mod s p AV.junk).app e = upd e s (setP (e s) p AV.junk) := rfl
theorem app_set_num (d : Nat) (e : Env) (k : IntKind) (n : Int) : (Wr.set d (AV.num k n)).app e = upd e d (AV.num k n) := rfl
theorem app_mod_num (s : Nat) (p : List Nat) (e : Env) (k : IntKind) (n : Int) : (Wr.mod s p (AV.num k n)).app e = upd e s (setP (e s) p (AV.num k n)) := rfl
theorem app_set_bool (d : Nat) (e : Env) (b : Bool) : (Wr.set d (AV.bool b)).app e = upd e d (AV.bool b) := rfl
theorem app_mod_bool (s : Nat) (p : List Nat) (e : Env) (b : Bool) : (Wr.mod s p (AV.bool b)).app e = upd e s (setP (e s) p (AV.bool b)) := rfl
theorem app_set_sh (d : Nat) (e : Env) (l : List AV) : (Wr.set d (AV.sh l)).app e = upd e d (AV.sh l) := rfl
theorem app_mod_sh (s : Nat) (p : List Nat) (e : Env) (l : List AV) : (Wr.mod s p (AV.sh l)).app e = upd e s (setP (e s) p (AV.sh l)) := rfl
theorem app_set_own (d : Nat) (e : Env) (l : List AV) : (Wr.set d (AV.own l)).app e = upd (kill d [] e) d (AV.own l) := rfl
theorem app_mod_own (s : Nat) (p : List Nat) (e : Env) (l : List AV) : (Wr.mod s p (AV.own l)).app e = upd (kill s p e) s (setP (e s) p (AV.own l)) := rfl
theorem app_set_box (d : Nat) (e : Env) (l : List AV) : (Wr.set d (AV.box l)).app e = upd (kill d [] e) d (AV.box l) := rfl
theorem app_mod_box (s : Nat) (p : List Nat) (e : Env) (l : List AV) : (Wr.mod s p (AV.box l)).app e = upd (kill s p e) s (setP (e s) p (AV.box l)) := rfl
theorem app_set_pbox (d : Nat) (e : Env) (l : List AV) : (Wr.set d (AV.pbox l)).app e = upd e d (AV.pbox l) := rfl
theorem app_mod_pbox (s : Nat) (p : List Nat) (e : Env) (l : List AV) : (Wr.mod s p (AV.pbox l)).app e = upd e s (setP (e s) p (AV.pbox l)) := rfl
theorem app_set_pcell (d : Nat) (e : Env) (v : AV) : (Wr.set d (AV.pcell v)).app e = upd e d (AV.pcell v) := rfl
theorem app_mod_pcell (s : Nat) (p : List Nat) (e : Env) (v : AV) : (Wr.mod s p (AV.pcell v)).app e = upd e s (setP (e s) p (AV.pcell v)) := rfl
theorem app_set_alias (d : Nat) (e : Env) (s' : Nat) (q : List Nat) : (Wr.set d (AV.alias s' q)).app e = upd e d (AV.alias s' q) := rfl
theorem app_mod_alias (s : Nat) (p : List Nat) (e : Env) (s' : Nat) (q : List Nat) : (Wr.mod s p (AV.alias s' q)).app e = upd e s (setP (e s) p (AV.alias s' q)) := rfl
theorem app_set_valias (d : Nat) (e : Env) (s' : Nat) (q : List Nat) : (Wr.set d (AV.valias s' q)).app e = upd e d (AV.valias s' q) := rfl
theorem app_mod_valias (s : Nat) (p : List Nat) (e : Env) (s' : Nat) (q : List Nat) : (Wr.mod s p (AV.valias s' q)).app e = upd e s (setP (e s) p (AV.valias s' q)) := rfl
theorem app_set_addr (d : Nat) (e : Env) (s' : Nat) (q : List Nat) : (Wr.set d (AV.addr s' q)).app e = upd e d (AV.addr s' q) := rfl
theorem app_mod_addr (s : Nat) (p : List Nat) (e : Env) (s' : Nat) (q : List Nat) : (Wr.mod s p (AV.addr s' q)).app e = upd e s (setP (e s) p (AV.addr s' q)) := rfl
theorem app_set_fn (d : Nat) (e : Env) (f : Nat) (l : List AV) : (Wr.set d (AV.fn f l)).app e = upd e d (AV.fn f l) := rfl
theorem app_mod_fn (s : Nat) (p : List Nat) (e : Env) (f : Nat) (l : List AV) : (Wr.mod s p (AV.fn f l)).app e = upd e s (setP (e s) p (AV.fn f l)) := rfl
theorem app_set_pmap (d : Nat) (e : Env) (ks vs : List AV) : (Wr.set d (AV.pmap ks vs)).app e = upd e d (AV.pmap ks vs) := rfl
theorem app_mod_pmap (s : Nat) (p : List Nat) (e : Env) (ks vs : List AV) : (Wr.mod s p (AV.pmap ks vs)).app e = upd e s (setP (e s) p (AV.pmap ks vs)) := rfl
theorem app_set_srec (d : Nat) (e : Env) (n : Nat) (l : List AV) : (Wr.set d (AV.srec n l)).app e = upd e d (AV.srec n l) := rfl
theorem app_mod_srec (s : Nat) (p : List Nat) (e : Env) (n : Nat) (l : List AV) : (Wr.mod s p (AV.srec n l)).app e = upd e s (setP (e s) p (AV.srec n l)) := rfl
theorem app_set_orec (d : Nat) (e : Env) (n : Nat) (l : List AV) : (Wr.set d (AV.orec n l)).app e = upd (kill d [] e) d (AV.orec n l) := rfl
theorem app_mod_orec (s : Nat) (p : List Nat) (e : Env) (n : Nat) (l : List AV) : (Wr.mod s p (AV.orec n l)).app e = upd (kill s p e) s (setP (e s) p (AV.orec n l)) := rfl
theorem app_set_mfn (d : Nat) (e : Env) (f : Nat) (l : List AV) : (Wr.set d (AV.mfn f l)).app e = upd e d (AV.mfn f l) := rfl
theorem app_mod_mfn (s : Nat) (p : List Nat) (e : Env) (f : Nat) (l : List AV) : (Wr.mod s p (AV.mfn f l)).app e = upd e s (setP (e s) p (AV.mfn f l)) := rfl
theorem app_set_oiter (d : Nat) (e : Env) (ks vs : List AV) (seen : List Nat) : (Wr.set d (AV.oiter ks vs seen)).app e = upd (kill d [] e) d (AV.oiter ks vs seen) := rfl
theorem app_mod_oiter (s : Nat) (p : List Nat) (e : Env) (ks vs : List AV) (seen : List Nat) : (Wr.mod s p (AV.oiter ks vs seen)).app e = upd (kill s p e) s (setP (e s) p (AV.oiter ks vs seen)) := rfl
theorem app_set_memo (d : Nat) (e : Env) (f g : List (List Int × Value × Nat × Nat) → List AV) : (Wr.set d (AV.memo f g)).app e = upd (kill d [] e) d (AV.memo f g) := rfl
theorem app_mod_memo (s : Nat) (p : List Nat) (e : Env) (f g : List (List Int × Value × Nat × Nat) → List AV) : (Wr.mod s p (AV.memo f g)).app e = upd (kill s p e) s (setP (e s) p (AV.memo f g)) := rfl
theorem app_set_agg (d : Nat) (e : Env) (l : List AV) : (Wr.set d (.agg l)).app e = upd (killIf (anyOwn l) d [] e) d (.agg l) := by cases h : anyOwn l <;> simp [Wr.app, isOwn, h, killIf]
theorem app_mod_agg (s : Nat) (p : List Nat) (e : Env) (l : List AV) : (Wr.mod s p (.agg l)).app e = upd (killIf (anyOwn l) s p e) s (setP (e s) p (.agg l)) := by cases h : anyOwn l <;> simp [Wr.app, isOwn, h, killIf]
theorem app_set_tup (d : Nat) (e : Env) (l : List AV) : (Wr.set d (.tup l)).app e = upd (killIf (anyOwn l) d [] e) d (.tup l) := by cases h : anyOwn l <;> simp [Wr.app, isOwn, h, killIf]
theorem app_mod_tup (s : Nat) (p : List Nat) (e : Env) (l : List AV) : (Wr.mod s p (.tup l)).app e = upd (killIf (anyOwn l) s p e) s (setP (e s) p (.tup l)) := by cases h : anyOwn l <;> simp [Wr.app, isOwn, h, killIf]

theorem isE_no (f : Nat) : isE noCtx f = false := rfl
theorem isE_nil (f : Nat) : isE (ctxOf []) f = false := rfl
theorem isE_cons (g : Nat) (c : Ctr) (L : List (Nat × Ctr)) (f : Nat) : isE (ctxOf ((g, c) :: L)) f = if f = g then c.eff else isE (ctxOf L) f := by
  by_cases h : f = g <;> simp [isE, ctxOf, h]

def effC (rel : List AV → AV → List AV → Prop) : Ctr := ⟨true, rel, false⟩
def pureC (rel : List AV → AV → Prop) : Ctr := ⟨false, fun args r args' => args' = [] ∧ rel args r, false⟩
theorem effC_eff (rel) : (effC rel).eff = true := rfl
theorem pureC_eff (rel) : (pureC rel).eff = false := rfl
theorem effC_rel (rel) : (effC rel).rel = rel := rfl
theorem pureC_rel (rel) (args r args') : (pureC rel).rel args r args' = (args' = [] ∧ rel args r) := rfl

theorem W_askP {e : Env} {Γ : Ctx} {f : Nat} {args : List AV} {k : AV → Rd} {K : List Wr → Prop} {rel : List AV → AV → Prop} (hf : Γ f = some (pureC rel)) (r : AV) (hr : rel args r) (h : Rd.W e (k r) K) : Rd.W e (rdAsk Γ f args k) K :=
  ⟨_, r, ⟨hf, rfl, rfl, hr⟩, h⟩
theorem D_askP {e : Env} {Γ : Ctx} {f : Nat} {args : List AV} {k : AV → Rd} {gs ps ts} {K : Fp → Prop} {rel : List AV → AV → Prop} (hf : Γ f = some (pureC rel)) (r : AV) (hr : rel args r) (h : Rd.D e (k r) gs ps ts K) : Rd.D e (rdAsk Γ f args k) gs ps ts K :=
  ⟨_, r, ⟨hf, rfl, rfl, hr⟩, h⟩
theorem W_askE {e : Env} {Γ : Ctx} {f : Nat} {args : List AV} {k : AV → AV → Rd} {K : List Wr → Prop} {rel : List AV → AV → List AV → Prop} (hf : Γ f = some (effC rel)) (r A : AV) (hr : rel args r [A]) (h : Rd.W e (k r A) K) : Rd.W e (rdAskE Γ f args k) K :=
  ⟨_, r, A, ⟨hf, rfl, hr⟩, h⟩
theorem D_askE {e : Env} {Γ : Ctx} {f : Nat} {args : List AV} {k : AV → AV → Rd} {gs ps ts} {K : Fp → Prop} {rel : List AV → AV → List AV → Prop} (hf : Γ f = some (effC rel)) (r A : AV) (hr : rel args r [A]) (h : Rd.D e (k r A) gs ps ts K) : Rd.D e (rdAskE Γ f args k) gs ps ts K :=
  ⟨_, r, A, ⟨hf, rfl, hr⟩, h⟩

theorem ctr_pure' {P : Program} {f : Nat} {fn : Func} {c : Code} (hf : P.funcs[f]? = some fn) (hname : (fn.name == "runtime.NumGoroutine") = false) (hb : fn.body = some c) {nt : Nat} (hnt : fn.ntmps = nt) {rel : List AV → AV → Prop}
    (h : ∀ args r, rel args r → args.length ≤ nt ∧ ∀ κ : Con, κ.lim = (0, nt) → CW P κ c (retQ P fn.results.toList r) (argEnv args)) : CtrOK P f (pureC rel) :=
  ctr_pure hf hname hb hnt fun args r args' ⟨h1, h2⟩ => ⟨h1, h args r h2⟩

theorem take_succ_eq {α : Type} {l m : List α} {k : Nat} (hl : k < l.length) (hm : k < m.length) (h : l.take k = m.take k) (he : l[k] = m[k]) : l.take (k + 1) = m.take (k + 1) := by
  rw [List.take_succ_eq_append_getElem hl, List.take_succ_eq_append_getElem hm, h, he]

def takeC (rel : List AV → AV → Prop) : Ctr := ⟨true, fun args r args' => args' = [] ∧ rel args r, true⟩
theorem takeC_eff (rel) : (takeC rel).eff = true := rfl
theorem takeC_tk (rel) : (takeC rel).tk = true := rfl
theorem effC_tk (rel) : (effC rel).tk = false := rfl
theorem pureC_tk (rel) : (pureC rel).tk = false := rfl
theorem isT_no (f : Nat) : isT noCtx f = false := rfl
theorem isT_nil (f : Nat) : isT (ctxOf []) f = false := rfl
theorem isT_cons (g : Nat) (c : Ctr) (L : List (Nat × Ctr)) (f : Nat) : isT (ctxOf ((g, c) :: L)) f = if f = g then c.tk else isT (ctxOf L) f := by
  simp only [isT, ctxOf]
  split
  · rename_i h; split at h <;> simp_all
  · rename_i h; split at h <;> simp_all
theorem W_askT {e : Env} {Γ : Ctx} {f : Nat} {args : List AV} {k : AV → Rd} {K : List Wr → Prop} {rel : List AV → AV → Prop} (hf : Γ f = some (takeC rel)) (r : AV) (hr : rel args r) (h : Rd.W e (k r) K) : Rd.W e (rdAskT Γ f args k) K := by
  exact ⟨_, r, ⟨hf, rfl, rfl, hr⟩, h⟩
theorem D_askT {e : Env} {Γ : Ctx} {f : Nat} {args : List AV} {k : AV → Rd} {gs ps ts} {K : Fp → Prop} {rel : List AV → AV → Prop} (hf : Γ f = some (takeC rel)) (r : AV) (hr : rel args r) (h : Rd.D e (k r) gs ps ts K) : Rd.D e (rdAskT Γ f args k) gs ps ts K := by
  exact ⟨_, r, ⟨hf, rfl, rfl, hr⟩, h⟩

theorem ctr_take {P : Program} {f : Nat} {fn : Func} {c : Code} (hf : P.funcs[f]? = some fn) (hname : (fn.name == "runtime.NumGoroutine") = false) (hb : fn.body = some c) {nt : Nat} (hnt : fn.ntmps = nt) {rel : List AV → AV → Prop}
    (h : ∀ args r, rel args r → args.length ≤ nt ∧ ∀ κ : Con, κ.lim = (0, nt) → CW P κ c (retQ P fn.results.toList r) (argEnv args)) : CtrOK P f (takeC rel) := by
  refine ⟨⟨fn, c, hf, hname, hb⟩, fun args r args' hrel w Z β vs hvs hwf hargs => ?_⟩
  obtain ⟨rfl, hrel⟩ := hrel
  obtain ⟨hlen, hcw⟩ := h args r hrel
  rw [takeC_eff] at hargs
  simp only [if_true] at hargs
  let κ : Con := ⟨w, Z, fun b => ∃ p, β p = some b, fun _ => undef, (0, nt)⟩
  have hval : ∀ t, t < args.length → vals { tmps := vs ++ Array.replicate (fn.ntmps - vs.size) undef, defers := [] } t = vs.getD t undef := by
    intro t ht
    have : t < vs.size := by omega
    simp [vals, Array.getD_eq_getD_getElem?, Array.getElem?_append_left this]
  refine calls_of_wp hf hb (wp_mono (hcw κ rfl { tmps := vs ++ Array.replicate (fn.ntmps - vs.size) undef, defers := [] } w ⟨rfl, ⟨by simp [hnt, hvs]; show _ = nt; omega, fun t ht => absurd ht (Nat.not_lt_zero t)⟩, Z, β, ?_⟩) fun x a w' ⟨e', hq, hs'⟩ => ?_)
  · refine ⟨rfl, rfl, rfl, Nat.le_refl _, fun _ _ _ => rfl, fun _ _ h => h, fun _ _ h => .inl h, hwf.zh, hwf.inj, fun p b hp => ⟨.inl ⟨p, hp⟩, hwf.bo p b hp⟩, fun t => ?_⟩
    unfold TRep argEnv
    by_cases ht : t < args.length
    · have e1 : args.getD t .junk = args[t] := by simp [List.getD, List.getElem?_eq_getElem ht]
      rw [e1, hval t ht]
      have := hargs t ht
      have hpl := this.plain
      generalize args[t] = X at this hpl
      cases X with
      | alias s p => exact absurd rfl (hpl s p).1
      | valias s p => exact absurd rfl (hpl s p).2.1
      | addr s p => exact absurd rfl (hpl s p).2.2.1
      | win s p k => exact absurd rfl ((hpl s p).2.2.2 k)
      | _ => exact this
    · have e1 : args.getD t .junk = .junk := by simp [List.getD, List.getElem?_eq_none (Nat.le_of_not_lt ht)]
      rw [e1]
      exact .pers (.junk _)
  · have hd : a.defers = [] := hs'.1
    have key : RetOK P fn.results.toList e' r → ∃ v, (results fn a.tmps).run P w' = .ok v w' ∧ ∃ v' Z' β', Ending.returned v = .returned v' ∧ Left Z β w Z' β' w' ∧ ORep Z' w'.heap β' [0] r v' ∧ ∀ i (h : i < ([] : List AV).length), ORep Z' w'.heap β' [i + 1] [][i] (vs.getD i undef) := by
      intro hr
      obtain ⟨v, Z', β', g1, g2, g3⟩ := ret_left (κ := κ) rfl hs' hr
      exact ⟨v, g1, v, Z', β', rfl, g2, g3, by simp⟩
    cases x with
    | normal => obtain ⟨v, g1, g2⟩ := key hq; exact ⟨hd, v, g1, g2⟩
    | ret => obtain ⟨v, g1, g2⟩ := key hq; exact ⟨hd, v, g1, g2⟩
    | _ => exact hq.elim

theorem CW.frzPost {P : Program} {κ : Con} {c : Code} {Q : QA} {e : Env} {N N' : Env → Prop} (h : CW P κ c (thenA N Q) e) (hN : ∀ e', N e' → N' e' ∨ ∃ s p A, getP (e' s) p = some A ∧ isOwn A = true ∧ N' ((Wr.mod s p (view A)).app e')) : CW P κ c (thenA N' Q) e := by
  intro a w hs
  refine wp_mono (h a w hs) fun x a' w' ⟨e', hq, hs'⟩ => ?_
  cases x with
  | normal =>
    rcases hN e' hq with h1 | ⟨s, p, A, hg, hA, h1⟩
    · exact ⟨e', h1, hs'⟩
    · obtain ⟨g1, g2, Z, β, hR⟩ := hs'
      have hpl := plain_of_own hg hA
      obtain ⟨Z', β', hR', _⟩ := hR.freeze s p A hg hpl.2 hpl.1 (view_plain A) (view_noOwn A)
      exact ⟨_, h1, g1, g2, Z', β', hR'⟩
  | _ => exact ⟨e', hq, hs'⟩

end Go.Proofs.Ytehdfifncbokeaa

namespace Go.Proofs.Ytehdfifncbokeaa
set_option linter.unusedSimpArgs false
set_option linter.unusedVariables false
set_option maxRecDepth 8000
set_option maxHeartbeats 2000000
open Go Go.RowKit AV

def heapZ (w : World) : Nat → Option Obj := fun b => w.heap[b]?

theorem cells_of_cell {w : World} {b i : Nat} {u : Value} (h : w.cell? ⟨b, i, none⟩ = some u) : ∃ cs T fz, w.heap[b]? = some (.cells cs T fz) ∧ cs[i]? = some u := by
  unfold World.cell? at h
  split at h
  · rename_i c T fz hc
    exact ⟨c, T, fz, hc, by simpa using h⟩
  · cases h

theorem IS.len {B : Nat} {w : World} {v : Value} {l : List Int} (h : IS B w v l) : l.length ≤ maxLen := by
  obtain ⟨A, c, _, h1, h2, _⟩ := h; omega
theorem ISS.len {B : Nat} {w : World} {v : Value} {l : List (List Int)} (h : ISS B w v l) : l.length ≤ maxLen := by
  obtain ⟨A, c, _, h1, h2, _⟩ := h; omega
theorem law_of_ctr {P : Program} {f : Nat} {rel : List AV → AV → Prop} (h : CtrOK P f (pureC rel)) {args : List AV} (hr : rel args (.bool true)) {vs : Array Value} {w : World} (hn : vs.size = args.length)
    (ha : ∀ i (h : i < args.length), PRep (heapZ w) args[i] (vs.getD i undef)) : Calls P f vs w fun e w' => e = .returned (.bool true) ∧ Below w.heap.size w w' := by
  refine (h.2 args (.bool true) [] ⟨rfl, hr⟩ w (heapZ w) (fun _ => none) vs hn ⟨fun b o h => h, by simp, by simp⟩ (by
    simp only [pureC_eff, Bool.false_eq_true, if_false]
    exact ⟨trivial, ha⟩)).mono ?_
  rintro en w' ⟨v, Z', β', rfl, hL, hv, _⟩
  cases hv with
  | pers h =>
    cases h
    exact ⟨rfl, hL.os, hL.tape, hL.output, hL.size, fun b hb => hL.frame b hb (by simp)⟩

end Go.Proofs.Ytehdfifncbokeaa

namespace Go.Proofs.Ytehdfifncbokeaa
set_option linter.unusedSimpArgs false
set_option linter.unusedVariables false
set_option maxRecDepth 8000
set_option maxHeartbeats 2000000
open Go Go.RowKit AV

def BS (_B : Nat) (w : World) (v : Value) (bs : List Nat) : Prop := PRep (heapZ w) (.sh (bs.map fun b : Nat => AV.num .u8 (b : Int))) v ∧ bs.length ≤ maxLen ∧ ∀ b ∈ bs, b < 256

theorem BS.nil (B : Nat) (w : World) : BS B w (.slice none 0 0) [] := ⟨.nil none 0 (by unfold maxLen; omega), by simp, by simp⟩

theorem BS.of {B : Nat} {w : World} {b o c : Nat} {bs : List Nat} (h0 : bs ≠ []) (h1 : bs.length ≤ c) (h2 : c ≤ maxLen) (h : ∀ b ∈ bs, b < 256) (hc : ∀ k (hk : k < bs.length), w.cell? ⟨b, o + k, none⟩ = some (.int .u8 (bs[k] : Int))) :
    BS B w (.slice (some ⟨b, o, none⟩) bs.length c) bs := by
  refine ⟨?_, by omega, h⟩
  have hpos : 0 < bs.length := List.length_pos_iff.2 h0
  obtain ⟨cs, T, fz, hz, _⟩ := cells_of_cell (hc 0 hpos)
  have := PRep.sh (Z := heapZ w) (bs.map fun b : Nat => AV.num .u8 (b : Int)) b o c cs T fz (fun k => .int .u8 ((bs.getD k 0 : Nat) : Int)) hz (by simpa using h1) h2 (fun k hk => by
    have hk' : k < bs.length := by simpa using hk
    obtain ⟨cs', T', fz', hz', hk''⟩ := cells_of_cell (hc k hk')
    rw [hz] at hz'
    injection hz' with hz'
    injection hz' with e1 e2 e3
    rw [e1]
    have e4 : bs.getD k 0 = bs[k] := by simp [List.getD, hk']
    rw [e4]; exact hk'') (fun k hk => rfl) (fun k hk => by
    have hk' : k < bs.length := by simpa using hk
    have e4 : bs.getD k 0 = bs[k] := by simp [List.getD, hk']
    simp only [List.getElem_map, e4]
    exact .num _ _)
  simpa using this

end Go.Proofs.Ytehdfifncbokeaa

namespace Go.Proofs.Ytehdfifncbokeaa
set_option linter.unusedSimpArgs false
set_option linter.unusedVariables false
set_option maxRecDepth 8000
set_option maxHeartbeats 2000000
open Go Go.RowKit AV
open Go.ChangeMaps (setBlock)

end Go.Proofs.Ytehdfifncbokeaa

namespace Go.Proofs.Ytehdfifncbokeaa
set_option linter.unusedSimpArgs false
set_option linter.unusedVariables false
set_option maxRecDepth 8000
set_option maxHeartbeats 2000000
open Go Go.RowKit AV

def RetL (P : Program) (rs : List ResultVar) (e : Env) (r A : AV) : Prop := e 0 = A ∧ isOwn A = true ∧ match rs with
  | [.tmp t] => t ≠ 0 ∧ plainB r = true ∧ (r = e t ∨ r = view (e t))
  | [.tmp t1, .tmp t2] => ∃ r1 r2, r = .tup [r1, r2] ∧ t1 ≠ t2 ∧ t1 ≠ 0 ∧ t2 ≠ 0 ∧ plainB r1 = true ∧ plainB r2 = true ∧ (r1 = e t1 ∨ r1 = view (e t1)) ∧ (r2 = e t2 ∨ r2 = view (e t2))
  | [.cell t T] => t ≠ 0 ∧ ∃ l, aggT P T = some true ∧ szT P T = some l.length ∧ e t = .box l ∧ r = .agg l
  | [] => r = .tup []
  | _ => False

def retL (P : Program) (rs : List ResultVar) (r A : AV) : QA
  | .normal, e => RetL P rs e r A
  | .ret, e => RetL P rs e r A
  | _, _ => False
theorem retL_ret (P : Program) (rs : List ResultVar) (r A : AV) (e : Env) : retL P rs r A .ret e = RetL P rs e r A := rfl
theorem retL_normal (P : Program) (rs : List ResultVar) (r A : AV) (e : Env) : retL P rs r A .normal e = RetL P rs e r A := rfl

def lf0 : List Nat → Option (List Nat)
  | 1 :: q => some (0 :: q)
  | _ => none
def lf1 (t : Nat) : List Nat → Option (List Nat)
  | 0 :: q => some (t :: q)
  | 1 :: q => some (0 :: q)
  | _ => none
def lf2 (t1 t2 : Nat) : List Nat → Option (List Nat)
  | 0 :: 0 :: q => some (t1 :: q)
  | 0 :: 1 :: q => some (t2 :: q)
  | 1 :: q => some (0 :: q)
  | _ => none
def lf3 (t : Nat) : List Nat → Option (List Nat)
  | 0 :: k :: q => some (t :: k :: q)
  | 1 :: q => some (0 :: q)
  | _ => none
theorem lf0_inj : ∀ r1 r2 x, lf0 r1 = some x → lf0 r2 = some x → r1 = r2 := by
  intro r1 r2 x h1 h2
  unfold lf0 at h1 h2
  split at h1 <;> split at h2 <;> simp_all
  subst h1; simp_all
theorem lf1_inj {t : Nat} (ht : t ≠ 0) : ∀ r1 r2 x, lf1 t r1 = some x → lf1 t r2 = some x → r1 = r2 := by
  intro r1 r2 x h1 h2
  unfold lf1 at h1 h2
  split at h1 <;> split at h2 <;> simp_all <;> subst h1 <;> simp_all
theorem lf2_inj {t1 t2 : Nat} (h12 : t1 ≠ t2) (h10 : t1 ≠ 0) (h20 : t2 ≠ 0) : ∀ r1 r2 x, lf2 t1 t2 r1 = some x → lf2 t1 t2 r2 = some x → r1 = r2 := by
  intro r1 r2 x h1 h2
  unfold lf2 at h1 h2
  split at h1 <;> split at h2 <;> simp_all <;> subst h1 <;> simp_all
theorem lf3_inj {t : Nat} (ht : t ≠ 0) : ∀ r1 r2 x, lf3 t r1 = some x → lf3 t r2 = some x → r1 = r2 := by
  intro r1 r2 x h1 h2
  unfold lf3 at h1 h2
  split at h1 <;> split at h2 <;> simp_all <;> subst h1 <;> simp_all

theorem ret_lend {P : Program} {fn : Func} {κ : Con} {β0 : List Nat → Option Nat} (hO : κ.O0 = fun b => ∃ p, β0 p = some b) (hl : 0 < κ.lim.1) {e : Env} {a : Act} {w : World} {r A : AV} (hs : St κ e a w) (hr : RetL P fn.results.toList e r A) :
    ∃ v Z' β', (results fn a.tmps).run P w = .ok v w ∧ Left κ.Z0 β0 κ.W0 Z' β' w ∧ ORep Z' w.heap β' [0] r v ∧ ORep Z' w.heap β' [1] A (κ.V0 0) := by
  obtain ⟨h1, h2, Z, β, hR⟩ := hs
  have hv0 : vals a 0 = κ.V0 0 := h2.2 0 hl
  have mk : ∀ (Z' : Nat → Option Obj) (β' : List Nat → Option Nat) (e' : Env) (f : List Nat → Option (List Nat)), Rep κ Z' β' e' (vals a) w → (∀ r1 r2 x, f r1 = some x → f r2 = some x → r1 = r2) → Left κ.Z0 β0 κ.W0 Z' (viaF f β') w := by
    intro Z' β' e' f hR' hinj
    have hnew : ∀ b, new κ b → (∃ q, β0 q = some b) ∨ κ.W0.heap.size ≤ b := fun b hb => by
      unfold new at hb; rw [hO] at hb; exact hb
    refine ⟨hR'.os, hR'.tape, hR'.output, hR'.size, fun b hb hn => hR'.frame b hb ?_, hR'.z0, fun b o ho => (hR'.zo b o ho).imp id fun h => hnew b h, hR'.zh, viaF_inj hinj hR'.inj, fun p b hp => ?_⟩
    · rw [hO]; rintro ⟨p, hp⟩; exact hn p hp
    · have := viaF_bo (Q := fun b => new κ b ∧ Z' b = none ∧ b < w.heap.size) hR'.bo p b hp
      exact ⟨hnew b this.1, this.2⟩
  obtain ⟨h0, hA, hr⟩ := hr
  have hApl := own_plain hA
  have back : ∀ {Z' : Nat → Option Obj} {β' : List Nat → Option Nat} {e' : Env} {f : List Nat → Option (List Nat)}, Rep κ Z' β' e' (vals a) w → e' 0 = A → (∀ q, f (1 :: q) = some (0 :: q)) → ORep Z' w.heap (viaF f β') [1] A (κ.V0 0) := by
    intro Z' β' e' f hR' he hf
    have := hR'.slot' (t := 0) he hApl
    rw [hv0] at this
    exact this.move (fun _ _ h => h) fun q b hb => ⟨by simpa [viaF, hf] using hb, rfl⟩
  split at hr
  · rename_i t hrs
    obtain ⟨ht, hp, hrt⟩ := hr
    have hres : fn.results = #[.tmp t] := by rw [← Array.toArray_toList (xs := fn.results), hrs]
    obtain ⟨Z', β', hR'⟩ := hR.weaken (e' := envOf [(t, r), (0, A)]) (LeL.le ⟨hrt, .inl h0.symm, trivial⟩)
    have hsl := hR'.slot' (t := t) (A := r) (by simp [envOf, upd]) (plainB_spec hp).2
    exact ⟨vals a t, Z', viaF (lf1 t) β', results_tmp hres _ _ _, mk Z' β' _ _ hR' (lf1_inj ht), hsl.move (fun _ _ h => h) fun q b hb => ⟨by simpa [viaF, lf1] using hb, rfl⟩, back hR' (by simp [envOf, upd, Ne.symm ht]) fun q => rfl⟩
  · rename_i t1 t2 hrs
    obtain ⟨r1, r2, rfl, h12, h10, h20, hp1, hp2, hr1, hr2⟩ := hr
    have hres : fn.results = #[.tmp t1, .tmp t2] := by rw [← Array.toArray_toList (xs := fn.results), hrs]
    obtain ⟨Z', β', hR'⟩ := hR.weaken (e' := envOf [(t1, r1), (t2, r2), (0, A)]) (LeL.le ⟨hr1, hr2, .inl h0.symm, trivial⟩)
    have hs1 := hR'.slot' (t := t1) (A := r1) (by simp [envOf, upd]) (plainB_spec hp1).2
    have hs2 := hR'.slot' (t := t2) (A := r2) (by simp [envOf, upd, Ne.symm h12]) (plainB_spec hp2).2
    refine ⟨.tuple #[vals a t1, vals a t2], Z', viaF (lf2 t1 t2) β', results_tmp2 hres _ _ _, mk Z' β' _ _ hR' (lf2_inj h12 h10 h20), ?_, back hR' (by simp [envOf, upd, Ne.symm h10, Ne.symm h20]) fun q => rfl⟩
    refine .tup [r1, r2] _ rfl fun k hk => ?_
    have hk' : k = 0 ∨ k = 1 := by simp at hk; omega
    rcases hk' with rfl | rfl
    · exact hs1.move (fun _ _ h => h) fun q b hb => ⟨by simpa [viaF, lf2] using hb, rfl⟩
    · exact hs2.move (fun _ _ h => h) fun q b hb => ⟨by simpa [viaF, lf2] using hb, rfl⟩
  · rename_i t T hrs
    obtain ⟨ht, l, hT, hsz, het, rfl⟩ := hr
    have hres : fn.results = #[.cell t T] := by rw [← Array.toArray_toList (xs := fn.results), hrs]
    obtain ⟨Z', β', hR'⟩ := hR.weaken (e' := envOf [(t, .box l), (0, A)]) (LeL.le ⟨.inl het.symm, .inl h0.symm, trivial⟩)
    have hsl := hR'.slot' (t := t) (A := .box l) (by simp [envOf, upd]) (by simp)
    generalize hvv : vals a t = v at hsl
    cases hsl with
    | pers h => cases h
    | box l b cs E hb hz g1 g4 hk =>
      refine ⟨.agg cs, Z', viaF (lf3 t) β', results_spec hres hvv ?_, mk Z' β' _ _ hR' (lf3_inj ht), .agg l cs g1 fun k hk' => (hk k hk').move (fun _ _ h => h) fun q b' hq => ⟨by simpa [viaF, lf3] using hq, rfl⟩, back hR' (by simp [envOf, upd, Ne.symm ht]) fun q => rfl⟩
      have := run_loadAt_agg' (P := P) hT (by rw [hsz, g1]) hz
      simpa [Instr.loadAt, Instr.sureAddr] using this
  · rename_i hrs
    subst hr
    have hres : fn.results = #[] := by rw [← Array.toArray_toList (xs := fn.results), hrs]
    exact ⟨.tuple #[], Z, viaF lf0 β, results_none hres _ _ _, mk Z β _ _ hR lf0_inj, .pers (.tup [] #[] rfl (by simp)), back hR h0 fun q => rfl⟩
  · exact hr.elim

theorem ctr_lend {P : Program} {f : Nat} {fn : Func} {c : Code} (hf : P.funcs[f]? = some fn) (hname : (fn.name == "runtime.NumGoroutine") = false) (hb : fn.body = some c) {nt : Nat} (hnt : fn.ntmps = nt) {rel : List AV → AV → List AV → Prop}
    (h : ∀ args r args', rel args r args' → ∃ A, args' = [A] ∧ 0 < args.length ∧ args.length ≤ nt ∧ ∀ κ : Con, κ.lim = (1, nt) → CW P κ c (retL P fn.results.toList r A) (argEnv args)) : CtrOK P f ⟨true, rel, false⟩ := by
  refine ⟨⟨fn, c, hf, hname, hb⟩, fun args r args' hrel w Z β vs hvs hwf hargs => ?_⟩
  obtain ⟨A, rfl, h0, hlen, hcw⟩ := h args r args' hrel
  simp only [if_true] at hargs
  let κ : Con := ⟨w, Z, fun b => ∃ p, β p = some b, fun t => vs.getD t undef, (1, nt)⟩
  have hval : ∀ t, t < args.length → vals { tmps := vs ++ Array.replicate (fn.ntmps - vs.size) undef, defers := [] } t = vs.getD t undef := by
    intro t ht
    have : t < vs.size := by omega
    simp [vals, Array.getD_eq_getD_getElem?, Array.getElem?_append_left this]
  refine calls_of_wp hf hb (wp_mono (hcw κ rfl { tmps := vs ++ Array.replicate (fn.ntmps - vs.size) undef, defers := [] } w ⟨rfl, ⟨by simp [hnt, hvs]; show _ = nt; omega, fun t ht => hval t (by have : t < 1 := ht; omega)⟩, Z, β, ?_⟩) fun x a w' ⟨e', hq, hs'⟩ => ?_)
  · refine ⟨rfl, rfl, rfl, Nat.le_refl _, fun _ _ _ => rfl, fun _ _ h => h, fun _ _ h => .inl h, hwf.zh, hwf.inj, fun p b hp => ⟨.inl ⟨p, hp⟩, hwf.bo p b hp⟩, fun t => ?_⟩
    unfold TRep argEnv
    by_cases ht : t < args.length
    · have e1 : args.getD t .junk = args[t] := by simp [List.getD, List.getElem?_eq_getElem ht]
      rw [e1, hval t ht]
      have := hargs t ht
      have hpl := this.plain
      generalize args[t] = X at this hpl
      cases X with
      | alias s p => exact absurd rfl (hpl s p).1
      | valias s p => exact absurd rfl (hpl s p).2.1
      | addr s p => exact absurd rfl (hpl s p).2.2.1
      | win s p k => exact absurd rfl ((hpl s p).2.2.2 k)
      | _ => exact this
    · have e1 : args.getD t .junk = .junk := by simp [List.getD, List.getElem?_eq_none (Nat.le_of_not_lt ht)]
      rw [e1]
      exact .pers (.junk _)
  · have hd : a.defers = [] := hs'.1
    have key : RetL P fn.results.toList e' r A → ∃ v, (results fn a.tmps).run P w' = .ok v w' ∧ ∃ v' Z' β', Ending.returned v = .returned v' ∧ Left Z β w Z' β' w' ∧ ORep Z' w'.heap β' [0] r v' ∧ ∀ i (h : i < ([A] : List AV).length), ORep Z' w'.heap β' [i + 1] [A][i] (vs.getD i undef) := by
      intro hr
      obtain ⟨v, Z', β', g1, g2, g3, g4⟩ := ret_lend (κ := κ) rfl (Nat.zero_lt_one) hs' hr
      refine ⟨v, g1, v, Z', β', rfl, g2, g3, fun i hi => ?_⟩
      have : i = 0 := by simpa using hi
      subst this
      exact g4
    cases x with
    | normal => obtain ⟨v, g1, g2⟩ := key hq; exact ⟨hd, v, g1, g2⟩
    | ret => obtain ⟨v, g1, g2⟩ := key hq; exact ⟨hd, v, g1, g2⟩
    | _ => exact hq.elim

theorem ctr_lend' {P : Program} {f : Nat} {fn : Func} {c : Code} (hf : P.funcs[f]? = some fn) (hname : (fn.name == "runtime.NumGoroutine") = false) (hb : fn.body = some c) {nt : Nat} (hnt : fn.ntmps = nt) {rel : List AV → AV → List AV → Prop}
    (h : ∀ args r args', rel args r args' → ∃ A, args' = [A] ∧ 0 < args.length ∧ args.length ≤ nt ∧ ∀ κ : Con, κ.lim = (1, nt) → CW P κ c (retL P fn.results.toList r A) (argEnv args)) : CtrOK P f (effC rel) := ctr_lend hf hname hb hnt h

end Go.Proofs.Ytehdfifncbokeaa

namespace Go.Proofs.Ytehdfifncbokeaa
set_option linter.unusedSimpArgs false
set_option linter.unusedVariables false
set_option maxRecDepth 8000
set_option maxHeartbeats 2000000
open Go Go.RowKit AV

end Go.Proofs.Ytehdfifncbokeaa

namespace Go.Proofs.Ytehdfifncbokeaa
set_option linter.unusedSimpArgs false
set_option linter.unusedVariables false
set_option maxRecDepth 8000
set_option maxHeartbeats 2000000
open Go Go.RowKit AV

noncomputable def rdArgV (t : Nat) (v : AV) (k : AV → Option (List (Nat × List Nat × AV)) → Rd) : Rd := match v with
    | .alias s p => .get s fun c => rdGetP c p fun A => .need (isOwn A = true) (k (view A) (some [(s, p, view A)]))
    | .valias s p => .get s fun c => rdGetP c p fun X => match X with
      | .box l => k (.agg (viewL l)) none
      | _ => .fail
    | .addr _ _ => .fail
    | .win s p j => .get s fun c => rdGetP c p fun X => match X with
      | .own l => .need (bigW ≤ j ∧ j - bigW ≤ l.length) (k (.sh (viewL (l.take (j - bigW)))) none)
      | _ => .fail
    | .pin A _ => k A (some [])
    | .junk => .fail
    | v => if isOwn v then k (view v) (some [(t, [], view v)]) else if isP v then k v (some []) else .fail

section
variable {k : AV → Option (List (Nat × List Nat × AV)) → Rd} {t : Nat}
theorem rdArg_tmp : rdArg (.tmp t) k = .get t fun v => rdArgV t v k := rfl
theorem rdArg_const (v : Value) : rdArg (.const v) k = .need (cst v ≠ .junk) (k (view (cst v)) (some [])) := rfl
theorem rdArg_func (f : Nat) : rdArg (.func f) k = k (.fn f []) (some []) := rfl
theorem rdArgV_num (i : IntKind) (n : Int) : rdArgV t (.num i n) k = k (.num i n) (some []) := rfl
theorem rdArgV_bool (b : Bool) : rdArgV t (.bool b) k = k (.bool b) (some []) := rfl
theorem rdArgV_sh (l : List AV) : rdArgV t (.sh l) k = if isOwn (.sh l) then k (view (.sh l)) (some [(t, [], view (.sh l))]) else if isP (.sh l) then k (.sh l) (some []) else .fail := rfl
theorem rdArgV_own (l : List AV) : rdArgV t (.own l) k = if isOwn (.own l) then k (view (.own l)) (some [(t, [], view (.own l))]) else if isP (.own l) then k (.own l) (some []) else .fail := rfl
theorem rdArgV_box (l : List AV) : rdArgV t (.box l) k = if isOwn (.box l) then k (view (.box l)) (some [(t, [], view (.box l))]) else if isP (.box l) then k (.box l) (some []) else .fail := rfl
theorem rdArgV_agg (l : List AV) : rdArgV t (.agg l) k = if isOwn (.agg l) then k (view (.agg l)) (some [(t, [], view (.agg l))]) else if isP (.agg l) then k (.agg l) (some []) else .fail := rfl
theorem rdArgV_tup (l : List AV) : rdArgV t (.tup l) k = if isOwn (.tup l) then k (view (.tup l)) (some [(t, [], view (.tup l))]) else if isP (.tup l) then k (.tup l) (some []) else .fail := rfl
theorem rdArgV_pbox (l : List AV) : rdArgV t (.pbox l) k = if isOwn (.pbox l) then k (view (.pbox l)) (some [(t, [], view (.pbox l))]) else if isP (.pbox l) then k (.pbox l) (some []) else .fail := rfl
theorem rdArgV_fn (f : Nat) (l : List AV) : rdArgV t (.fn f l) k = if isOwn (.fn f l) then k (view (.fn f l)) (some [(t, [], view (.fn f l))]) else if isP (.fn f l) then k (.fn f l) (some []) else .fail := rfl
theorem rdArgV_mfn (f : Nat) (l : List AV) : rdArgV t (.mfn f l) k = if isOwn (.mfn f l) then k (view (.mfn f l)) (some [(t, [], view (.mfn f l))]) else if isP (.mfn f l) then k (.mfn f l) (some []) else .fail := rfl
theorem rdArgV_srec (n : Nat) (l : List AV) : rdArgV t (.srec n l) k = if isOwn (.srec n l) then k (view (.srec n l)) (some [(t, [], view (.srec n l))]) else if isP (.srec n l) then k (.srec n l) (some []) else .fail := rfl
theorem rdArgV_pin (A : AV) (v : Value) : rdArgV t (.pin A v) k = k A (some []) := rfl
theorem rdArgV_alias (s : Nat) (p : List Nat) : rdArgV t (.alias s p) k = .get s fun c => rdGetP c p fun A => .need (isOwn A = true) (k (view A) (some [(s, p, view A)])) := rfl
theorem rdArgV_valias (s : Nat) (p : List Nat) : rdArgV t (.valias s p) k = .get s fun c => rdGetP c p fun X => match X with
      | .box l => k (.agg (viewL l)) none
      | _ => .fail := rfl
theorem rdArgV_win (s : Nat) (p : List Nat) (j : Nat) : rdArgV t (.win s p j) k = .get s fun c => rdGetP c p fun X => match X with
      | .own l => .need (bigW ≤ j ∧ j - bigW ≤ l.length) (k (.sh (viewL (l.take (j - bigW)))) none)
      | _ => .fail := rfl
end

end Go.Proofs.Ytehdfifncbokeaa
