/- Operations one by one: structs built, boxed, stored; append. No program in sight. -/
import Derived.Test.YtkibemgdncncoaaGrpA
import Derived.Laws.CopyRow
namespace Go.Proofs.Ytkibemgdncncoaa
set_option linter.unusedSimpArgs false
set_option linter.unusedVariables false
set_option maxRecDepth 8000
set_option maxHeartbeats 2000000
open Go Go.RowKit AV

theorem zT_spec {P : Program} {T : Nat} {zs : List AV} (h : zT P T = some zs) : ∃ i z, P.info? T = some i ∧ i.zero = some z ∧ zs = z.cells.toList.map cst ∧ ∀ c ∈ z.cells.toList, c.oneCell' = true := by
  unfold zT at h
  split at h
  · rename_i i hi
    split at h
    · rename_i z hz
      split at h
      · rename_i ha
        injection h with h
        exact ⟨i, z, hi, hz, h.symm, fun c hc => List.all_eq_true.1 ha c hc⟩
      · cases h
    · cases h
  · cases h

theorem cst_any {Z H β p} (v : Value) : ORep Z H β p (cst v) v := by
  by_cases h : cst v = .junk
  · rw [h]; exact .pers (.junk _)
  · exact cst_rep p v h

theorem cst_getD {Z H β p} {cs : Array Value} {k : Nat} (h : k < (cs.toList.map cst).length) : ORep Z H β p ((cs.toList.map cst)[k]) (cs.getD k undef) := by
  have hk : k < cs.size := by simpa using h
  have : cs.getD k undef = cs[k] := by simp [hk]
  rw [this]
  simp only [List.getElem_map, Array.getElem_toList]
  exact cst_any _

noncomputable def rdBuild (P : Program) (T d : Nat) (xs : List (Nat × Operand)) : Rd := match zT P T, bPl P T with
  | some zs, some pl => rdParts xs fun ps =>
    .need ((srcs ps).Nodup ∧ (ps.map (·.1)).Nodup ∧ (∀ p ∈ ps, one p.2.1 = true ∧ pl[p.1]? = some (p.1, 1) ∧ p.1 < zs.length) ∧ d ∉ srcs ps) (.ret (partW ps ++ [.set d (.agg (foldP ps zs))]))
  | _, _ => .fail

theorem rdBuild_sound {P : Program} {κ : Con} {o : Oper} {e : Env} {ws : List Wr} {T d : Nat} {xs : Array (Nat × Operand)} (ho : o.op = .build T xs) (hd : o.dst = some d) (hn : (κ.lim.1 ≤ d ∧ d < κ.lim.2)) (h : (rdBuild P T d xs.toList).Wo e ws) : Does P κ o e ws := by
  unfold rdBuild at h
  split at h
  case h_2 => exact h.elim
  rename_i zs pl hz hpl0
  obtain ⟨ps, ⟨⟨hs, hk, hone, hds⟩, hw⟩, hpl, hps⟩ := rdParts_sound _ _ h
  have hw' : ws = _ := hw
  subst hw'
  obtain ⟨i, z, hi, hz0, rfl, hz1⟩ := zT_spec hz
  refine does_value hd hn fun a w Z β hR => ?_
  have hpo := hps hR
  generalize hvs : (xs.toList.map fun p => (p.1, a.eval p.2)) = vs at hpo
  have hv1 := partsOne hpo fun p hp => (hone p hp).1
  have hvn : ∀ v ∈ vs, pl[v.1]? = some (v.1, 1) ∧ v.1 < z.cells.size := by
    intro v hv
    have : v.1 ∈ List.map (·.1) vs := List.mem_map.2 ⟨v, hv, rfl⟩
    rw [← hpo.1] at this
    obtain ⟨p, hp, hpe⟩ := List.mem_map.1 this
    rw [← hpe]; have := hone p hp; exact ⟨this.2.1, by simpa using this.2.2⟩
  let cs1 := vs.foldl (fun (cs : Array Value) p => cs.setIfInBounds p.1 p.2) z.cells
  have hfill : Instr.fill (fun i => pl.toArray[i]?) z.cells vs = some cs1 := by
    rw [fill_one (place := fun i => pl.toArray[i]?) (off := fun i => i) vs z.cells (fun p hp => ⟨by simpa using (hvn p hp).1, cells_one (hv1 p hp), (hvn p hp).2⟩)]
    simp [cs1]
  have hrun : (execOp a.eval o).run P w = .ok (.value (.agg cs1)) w := by
    have hb : P.built T (xs.map fun p => (p.1, a.eval p.2)).toList = some cs1 := by
      unfold bPl at hpl0
      split at hpl0
      · rename_i fs hfs
        simp only [Program.built, hi, hfs, hz0, hpl0]
        rw [show (xs.map fun p => (p.1, a.eval p.2)).toList = vs by rw [← hvs]; simp]
        exact hfill
      · cases hpl0
    simp only [execOp, ho]
    have := run_build (P := P) w T (xs.map fun p => (p.1, a.eval p.2)) cs1 hb
    rw [Sem.run_bind]
    show ((Instr.build T (xs.map fun (i, x) => (i, a.eval x))).run P w).andThen _ = _
    rw [show (xs.map fun (i, x) => (i, a.eval x)) = xs.map fun p => (p.1, a.eval p.2) from rfl, this]
    rfl
  have hg := gather hR hpo hs hk (H' := w.heap) (fun b hb => rfl) (viaF (gaF (srcOf ps) (srcs ps) d) β) (fun _ _ => rfl)
  have hrel := foldP_rep (Rel := fun k A v => ORep Z w.heap (viaF (gaF (srcOf ps) (srcs ps) d) β) [d, k] A v) ps vs (z.cells.toList.map cst) z.cells (by simp) hpo.1 hg (fun k hk => cst_getD hk)
  exact ⟨_, _, Z, _, hrun, hR.bigParts (srcs ps) d (gaF (srcOf ps) (srcs ps) d) _ _ _ rfl rfl rfl (Nat.le_refl _) (fun b hb => rfl) (gaF_keep _ _ _) (.inl rfl) (gaF_inj (srcs_inj hs hk).1 (srcs_inj hs hk).2) (.agg _ _ hrel.1 fun k hk => hrel.2 k hk) (by simp)⟩

def allOne (l : List AV) : Bool := l.all one

/-- The slot whose value went into the box at d still names what lies there. -/
def backW (src : Option Nat) (d : Nat) : List Wr := match src with
  | some t => [.set t (.valias d [])]
  | none => []

theorem setV_self (val : Nat → Value) (t : Nat) : setV val t (val t) = val := by
  funext s; unfold setV; split
  · rename_i h; rw [h]
  · rfl

noncomputable def rdBox (d : Nat) (x : Operand) : Rd := rdVal x fun A src => .need (src ≠ some d) (match A with
  | .agg l => .need (allOne l = true) (.ret (srcW src ++ [.set d (.box l)] ++ backW src d))
  | A => .need (one A = true) (.ret (srcW src ++ [.set d (.box [A])])))

theorem mvK_keep (t d : Nat) : ∀ r, r ≠ [] → root r ∉ [d, t] → mvK t d r = some r := by
  intro r hr hn
  rcases r with _ | ⟨x, _ | ⟨k, r⟩⟩
  · exact absurd rfl hr
  · simp [root] at hn; simp [mvK, hn]
  · simp [root] at hn; simp [mvK, hn]

theorem box_run {P : Program} {w : World} {T : Nat} {v : Value} : (Instr.box T v).run P w = .ok (.pointer (some ⟨w.heap.size, 0, none⟩)) (w.alloc (.cells v.cells T)) := by
  simp [Instr.box, newVar, newRow]

theorem rdBox_sound {P : Program} {κ : Con} {o : Oper} {e : Env} {ws : List Wr} {T d : Nat} {x : Operand} (ho : o.op = .box T x) (hd : o.dst = some d) (hn : (κ.lim.1 ≤ d ∧ d < κ.lim.2)) (h : (rdBox d x).Wo e ws) : Does P κ o e ws := by
  obtain ⟨A, src, ⟨hsd, h⟩, hApl, hsrc, hval⟩ := rdVal_sound h
  refine does_value hd hn fun a w Z β hR => ?_
  obtain ⟨hv1, hv2, hv3⟩ := hval hR
  have hrun : (execOp a.eval o).run P w = .ok (.value (.pointer (some ⟨w.heap.size, 0, none⟩))) (w.alloc (.cells (a.eval x).cells T)) := by
    simp only [execOp, ho]
    rw [Sem.run_bind, box_run]; rfl
  have hH : ∀ b, b < w.heap.size → (w.alloc (.cells (a.eval x).cells T)).heap[b]? = w.heap[b]? := fun b hb => Below.heap_alloc w _ b hb
  by_cases hag : ∃ l, A = .agg l
  · obtain ⟨l, rfl⟩ := hag
    obtain ⟨hal, hw⟩ := h
    have hw' : ws = _ := hw
    subst hw'
    have hal' : ∀ a ∈ l, one a = true := by simpa [allOne] using hal
    -- how an aggregate lies, wherever its parts come from
    have fin : ∀ (β' : List Nat → Option Nat) (p : List Nat) (v : Value), a.eval x = v → ORep Z w.heap β p (.agg l) v → β' [d] = some w.heap.size → (∀ k r b, β (p ++ (k :: r)) = some b → β' (d :: k :: r) = some b) →
        ORep Z (w.alloc (.cells v.cells T)).heap β' [d] (.box l) (.pointer (some ⟨w.heap.size, 0, none⟩)) := by
      intro β' p v hv hl hb hβ
      have key : ∃ cs, v = .agg cs ∧ cs.size = l.length ∧ ∀ k (h : k < l.length), ORep Z w.heap β (p ++ [k]) l[k] (cs.getD k undef) := by
        cases hl with
        | pers h => cases h with | agg l cs h1 hk => exact ⟨cs, rfl, h1, fun k h => .pers (hk k h)⟩
        | agg l cs h1 hk => exact ⟨cs, rfl, h1, hk⟩
      obtain ⟨cs, rfl, hcs, hk⟩ := key
      refine .box l w.heap.size cs T hb (heap_alloc_new w _) hcs (fun k h => ORep.one (hk k h) (hal' _ (List.getElem_mem h))) fun k h => (hk k h).move (fun _ _ h => h) fun r b hr => ⟨?_, hv ▸ hH b (hR.bo _ b hr).2.2⟩
      exact hβ k r b (by simpa using hr)
    cases src with
    | none =>
      -- parts that may be copied own nothing
      have hp : isP (AV.agg l) = true := by
        rcases hv3 rfl with hp | ⟨hA, _⟩
        · exact hp
        · cases hA
      have hl := ORep.toP (hv2 rfl [0]) hp
      generalize hvx : a.eval x = v at hl
      cases hl with
      | agg l cs h1 hk =>
        have hbx := ORep.box (Z := Z) (H := (w.alloc (.cells cs T)).heap) (β := withB (viaF (gaF (srcOf []) (srcs []) d) β) d w.heap.size) (p := [d]) l w.heap.size cs T (by simp [withB]) (heap_alloc_new w _) h1 (fun k h => ORep.one (Z := Z) (H := w.heap) (β := β) (p := []) (.pers (hk k h)) (hal' _ (List.getElem_mem h))) (fun k h => .pers (hk k h))
        refine ⟨_, _, Z, withB (viaF (gaF (srcOf []) (srcs []) d) β) d w.heap.size, hrun, ?_⟩
        rw [hvx]
        have := hR.bigParts (srcs []) d (gaF (srcOf []) (srcs []) d) (.box l) (.pointer (some ⟨w.heap.size, 0, none⟩)) _ (w' := w.alloc (.cells cs T)) rfl rfl rfl (by simp) (fun b hb => Below.heap_alloc w _ b hb) (gaF_keep _ _ _) (.inr ⟨rfl, by simp⟩) (gaF_inj (by simp [srcOf]) (by simp [srcOf])) hbx (by simp)
        exact this
    | some t =>
      have htd : t ≠ d := fun e => hsd (by rw [e])
      have hb := fin (withB (viaF (mvK t d) β) d w.heap.size) [t] _ rfl (hv1 t rfl) (by simp [withB]) (fun k r b hr => by
        unfold withB; rw [if_neg (by simp)]; simpa [viaF, mvK] using hr)
      obtain ⟨rfl, het, _⟩ := hsrc t rfl
      have hcs : ∃ cs, vals a t = .agg cs := by
        have := hv1 t rfl
        rw [eval_tmp] at this
        generalize vals a t = vv at this
        cases this with
        | pers h => cases h; exact ⟨_, rfl⟩
        | agg l cs => exact ⟨_, rfl⟩
      obtain ⟨cs, hcs⟩ := hcs
      have hev : a.eval (.tmp t) = .agg cs := by rw [eval_tmp]; exact hcs
      rw [hev] at hrun hb hH
      have hR2 := hR.bigParts [t] d (mvK t d) (.box l) _ _ (w' := w.alloc (.cells (Value.agg cs).cells T)) rfl rfl rfl (by simp) hH (mvK_keep t d) (.inr ⟨rfl, by simp⟩) (mvK_inj t d) hb (by simp)
      have e1 : apps ((([t] : List Nat).map fun t => Wr.set t .junk) ++ [Wr.set d (.box l)]) e d = .box l := by simp [apps, Wr.app, isOwn, upd]
      have hR3 := hR2.valiasPut t d [] (vals a t) (Ne.symm htd) (fun l' hl' => by
        rw [e1] at hl'
        simp only [getP, Option.some.injEq, AV.box.injEq] at hl'
        subst hl'
        cases hb with
        | pers h => cases h
        | box l b cs' E hb' hz' h1 h4 hk =>
          have h6 := heap_alloc_new w (.cells (Value.agg cs).cells T)
          rw [hz'] at h6
          injection h6 with h6
          injection h6 with h6
          have h7 : cs' = cs := h6
          exact ⟨cs', by rw [hcs, h7], .agg l cs' h1 hk, _, _, hb', hz'⟩)
      have e2 : setV (setV (vals a) d (.pointer (some ⟨w.heap.size, 0, none⟩))) t (vals a t) = setV (vals a) d (.pointer (some ⟨w.heap.size, 0, none⟩)) := by
        have := setV_self (setV (vals a) d (.pointer (some ⟨w.heap.size, 0, none⟩))) t
        rwa [show setV (vals a) d (.pointer (some ⟨w.heap.size, 0, none⟩)) t = vals a t by simp [setV, htd]] at this
      rw [e2] at hR3
      exact ⟨_, _, Z, _, hrun, hR3⟩
  · have h' : one A = true ∧ ws = srcW src ++ [.set d (.box [A])] := by
      cases A with
      | agg l => exact absurd ⟨l, rfl⟩ hag
      | _ => exact h
    obtain ⟨h1, hw⟩ := h'
    subst hw
    have hx1 : (a.eval x).oneCell' = true := by
      cases src with
      | none => exact ORep.one (hv2 rfl []) h1
      | some t => exact ORep.one (hv1 t rfl) h1
    have hcl := cells_one hx1
    have hs1 : (srcs [(0, A, src)]).Nodup := by cases src <;> simp [srcs]
    have hpo : PartsOK Z w.heap β e [(0, A, src)] [(0, a.eval x)] := by
      refine ⟨rfl, fun i hi hi' => ?_⟩
      have : i = 0 := by simpa using hi
      subst this
      refine ⟨fun t ht => ?_, fun hn Z' H' β' p hZ => ?_⟩
      · have := hsrc t ht
        exact ⟨this.2.1, this.2.2, hv1 t ht⟩
      · simp only [List.getElem_cons_zero] at hn ⊢
        rcases hv3 hn with hp | ⟨hA, hvv⟩
        · exact .pers ((ORep.toP (hv2 hn p) hp).mono hZ)
        · rw [hA, hvv]; exact .nil
    have hg := gather (d := d) (H' := (w.alloc (.cells (a.eval x).cells T)).heap) hR hpo hs1 (by simp) hH (withB (viaF (gaF (srcOf [(0, A, src)]) (srcs [(0, A, src)]) d) β) d w.heap.size) (fun k r => by simp [withB]) 0 (by simp) (by simp)
    simp only [List.getElem_cons_zero] at hg
    have hbx : ORep Z (w.alloc (.cells (a.eval x).cells T)).heap (withB (viaF (gaF (srcOf [(0, A, src)]) (srcs [(0, A, src)]) d) β) d w.heap.size) [d] (.box [A]) (.pointer (some ⟨w.heap.size, 0, none⟩)) := by
      have := ORep.box (Z := Z) (H := (w.alloc (.cells (a.eval x).cells T)).heap) (β := withB (viaF (gaF (srcOf [(0, A, src)]) (srcs [(0, A, src)]) d) β) d w.heap.size) (p := [d]) [A] w.heap.size (a.eval x).cells T (by simp [withB]) (heap_alloc_new w _) (by rw [hcl]; rfl) (fun k hk => by
        have : k = 0 := by simpa using hk
        subst this
        rw [hcl]; simpa using hx1) (fun k hk => by
        have : k = 0 := by simpa using hk
        subst this
        simp only [hcl] at hg ⊢
        simpa using hg)
      exact this
    have hfin := hR.bigParts (srcs [(0, A, src)]) d (gaF (srcOf [(0, A, src)]) (srcs [(0, A, src)]) d) (.box [A]) (.pointer (some ⟨w.heap.size, 0, none⟩)) _ (w' := w.alloc (.cells (a.eval x).cells T)) rfl rfl rfl (by simp) hH (gaF_keep _ _ _) (.inr ⟨rfl, by simp⟩) (gaF_inj (srcs_inj hs1 (by simp)).1 (srcs_inj hs1 (by simp)).2) hbx (by simp)
    refine ⟨_, _, Z, withB (viaF (gaF (srcOf [(0, A, src)]) (srcs [(0, A, src)]) d) β) d w.heap.size, hrun, ?_⟩
    have e1 : (srcs [(0, A, src)]).map (fun t => Wr.set t AV.junk) = srcW src := by cases src <;> simp [srcs, srcW]
    rw [e1] at hfin
    exact hfin

noncomputable def rdAlloc (P : Program) (T d : Nat) : Rd := match zT P T with
  | some zs => .ret [.set d (.box zs)]
  | none => .fail

theorem rdAlloc_sound {P : Program} {κ : Con} {o : Oper} {e : Env} {ws : List Wr} {T d : Nat} (ho : o.op = .alloc T) (hd : o.dst = some d) (hn : (κ.lim.1 ≤ d ∧ d < κ.lim.2)) (h : (rdAlloc P T d).Wo e ws) : Does P κ o e ws := by
  unfold rdAlloc at h
  split at h
  case h_2 => exact h.elim
  rename_i zs hz
  have hw' : ws = _ := h
  subst hw'
  obtain ⟨i, z, hi, hz0, rfl, hz1⟩ := zT_spec hz
  refine does_value hd hn fun a w Z β hR => ?_
  have hrun : (execOp a.eval o).run P w = .ok (.value (.pointer (some ⟨w.heap.size, 0, none⟩))) (w.alloc (.cells z.cells T)) := by
    simp [execOp, ho, Instr.alloc, zeroValue, typeInfo, hi, hz0, newVar, newRow]
  have hbx := ORep.box (Z := Z) (H := (w.alloc (.cells z.cells T)).heap) (β := withB (viaF (gaF (srcOf []) (srcs []) d) β) d w.heap.size) (p := [d]) (z.cells.toList.map cst) w.heap.size z.cells T (by simp [withB]) (heap_alloc_new w _) (by simp) (fun k hk => by
    have hk' : k < z.cells.size := by simpa using hk
    have : z.cells.getD k undef = z.cells[k] := by simp [hk']
    rw [this]
    exact hz1 _ (by simp)) (fun k hk => cst_getD hk)
  have := hR.bigParts (srcs []) d (gaF (srcOf []) (srcs []) d) _ _ _ (w' := w.alloc (.cells z.cells T)) rfl rfl rfl (by simp) (fun b hb => Below.heap_alloc w _ b hb) (gaF_keep _ _ _) (.inr ⟨rfl, by simp⟩) (gaF_inj (by simp [srcOf]) (by simp [srcOf])) hbx (by simp)
  exact ⟨_, _, Z, _, hrun, by simpa [srcs] using this⟩

end Go.Proofs.Ytkibemgdncncoaa

/- append, and a struct stored whole. No program in sight. -/
namespace Go.Proofs.Ytkibemgdncncoaa
set_option linter.unusedSimpArgs false
set_option linter.unusedVariables false
set_option maxRecDepth 8000
set_option maxHeartbeats 2000000
open Go Go.RowKit AV

/-- What setCells leaves in the block that it writes. -/
theorem setCells_heap {b : Nat} {T : TypeId} {fz : Nat × Nat} : ∀ (vs : List Value) (o : Nat) (w : World) (cs : Array Value), w.heap[b]? = some (.cells cs T fz) → o + vs.length ≤ cs.size →
    ∃ cs', (w.setCells b o vs).heap[b]? = some (.cells cs' T fz) ∧ cs'.size = cs.size ∧ (∀ j, j < o → cs'[j]? = cs[j]?) ∧ (∀ j, j < vs.length → cs'[o + j]? = vs[j]?) ∧ (∀ j, o + vs.length ≤ j → cs'[j]? = cs[j]?) ∧
      (∀ b', b' ≠ b → (w.setCells b o vs).heap[b']? = w.heap[b']?) ∧ (w.setCells b o vs).heap.size = w.heap.size ∧ (w.setCells b o vs).os = w.os ∧ (w.setCells b o vs).tape = w.tape ∧ (w.setCells b o vs).output = w.output
  | [], o, w, cs, h, _ => ⟨cs, h, rfl, fun _ _ => rfl, fun j hj => by simp at hj, fun _ _ => rfl, fun _ _ => rfl, rfl, rfl, rfl, rfl⟩
  | v :: vs, o, w, cs, h, hl => by
    have h1 : (w.setCell ⟨b, o, none⟩ v).heap[b]? = some (.cells (cs.setIfInBounds o v) T fz) := by simp [World.setCell, Array.getElem?_modify, h]
    simp only [List.length_cons] at hl
    obtain ⟨cs', g1, g2, g3, g4, g5, g6, g7, g8, g9, g10⟩ := setCells_heap vs (o + 1) (w.setCell ⟨b, o, none⟩ v) (cs.setIfInBounds o v) h1 (by simp; omega)
    refine ⟨cs', g1, by simpa using g2, fun j hj => ?_, fun j hj => ?_, fun j hj => ?_, fun b' hb' => ?_, g7.trans (by simp), g8, g9, g10⟩
    · rw [g3 j (by omega), Array.getElem?_setIfInBounds_ne (by omega)]
    · cases j with
      | zero =>
        rw [Nat.add_zero, g3 o (by omega)]
        have : o < cs.size := by omega
        simp [Array.getElem?_setIfInBounds, this]
      | succ j =>
        have := g4 j (by simpa using hj)
        rw [show o + (j + 1) = o + 1 + j by omega]
        simpa using this
    · simp only [List.length_cons] at hj
      rw [g5 j (by omega), Array.getElem?_setIfInBounds_ne (by omega)]
    · exact (g6 b' hb').trans (Below.heap_setCell w ⟨b, o, none⟩ v b' hb')

/-- What is appended: its parts, and the slot that they are taken out of. -/
noncomputable def rdSrc (y : Operand) (k : List AV → Option Nat → Rd) : Rd := match y with
  | .const (.slice none 0 0) => k [] none
  | .tmp t => .get t fun v => match v with
    | .own l => k l (some t)
    | .sh l => k l none
    | .alias s q => .get s fun c => rdGetP c q fun X => match X with
      | .own l => .need (allP l = true) (k l none)
      | _ => .fail
    | .win s q j => .get s fun c => rdGetP c q fun X => match X with
      | .own l => .need (allP (l.drop j) = true ∧ j < bigW) (k (l.drop j) none)
      | _ => .fail
    | _ => .fail
  | _ => .fail

/-- Where the parts of a row come from: the first n out of slot t1, the others out of slot t2. -/
def apF (t1 t2 : Option Nat) (n d : Nat) : List Nat → Option (List Nat)
  | [] => none
  | [x] => if x = d then t1.map fun t => [t] else if some x = t1 ∨ some x = t2 then none else some [x]
  | x :: k :: r => if x = d then (if k < n then t1.map fun t => t :: k :: r else t2.map fun t => t :: (k - n) :: r) else if some x = t1 ∨ some x = t2 then none else some (x :: k :: r)

theorem apF_inj {t1 t2 : Option Nat} {n d : Nat} (h : t1 = none ∨ t1 ≠ t2) : ∀ r1 r2 x, apF t1 t2 n d r1 = some x → apF t1 t2 n d r2 = some x → r1 = r2 := by
  intro r1 r2 x h1 h2
  have key : ∀ r, apF t1 t2 n d r = some x → (∃ t, t1 = some t ∧ ((r = [d] ∧ x = [t]) ∨ ∃ k s, k < n ∧ r = d :: k :: s ∧ x = t :: k :: s)) ∨ (∃ t, t2 = some t ∧ ∃ k s, n ≤ k ∧ r = d :: k :: s ∧ x = t :: (k - n) :: s) ∨
      (r = x ∧ ∃ y s, x = y :: s ∧ some y ≠ t1 ∧ some y ≠ t2) := by
    intro r hr
    rcases r with _ | ⟨y, _ | ⟨k, s⟩⟩
    · simp [apF] at hr
    · simp only [apF] at hr
      split at hr
      · rename_i hy
        cases t1 with
        | none => simp at hr
        | some t => simp at hr; exact .inl ⟨t, rfl, .inl ⟨by rw [hy], hr.symm⟩⟩
      · split at hr
        · cases hr
        · rename_i hn; injection hr with hr; exact .inr (.inr ⟨hr, y, [], hr.symm, fun e => hn (.inl e), fun e => hn (.inr e)⟩)
    · simp only [apF] at hr
      split at hr
      · rename_i hy
        split at hr
        · rename_i hk
          cases t1 with
          | none => simp at hr
          | some t => simp at hr; exact .inl ⟨t, rfl, .inr ⟨k, s, hk, by rw [hy], hr.symm⟩⟩
        · rename_i hk
          cases t2 with
          | none => simp at hr
          | some t => simp at hr; exact .inr (.inl ⟨t, rfl, k, s, by omega, by rw [hy], hr.symm⟩)
      · split at hr
        · cases hr
        · rename_i hn; injection hr with hr; exact .inr (.inr ⟨hr, y, k :: s, hr.symm, fun e => hn (.inl e), fun e => hn (.inr e)⟩)
  rcases key r1 h1 with ⟨t, ht, ⟨ha, hb⟩ | ⟨k, s, hk, ha, hb⟩⟩ | ⟨t, ht, k, s, hk, ha, hb⟩ | ⟨ha, y, s, hb, hy1, hy2⟩ <;>
    rcases key r2 h2 with ⟨t', ht', ⟨ha', hb'⟩ | ⟨k', s', hk', ha', hb'⟩⟩ | ⟨t', ht', k', s', hk', ha', hb'⟩ | ⟨ha', y', s', hb', hy1', hy2'⟩ <;>
    (subst ha; subst ha'; rw [hb] at hb'; all_goals (try (simp_all <;> omega)); all_goals (try simp_all))

theorem apF_keep (t1 t2 : Option Nat) (n d : Nat) (S : List Nat) (h1 : ∀ t, t1 = some t → t ∈ S) (h2 : ∀ t, t2 = some t → t ∈ S) : ∀ r, r ≠ [] → root r ∉ d :: S → apF t1 t2 n d r = some r := by
  intro r hr hn
  have hx : ∀ x, x ∉ d :: S → x ≠ d ∧ ¬ (some x = t1 ∨ some x = t2) := by
    intro x hx
    simp at hx
    exact ⟨hx.1, fun h => h.elim (fun e => hx.2 (h1 x e.symm)) (fun e => hx.2 (h2 x e.symm))⟩
  rcases r with _ | ⟨x, _ | ⟨k, r⟩⟩
  · exact absurd rfl hr
  · have := hx x (by simpa [root] using hn); simp [apF, this.1, this.2]
  · have := hx x (by simpa [root] using hn); simp [apF, this.1, this.2]

/-- The cells of a slice's parts. -/
theorem ORep.row {Z : Nat → Option Obj} {β : List Nat → Option Nat} {p : List Nat} {l : List AV} {v : Value} {w : World} (h : ORep Z w.heap β p (.own l) v) :
    ∃ us : Nat → Value, (∀ k, k < l.length → (us k).oneCell' = true) ∧ (∀ k (h : k < l.length), ORep Z w.heap β (p ++ [k]) l[k] (us k)) ∧
      ((l = [] ∧ v = .slice none 0 0) ∨ ∃ b c cs T, v = .slice (some ⟨b, 0, none⟩) l.length c ∧ β p = some b ∧ w.heap[b]? = some (.cells cs T (0, 0)) ∧ l.length ≤ c ∧ c = cs.size ∧ c ≤ maxLen ∧ ∀ k, k < l.length → cs[k]? = some (us k)) := by
  cases h with
  | pers h => cases h
  | nil => exact ⟨fun _ => undef, by simp, by simp, .inl ⟨rfl, rfl⟩⟩
  | own l b c cs T us hb hz h1 h2 h3 hu h4 hk => exact ⟨us, h4, hk, .inr ⟨b, c, cs, T, rfl, hb, hz, h1, h2, h3, hu⟩⟩

/-- A source of an append. -/
structure SrcOK (w : World) (v : Value) (n : Nat) (us : Nat → Value) : Prop where
  one : ∀ k, k < n → (us k).oneCell' = true
  at_ : (n = 0 ∧ ∃ A c, v = .slice A 0 c) ∨ ∃ b o c, v = .slice (some ⟨b, o, none⟩) n c ∧ ∀ k, k < n → w.cell? ⟨b, o + k, none⟩ = some (us k)

def newsOf (n : Nat) (us : Nat → Value) : List Value := (List.range n).map us

theorem newsOf_get {n : Nat} {us : Nat → Value} {k : Nat} (h : k < n) : (newsOf n us)[k]? = some (us k) := by simp [newsOf, h]

theorem SrcOK.src {P : Program} {w : World} {v : Value} {n : Nat} {us : Nat → Value} (h : SrcOK w v n us) {T E : TypeId} (hT : P.underlying T = some (.slice E)) : Src P 1 T v n (newsOf n us) w := by
  have h1 : ∀ u ∈ newsOf n us, u.oneCell' = true := by
    intro u hu
    simp only [newsOf, List.mem_map, List.mem_range] at hu
    obtain ⟨k, hk, rfl⟩ := hu
    exact h.one k hk
  rcases h.at_ with ⟨hn, A, c, hv⟩ | ⟨b, o, c, hv, hc⟩
  · subst hn
    subst hv
    cases A with
    | none => exact Src.ofNil w hT c
    | some ad => exact Src.ofSlice w hT ad 0 c [] (by simp) (by simp) (by simp)
  · subst hv
    refine Src.ofSlice w hT ⟨b, o, none⟩ n c _ (by simp [newsOf]) (fun j u hj => ?_) h1
    have hadd : (⟨b, o, none⟩ : Addr).add j = ⟨b, o + j, none⟩ := by unfold Addr.add; split <;> simp_all
    rw [hadd]
    have hjn : j < n := by have := (List.getElem?_eq_some_iff.1 hj).1; simpa [newsOf] using this
    rw [newsOf_get hjn] at hj
    injection hj with hj
    rw [← hj]; exact hc j hjn

theorem rdSrc_sound {e : Env} {y : Operand} {k : List AV → Option Nat → Rd} {ws : List Wr} (h : (rdSrc y k).Wo e ws) : ∃ m src, (k m src).Wo e ws ∧ (∀ t, src = some t → y = .tmp t ∧ e t = .own m) ∧
    ∀ {κ Z β w} {a : Act}, Rep κ Z β e (vals a) w → ∃ us, SrcOK w (a.eval y) m.length us ∧ (∀ t, src = some t → ∀ k (h : k < m.length), ORep Z w.heap β [t, k] m[k] (us k)) ∧ (src = none → ∀ k (h : k < m.length), PRep Z m[k] (us k)) := by
  cases y with
  | const v =>
    simp only [rdSrc] at h
    split at h
    · rename_i heq
      injection heq with heq
      subst heq
      exact ⟨[], none, h, by simp, fun _ => ⟨fun _ => undef, ⟨by simp, .inl ⟨rfl, _, _, rfl⟩⟩, by simp, by simp⟩⟩
    · rename_i heq; cases heq
    · exact h.elim
  | tmp t =>
    obtain ⟨hj, h⟩ := h
    cases het : e t with
    | own l =>
      simp only [het] at h
      refine ⟨l, some t, h, fun t' ht => by injection ht with ht; subst ht; exact ⟨rfl, het⟩, fun {κ Z β w a} hR => ?_⟩
      obtain ⟨us, h1, h2, h3⟩ := ORep.row (hR.slot' het (by simp))
      refine ⟨us, ⟨h1, ?_⟩, fun t' ht k hk => ?_, by simp⟩
      · rcases h3 with ⟨hl, hv⟩ | ⟨b, c, cs, T, hv, hb, hz, _, _, _, hu⟩
        · exact .inl ⟨by simp [hl], none, 0, hv⟩
        · exact .inr ⟨b, 0, c, hv, fun k hk => cell_heap hz (by simpa using hu k hk)⟩
      · injection ht with ht; subst ht; exact h2 k hk
    | sh l =>
      simp only [het] at h
      refine ⟨l, none, h, by simp, fun {κ Z β w a} hR => ?_⟩
      have hp := ORep.toP (hR.slot' het (by simp)) rfl
      rw [eval_tmp]
      generalize vals a t = v at hp
      cases hp with
      | nil A c hc => exact ⟨fun _ => undef, ⟨by simp, .inl ⟨rfl, A, c, rfl⟩⟩, by simp, by simp⟩
      | sh l b of c cs E fz us hz h1 h2 hu h3 hk => exact ⟨us, ⟨h3, .inr ⟨b, of, c, rfl, fun k hk => cell_heap (hR.zh _ _ hz) (hu k hk)⟩⟩, by simp, fun _ => hk⟩
    | alias s q =>
      simp only [het] at h
      obtain ⟨hsj, X, hl, h⟩ := h
      dsimp only at h
      split at h
      case h_2 => exact h.elim
      rename_i l
      obtain ⟨hp, h⟩ := h
      refine ⟨l, none, h, by simp, fun {κ Z β w a} hR => ?_⟩
      obtain ⟨us, h1, h2, h3⟩ := ORep.row (hR.aliasAt het _ hl rfl)
      refine ⟨us, ⟨h1, ?_⟩, by simp, fun _ k hk => ORep.toP (h2 k hk) ((allP_iff l).1 hp _ (List.getElem_mem hk))⟩
      rcases h3 with ⟨hl, hv⟩ | ⟨b, c, cs, T, hv, hb, hz, _, _, _, hu⟩
      · exact .inl ⟨by simp [hl], none, 0, hv⟩
      · exact .inr ⟨b, 0, c, hv, fun k hk => cell_heap hz (by simpa using hu k hk)⟩
    | win s q j =>
      simp only [het] at h
      obtain ⟨hsj, X, hl, h⟩ := h
      dsimp only at h
      split at h
      case h_2 => exact h.elim
      rename_i l
      obtain ⟨⟨hp, hjb⟩, h⟩ := h
      refine ⟨l.drop j, none, h, by simp, fun {κ Z β w a} hR => ?_⟩
      obtain ⟨u, hu, hv⟩ := hR.winAt het _ hl
      rw [eval_tmp, hv]
      by_cases hj : j < l.length
      · obtain ⟨b, c, cs, E, us, hd2, hb, hz, _, _, _, hus, h4, hk⟩ := hu.win (k := j) hj
        refine ⟨fun i => us (j + i), ⟨fun k hk => h4 _ (by simp at hk; omega), .inr ⟨b, j, c - j, by rw [hd2, List.length_drop], fun k hk => cell_heap hz (hus _ (by simp at hk; omega))⟩⟩, by simp, fun _ k hk' => ?_⟩
        have hlt : j + k < l.length := by simp at hk'; omega
        have h6 := (allP_iff _).1 hp _ (List.getElem_mem hk')
        simp only [List.getElem_drop] at h6 ⊢
        exact ORep.toP (hk _ hlt) h6
      · have hnil : l.drop j = [] := List.drop_eq_nil_of_le (by omega)
        obtain ⟨A, c, hd2⟩ := hu.winLen hjb
        rw [hnil, hd2]
        have : l.length - j = 0 := by omega
        exact ⟨fun _ => undef, ⟨by simp, .inl ⟨rfl, A, _, by rw [this]⟩⟩, by simp, by simp⟩
    | _ => simp only [het] at h; exact h.elim
  | _ => exact h.elim

/-- What is appended to: a list held in a slot, or none. -/
noncomputable def rdDst (x : Operand) (k : List AV → Option Nat → Rd) : Rd := match x with
  | .const (.slice none 0 0) => k [] none
  | .tmp t => .get t fun v => match v with
    | .own l => k l (some t)
    | _ => .fail
  | _ => .fail

noncomputable def rdApp (P : Program) (T T2 d : Nat) (x y : Operand) : Rd := .need (slOK P T = true ∧ slOK P T2 = true) (rdSrc y fun m t2 => rdDst x fun l t1 => .need ((t1 = none ∨ t1 ≠ t2) ∧ l.length + m.length ≤ 1099511627776 ∧ t1 ≠ some d ∧ t2 ≠ some d)
  (.ret (srcW t1 ++ srcW t2 ++ [.set d (.own (l ++ m))])))

theorem rdDst_sound {e : Env} {x : Operand} {k : List AV → Option Nat → Rd} {ws : List Wr} (h : (rdDst x k).Wo e ws) : ∃ l src, (k l src).Wo e ws ∧ ((src = none ∧ l = [] ∧ x = .const (.slice none 0 0)) ∨ ∃ t, src = some t ∧ x = .tmp t ∧ e t = .own l) := by
  cases x with
  | const v =>
    simp only [rdDst] at h
    split at h
    · rename_i heq
      injection heq with heq
      subst heq
      exact ⟨[], none, h, .inl ⟨rfl, rfl, rfl⟩⟩
    · rename_i heq; cases heq
    · exact h.elim
  | tmp t =>
    obtain ⟨hj, h⟩ := h
    cases het : e t with
    | own l => simp only [het] at h; exact ⟨l, some t, h, .inr ⟨t, rfl, rfl, het⟩⟩
    | _ => simp only [het] at h; exact h.elim
  | _ => exact h.elim

theorem rdApp_sound {P : Program} {κ : Con} {o : Oper} {e : Env} {ws : List Wr} {T T2 d : Nat} {x y : Operand} (ho : o.op = .call { callee := .builtin .append, args := #[x, y], argTypes := #[T, T2] }) (hd : o.dst = some d) (hn : (κ.lim.1 ≤ d ∧ d < κ.lim.2)) (h : (rdApp P T T2 d x y).Wo e ws) : Does P κ o e ws := by
  obtain ⟨⟨hT, hT2⟩, h⟩ := h
  obtain ⟨m, t2, h, hs2, hsrc⟩ := rdSrc_sound h
  obtain ⟨l, t1, h, hdst⟩ := rdDst_sound h
  obtain ⟨⟨ht12, hlen, ht1d, ht2d⟩, hw⟩ := h
  have hw' : ws = _ := hw
  subst hw'
  obtain ⟨E, i, z, hu, hi, hi1, hi2, hz, hz1⟩ := slOK_spec hT
  obtain ⟨E2, i2, z2, hu2, _, _, _, _, _⟩ := slOK_spec hT2
  refine does_value hd hn fun a w Z β hR => ?_
  obtain ⟨us2, hso, hown2, hper2⟩ := hsrc hR
  have hS := hso.src (P := P) hu2
  have hrun : ∀ v w', (Builtin.append_ #[T, T2] o.type #[a.eval x, a.eval y]).run P w = .ok v w' → (execOp a.eval o).run P w = .ok (.value v) w' := by
    intro v w' hv
    simp [execOp, ho, resolve, invoke, builtin, hv]
  -- the slots that the parts come out of
  let S : List Nat := t1.toList ++ t2.toList
  have hSd : d ∉ S := by simp [S]; exact ⟨fun h => ht1d (by simp [h]), fun h => ht2d (by simp [h])⟩
  have hws : (srcW t1 ++ srcW t2 ++ [Wr.set d (.own (l ++ m))]) = (S.map fun t => Wr.set t .junk) ++ [.set d (.own (l ++ m))] := by
    cases t1 <;> cases t2 <;> rfl
  have hkeep := apF_keep t1 t2 l.length d S (by intro t ht; simp [S, ht]) (by intro t ht; simp [S, ht])
  have hinjF := apF_inj (t1 := t1) (t2 := t2) (n := l.length) (d := d) ht12
  -- what was there before
  have hold : ∃ us1 : Nat → Value, (∀ k, k < l.length → (us1 k).oneCell' = true) ∧ (∀ k (h : k < l.length), ∀ (β' : List Nat → Option Nat) (H' : Array Obj), (∀ r b, viaF (apF t1 t2 l.length d) β (d :: k :: r) = some b → β' (d :: k :: r) = some b ∧ H'[b]? = w.heap[b]?) → ORep Z H' β' [d, k] l[k] (us1 k)) ∧
      ((l = [] ∧ a.eval x = .slice none 0 0) ∨ ∃ b c cs Tb, a.eval x = .slice (some ⟨b, 0, none⟩) l.length c ∧ viaF (apF t1 t2 l.length d) β [d] = some b ∧ w.heap[b]? = some (.cells cs Tb (0, 0)) ∧ l.length ≤ c ∧ c = cs.size ∧ c ≤ maxLen ∧ ∀ k, k < l.length → cs[k]? = some (us1 k)) := by
    rcases hdst with ⟨rfl, rfl, rfl⟩ | ⟨t, rfl, rfl, het⟩
    · exact ⟨fun _ => undef, by simp, by simp, .inl ⟨rfl, rfl⟩⟩
    · obtain ⟨us, h1, h2, h3⟩ := ORep.row (hR.slot' het (by simp))
      refine ⟨us, h1, fun k hk β' H' hβ => ?_, ?_⟩
      · refine (h2 k hk).move (fun _ _ h => h) fun r b hr => ?_
        have := hβ r b (by simp [viaF, apF, hk]; simpa using hr)
        simpa using this
      · rcases h3 with ⟨hl, hv⟩ | ⟨b, c, cs, Tb, hv, hb, rest⟩
        · exact .inl ⟨hl, hv⟩
        · exact .inr ⟨b, c, cs, Tb, hv, by simp [viaF, apF]; exact hb, rest⟩
  obtain ⟨us1, hone1, hrep1, hv1⟩ := hold
  have hrep2 : ∀ k (h : k < m.length), ∀ (β' : List Nat → Option Nat) (H' : Array Obj), (∀ r b, viaF (apF t1 t2 l.length d) β (d :: (l.length + k) :: r) = some b → β' (d :: (l.length + k) :: r) = some b ∧ H'[b]? = w.heap[b]?) → ORep Z H' β' [d, l.length + k] m[k] (us2 k) := by
    intro k hk β' H' hβ
    cases hs : t2 with
    | none => exact .pers (hper2 hs k hk)
    | some t =>
      refine (hown2 t hs k hk).move (fun _ _ h => h) fun r b hr => ?_
      have := hβ r b (by
        have : ¬ (l.length + k < l.length) := by omega
        simp [viaF, apF, this, hs]; simpa using hr)
      simpa using this
  let us : Nat → Value := fun k => if k < l.length then us1 k else us2 (k - l.length)
  have hus : ∀ k, k < (l ++ m).length → (us k).oneCell' = true := by
    intro k hk
    simp only [List.length_append] at hk
    show (if k < l.length then us1 k else us2 (k - l.length)).oneCell' = true
    split
    · exact hone1 k (by assumption)
    · exact hso.one _ (by omega)
  -- the row, once its block is known
  have fin : ∀ (β' : List Nat → Option Nat) (w' : World) (b c : Nat) (cs : Array Value) (Tb : TypeId), β' [d] = some b → w'.heap[b]? = some (.cells cs Tb (0, 0)) → l.length + m.length ≤ c → c = cs.size → c ≤ maxLen → (∀ k, k < l.length + m.length → cs[k]? = some (us k)) →
      (∀ k r b, viaF (apF t1 t2 l.length d) β (d :: k :: r) = some b → β' (d :: k :: r) = some b ∧ w'.heap[b]? = w.heap[b]?) → ORep Z w'.heap β' [d] (.own (l ++ m)) (.slice (some ⟨b, 0, none⟩) (l.length + m.length) c) := by
    intro β' w' b c cs Tb hb hzb h1 h2 h3 hcs hβ
    have := ORep.own (Z := Z) (H := w'.heap) (β := β') (p := [d]) (l ++ m) b c cs Tb us hb hzb (by simpa using h1) h2 h3 (fun k hk => hcs k (by simpa using hk)) hus (fun k hk => by
      simp only [List.length_append] at hk
      by_cases hkl : k < l.length
      · rw [List.getElem_append_left hkl]
        show ORep Z w'.heap β' [d, k] l[k] (if k < l.length then us1 k else us2 (k - l.length))
        rw [if_pos hkl]
        exact hrep1 k hkl β' w'.heap (hβ k)
      · rw [List.getElem_append_right (by omega)]
        show ORep Z w'.heap β' [d, k] m[k - l.length] (if k < l.length then us1 k else us2 (k - l.length))
        rw [if_neg hkl]
        have := hrep2 (k - l.length) (by omega) β' w'.heap (by rw [show l.length + (k - l.length) = k by omega]; exact hβ k)
        rwa [show l.length + (k - l.length) = k by omega] at this)
    rw [List.length_append] at this
    exact this
  have h48 : ∀ cap, cap < l.length + m.length → Builtin.nextslicecap (l.length + m.length) cap * i.bytes ≤ 281474976710656 := by
    intro cap hc
    refine growslice_fits hc ?_
    have := Nat.mul_le_mul hlen hi2
    omega
  have h63 : ((l.length + m.length : Nat) : Int) ≤ 9223372036854775807 := by omega
  -- a new row
  have grow : ∀ (base : Option Addr) (cap : Nat), a.eval x = .slice base l.length cap → (Builtin.firstCells i.size l.length (.slice base l.length cap)).run P w.drew = .ok (newsOf l.length us1).toArray w.drew → cap < l.length + m.length →
      ∃ u w' Z' β', (execOp a.eval o).run P w = .ok (.value u) w' ∧ Rep κ Z' β' (apps ((S.map fun t => Wr.set t .junk) ++ [.set d (.own (l ++ m))]) e) (setV (vals a) d u) w' := by
    intro base cap hx hfc hc
    have hg := run_append_grow_src w T T2 o.type E i z hu hi hz base l.length cap (newsOf l.length us1) hfc (a.eval y) m.length (newsOf m.length us2) (by rw [hi1]; exact hS) hc h63 (h48 cap hc)
    have hge := grownCap_ge w (l.length + m.length) cap E
    have hle := grownCap_le_maxLen w (l.length + m.length) cap E (by unfold maxLen; omega)
    generalize hgc : grownCap w (l.length + m.length) cap E = gc at hg hge hle
    generalize hcs : ((newsOf l.length us1 ++ newsOf m.length us2).toArray ++ Builtin.zeroCells z.cells (gc - (l.length + m.length))) = cs at hg
    have hcsz : cs.size = gc := by
      rw [← hcs]; simp [newsOf, size_zeroCells, cells_one hz1]; omega
    have hck : ∀ k, k < l.length + m.length → cs[k]? = some (us k) := by
      intro k hk
      rw [← hcs]
      rw [Array.getElem?_append_left (by simp [newsOf]; omega)]
      simp only [List.getElem?_toArray]
      by_cases hkl : k < l.length
      · rw [List.getElem?_append_left (by simpa [newsOf] using hkl), newsOf_get hkl]
        simp [us, hkl]
      · rw [List.getElem?_append_right (by simp [newsOf]; omega)]
        simp only [newsOf, List.length_map, List.length_range]
        have := newsOf_get (us := us2) (show k - l.length < m.length by omega)
        simp only [newsOf] at this
        rw [this]
        simp [us, hkl]
    have hori := fin (withB (viaF (apF t1 t2 l.length d) β) d w.heap.size) (w.drew.alloc (.cells cs E)) w.heap.size gc cs E (by simp [withB]) (heap_alloc_new w.drew _) hge (by omega) hle hck (fun k r b hb => ⟨by simpa [withB] using hb, Below.heap_alloc w.drew _ b (by
      have := viaF_bo (Q := fun b => b < w.heap.size) (fun p b hp => (hR.bo p b hp).2.2) _ b hb; exact this)⟩)
    refine ⟨_, _, Z, withB (viaF (apF t1 t2 l.length d) β) d w.heap.size, hrun _ _ (by rw [hx]; exact hg), ?_⟩
    exact hR.bigParts S d (apF t1 t2 l.length d) _ _ _ rfl rfl rfl (by show w.heap.size ≤ (w.drew.alloc _).heap.size; simp) (fun b hb => Below.heap_alloc w.drew _ b hb) hkeep (.inr ⟨rfl, by show w.heap.size < (w.drew.alloc _).heap.size; simp⟩) hinjF hori (by simp)
  rw [hws]
  rcases hv1 with ⟨hl0, hx⟩ | ⟨b, c, cs, Tb, hx, hb, hzb, hlc, hcc, hcm, hcs⟩
  · subst hl0
    by_cases hm0 : m = []
    · subst hm0
      have hn := hS.newsLen
      have hap : (Builtin.append_ #[T, T2] o.type #[a.eval x, a.eval y]).run P w = .ok (.slice none 0 0) w := by
        rw [hx]
        have hl := hS.len w
        have hc := hS.cells
        simp only [List.length_nil] at hl hc
        simp [Builtin.append_, run_underlying hu, run_underlying hu2, sizeOf, typeInfo, hi, hi1, hl, hc, newsOf]
      refine ⟨_, w, Z, viaF (apF t1 t2 0 d) β, hrun _ _ hap, ?_⟩
      exact hR.bigParts S d (apF t1 t2 0 d) (.own ([] ++ [])) _ _ rfl rfl rfl (Nat.le_refl _) (fun b hb => rfl) hkeep (.inl rfl) hinjF .nil (by simp)
    · have hm1 : 0 < m.length := List.length_pos_iff.2 hm0
      refine grow none 0 hx ?_ (by simpa using hm1)
      have := run_firstCells_none (P := P) w.drew i.size 0 0 0
      simpa [newsOf] using this
  · by_cases hroom : l.length + m.length ≤ c
    · have hcell : ∀ j, j < (newsOf m.length us2).length → l.length * i.size + j < cs.size := by
        intro j hj; simp [newsOf] at hj; rw [hi1]; omega
      have hrm := run_append_room_src w T T2 o.type E i hu hi b 0 l.length c (a.eval y) m.length (newsOf m.length us2) (by rw [hi1]; exact hS) hroom (fun j hj => by
          rw [cell_of_row w b _ cs Tb (0, 0) hzb]
          have := hcell j hj
          rw [show 0 + l.length * i.size + j = l.length * i.size + j by omega]
          simp [this]) (fun j hj => by simp [World.frozen?, hzb])
      rw [hi1] at hrm
      simp only [Nat.mul_one, Nat.zero_add] at hrm
      obtain ⟨cs', g1, g2, g3, g4, g5, g6, g7, g8, g9, g10⟩ := setCells_heap (newsOf m.length us2) l.length w cs hzb (by simp [newsOf]; omega)
      have hck : ∀ k, k < l.length + m.length → cs'[k]? = some (us k) := by
        intro k hk
        by_cases hkl : k < l.length
        · rw [g3 k hkl, hcs k hkl]; simp [us, hkl]
        · have := g4 (k - l.length) (by simp [newsOf]; omega)
          rw [show l.length + (k - l.length) = k by omega] at this
          rw [this, newsOf_get (by omega)]
          simp [us, hkl]
      have hinjV := viaF_inj hinjF hR.inj
      have hori := fin (viaF (apF t1 t2 l.length d) β) (w.setCells b l.length (newsOf m.length us2)) b c cs' Tb hb g1 hroom (by omega) hcm hck (fun k r b' hb' => ⟨hb', g6 b' (by
        rintro rfl
        have := hinjV _ _ _ hb' hb
        simp at this)⟩)
      refine ⟨_, _, Z, viaF (apF t1 t2 l.length d) β, hrun _ _ (by rw [hx]; exact hrm), ?_⟩
      rw [apps_append, apps_drops]
      show Rep κ Z _ ((Wr.set d (.own (l ++ m))).app (dropS S e)) _ _
      rw [← app_set_dropC]
      have hbo := viaF_bo (f := apF t1 t2 l.length d) hR.bo
      have hbb := hbo _ _ hb
      refine hR.big (d :: S) d (by simp) _ _ g8 g9 g10 (by rw [g7]; exact Nat.le_refl _) (fun b' hn _ => g6 b' (by rintro rfl; exact hn hbb.1)) (fun _ _ h => h) (fun _ _ h => .inl h)
        (fun b' o' ho' => by rw [g6 b' (by rintro rfl; rw [hbb.2.1] at ho'; cases ho')]; exact hR.zh b' o' ho') (fun r b' hr hn hb' => ⟨by simp [viaF, hkeep r hr hn, hb'], g6 b' ?_⟩) hinjV (fun p b' hp => by have := hbo p b' hp; rw [g7]; exact this) hori (by simp)
      rintro rfl
      have h1 : viaF (apF t1 t2 l.length d) β r = some b' := by simp [viaF, hkeep r hr hn, hb']
      have := hinjV _ _ _ h1 hb
      subst this
      simp [root] at hn
    · refine grow (some ⟨b, 0, none⟩) c hx ?_ (by omega)
      rw [hi1]
      refine run_firstCells_some w.drew 1 l.length ⟨b, 0, none⟩ l.length c _ (by simp [newsOf]) (fun j v hj => ?_)
      have hjl : j < l.length := by have := (List.getElem?_eq_some_iff.1 hj).1; simpa [newsOf] using this
      rw [newsOf_get hjl] at hj
      injection hj with hj
      subst hj
      have hadd : (⟨b, 0, none⟩ : Addr).add j = ⟨b, j, none⟩ := by unfold Addr.add; split <;> simp_all
      rw [hadd]
      exact cell_heap (w := w.drew) hzb (hcs j hjl)

end Go.Proofs.Ytkibemgdncncoaa

/- Calls: what a function does, told abstractly, met where it is called. No program in sight. -/
namespace Go.Proofs.Ytkibemgdncncoaa
set_option linter.unusedSimpArgs false
set_option linter.unusedVariables false
set_option maxRecDepth 8000
set_option maxHeartbeats 2000000
open Go Go.RowKit AV

/-- The memory that a call starts with, as far as it is known. -/
structure Wf (Z : Nat → Option Obj) (β : List Nat → Option Nat) (w : World) : Prop where
  zh : ∀ b o, Z b = some o → w.heap[b]? = some o
  inj : ∀ p q b, β p = some b → β q = some b → p = q
  bo : ∀ p b, β p = some b → Z b = none ∧ b < w.heap.size

/-- What a call leaves. -/
structure Left (Z : Nat → Option Obj) (β : List Nat → Option Nat) (w : World) (Z' : Nat → Option Obj) (β' : List Nat → Option Nat) (w' : World) : Prop where
  os : w'.os = w.os
  tape : w'.tape = w.tape
  output : w'.output = w.output
  size : w.heap.size ≤ w'.heap.size
  frame : ∀ b, b < w.heap.size → (∀ p, β p ≠ some b) → w'.heap[b]? = w.heap[b]?
  z0 : ∀ b o, Z b = some o → Z' b = some o
  zo : ∀ b o, Z' b = some o → Z b = some o ∨ (∃ p, β p = some b) ∨ w.heap.size ≤ b
  zh : ∀ b o, Z' b = some o → w'.heap[b]? = some o
  inj : ∀ p q b, β' p = some b → β' q = some b → p = q
  bo : ∀ p b, β' p = some b → ((∃ q, β q = some b) ∨ w.heap.size ≤ b) ∧ Z' b = none ∧ b < w'.heap.size

/-- A contract: arguments, result, and the arguments behind the call. One that is not eff reads its arguments alone; one that is tk takes its first argument. -/
structure Ctr where
  eff : Bool
  rel : List AV → AV → List AV → Prop
  tk : Bool

def canCall (P : Program) (f : Nat) : Prop := ∃ fn c, P.funcs[f]? = some fn ∧ (fn.name == "runtime.NumGoroutine") = false ∧ fn.body = some c

def CtrOK (P : Program) (f : Nat) (c : Ctr) : Prop := canCall P f ∧ ∀ args r args', c.rel args r args' → ∀ (w : World) (Z : Nat → Option Obj) (β : List Nat → Option Nat) (vals : Array Value), vals.size = args.length → Wf Z β w →
  (if c.eff then ∀ i (h : i < args.length), ORep Z w.heap β [i] args[i] (vals.getD i undef) else (β = fun _ => none) ∧ ∀ i (h : i < args.length), PRep Z args[i] (vals.getD i undef)) →
  Calls P f vals w fun en w' => ∃ v Z' β', en = .returned v ∧ Left Z β w Z' β' w' ∧ ORep Z' w'.heap β' [0] r v ∧ ∀ i (h : i < args'.length), ORep Z' w'.heap β' [i + 1] args'[i] (vals.getD i undef)

theorem run_callFunc' {P : Program} {f : Nat} (h : canCall P f) (args : Array Value) (w : World) : (callFunc f args).run P w = .ok (.enter f args) w := by
  obtain ⟨fn, c, hf, hn, hb⟩ := h
  have h1 : fn.name ≠ "runtime.NumGoroutine" := by simpa using hn
  simp [callFunc, hf, h1, hb]

/-- An argument of a call that reads alone. -/
noncomputable def rdArg (x : Operand) (k : AV → Option (List (Nat × List Nat × AV)) → Rd) : Rd := match x with
  | .const v => .need (cst v ≠ .junk) (k (view (cst v)) (some []))
  | .func f => k (.fn f []) (some [])
  | .global _ => .fail
  | .tmp t => .get t fun v => match v with
    | .alias s p => .get s fun c => rdGetP c p fun A => .need (isOwn A = true) (k (view A) (some [(s, p, view A)]))
    | .valias s p => .get s fun c => rdGetP c p fun X => match X with
      | .box l => k (.agg (viewL l)) none
      | _ => .fail
    | .addr _ _ => .fail
    | .win _ _ _ => .fail
    | .pin A _ => k A (some [])
    | .junk => .fail
    | v => if isOwn v then k (view v) (some [(t, [], view v)]) else if isP v then k v (some []) else .fail

noncomputable def rdArgs : List Operand → (List AV → Option (List (Nat × List Nat × AV)) → Rd) → Rd
  | [], k => k [] (some [])
  | x :: xs, k => rdArg x fun A fz => rdArgs xs fun l fz' => k (A :: l) (match fz, fz' with
    | some a, some b => some (a ++ b)
    | _, _ => none)

/-- How an argument reads; fz: what is to be written no more if the result may name it. -/
inductive ArgOK (Z : Nat → Option Obj) (H : Array Obj) (β : List Nat → Option Nat) (e : Env) : AV → Option (List (Nat × List Nat × AV)) → Value → Prop
  | pers {A v} (h : PRep Z A v) : ArgOK Z H β e A (some []) v
  | own {s p A v} (hg : getP (e s) p = some A) (hA : isOwn A = true) (h : ORep Z H β (s :: p) A v) : ArgOK Z H β e (view A) (some [(s, p, view A)]) v
  | val {s p l v} (h : ORep Z H β (s :: p) (.agg l) v) : ArgOK Z H β e (.agg (viewL l)) none v

theorem PRep.unpin {Z A v u} (h : PRep Z (.pin A v) u) : PRep Z A u := by
  cases h; assumption

theorem rdArg_sound {e : Env} {x : Operand} {k} {ws : List Wr} (h : (rdArg x k).Wo e ws) : ∃ A fz, (k A fz).Wo e ws ∧ ∀ {κ Z β w} {a : Act}, Rep κ Z β e (vals a) w → ArgOK Z w.heap β e A fz (a.eval x) := by
  cases x with
  | const v =>
    obtain ⟨h1, h2⟩ := h
    refine ⟨_, _, h2, fun {κ Z β w a} hR => .pers ?_⟩
    show PRep Z (view (cst v)) v
    unfold cst at h1 ⊢
    split
    · exact .num _ _
    · exact .bool _
    · exact .nil _ _ (by decide)
    · simp at h1
  | func f => exact ⟨_, _, h, fun hR => .pers (.fn f [] #[] rfl (by simp))⟩
  | global g => exact h.elim
  | tmp t =>
    obtain ⟨h1, h2⟩ := h
    cases het : e t with
    | alias s p =>
      simp only [het] at h2
      obtain ⟨hsj, A, hg, hA, h2⟩ := h2
      exact ⟨_, _, h2, fun hR => .own hg hA (hR.aliasAt het A hg hA)⟩
    | valias s p =>
      simp only [het] at h2
      obtain ⟨hsj, X, hl, h2⟩ := h2
      dsimp only at h2
      split at h2
      case h_2 => exact h2.elim
      rename_i l
      refine ⟨_, _, h2, fun hR => ?_⟩
      obtain ⟨cs, hv, hr, _⟩ := hR.valiasAt het l hl
      rw [eval_tmp, hv]
      exact .val hr
    | addr s p => simp only [het] at h2; exact h2.elim
    | win s p k => simp only [het] at h2; exact h2.elim
    | pin A v =>
      simp only [het] at h2
      exact ⟨_, _, h2, fun hR => .pers (ORep.toP (hR.slot' het (by simp)) rfl).unpin⟩
    | junk => exact absurd het h1
    | _ =>
      simp only [het] at h2
      split at h2
      · rename_i ho
        exact ⟨_, _, h2, fun hR => .own (by rw [het]; rfl) ho (hR.slot' het (by simp))⟩
      · split at h2
        · rename_i hp
          exact ⟨_, _, h2, fun hR => .pers (ORep.toP (hR.slot' het (by simp)) hp)⟩
        · exact h2.elim

/-- All arguments. -/
def ArgsOK (Z : Nat → Option Obj) (H : Array Obj) (β : List Nat → Option Nat) (e : Env) : List AV → Option (List (Nat × List Nat × AV)) → List Value → Prop
  | [], fz, vs => fz = some [] ∧ vs = []
  | A :: l, fz, v :: vs => ∃ f1 f2, ArgOK Z H β e A f1 v ∧ ArgsOK Z H β e l f2 vs ∧ fz = (match f1, f2 with
    | some a, some b => some (a ++ b)
    | _, _ => none)
  | _ :: _, _, [] => False

theorem rdArgs_sound {e : Env} {ws : List Wr} : ∀ (xs : List Operand) (k), (rdArgs xs k).Wo e ws → ∃ l fz, (k l fz).Wo e ws ∧ ∀ {κ Z β w} {a : Act}, Rep κ Z β e (vals a) w → ArgsOK Z w.heap β e l fz (xs.map a.eval)
  | [], k, h => ⟨[], some [], h, fun _ => ⟨rfl, rfl⟩⟩
  | x :: xs, k, h => by
    obtain ⟨A, fz, h, h1⟩ := rdArg_sound h
    obtain ⟨l, fz', h, h2⟩ := rdArgs_sound xs _ h
    exact ⟨_, _, h, fun hR => ⟨fz, fz', h1 hR, h2 hR, rfl⟩⟩

theorem ArgsOK.len {Z H β e} : ∀ {l fz vs}, ArgsOK Z H β e l fz vs → vs.length = l.length
  | [], _, _, ⟨_, h⟩ => by rw [h]; rfl
  | _ :: _, _, [], h => h.elim
  | _ :: l, _, _ :: vs, ⟨_, _, _, h, _⟩ => by simp [h.len]

/-- As long as nothing that is held is written, all arguments read. -/
theorem ArgsOK.all {Z Z' : Nat → Option Obj} {H : Array Obj} {β : List Nat → Option Nat} {e : Env} (hZ : ∀ b o, Z b = some o → Z' b = some o) (hb : ∀ p b, β p = some b → Z' b = H[b]?) : ∀ {l fz vs}, ArgsOK Z H β e l fz vs →
    ∀ i (h : i < l.length) (h' : i < vs.length), PRep Z' l[i] vs[i]
  | [], _, _, _, i, h, _ => by simp at h
  | _ :: _, _, [], h, _, _, _ => h.elim
  | A :: l, _, v :: vs, ⟨f1, f2, h1, h2, _⟩, i, hi, hi' => by
    cases i with
    | zero =>
      simp only [List.getElem_cons_zero]
      cases h1 with
      | pers h => exact h.mono hZ
      | own hg hA h => exact h.toView' hZ fun r b hr => hb _ b hr
      | val h =>
        have := h.toView' hZ fun r b hr => hb _ b hr
        simpa only [AV.view] using this
    | succ i => exact ArgsOK.all hZ hb h2 i (by simpa using hi) (by simpa using hi')

def fzW (fz : List (Nat × List Nat × AV)) : List Wr := fz.map fun p => .mod p.1 p.2.1 p.2.2

theorem view_plain (A : AV) : ∀ s p, view A ≠ .alias s p ∧ view A ≠ .valias s p ∧ view A ≠ .addr s p ∧ ∀ k, view A ≠ .win s p k := by
  intro s p; cases A <;> simp [view]

mutual
theorem view_noOwn : ∀ A : AV, isOwn (view A) = false
  | .agg l => by simp only [view, isOwn]; exact viewL_noOwn l
  | .tup l => by simp only [view, isOwn]; exact viewL_noOwn l
  | .junk => rfl
  | .num _ _ => rfl
  | .bool _ => rfl
  | .sh _ => rfl
  | .own _ => rfl
  | .box _ => rfl
  | .pbox _ => rfl
  | .pcell _ => rfl
  | .alias _ _ => rfl
  | .valias _ _ => rfl
  | .addr _ _ => rfl
  | .fn _ _ => rfl
  | .win _ _ _ => rfl
  | .pin _ _ => rfl
  | .omap _ _ => rfl
theorem viewL_noOwn : ∀ l : List AV, anyOwn (viewL l) = false
  | [] => rfl
  | a :: l => by simp only [viewL, anyOwn, Bool.or_eq_false_iff]; exact ⟨view_noOwn a, viewL_noOwn l⟩
end

/-- What the arguments name is written no more. -/
theorem Rep.freezes {κ : Con} {val : Nat → Value} {w : World} : ∀ (fz : List (Nat × List Nat × AV)) {Z : Nat → Option Obj} {β : List Nat → Option Nat} {e : Env}, Rep κ Z β e val w → (fz.map (·.1)).Nodup →
    (∀ p ∈ fz, ∃ A, getP (e p.1) p.2.1 = some A ∧ isOwn A = true ∧ p.2.2 = AV.view A) →
    ∃ Z' β', Rep κ Z' β' (apps (fzW fz) e) val w ∧ (∀ b o, Z b = some o → Z' b = some o) ∧ ∀ p ∈ fz, ∀ r b, β (p.1 :: p.2.1 ++ r) = some b → Z' b = w.heap[b]?
  | [], Z, β, e, h, _, _ => ⟨Z, β, h, fun _ _ h => h, by simp⟩
  | (s, p, V) :: fz, Z, β, e, h, hn, hg => by
    obtain ⟨A, h1, h2, h3⟩ := hg (s, p, V) (by simp)
    dsimp only at h1 h2 h3
    subst h3
    have hpl := plain_of_own h1 h2
    obtain ⟨Z1, β1, hR1, hZ1, hb1, hk1⟩ := h.freeze s p A h1 hpl.2 hpl.1 (view_plain A) (view_noOwn A)
    simp only [List.map_cons, List.nodup_cons] at hn
    obtain ⟨Z2, β2, hR2, hZ2, hb2⟩ := Rep.freezes fz hR1 hn.2 (fun q hq => by
      obtain ⟨B, g1, g2, g3⟩ := hg q (by simp [hq])
      refine ⟨B, ?_, g2, g3⟩
      have hqs : q.1 ≠ s := fun e => hn.1 (e ▸ List.mem_map.2 ⟨q, hq, rfl⟩)
      simpa [Wr.app, view_noOwn, upd, hqs] using g1)
    refine ⟨Z2, β2, hR2, fun b o ho => hZ2 b o (hZ1 b o ho), fun q hq r b hb => ?_⟩
    rcases List.mem_cons.1 hq with rfl | hq
    · have h4 := hb1 r b hb
      have hlt := (h.bo _ b hb).2.2
      obtain ⟨o, ho⟩ : ∃ o, w.heap[b]? = some o := ⟨_, Array.getElem?_eq_getElem hlt⟩
      rw [ho] at h4 ⊢
      exact hZ2 b o h4
    · have hqs : q.1 ≠ s := fun e => hn.1 (e ▸ List.mem_map.2 ⟨q, hq, rfl⟩)
      refine hb2 q hq r b ?_
      rw [hk1 _ (by simp [Ne.symm hqs])]
      exact hb

theorem ArgsOK.fz {Z : Nat → Option Obj} {H : Array Obj} {β : List Nat → Option Nat} {e : Env} : ∀ {l fz vs}, ArgsOK Z H β e l (some fz) vs → ∀ p ∈ fz, ∃ A, getP (e p.1) p.2.1 = some A ∧ isOwn A = true ∧ p.2.2 = view A
  | [], fz, vs, ⟨h, _⟩, p, hp => by injection h with h; subst h; cases hp
  | _ :: _, _, [], h, _, _ => h.elim
  | A :: l, fz, v :: vs, ⟨f1, f2, h1, h2, h3⟩, p, hp => by
    cases h1 with
    | pers h =>
      cases f2 with
      | none => cases h3
      | some b => simp at h3; subst h3; exact ArgsOK.fz h2 p hp
    | own hg hA h =>
      cases f2 with
      | none => cases h3
      | some b =>
        simp at h3
        subst h3
        rcases List.mem_cons.1 hp with rfl | hp
        · exact ⟨_, hg, hA, rfl⟩
        · exact ArgsOK.fz h2 p hp
    | val h => cases h3

theorem ArgsOK.frozen {Z Z' : Nat → Option Obj} {H : Array Obj} {β : List Nat → Option Nat} {e : Env} (hZ : ∀ b o, Z b = some o → Z' b = some o) : ∀ {l fz vs}, ArgsOK Z H β e l (some fz) vs → (∀ p ∈ fz, ∀ r b, β (p.1 :: p.2.1 ++ r) = some b → Z' b = H[b]?) →
    ∀ i (h : i < l.length) (h' : i < vs.length), PRep Z' l[i] vs[i]
  | [], _, _, _, _, i, h, _ => by simp at h
  | _ :: _, _, [], h, _, _, _, _ => h.elim
  | A :: l, fz, v :: vs, ⟨f1, f2, h1, h2, h3⟩, hb, i, hi, hi' => by
    cases f2 with
    | none => cases f1 <;> cases h3
    | some b =>
      cases f1 with
      | none => cases h3
      | some a =>
        simp at h3
        subst h3
        cases i with
        | zero =>
          simp only [List.getElem_cons_zero]
          cases h1 with
          | pers h => exact h.mono hZ
          | @own s p A v hg hA h => exact h.toView' hZ fun r b' hr => hb (s, p, view A) (by simp) r b' hr
        | succ i => exact ArgsOK.frozen hZ h2 (fun p hp => hb p (by simp [hp])) i (by simpa using hi) (by simpa using hi')

/-- The result of a call lies in slot d. -/
def mergeB (β β' : List Nat → Option Nat) (d : Nat) : List Nat → Option Nat
  | [] => none
  | x :: q => if x = d then β' (0 :: q) else β (x :: q)

theorem Rep.callBack {κ : Con} {Z : Nat → Option Obj} {β : List Nat → Option Nat} {e : Env} {val : Nat → Value} {w : World} (h : Rep κ Z β e val w) (d : Nat) {Z1 Z' : Nat → Option Obj} {β' : List Nat → Option Nat} {w' : World} {r : AV} {v : Value}
    (hL : Left Z1 (fun _ => none) w Z' β' w') (hr : ORep Z' w'.heap β' [0] r v) (hpl : ∀ s p, r ≠ .alias s p ∧ r ≠ .valias s p ∧ r ≠ .addr s p ∧ ∀ k, r ≠ .win s p k)
    (hcase : Z1 = Z ∨ noSh r = true) : ∃ Z2 β2, Rep κ Z2 β2 ((Wr.set d r).app e) (setV val d v) w' := by
  have hfr : ∀ b, b < w.heap.size → w'.heap[b]? = w.heap[b]? := fun b hb => hL.frame b hb (by simp)
  have hb' : ∀ p b, β' p = some b → w.heap.size ≤ b ∧ Z' b = none ∧ b < w'.heap.size := fun p b hp => by
    have := hL.bo p b hp
    exact ⟨this.1.resolve_left (by simp), this.2⟩
  have hinj : ∀ p q b, mergeB β β' d p = some b → mergeB β β' d q = some b → p = q := by
    intro p q b h1 h2
    rcases p with _ | ⟨x, p⟩
    · cases h1
    · rcases q with _ | ⟨y, q⟩
      · cases h2
      · simp only [mergeB] at h1 h2
        by_cases hx : x = d <;> by_cases hy : y = d
        · simp only [hx, hy, if_true] at h1 h2
          have := hL.inj _ _ _ h1 h2
          simp at this
          rw [hx, hy, this]
        · simp only [hx, hy, if_true, if_false] at h1 h2
          have g1 := hb' _ _ h1
          have g2 := h.bo _ _ h2
          omega
        · simp only [hx, hy, if_true, if_false] at h1 h2
          have g1 := hb' _ _ h2
          have g2 := h.bo _ _ h1
          omega
        · simp only [hx, hy, if_false] at h1 h2
          exact h.inj _ _ _ h1 h2
  have hf : ∀ r b, r ≠ [] → root r ∉ [d] → β r = some b → mergeB β β' d r = some b ∧ w'.heap[b]? = w.heap[b]? := by
    intro r b hr hn hb
    rcases r with _ | ⟨x, r⟩
    · exact absurd rfl hr
    · simp [root] at hn
      exact ⟨by simp [mergeB, hn, hb], hfr b (h.bo _ b hb).2.2⟩
  have hmg : ORep Z' w'.heap (mergeB β β' d) [d] r v := hr.move (fun _ _ h => h) fun r b hb => ⟨by simpa [mergeB] using hb, rfl⟩
  have hnz : Z w.heap.size = none → True := fun _ => trivial
  rcases hcase with rfl | hns
  · refine ⟨Z', mergeB β β' d, ?_⟩
    rw [← app_set_drop]
    refine h.big [d] d (by simp) r v hL.os hL.tape hL.output hL.size (fun b _ hb => hfr b hb) hL.z0 (fun b o ho => ?_) hL.zh hf hinj (fun p b hp => ?_) hmg hpl
    · rcases hL.zo b o ho with h1 | h1 | h1
      · exact .inl h1
      · obtain ⟨p, hp⟩ := h1; cases hp
      · exact .inr (.inr (Nat.le_trans h.size h1))
    · rcases p with _ | ⟨x, p⟩
      · cases hp
      · simp only [mergeB] at hp
        split at hp
        · have := hb' _ _ hp; exact ⟨.inr (Nat.le_trans h.size this.1), this.2⟩
        · have := h.bo _ _ hp
          refine ⟨this.1, ?_, by have := hL.size; omega⟩
          cases hz : Z' b with
          | none => rfl
          | some o =>
            rcases hL.zo b o hz with h1 | h1 | h1
            · rw [this.2.1] at h1; cases h1
            · obtain ⟨p, hp⟩ := h1; cases hp
            · omega
  · refine ⟨Z, mergeB β β' d, ?_⟩
    rw [← app_set_drop]
    refine h.big [d] d (by simp) r v hL.os hL.tape hL.output hL.size (fun b _ hb => hfr b hb) (fun _ _ h => h) (fun b o ho => .inl ho) (fun b o ho => (hfr b (Array.getElem?_eq_some_iff.1 (h.zh b o ho)).1).trans (h.zh b o ho)) hf hinj (fun p b hp => ?_) (hmg.swap hns) hpl
    rcases p with _ | ⟨x, p⟩
    · cases hp
    · simp only [mergeB] at hp
      split at hp
      · have := hb' _ _ hp
        refine ⟨.inr (Nat.le_trans h.size this.1), ?_, this.2.2⟩
        cases hz : Z b with
        | none => rfl
        | some o => have := (Array.getElem?_eq_some_iff.1 (h.zh b o hz)).1; omega
      · have := h.bo _ _ hp; exact ⟨this.1, this.2.1, by have := hL.size; omega⟩

abbrev Ctx := Nat → Option Ctr

def slotsDistinct (fz : Option (List (Nat × List Nat × AV))) : Prop := match fz with
  | some l => (l.map (·.1)).Nodup
  | none => False

/-- What a contract tells of a call. -/
noncomputable def rdAsk (Γ : Ctx) (f : Nat) (args : List AV) (k : AV → Rd) : Rd := .ex Ctr fun c => .ex AV fun r => .need (Γ f = some c ∧ c.eff = false ∧ c.rel args r []) (k r)

/-- A call of a function that reads its arguments alone. -/
noncomputable def rdCallP (Γ : Ctx) (d f : Nat) (args : List AV) (fz : Option (List (Nat × List Nat × AV))) : Rd := rdAsk Γ f args fun r => (if noSh r then .ret [.set d r] else .need (slotsDistinct fz) (.ret (fzW (fz.getD []) ++ [.set d r])))

noncomputable def rdCall (Γ : Ctx) (d : Nat) (g : Operand) (xs : List Operand) : Rd := match g with
  | .func f => rdArgs xs fun l fz => rdCallP Γ d f l fz
  | .tmp t => .get t fun v => match v with
    | .fn f caps => rdArgs xs fun l fz => rdCallP Γ d f (l ++ caps) fz
    | _ => .fail
  | _ => .fail

theorem ORep.plain {Z H β p A v} (h : ORep Z H β p A v) : ∀ s p, A ≠ .alias s p ∧ A ≠ .valias s p ∧ A ≠ .addr s p ∧ ∀ k, A ≠ .win s p k := by
  cases h with
  | pers h => exact PRep.plain h
  | _ => simp

theorem callP_sound {P : Program} {κ : Con} {Γ : Ctx} (hΓ : ∀ f c, Γ f = some c → CtrOK P f c) {o : Oper} {e : Env} {ws : List Wr} {d f : Nat} {l : List AV} {fz} (hd : o.dst = some d) (hn : (κ.lim.1 ≤ d ∧ d < κ.lim.2))
    (h : (rdCallP Γ d f l fz).Wo e ws) {Q : Exit → Act → World → Prop} {K : Act → World → Prop} {a : Act} {w : World} (h1 : a.defers = []) (h2 : a.tmps.size = κ.lim.2 ∧ ∀ t, t < κ.lim.1 → vals a t = κ.V0 t) {Z β} (hR : Rep κ Z β e (vals a) w) {vs : List Value}
    (hrun : canCall P f → (execOp a.eval o).run P w = .ok (.enter f vs.toArray) w) (hall : ∀ Z', (∀ b o, Z b = some o → Z' b = some o) → (∀ p b, β p = some b → Z' b = w.heap[b]?) → ∀ i (h : i < l.length) (h' : i < vs.length), PRep Z' l[i] vs[i])
    (hfr : ∀ fz', fz = some fz' → (∀ p ∈ fz', ∃ A, getP (e p.1) p.2.1 = some A ∧ isOwn A = true ∧ p.2.2 = view A) ∧ ∀ Z', (∀ b o, Z b = some o → Z' b = some o) → (∀ p ∈ fz', ∀ r b, β (p.1 :: p.2.1 ++ r) = some b → Z' b = w.heap[b]?) → ∀ i (h : i < l.length) (h' : i < vs.length), PRep Z' l[i] vs[i])
    (hlen : vs.length = l.length) (hK : ∀ a' w', St κ (apps ws e) a' w' → K a' w') : o.wp P a w K Q := by
  classical
  obtain ⟨c, r, ⟨hc, heff, hrel⟩, h⟩ := h
  obtain ⟨hcan, hctr⟩ := hΓ f c hc
  unfold Oper.wp
  rw [hrun hcan, Oper.upon_enter]
  -- whatever memory is taken as settled
  have main : ∀ (Z1 : Nat → Option Obj) (β1 : List Nat → Option Nat) (e1 : Env), Rep κ Z1 β1 e1 (vals a) w → (∃ Zc : Nat → Option Obj, (∀ b o, Zc b = some o → w.heap[b]? = some o) ∧ (∀ i (h : i < l.length) (h' : i < vs.length), PRep Zc l[i] vs[i]) ∧ (Zc = Z1 ∨ noSh r = true)) →
      apps ws e = (Wr.set d r).app e1 → Calls P f vs.toArray w fun
        | .returned v, w'' => K (a.put o.dst v) w''
        | .panicked chain, w'' => Q (.panic chain) a w''
        | .outgrown, _ => LetsOut Q := by
    intro Z1 β1 e1 hR1 ⟨Zc, hzh, hargs, hcase⟩ he
    refine (hctr l r [] hrel w Zc (fun _ => none) vs.toArray (by simpa using hlen) ⟨hzh, by simp, by simp⟩ (by
      rw [heff]
      simp only [Bool.false_eq_true, if_false]
      refine ⟨trivial, fun i hi => ?_⟩
      have hi' : i < vs.length := by omega
      have := hargs i hi hi'
      simpa [hi'] using this)).mono ?_
    rintro en w' ⟨v, Z', β', rfl, hL, hr, _⟩
    obtain ⟨Z2, β2, hR2⟩ := hR1.callBack d hL hr hr.plain (hcase.imp (fun e => e) id)
    show K (a.put o.dst v) w'
    rw [hd]
    refine hK _ _ ⟨h1, keep_put hn h2, Z2, β2, ?_⟩
    rw [vals_put (by omega), he]
    exact hR2
  dsimp only at h
  split at h
  · rename_i hns
    have hw' : ws = _ := h
    subst hw'
    let Zc : Nat → Option Obj := fun b => if ∃ p, β p = some b then w.heap[b]? else Z b
    have hZc : ∀ b o, Z b = some o → Zc b = some o := by
      intro b o ho
      show (if ∃ p, β p = some b then w.heap[b]? else Z b) = some o
      split
      · exact hR.zh b o ho
      · exact ho
    refine main Z β e hR ⟨Zc, fun b o ho => ?_, hall Zc hZc (fun p b hp => ?_), .inr hns⟩ rfl
    · replace ho : (if ∃ p, β p = some b then w.heap[b]? else Z b) = some o := ho
      split at ho
      · exact ho
      · exact hR.zh b o ho
    · show (if ∃ p, β p = some b then w.heap[b]? else Z b) = w.heap[b]?
      rw [if_pos ⟨p, hp⟩]
  · obtain ⟨hsd, h⟩ := h
    have hw' : ws = _ := h
    subst hw'
    cases hfz : fz with
    | none => rw [hfz] at hsd; exact hsd.elim
    | some fz' =>
      rw [hfz] at hsd
      obtain ⟨g1, g2⟩ := hfr fz' hfz
      obtain ⟨Z1, β1, hR1, hZ1, hb1⟩ := hR.freezes fz' hsd g1
      refine main Z1 β1 _ hR1 ⟨Z1, hR1.zh, g2 Z1 hZ1 hb1, .inl rfl⟩ ?_
      rw [hfz, Option.getD_some]
      exact apps_append _ _ _

theorem eval_func (a : Act) (f : Nat) : a.eval (.func f) = .func (.func f) #[] #[] := rfl

theorem PRep.fnv {Z f caps v} (h : PRep Z (.fn f caps) v) : ∃ cs : Array Value, v = .func (.func f) #[] cs ∧ cs.size = caps.length ∧ ∀ k (h : k < caps.length), PRep Z caps[k] (cs.getD k undef) := by
  cases h with
  | fn f l cs h1 hk => exact ⟨cs, rfl, h1, hk⟩

theorem rdCall_sound {P : Program} {κ : Con} {Γ : Ctx} (hΓ : ∀ f c, Γ f = some c → CtrOK P f c) {o : Oper} {e : Env} {ws : List Wr} {d : Nat} {g : Operand} {xs : Array Operand} {ats} (ho : o.op = .call { callee := .value g, args := xs, argTypes := ats }) (hd : o.dst = some d) (hn : (κ.lim.1 ≤ d ∧ d < κ.lim.2))
    (h : (rdCall Γ d g xs.toList).Wo e ws) : Does P κ o e ws := by
  intro Q K a w ⟨h1, h2, Z, β, hR⟩ hK
  cases g with
  | func f =>
    obtain ⟨l, fz, h, hargs⟩ := rdArgs_sound _ _ h
    have hA := hargs hR
    refine callP_sound hΓ hd hn h h1 h2 hR (vs := xs.toList.map a.eval) (fun hcan => ?_) (fun Z' hZ hb i hi hi' => hA.all hZ hb i hi hi') (fun fz' hf => by subst hf; exact ⟨hA.fz, fun Z' hZ hb i hi hi' => ArgsOK.frozen hZ hA hb i hi hi'⟩) hA.len hK
    have he : (xs.toList.map a.eval).toArray = xs.map a.eval := by apply Array.ext'; simp
    rw [he]
    simp [execOp, ho, resolve, Deferred.ofValue, eval_func, invoke, run_callFunc' hcan]
  | tmp t =>
    obtain ⟨hj, h⟩ := h
    cases het : e t with
    | fn f caps =>
      simp only [het] at h
      obtain ⟨l, fz, h, hargs⟩ := rdArgs_sound _ _ h
      have hA := hargs hR
      obtain ⟨cs, hv, hcs, hck⟩ := PRep.fnv (ORep.toP (hR.slot' het (by simp)) rfl)
      have ext : ∀ (Z' : Nat → Option Obj), (∀ b o, Z b = some o → Z' b = some o) → (∀ i (h : i < l.length) (h' : i < (xs.toList.map a.eval).length), PRep Z' l[i] (xs.toList.map a.eval)[i]) →
          ∀ i (h : i < (l ++ caps).length) (h' : i < (xs.toList.map a.eval ++ cs.toList).length), PRep Z' (l ++ caps)[i] (xs.toList.map a.eval ++ cs.toList)[i] := by
        intro Z' hZ hp i hi hi'
        have hl := hA.len
        by_cases hil : i < l.length
        · rw [List.getElem_append_left hil, List.getElem_append_left (by omega)]
          exact hp i hil (by omega)
        · rw [List.getElem_append_right (by omega), List.getElem_append_right (by omega)]
          have hi2 : i - l.length < caps.length := by simp at hi; omega
          have := (hck (i - l.length) hi2).mono hZ
          simp only [hl]
          have h3 : i - l.length < cs.size := by omega
          simpa [h3] using this
      refine callP_sound hΓ hd hn h h1 h2 hR (vs := xs.toList.map a.eval ++ cs.toList) (fun hcan => ?_) (fun Z' hZ hb => ext Z' hZ fun i hi hi' => hA.all hZ hb i hi hi') (fun fz' hf => by subst hf; exact ⟨hA.fz, fun Z' hZ hb => ext Z' hZ fun i hi hi' => ArgsOK.frozen hZ hA hb i hi hi'⟩) (by have := hA.len; simp at this ⊢; omega) hK
      have he : (xs.toList.map a.eval ++ cs.toList).toArray = xs.map a.eval ++ cs := by apply Array.ext'; simp
      rw [he]
      simp [execOp, ho, resolve, Deferred.ofValue, eval_tmp, hv, invoke, run_callFunc' hcan]
    | _ => simp only [het] at h; exact h.elim
  | _ => exact h.elim

end Go.Proofs.Ytkibemgdncncoaa

/- Calls that write what one argument holds. No program in sight. -/
namespace Go.Proofs.Ytkibemgdncncoaa
set_option linter.unusedSimpArgs false
set_option linter.unusedVariables false
set_option maxRecDepth 8000
set_option maxHeartbeats 2000000
open Go Go.RowKit AV

def toBox : AV → AV := fun A => match A with | .agg l' => .box l' | A => A

/-- How an argument that the call may write lies at (s, p): itself, or as the parts of the box there. -/
inductive GiveOK (Z : Nat → Option Obj) (H : Array Obj) (β : List Nat → Option Nat) (e : Env) (s : Nat) (p : List Nat) : AV → AV → (AV → AV) → Value → Prop
  | own {l v} (hg : getP (e s) p = some (.own l)) (h : ORep Z H β (s :: p) (.own l) v) : GiveOK Z H β e s p (.own l) (.own l) id v
  | box {l cs} (hg : getP (e s) p = some (.box l)) (h : ORep Z H β (s :: p) (.agg l) (.agg cs)) (hb : InBox H β (s :: p) cs) : GiveOK Z H β e s p (.agg l) (.box l) toBox (.agg cs)

noncomputable def rdGive (x : Operand) (k : AV → Nat → List Nat → (AV → AV) → Rd) : Rd := match x with
  | .tmp t => .get t fun v => match v with
    | .alias s p => .get s fun c => rdGetP c p fun A => match A with
      | .own l => k (.own l) s p id
      | _ => .fail
    | .valias s p => .get s fun c => rdGetP c p fun X => match X with
      | .box l => k (.agg l) s p toBox
      | _ => .fail
    | .own l => k (.own l) t [] id
    | _ => .fail
  | _ => .fail

theorem rdGive_sound {e : Env} {x : Operand} {k} {ws : List Wr} (h : (rdGive x k).Wo e ws) : ∃ A0 A s p back, (k A0 s p back).Wo e ws ∧ ∀ {κ Z β w} {a : Act}, Rep κ Z β e (vals a) w → GiveOK Z w.heap β e s p A0 A back (a.eval x) := by
  cases x with
  | tmp t =>
    obtain ⟨h1, h2⟩ := h
    cases het : e t with
    | alias s p =>
      simp only [het] at h2
      obtain ⟨hsj, A, hg, h2⟩ := h2
      dsimp only at h2
      split at h2
      case h_2 => exact h2.elim
      exact ⟨_, _, _, _, _, h2, fun hR => .own hg (hR.aliasAt het _ hg rfl)⟩
    | valias s p =>
      simp only [het] at h2
      obtain ⟨hsj, X, hl, h2⟩ := h2
      dsimp only at h2
      split at h2
      case h_2 => exact h2.elim
      rename_i l
      refine ⟨_, .box l, _, _, _, h2, fun hR => ?_⟩
      obtain ⟨cs, hv, hr, hb⟩ := hR.valiasAt het l hl
      rw [eval_tmp, hv]
      exact .box hl hr hb
    | own l =>
      simp only [het] at h2
      exact ⟨_, _, _, _, _, h2, fun hR => .own (by rw [het]; rfl) (hR.slot' het (by simp))⟩
    | _ => simp only [het] at h2; exact h2.elim
  | _ => exact h.elim

/-- What a contract tells of a call that writes. -/
noncomputable def rdAskE (Γ : Ctx) (f : Nat) (args : List AV) (k : AV → AV → Rd) : Rd := .ex Ctr fun c => .ex AV fun r => .ex AV fun A' => .need (Γ f = some c ∧ c.eff = true ∧ c.rel args r [A']) (k r A')

/-- A call of a function that writes what its first argument holds. -/
noncomputable def rdCallE (Γ : Ctx) (d f : Nat) : List Operand → Rd
  | [] => .fail
  | x :: xs => rdGive x fun A0 s p back => rdArgs xs fun l fz => .need (fz = some []) (rdAskE Γ f (A0 :: l) fun r A' => .need (isP r = true ∧ isOwn A' = true) (.ret [.mod s p (back A'), .set d r]))

theorem ArgsOK.pers {Z : Nat → Option Obj} {H : Array Obj} {β : List Nat → Option Nat} {e : Env} : ∀ {l vs}, ArgsOK Z H β e l (some []) vs → ∀ i (h : i < l.length) (h' : i < vs.length), PRep Z l[i] vs[i] := fun {l vs} hA i hi hi' => hA.frozen (Z' := Z) (fun _ _ h => h) (by simp) i hi hi'

section
variable {κ : Con} {Z : Nat → Option Obj} {β : List Nat → Option Nat} {e : Env} {val : Nat → Value} {w : World}

/-- Which memory the call is given: what lies at (s, p) and below, as far as U tells. -/
def giveB (β : List Nat → Option Nat) (s : Nat) (p : List Nat) (U : List Nat → Bool) : List Nat → Option Nat
  | 0 :: r => if U r then β (s :: p ++ r) else none
  | _ => none

/-- The memory of the caller, with what the call left. -/
noncomputable def takeB (β β' : List Nat → Option Nat) (s : Nat) (p : List Nat) (U : List Nat → Bool) (q : List Nat) : Option Nat :=
  if (s :: p) <+: q ∧ U (q.drop (p.length + 1)) = true then β' (1 :: q.drop (p.length + 1)) else β q

theorem giveB_spec {s : Nat} {p : List Nat} {U : List Nat → Bool} {q : List Nat} {b : Nat} (h : giveB β s p U q = some b) : ∃ r, q = 0 :: r ∧ U r = true ∧ β (s :: p ++ r) = some b := by
  rcases q with _ | ⟨x, r⟩
  · cases h
  · cases x with
    | zero =>
      simp only [giveB] at h
      split at h
      · exact ⟨r, rfl, by assumption, h⟩
      · cases h
    | succ x => cases h

theorem takeB_in (β β' : List Nat → Option Nat) (s : Nat) (p : List Nat) (U : List Nat → Bool) (r : List Nat) (hr : U r = true) : takeB β β' s p U (s :: p ++ r) = β' (1 :: r) := by
  have e1 : (s :: p ++ r).drop (p.length + 1) = r := by simp
  unfold takeB
  rw [e1, if_pos ⟨by simp, hr⟩]

theorem takeB_out {β' : List Nat → Option Nat} {s : Nat} {p : List Nat} {U : List Nat → Bool} {q : List Nat} (h : ∀ r, q = s :: p ++ r → U r = false) : takeB β β' s p U q = β q := by
  unfold takeB
  rw [if_neg]
  rintro ⟨⟨r, rfl⟩, h2⟩
  have e1 : (s :: p ++ r).drop (p.length + 1) = r := by simp
  rw [e1, h r rfl] at h2
  cases h2

theorem takeB_cases (β' : List Nat → Option Nat) (s : Nat) (p : List Nat) (U : List Nat → Bool) (q : List Nat) : (∃ r, q = s :: p ++ r ∧ U r = true ∧ takeB β β' s p U q = β' (1 :: r)) ∨ ((∀ r, q = s :: p ++ r → U r = false) ∧ takeB β β' s p U q = β q) := by
  by_cases h : ∃ r, q = s :: p ++ r ∧ U r = true
  · obtain ⟨r, rfl, hr⟩ := h
    exact .inl ⟨r, rfl, hr, takeB_in _ _ _ _ _ _ hr⟩
  · have h' : ∀ r, q = s :: p ++ r → U r = false := fun r hr => by
      cases hu : U r with
      | false => rfl
      | true => exact absurd ⟨r, hr, hu⟩ h
    exact .inr ⟨h', takeB_out h'⟩

/-- The state behind a call that wrote what lies at (s, p). -/
theorem Rep.callE (h : Rep κ Z β e val w) (s : Nat) (p : List Nat) (U : List Nat → Bool) {Z' : Nat → Option Obj} {β' : List Nat → Option Nat} {w' : World} (hL : Left Z (giveB β s p U) w Z' β' w') {A A' : AV} (hg : getP (e s) p = some A) (hA : isOwn A = true) (hA' : ∀ s' p', A' ≠ .alias s' p' ∧ A' ≠ .valias s' p' ∧ A' ≠ .addr s' p' ∧ ∀ k, A' ≠ .win s' p' k)
    (hr : ∀ u, ORep Z w.heap β (s :: p) A u → ORep Z' w'.heap (takeB β β' s p U) (s :: p) A' u) : Rep κ Z' (takeB β β' s p U) ((Wr.mod s p A').app e) val w' := by
  have hpl := plain_of_own hg hA
  have hout : ∀ q b, (∀ r, q = s :: p ++ r → U r = false) → β q = some b → ∀ q', giveB β s p U q' ≠ some b := by
    intro q b hq hb q' hq'
    obtain ⟨r, rfl, hu, hr'⟩ := giveB_spec hq'
    have := h.inj _ _ _ hb hr'
    rw [hq r this] at hu
    cases hu
  have hnewB : ∀ q b, giveB β s p U q = some b → new κ b := fun q b hq => by
    obtain ⟨r, rfl, hu, hr'⟩ := giveB_spec hq
    exact (h.bo _ b hr').1
  have hnewS : ∀ b, w.heap.size ≤ b → new κ b := fun b hb => .inr (Nat.le_trans h.size hb)
  refine h.mod s p A A' hg hpl.2 hA' hpl.1 hL.os hL.tape hL.output hL.size (fun b hn hb => hL.frame b hb fun q hq => hn (hnewB q b hq)) hL.z0 (fun b o ho => ?_) hL.zh (fun r b hr0 hj hn hb => ?_) (fun p1 p2 b h1 h2 => ?_) (fun q b hq => ?_) hr (fun _ q C' hq _ hC' => getP_own_up hg hq hA hC')
  · rcases hL.zo b o ho with h1 | ⟨q, hq⟩ | h1
    · exact .inl h1
    · exact .inr (hnewB q b hq)
    · exact .inr (hnewS b h1)
  · have hno : ∀ r', r = s :: p ++ r' → U r' = false := fun r' hr' => absurd (hr' ▸ List.prefix_append _ _) hn
    exact ⟨(takeB_out hno).trans hb, hL.frame b (h.bo r b hb).2.2 (hout r b hno hb)⟩
  · rcases takeB_cases (β := β) β' s p U p1 with ⟨r1, rfl, hu1, e1⟩ | ⟨hn1, e1⟩ <;> rcases takeB_cases (β := β) β' s p U p2 with ⟨r2, rfl, hu2, e2⟩ | ⟨hn2, e2⟩ <;> rw [e1] at h1 <;> rw [e2] at h2
    · have := hL.inj _ _ _ h1 h2
      simp at this
      rw [this]
    · exfalso
      have hb := hL.bo _ _ h1
      rcases hb.1 with ⟨q, hq⟩ | hb'
      · exact hout _ _ hn2 h2 q hq
      · have := (h.bo _ _ h2).2.2; omega
    · exfalso
      have hb := hL.bo _ _ h2
      rcases hb.1 with ⟨q, hq⟩ | hb'
      · exact hout _ _ hn1 h1 q hq
      · have := (h.bo _ _ h1).2.2; omega
    · exact h.inj _ _ _ h1 h2
  · rcases takeB_cases (β := β) β' s p U q with ⟨r1, rfl, hu1, e1⟩ | ⟨hn1, e1⟩ <;> rw [e1] at hq
    · have hb := hL.bo _ _ hq
      refine ⟨?_, hb.2⟩
      rcases hb.1 with ⟨q, hq⟩ | hb'
      · exact hnewB q b hq
      · exact hnewS b hb'
    · have hb := h.bo _ _ hq
      refine ⟨hb.1, ?_, Nat.lt_of_lt_of_le hb.2.2 hL.size⟩
      cases hz : Z' b with
      | none => rfl
      | some o =>
        exfalso
        rcases hL.zo b o hz with h1 | ⟨q', hq'⟩ | h1
        · rw [hb.2.1] at h1; cases h1
        · exact hout _ _ hn1 hq q' hq'
        · omega
end

theorem own_inv {Z : Nat → Option Obj} {H : Array Obj} {β : List Nat → Option Nat} {p A b n c} (h : ORep Z H β p A (.slice (some ⟨b, 0, none⟩) n c)) (ho : isOwn A = true) : ∃ (l : List AV) (cs : Array Value) (T : TypeId) (us : Nat → Value), A = .own l ∧ n = l.length ∧ β p = some b ∧ H[b]? = some (.cells cs T (0, 0)) ∧ l.length ≤ c ∧ c = cs.size ∧ c ≤ maxLen ∧
    (∀ k, k < l.length → cs[k]? = some (us k)) ∧ (∀ k, k < l.length → (us k).oneCell' = true) ∧ ∀ k (h : k < l.length), ORep Z H β (p ++ [k]) l[k] (us k) := by
  cases h with
  | pers h => rw [h.noOwn] at ho; cases ho
  | own l b c cs T us hb hz g1 g2 g3 gu g4 gk => exact ⟨l, cs, T, us, rfl, rfl, hb, hz, g1, g2, g3, gu, g4, gk⟩

theorem own_nil_inv {Z : Nat → Option Obj} {H : Array Obj} {β : List Nat → Option Nat} {p A} (h : ORep Z H β p A (.slice none 0 0)) (ho : isOwn A = true) : A = .own [] := by
  cases h with
  | pers h => rw [h.noOwn] at ho; cases ho
  | nil => rfl

theorem agg_inv {Z : Nat → Option Obj} {H : Array Obj} {β : List Nat → Option Nat} {p A cs} (h : ORep Z H β p A (.agg cs)) (ho : isOwn A = true) : ∃ l : List AV, A = .agg l ∧ cs.size = l.length ∧ ∀ k (h : k < l.length), ORep Z H β (p ++ [k]) l[k] (cs.getD k undef) := by
  cases h with
  | pers h => rw [h.noOwn] at ho; cases ho
  | agg l cs h1 hk => exact ⟨l, rfl, h1, hk⟩

theorem toBox_plain {A : AV} (hA : isOwn A = true) : ∀ s p, toBox A ≠ .alias s p ∧ toBox A ≠ .valias s p ∧ toBox A ≠ .addr s p ∧ ∀ k, toBox A ≠ .win s p k := by
  cases A <;> simp [isOwn] at hA <;> simp [toBox]

set_option maxHeartbeats 1000000 in
theorem rdCallE_sound {P : Program} {κ : Con} {Γ : Ctx} (hΓ : ∀ f c, Γ f = some c → CtrOK P f c) {o : Oper} {e : Env} {ws : List Wr} {d f : Nat} {xs : Array Operand} {ats} (ho : o.op = .call { callee := .value (.func f), args := xs, argTypes := ats }) (hd : o.dst = some d) (hn : κ.lim.1 ≤ d ∧ d < κ.lim.2)
    (h : (rdCallE Γ d f xs.toList).Wo e ws) : Does P κ o e ws := by
  intro Q K a w ⟨h1, h2, Z, β, hR⟩ hK
  cases hxs : xs.toList with
  | nil => rw [hxs] at h; exact h.elim
  | cons x xr =>
    rw [hxs] at h
    unfold rdCallE at h
    obtain ⟨A0, A, s, p, back, h, hgive⟩ := rdGive_sound h
    obtain ⟨l, fz, h, hargs⟩ := rdArgs_sound _ _ h
    obtain ⟨hfz, c, r, A', ⟨hc, heff, hrel⟩, ⟨hrP, hAo⟩, hw⟩ := h
    have hw' : ws = _ := hw
    subst hw'
    subst hfz
    have hG := hgive hR
    have hAr := hargs hR
    have hPa := hAr.pers
    have hlen := hAr.len
    obtain ⟨hcan, hctr⟩ := hΓ f c hc
    have hvs : (xs.map a.eval).toList = a.eval x :: xr.map a.eval := by simp [hxs]
    have hvs' : xs.map a.eval = (a.eval x :: xr.map a.eval).toArray := by rw [← hvs]
    unfold Oper.wp
    have hrun : (execOp a.eval o).run P w = .ok (.enter f (xs.map a.eval)) w := by
      simp [execOp, ho, resolve, Deferred.ofValue, eval_func, invoke, run_callFunc' hcan]
    rw [hrun, Oper.upon_enter]
    -- once it is told what lies at the place afterwards
    have main : ∀ (U : List Nat → Bool) (v : Value), a.eval x = v → ORep Z w.heap (giveB β s p U) [0] A0 v → getP (e s) p = some A → isOwn A = true → (∀ s' p', back A' ≠ .alias s' p' ∧ back A' ≠ .valias s' p' ∧ back A' ≠ .addr s' p' ∧ ∀ k, back A' ≠ .win s' p' k) →
        (∀ Z' β' w', Left Z (giveB β s p U) w Z' β' w' → ORep Z' w'.heap β' [1] A' v → ∀ u, ORep Z w.heap β (s :: p) A u → ORep Z' w'.heap (takeB β β' s p U) (s :: p) (back A') u) →
        Calls P f (xs.map a.eval) w fun
        | .returned v, w'' => K (a.put o.dst v) w''
        | .panicked chain, w'' => Q (.panic chain) a w''
        | .outgrown, _ => LetsOut Q := by
      intro U v hv h0 hg hA hpl hback
      refine (hctr (A0 :: l) r [A'] hrel w Z (giveB β s p U) (xs.map a.eval) (by simp at hlen; simp [hvs', hlen]) ⟨hR.zh, fun q1 q2 b g1 g2 => ?_, fun q b g => ?_⟩ (by
        rw [heff]
        simp only [if_true]
        intro i hi
        cases i with
        | zero => rw [hvs']; simpa [hv] using h0
        | succ i =>
          have hi1 : i < l.length := by simpa using hi
          have hi2 : i < (xr.map a.eval).length := by rw [hlen]; exact hi1
          have := hPa i hi1 hi2
          have e1 : (xs.map a.eval).getD (i + 1) undef = (xr.map a.eval)[i] := by
            rw [hvs']; simp at hi2; simp [hi2]
          rw [e1]
          exact .pers (by simpa using this))).mono ?_
      · obtain ⟨r1, rfl, _, e1⟩ := giveB_spec g1
        obtain ⟨r2, rfl, _, e2⟩ := giveB_spec g2
        have := hR.inj _ _ _ e1 e2
        simp at this
        rw [this]
      · obtain ⟨r1, rfl, _, e1⟩ := giveB_spec g
        exact (hR.bo _ _ e1).2
      · rintro en w' ⟨vr, Z', β', rfl, hL, hr, ha'⟩
        have hA1 := ha' 0 (by simp)
        simp only [List.getElem_cons_zero] at hA1
        have e0 : (xs.map a.eval).getD 0 undef = v := by rw [hvs']; simp [hv]
        rw [e0] at hA1
        have hR1 := hR.callE s p U hL hg hA hpl (hback Z' β' w' hL hA1)
        have hR2 := hR1.put d (ORep.toP hr hrP) (isP_plain hrP)
        show K (a.put o.dst vr) w'
        rw [hd]
        refine hK _ _ ⟨h1, keep_put hn h2, Z', takeB β β' s p U, ?_⟩
        rw [vals_put (by omega)]
        exact hR2
    clear h hw hgive hargs
    generalize hvx : a.eval x = v at hG
    cases hG with
    | @own l0 v hg h0 =>
      by_cases hnil : v = .slice none 0 0
      · subst hnil
        have hl0 : AV.own l0 = .own [] := own_nil_inv h0 rfl
        injection hl0 with hl0
        subst hl0
        refine main (fun _ => false) _ hvx .nil hg rfl (own_plain hAo) fun Z' β' w' hL hA1 u hu => ?_
        have hA'' : A' = .own [] := own_nil_inv hA1 hAo
        rw [hA'']
        have hbt : ∀ q, takeB β β' s p (fun _ => false) q = β q := fun q => takeB_out fun _ _ => rfl
        refine hu.move hL.z0 fun r b hb => ⟨(hbt _).trans hb, hL.frame b (hR.bo _ b hb).2.2 fun q hq => ?_⟩
        obtain ⟨_, _, hf, _⟩ := giveB_spec hq
        cases hf
      · refine main (fun _ => true) v hvx (h0.move (fun _ _ h => h) fun r b hb => ⟨by simpa [giveB] using hb, rfl⟩) hg rfl (own_plain hAo) fun Z' β' w' hL hA1 u hu => ?_
        cases h0 with
        | pers h => cases h
        | nil => exact absurd rfl hnil
        | own l b c cs T us hb hz g1 g2 g3 gu g4 gk =>
          obtain ⟨l', cs', T', us', hA2, e2, hb', hz', g1', g2', g3', gu', g4', gk'⟩ := own_inv hA1 hAo
          show ORep Z' w'.heap _ (s :: p) A' u
          rw [hA2]
          cases hu with
          | pers h => cases h
          | nil =>
            have : l' = [] := List.length_eq_zero_iff.1 e2.symm
            rw [this]
            exact .nil
          | own l b2 c2 cs2 T2 us2 hb2 hz2 k1 k2 k3 ku k4 kk =>
            rw [hb] at hb2
            injection hb2 with hb2
            subst hb2
            rw [hz] at hz2
            injection hz2 with hz2
            injection hz2 with hz2 hz3
            subst hz2
            rw [show c2 = c by rw [k2, g2], e2]
            refine .own l' b c cs' T' us' ?_ hz' g1' g2' g3' gu' g4' fun k hk => ?_
            · have := takeB_in β β' s p (fun _ => true) [] rfl
              rw [List.append_nil] at this
              rw [this]; exact hb'
            · refine (gk' k hk).move (fun _ _ h => h) fun r b hr => ⟨?_, rfl⟩
              have := takeB_in β β' s p (fun _ => true) (k :: r) rfl
              rw [show s :: p ++ [k] ++ r = s :: p ++ k :: r by simp, this]
              simpa using hr
    | @box l0 cs hg h0 hib =>
      obtain ⟨b, T, hb, hz⟩ := hib
      have key : cs.size = l0.length ∧ ∀ k (h : k < l0.length), ORep Z w.heap β (s :: p ++ [k]) l0[k] (cs.getD k undef) := by
        cases h0 with
        | pers h => cases h with | agg l cs h1 hk => exact ⟨h1, fun k h => .pers (hk k h)⟩
        | agg l cs h1 hk => exact ⟨h1, hk⟩
      obtain ⟨hcs, hk0⟩ := key
      refine main (fun r => !r.isEmpty) _ hvx (.agg l0 cs hcs fun k hk => (hk0 k hk).move (fun _ _ h => h) fun r b hb => ⟨by simpa [giveB] using hb, rfl⟩) hg rfl (toBox_plain hAo) fun Z' β' w' hL hA1 u hu => ?_
      cases hu with
      | pers h => cases h
      | box l b2 cs2 T2 hb2 hz2 k1 k4 kk =>
        rw [hb] at hb2
        injection hb2 with hb2
        subst hb2
        rw [hz] at hz2
        injection hz2 with hz2
        injection hz2 with hz2 hz3
        subst hz2
        have hfr : w'.heap[b]? = w.heap[b]? := hL.frame b (hR.bo _ b hb).2.2 fun q hq => by
          obtain ⟨r, rfl, hur, hr⟩ := giveB_spec hq
          have := hR.inj _ _ _ hb hr
          cases r with
          | nil => simp at hur
          | cons k r => simp at this
        have hbt : takeB β β' s p (fun r => !r.isEmpty) (s :: p) = some b := by
          rw [takeB_out (fun r hr => by
            cases r with
            | nil => rfl
            | cons k r => simp at hr)]
          exact hb
        obtain ⟨l', rfl, h1, hk⟩ := agg_inv hA1 hAo
        refine .box l' b cs T hbt (hfr.trans hz) h1 (fun k hk' => k4 k (by omega)) fun k hk' => (hk k hk').move (fun _ _ h => h) fun r b' hr => ⟨?_, rfl⟩
        have := takeB_in β β' s p (fun r => !r.isEmpty) (k :: r) rfl
        rw [show s :: p ++ [k] ++ r = s :: p ++ k :: r by simp, this]
        simpa using hr

/-- Whether a function's contract lets it write. -/
def isE (Γ : Ctx) (f : Nat) : Bool := match Γ f with
  | some c => c.eff
  | none => false

noncomputable def rdCallX (Γ : Ctx) (d : Nat) (g : Operand) (xs : List Operand) : Rd := match g with
  | .func f => if isE Γ f then rdCallE Γ d f xs else rdCall Γ d (.func f) xs
  | g => rdCall Γ d g xs

theorem rdCallX_sound {P : Program} {κ : Con} {Γ : Ctx} (hΓ : ∀ f c, Γ f = some c → CtrOK P f c) {o : Oper} {e : Env} {ws : List Wr} {d : Nat} {g : Operand} {xs : Array Operand} {ats} (ho : o.op = .call { callee := .value g, args := xs, argTypes := ats }) (hd : o.dst = some d) (hn : κ.lim.1 ≤ d ∧ d < κ.lim.2)
    (h : (rdCallX Γ d g xs.toList).Wo e ws) : Does P κ o e ws := by
  cases g with
  | func f =>
    simp only [rdCallX] at h
    split at h
    · exact rdCallE_sound hΓ ho hd hn h
    · exact rdCall_sound hΓ ho hd hn h
  | _ => exact rdCall_sound hΓ ho hd hn h

end Go.Proofs.Ytkibemgdncncoaa

/- Calls that take what their first argument holds; pointers looked at; rows cleared. No program in sight. -/
namespace Go.Proofs.Ytkibemgdncncoaa
set_option linter.unusedSimpArgs false
set_option linter.unusedVariables false
set_option maxRecDepth 8000
set_option maxHeartbeats 2000000
open Go Go.RowKit AV

/-- What a contract tells of a call that takes its first argument. -/
noncomputable def rdAskT (Γ : Ctx) (f : Nat) (args : List AV) (k : AV → Rd) : Rd := .ex Ctr fun c => .ex AV fun r => .need (Γ f = some c ∧ c.eff = true ∧ c.rel args r []) (k r)

noncomputable def rdCallT (Γ : Ctx) (d f : Nat) : List Operand → Rd
  | .tmp t :: xs => rdTake d t fun A ws0 => rdArgs xs fun l fz => .need (fz = some []) (rdAskT Γ f (A :: l) fun r => .ret (ws0 ++ [.set d A] ++ [.set d r]))
  | _ => .fail

theorem apps_app (a b : List Wr) (e : Env) : apps (a ++ b) e = apps b (apps a e) := apps_append a b e

/-- The state behind a call that took what slot d held. -/
theorem Rep.callT {κ : Con} {Z : Nat → Option Obj} {β : List Nat → Option Nat} {e : Env} {val : Nat → Value} {w : World} (h : Rep κ Z β e val w) (d : Nat) {Z' : Nat → Option Obj} {β' : List Nat → Option Nat} {w' : World} {r : AV} {v : Value}
    (hL : Left Z (giveB β d [] fun _ => true) w Z' β' w') (hr : ORep Z' w'.heap β' [0] r v) : Rep κ Z' (mergeB β β' d) ((Wr.set d r).app e) (setV val d v) w' := by
  have hg : ∀ p b, giveB β d [] (fun _ => true) p = some b → ∃ r, β (d :: r) = some b := fun p b hp => by
    obtain ⟨r, _, _, h2⟩ := giveB_spec hp
    exact ⟨r, h2⟩
  have hnot : ∀ x q b, x ≠ d → β (x :: q) = some b → ∀ p, giveB β d [] (fun _ => true) p ≠ some b := fun x q b hx hb p hp => by
    obtain ⟨r, hr⟩ := hg p b hp
    have := h.inj _ _ _ hb hr
    simp at this
    exact hx this.1
  have hb' : ∀ p b, β' p = some b → ((∃ r, β (d :: r) = some b) ∨ w.heap.size ≤ b) ∧ Z' b = none ∧ b < w'.heap.size := fun p b hp => by
    have := hL.bo p b hp
    refine ⟨?_, this.2⟩
    rcases this.1 with ⟨q, hq⟩ | h1
    · exact .inl (hg q b hq)
    · exact .inr h1
  have hinj : ∀ p q b, mergeB β β' d p = some b → mergeB β β' d q = some b → p = q := by
    intro p q b h1 h2
    rcases p with _ | ⟨x, p⟩
    · cases h1
    · rcases q with _ | ⟨y, q⟩
      · cases h2
      · simp only [mergeB] at h1 h2
        by_cases hx : x = d <;> by_cases hy : y = d
        · simp only [hx, hy, if_true] at h1 h2
          have := hL.inj _ _ _ h1 h2
          simp at this
          rw [hx, hy, this]
        · simp only [hx, hy, if_true, if_false] at h1 h2
          rcases (hb' _ _ h1).1 with ⟨r, hr⟩ | g1
          · have := h.inj _ _ _ h2 hr; simp at this; exact absurd this.1 hy
          · have g2 := h.bo _ _ h2; omega
        · simp only [hx, hy, if_true, if_false] at h1 h2
          rcases (hb' _ _ h2).1 with ⟨r, hr⟩ | g1
          · have := h.inj _ _ _ h1 hr; simp at this; exact absurd this.1 hx
          · have g2 := h.bo _ _ h1; omega
        · simp only [hx, hy, if_false] at h1 h2
          exact h.inj _ _ _ h1 h2
  rw [← app_set_drop]
  refine h.big [d] d (by simp) r v hL.os hL.tape hL.output hL.size (fun b hn hb => hL.frame b hb fun p hp => ?_) hL.z0 (fun b o ho => ?_) hL.zh (fun r b hr0 hn hb => ?_) hinj (fun p b hp => ?_) (hr.move (fun _ _ h => h) fun r b hb => ⟨by simpa [mergeB] using hb, rfl⟩) hr.plain
  · obtain ⟨r, hr⟩ := hg p b hp
    exact hn (h.bo _ _ hr).1
  · rcases hL.zo b o ho with h1 | ⟨p, hp⟩ | h1
    · exact .inl h1
    · obtain ⟨r, hr⟩ := hg p b hp
      exact .inr (h.bo _ _ hr).1
    · exact .inr (.inr (Nat.le_trans h.size h1))
  · rcases r with _ | ⟨x, r⟩
    · exact absurd rfl hr0
    · simp [root] at hn
      exact ⟨by simp [mergeB, hn, hb], hL.frame b (h.bo _ b hb).2.2 (hnot x r b hn hb)⟩
  · rcases p with _ | ⟨x, p⟩
    · cases hp
    · simp only [mergeB] at hp
      split at hp
      · have := hb' _ _ hp
        refine ⟨?_, this.2⟩
        rcases this.1 with ⟨r, hr⟩ | h1
        · exact (h.bo _ _ hr).1
        · exact .inr (Nat.le_trans h.size h1)
      · rename_i hxd
        have := h.bo _ _ hp
        refine ⟨this.1, ?_, by have := hL.size; omega⟩
        cases hz : Z' b with
        | none => rfl
        | some o =>
          rcases hL.zo b o hz with h1 | ⟨q, hq⟩ | h1
          · rw [this.2.1] at h1; cases h1
          · exact absurd hq (hnot x p b hxd hp q)
          · omega

theorem rdCallT_sound {P : Program} {κ : Con} {Γ : Ctx} (hΓ : ∀ f c, Γ f = some c → CtrOK P f c) {o : Oper} {e : Env} {ws : List Wr} {d f : Nat} {xs : Array Operand} {ats} (ho : o.op = .call { callee := .value (.func f), args := xs, argTypes := ats }) (hd : o.dst = some d) (hn : κ.lim.1 ≤ d ∧ d < κ.lim.2)
    (h : (rdCallT Γ d f xs.toList).Wo e ws) : Does P κ o e ws := by
  intro Q K a w ⟨h1, h2, Z, β, hR⟩ hK
  cases hxs : xs.toList with
  | nil => rw [hxs] at h; exact h.elim
  | cons x xr =>
    rw [hxs] at h
    cases x with
    | tmp t =>
      unfold rdCallT at h
      obtain ⟨A, ws0, h, hAj, hApl, htake⟩ := rdTake_sound h
      obtain ⟨l, fz, h, hargs⟩ := rdArgs_sound _ _ h
      obtain ⟨hfz, c, r, ⟨hc, heff, hrel⟩, hw⟩ := h
      have hw' : ws = _ := hw
      subst hw'
      subst hfz
      have hAr := hargs hR
      have hPa := hAr.pers
      have hlen := hAr.len
      obtain ⟨β1, hR1⟩ := htake hR
      obtain ⟨hcan, hctr⟩ := hΓ f c hc
      have hvs : (xs.map a.eval).toList = vals a t :: xr.map a.eval := by simp [hxs, eval_tmp]
      have hvs' : xs.map a.eval = (vals a t :: xr.map a.eval).toArray := by rw [← hvs]
      unfold Oper.wp
      have hrun : (execOp a.eval o).run P w = .ok (.enter f (xs.map a.eval)) w := by
        simp [execOp, ho, resolve, Deferred.ofValue, eval_func, invoke, run_callFunc' hcan]
      rw [hrun, Oper.upon_enter]
      have hdA : apps (ws0 ++ [.set d A]) e d = A := by
        rw [apps_append]
        show (Wr.set d A).app _ d = A
        simp only [Wr.app]; split <;> simp [upd]
      have hA0 : ORep Z w.heap β1 [d] A (vals a t) := by
        have := hR1.slot' hdA hApl
        simpa [setV] using this
      refine (hctr (A :: l) r [] hrel w Z (giveB β1 d [] fun _ => true) (xs.map a.eval) (by simp at hlen; simp [hvs', hlen]) ⟨hR1.zh, fun q1 q2 b g1 g2 => ?_, fun q b g => ?_⟩ (by
        rw [heff]
        simp only [if_true]
        intro i hi
        cases i with
        | zero =>
          rw [hvs']
          simpa using hA0.move (H' := w.heap) (β' := giveB β1 d [] fun _ => true) (q := [0]) (fun _ _ h => h) fun r b hb => ⟨by simpa [giveB] using hb, rfl⟩
        | succ i =>
          have hi1 : i < l.length := by simpa using hi
          have hi2 : i < (xr.map a.eval).length := by rw [hlen]; exact hi1
          have := hPa i hi1 hi2
          have e1 : (xs.map a.eval).getD (i + 1) undef = (xr.map a.eval)[i] := by
            rw [hvs']; simp at hi2; simp [hi2]
          rw [e1]
          exact .pers (by simpa using this))).mono ?_
      · obtain ⟨r1, rfl, _, e1⟩ := giveB_spec g1
        obtain ⟨r2, rfl, _, e2⟩ := giveB_spec g2
        have := hR1.inj _ _ _ e1 e2
        simp at this
        rw [this]
      · obtain ⟨r1, rfl, _, e1⟩ := giveB_spec g
        exact (hR1.bo _ _ e1).2
      · rintro en w' ⟨vr, Z', β', rfl, hL, hr, _⟩
        have hR2 := hR1.callT d hL hr
        show K (a.put o.dst vr) w'
        rw [hd]
        refine hK _ _ ⟨h1, keep_put hn h2, Z', mergeB β1 β' d, ?_⟩
        rw [vals_put (by omega)]
        have e2 : setV (setV (vals a) d (vals a t)) d vr = setV (vals a) d vr := by funext t; simp only [setV]; split <;> rfl
        rw [e2] at hR2
        rw [apps_append]
        exact hR2
    | _ => exact h.elim

/-- Whether a function's contract lets it take its first argument. -/
def isT (Γ : Ctx) (f : Nat) : Bool := match Γ f with
  | some c => c.tk
  | none => false

noncomputable def rdCallY (Γ : Ctx) (d : Nat) (g : Operand) (xs : List Operand) : Rd := match g with
  | .func f => if isT Γ f then rdCallT Γ d f xs else rdCallX Γ d (.func f) xs
  | g => rdCallX Γ d g xs

theorem rdCallY_sound {P : Program} {κ : Con} {Γ : Ctx} (hΓ : ∀ f c, Γ f = some c → CtrOK P f c) {o : Oper} {e : Env} {ws : List Wr} {d : Nat} {g : Operand} {xs : Array Operand} {ats} (ho : o.op = .call { callee := .value g, args := xs, argTypes := ats }) (hd : o.dst = some d) (hn : κ.lim.1 ≤ d ∧ d < κ.lim.2)
    (h : (rdCallY Γ d g xs.toList).Wo e ws) : Does P κ o e ws := by
  cases g with
  | func f =>
    simp only [rdCallY] at h
    split at h
    · exact rdCallT_sound hΓ ho hd hn h
    · exact rdCallX_sound hΓ ho hd hn h
  | _ => exact rdCallX_sound hΓ ho hd hn h

/-! ### A pointer that is not nil -/
noncomputable def rdNil (d : Nat) (x : Operand) : Rd := match x with
  | .tmp t => .peek t fun h => match h with
    | .box _ => .need (t ≠ d) (.ret [.set d (.alias t [])])
    | .alias s p => .need (s ≠ d) (.get s fun c => rdGetP c p fun X => match X with
      | .box _ => .ret [.set d (.alias s p)]
      | _ => .fail)
    | .addr s p => .need (s ≠ d) (.ret [.set d (.addr s p)])
    | .pbox _ => .get t fun v => .need (isP v = true) (.ret [.set d v])
    | .pcell _ => .get t fun v => .need (isP v = true) (.ret [.set d v])
    | _ => .fail
  | _ => .fail

theorem rdNil_sound {P : Program} {κ : Con} {o : Oper} {e : Env} {ws : List Wr} {d : Nat} {x : Operand} (ho : o.op = .nilCheck x) (hd : o.dst = some d) (hn : (κ.lim.1 ≤ d ∧ d < κ.lim.2)) (h : (rdNil d x).Wo e ws) : Does P κ o e ws := by
  cases x with
  | tmp t =>
    obtain ⟨hj, h⟩ := h
    have hrun : ∀ (a : Act) (w : World) (ad : Addr), vals a t = .pointer (some ad) → (execOp a.eval o).run P w = .ok (.value (vals a t)) w := by
      intro a w ad hv
      simp only [execOp, ho, eval_tmp, hv]
      rfl
    refine does_value hd hn fun a w Z β hR => ?_
    cases het : e t with
    | box l =>
      simp only [het, head] at h
      obtain ⟨htd, h⟩ := h
      have h' : ws = _ := h
      subst h'
      have hO := hR.slot' het (by simp)
      have hv : ∃ ad, vals a t = .pointer (some ad) := by
        generalize vals a t = v at hO
        cases hO with
        | pers h => cases h
        | box => exact ⟨_, rfl⟩
      obtain ⟨ad, hv⟩ := hv
      refine ⟨_, w, Z, β, hrun a w ad hv, hR.view d t [] _ htd fun A hA hAo => ?_⟩
      simp only [getP, Option.some.injEq] at hA
      subst hA
      exact hR.slot t (own_plain hAo)
    | alias s p =>
      simp only [het, head] at h
      obtain ⟨hsd, hsj, X, hl, h⟩ := h
      dsimp only at h
      split at h
      case h_2 => exact h.elim
      rename_i l
      have h' : ws = _ := h
      subst h'
      have hO := hR.aliasAt het _ hl rfl
      have hv : ∃ ad, vals a t = .pointer (some ad) := by
        generalize vals a t = v at hO
        cases hO with
        | pers h => cases h
        | box => exact ⟨_, rfl⟩
      obtain ⟨ad, hv⟩ := hv
      exact ⟨_, w, Z, β, hrun a w ad hv, hR.view d s p _ hsd (hR.aliasAt het)⟩
    | addr s p =>
      simp only [het, head] at h
      obtain ⟨hsd, h⟩ := h
      have h' : ws = _ := h
      subst h'
      obtain ⟨q, k, b, rfl, hv, hb⟩ := hR.addrAt het
      refine ⟨_, w, Z, β, hrun a w _ hv, ?_⟩
      rw [hv]
      exact hR.addrPut d s q k b hsd hb
    | pbox l =>
      simp only [het, head] at h
      obtain ⟨_, h⟩ := h
      simp only [het] at h
      obtain ⟨_, h⟩ := h
      have h' : ws = _ := h
      subst h'
      have hp := ORep.toP (hR.slot' het (by simp)) rfl
      have hv : ∃ ad, vals a t = .pointer (some ad) := by
        generalize vals a t = v at hp
        cases hp; exact ⟨_, rfl⟩
      obtain ⟨ad, hv⟩ := hv
      exact ⟨_, w, Z, β, hrun a w ad hv, hR.put d hp (by simp)⟩
    | pcell u =>
      simp only [het, head] at h
      obtain ⟨_, h⟩ := h
      simp only [het] at h
      obtain ⟨_, h⟩ := h
      have h' : ws = _ := h
      subst h'
      have hp := ORep.toP (hR.slot' het (by simp)) rfl
      have hv : ∃ ad, vals a t = .pointer (some ad) := by
        generalize vals a t = v at hp
        cases hp; exact ⟨_, rfl⟩
      obtain ⟨ad, hv⟩ := hv
      exact ⟨_, w, Z, β, hrun a w ad hv, hR.put d hp (by simp)⟩
    | _ => simp only [het, head] at h; exact h.elim
  | _ => exact h.elim

/-! ### A slice that is not nil -/
/-- A list that is not empty is not nil. -/
noncomputable def rdNilEq (d : Nat) (x : Operand) : Rd := rdX x fun A => match A with
  | .sh l => .need (l ≠ []) (.ret [.set d (.bool false)])
  | _ => .fail

def isNilEq (op : BinOp) (y : Operand) : Bool := match op, y with
  | .eql, .const (.slice none 0 0) => true
  | _, _ => false

noncomputable def rdBin2 (P : Program) (op : BinOp) (T d : Nat) (x y : Operand) : Rd := if isNilEq op y && (slE P T).isSome then rdNilEq d x else rdBin P op T d x y

theorem equalIn_nil {P : Program} {w : World} {T E : Nat} {b : Addr} {n c : Nat} (d : Nat) (h : P.underlying T = some (.slice E)) : (Op.equalIn (d + 1) T (.slice (some b) n c) (.slice none 0 0)).run P w = .ok false w := by
  simp [Op.equalIn, run_underlying h]

theorem rdBin2_sound {P : Program} {κ : Con} {o : Oper} {e : Env} {ws : List Wr} {op : BinOp} {T yT d : Nat} {x y : Operand} (ho : o.op = .binOp op T x y yT) (hd : o.dst = some d) (hn : (κ.lim.1 ≤ d ∧ d < κ.lim.2)) (h : (rdBin2 P op T d x y).Wo e ws) : Does P κ o e ws := by
  unfold rdBin2 at h
  split at h
  · rename_i hc
    simp only [Bool.and_eq_true] at hc
    obtain ⟨h1, h2⟩ := hc
    unfold isNilEq at h1
    split at h1
    · obtain ⟨E, hE⟩ := slE_spec h2
      obtain ⟨A, h, -, hA⟩ := rdX_sound h
      cases A with
      | sh l =>
        obtain ⟨hl, h⟩ := h
        have h' : ws = _ := h
        subst h'
        refine does_value hd hn fun a w Z β hR => ⟨.bool false, w, Z, β, ?_, hR.put d (.bool false) (by simp)⟩
        have hx := hA hR rfl
        generalize hxe : a.eval x = vx at hx
        cases hx with
        | nil => exact absurd rfl hl
        | sh l b of c cs E' fz us hz g1 g2 hu g3 hk =>
          have hy : a.eval (.const (.slice none 0 0)) = .slice none 0 0 := rfl
          have hg : (eqGuard .eql T x (.const (.slice none 0 0)) (.slice (some ⟨b, of, none⟩) l.length c) (.slice none 0 0)).run P w = .ok () w := rfl
          have hq : (Go.binOp .eql T (.slice (some ⟨b, of, none⟩) l.length c) (.slice none 0 0)).run P w = .ok (.bool false) w := by
            have h5 := equalIn_nil (P := P) (w := w) (b := ⟨b, of, none⟩) (n := l.length) (c := c) 9999 hE
            simp only [Go.binOp, Op.equal]
            rw [Sem.run_bind]
            have h6 : (Op.equalIn Op.maxDepth T (.slice (some ⟨b, of, none⟩) l.length c) (.slice none 0 0)).run P w = .ok false w := h5
            rw [h6]
            rfl
          simp only [execOp, ho, hxe, hy]
          simp only [Sem.run_bind, hg, Result.andThen_ok, hq]
          rfl
      | _ => exact h.elim
    · cases h1
  · exact rdBin_sound ho hd hn h

/-! ### Rows cleared -/
noncomputable def rdClear (P : Program) (T : Nat) (x : Operand) : Rd := match x with
  | .tmp t => .need (slOK P T = true) (.get t fun v => match v with
    | .win s q k => .get s fun c => rdGetP c q fun X => match X with
      | .own l => .need (k < bigW) (.ret [.mod s q (.own (l.take k ++ List.replicate (l.length - k) .junk))])
      | _ => .fail
    | _ => .fail)
  | _ => .fail

theorem does_void {P : Program} {κ : Con} {o : Oper} {e : Env} {ws : List Wr} (hd : o.dst = none)
    (h : ∀ a w Z β, Rep κ Z β e (vals a) w → ∃ u w' Z' β', (execOp a.eval o).run P w = .ok (.value u) w' ∧ Rep κ Z' β' (apps ws e) (vals a) w') : Does P κ o e ws := by
  intro Q K a w ⟨h1, h2, Z, β, hR⟩ hK
  obtain ⟨u, w', Z', β', hrun, hR'⟩ := h a w Z β hR
  unfold Oper.wp
  rw [hrun, Oper.upon_value, hd]
  exact hK _ _ ⟨h1, h2, Z', β', hR'⟩

theorem zeroCells_one (z : Value) (n : Nat) : (Builtin.zeroCells #[z] n).toList = List.replicate n z := by
  refine List.ext_getElem (by simp [Builtin.zeroCells]) fun i h1 h2 => ?_
  simp [Builtin.zeroCells, Nat.mod_one]

theorem rdClear_sound {P : Program} {κ : Con} {o : Oper} {e : Env} {ws : List Wr} {T : Nat} {x : Operand} (ho : o.op = .call { callee := .builtin .clear, args := #[x], argTypes := #[T] }) (hd : o.dst = none) (h : (rdClear P T x).Wo e ws) : Does P κ o e ws := by
  cases x with
  | tmp t =>
    obtain ⟨hT, hj, h⟩ := h
    obtain ⟨E, i, z, hu, hi, hi1, _, hz0, hz1⟩ := slOK_spec hT
    cases het : e t with
    | win s q k =>
      simp only [het] at h
      obtain ⟨hsj, X, hg, h⟩ := h
      dsimp only at h
      split at h
      case h_2 => exact h.elim
      rename_i l
      obtain ⟨hkb, h⟩ := h
      have h' : ws = _ := h
      subst h'
      have hpl := plain_of_own hg rfl
      refine does_void hd fun a w Z β hR => ?_
      obtain ⟨u, hu', hv⟩ := hR.winAt het _ hg
      have hrun : ∀ v w', (Builtin.clear_ #[T] o.type #[v]).run P w = .ok (.tuple #[]) w' → vals a t = v → (execOp a.eval o).run P w = .ok (.value (.tuple #[])) w' := by
        intro v w' hc hv
        simp only [execOp, ho]
        simp [resolve, invoke, builtin, eval_tmp, hv]
        simp [hc]
      by_cases hk : k < l.length
      · obtain ⟨b, c, cs, E', us, hd2, hb, hz, g1, g2, g3, gu, g4, gk⟩ := hu'.win hk
        have hzc : z.cells = #[z] := cells_one hz1
        have hst := run_storeCells_at (P := P) b k E' (List.replicate (l.length - k) z) 0 cs w hz (by simp; omega) (fun v hv => by rw [List.eq_of_mem_replicate hv]; exact hz1)
        generalize hcs : (cs.toList.take (k + 0) ++ List.replicate (l.length - k) z ++ cs.toList.drop (k + 0 + (List.replicate (l.length - k) z).length)).toArray = cs' at hst
        have hsz : cs'.size = cs.size := by rw [← hcs]; simp; omega
        have hlow : ∀ j, j < k → cs'[j]? = cs[j]? := by
          intro j hj
          have h1 : j < cs.size := by omega
          rw [← hcs]
          simp only [List.getElem?_toArray, Nat.add_zero, List.append_assoc]
          rw [List.getElem?_append_left (by simp; omega), List.getElem?_take_of_lt hj]
          simp
        have hmid : ∀ j, k ≤ j → j < l.length → cs'[j]? = some z := by
          intro j hj hjl
          rw [← hcs]
          simp only [List.getElem?_toArray, Nat.add_zero, List.append_assoc]
          rw [List.getElem?_append_right (by simp; omega), List.getElem?_append_left (by simp; omega), List.getElem?_replicate]
          have : j - (List.take k cs.toList).length < l.length - k := by simp; omega
          rw [if_pos this]
        have hH := setRow_heap w b cs cs' E' (0, 0) hz
        have hO := fun b' (hb' : b' ≠ b) => setRow_other w b b' cs' hb'
        have hnew := hR.bo _ b hb
        refine ⟨_, w.setRow b cs', Z, β, hrun _ _ ?_ (hv.trans hd2), ?_⟩
        · have hne : l.length - k ≠ 0 := by omega
          obtain ⟨n, hn⟩ : ∃ n, l.length - k = n + 1 := ⟨l.length - k - 1, by omega⟩
          rw [hn] at hst ⊢
          simp [Builtin.clear_, run_underlying hu, zeroValue, typeInfo, hi, hz0, hzc, zeroCells_one, hst]
        · refine hR.mod (w' := w.setRow b cs') s q (.own l) (.own (l.take k ++ List.replicate (l.length - k) .junk)) hg hpl.2 (by simp) hpl.1 rfl rfl rfl (by simp) (fun b' hn' _ => hO b' fun e0 => hn' (e0 ▸ hnew.1)) (fun _ _ h => h) (fun _ _ h => .inl h) (fun b' o' ho' => ?_) (fun r b' _ _ hpre hb' => ⟨hb', hO b' fun e0 => ?_⟩) hR.inj (fun p b' hp => by simpa using hR.bo p b' hp) (fun v0 hv0 => ?_) (fun _ q' C hq' _ hC' => getP_own_up hg hq' rfl hC')
          · rw [hO b' fun e0 => by rw [e0, hnew.2.1] at ho'; cases ho']
            exact hR.zh b' o' ho'
          · subst e0
            have := hR.inj _ _ _ hb' hb
            exact hpre (this ▸ List.prefix_refl _)
          · cases hv0 with
            | pers h => cases h
            | nil => simp at hk
            | own l b2 c2 cs2 T2 us2 hb2 hz2 k1 k2 k3 ku k4 kk =>
              rw [hb] at hb2; injection hb2 with hb2; subst hb2
              rw [hz] at hz2; injection hz2 with hz2; injection hz2 with hz2 hz3; subst hz2
              have hln : (l.take k ++ List.replicate (l.length - k) AV.junk).length = l.length := by simp; omega
              have := ORep.own (Z := Z) (H := (w.setRow b cs').heap) (β := β) (p := s :: q) (l.take k ++ List.replicate (l.length - k) AV.junk) b c2 cs' E' (fun j => if j < k then us2 j else z) hb hH (by omega) (by omega) k3 (fun j hj => by
                  split
                  · rename_i hjk; rw [hlow j hjk]; exact ku j (by omega)
                  · exact hmid j (by omega) (by omega)) (fun j hj => by
                  split
                  · exact k4 j (by omega)
                  · exact hz1) (fun j hj => by
                  by_cases hjk : j < k
                  · rw [if_pos hjk, List.getElem_append_left (by simp; omega), List.getElem_take]
                    refine (kk j (by omega)).move (fun _ _ h => h) fun r b' hr => ⟨hr, hO b' fun e0 => ?_⟩
                    subst e0
                    have := hR.inj _ _ _ hr hb
                    simp at this
                  · rw [List.getElem_append_right (by simp; omega), List.getElem_replicate]
                    exact .pers (.junk _))
              rw [hln] at this
              exact this
      · have hdl : l.length - k = 0 := by omega
        have hsame : l.take k ++ List.replicate (l.length - k) AV.junk = l := by rw [hdl, List.replicate_zero, List.append_nil]; exact List.take_of_length_le (by omega)
        obtain ⟨A, c, hd2⟩ := hu'.winLen hkb
        rw [hdl] at hd2
        refine ⟨_, w, Z, β, hrun _ _ ?_ (hv.trans hd2), ?_⟩
        · cases A <;> simp [Builtin.clear_, run_underlying hu]
        · rw [hsame]
          exact hR.mod s q (.own l) (.own l) hg hpl.2 (by simp) hpl.1 rfl rfl rfl (Nat.le_refl _) (fun _ _ _ => rfl) (fun _ _ h => h) (fun _ _ h => .inl h) hR.zh (fun r b' _ _ _ hb' => ⟨hb', rfl⟩) hR.inj hR.bo (fun _ h => h) (fun _ q' C hq' _ hC' => getP_own_up hg hq' rfl hC')
    | _ => simp only [het] at h; exact h.elim
  | _ => exact h.elim

/-! ### What is shown by a window is appended to -/
noncomputable def rdSrcO (y : Operand) (k : List AV → Option Nat → Nat → Rd) : Rd := match y with
  | .tmp t => .get t fun v => match v with
    | .own l => k l (some t) t
    | .sh l => k l none t
    | _ => .fail
  | _ => .fail

noncomputable def rdApp2 (P : Program) (T T2 d : Nat) (x y : Operand) : Rd := match x with
  | .tmp t => .peek t fun h => match h with
    | .win s q j => .need (slOK P T = true ∧ slOK P T2 = true ∧ s ≠ t ∧ bigW ≤ j) (.get s fun c => rdGetP c q fun X => match X with
      | .own l => rdSrcO y fun m t2 t' => .need (j - bigW ≤ l.length ∧ t' ≠ t ∧ t' ≠ s ∧ (l.take (j - bigW)).length + m.length ≤ 1099511627776 ∧ t ≠ d ∧ t' ≠ d)
        (.ret ([.set t .junk, .mod s q .junk, .set t (.own (l.take (j - bigW)))] ++ (srcW (some t) ++ srcW t2 ++ [.set d (.own (l.take (j - bigW) ++ m))])))
      | _ => .fail)
    | _ => rdApp P T T2 d x y
  | _ => rdApp P T T2 d x y

theorem app_keep {x : Wr} {e : Env} {t : Nat} {A : AV} (h : e t = A) (hA : ∀ s p, A ≠ .alias s p ∧ A ≠ .valias s p ∧ A ≠ .addr s p ∧ ∀ k, A ≠ .win s p k) (ht : t ≠ (match x with | .set d _ => d | .mod s _ _ => s)) : x.app e t = A := by
  have hk : ∀ s p, killV s p A = A := fun s p => killV_same hA
  cases x with
  | set d v =>
    simp only [Wr.app]
    split
    · rw [upd_ne _ _ _ _ ht]; simp only [kill]; rw [h, hk]
    · rw [upd_ne _ _ _ _ ht]; exact h
  | mod s p v =>
    simp only [Wr.app]
    split
    · rw [upd_ne _ _ _ _ ht]; simp only [kill]; rw [h, hk]
    · rw [upd_ne _ _ _ _ ht]; exact h

theorem rdApp2_sound {P : Program} {κ : Con} {o : Oper} {e : Env} {ws : List Wr} {T T2 d : Nat} {x y : Operand} (ho : o.op = .call { callee := .builtin .append, args := #[x, y], argTypes := #[T, T2] }) (hd : o.dst = some d) (hn : (κ.lim.1 ≤ d ∧ d < κ.lim.2)) (h : (rdApp2 P T T2 d x y).Wo e ws) : Does P κ o e ws := by
  unfold rdApp2 at h
  cases x with
  | tmp t =>
    obtain ⟨hj, h⟩ := h
    cases het : e t with
    | win s q j =>
      simp only [het, head] at h
      obtain ⟨⟨hT, hT2, hst, hjb⟩, hsj, X, hg, h⟩ := h
      dsimp only at h
      split at h
      case h_2 => exact h.elim
      rename_i l
      have hpl := plain_of_own hg rfl
      cases y with
      | tmp t' =>
        obtain ⟨hj', h⟩ := h
        -- the slot holds the first parts, from now on
        have ghost : ∀ (a : Act) (w : World), j - bigW ≤ l.length → St κ e a w → St κ (apps [.set t .junk, .mod s q .junk, .set t (.own (l.take (j - bigW)))] e) a w := by
          intro a w hlj ⟨h1, h2, Z, β, hR⟩
          obtain ⟨u, hu, hv⟩ := hR.winAt het _ hg
          obtain ⟨β', hR1⟩ := hR.giveP hst hg hpl.2 (by simp) hsj hu
          obtain ⟨A, c, hu2, _, _, hR2⟩ := hR1.shorten (e := (Wr.mod s q .junk).app ((Wr.set t .junk).app e)) (j - bigW) hlj
          have : vals a t = .slice A (j - bigW) c := by rw [hv, hu2]; simp only [dropV]; rw [if_neg (by omega)]
          rw [← this, setV_self] at hR2
          exact ⟨h1, h2, Z, β', hR2⟩
        have fin : ∀ (m : List AV) (t2 : Option Nat), (t2 = none → e t' = .sh m) → (∀ z, t2 = some z → z = t' ∧ e t' = .own m) → j - bigW ≤ l.length → t' ≠ t → t' ≠ s → (l.take (j - bigW)).length + m.length ≤ 1099511627776 → t ≠ d → t' ≠ d →
            ws = [.set t .junk, .mod s q .junk, .set t (.own (l.take (j - bigW)))] ++ (srcW (some t) ++ srcW t2 ++ [.set d (.own (l.take (j - bigW) ++ m))]) → Does P κ o e ws := by
          intro m t2 hsh how hlj htt hts hlen htd htd' hws
          subst hws
          have hdoes : Does P κ o (apps [.set t .junk, .mod s q .junk, .set t (.own (l.take (j - bigW)))] e) (srcW (some t) ++ srcW t2 ++ [.set d (.own (l.take (j - bigW) ++ m))]) := by
            refine rdApp_sound (T := T) (T2 := T2) (x := .tmp t) (y := .tmp t') ho hd hn ?_
            have e1 : apps [.set t .junk, .mod s q .junk, .set t (.own (l.take (j - bigW)))] e t = .own (l.take (j - bigW)) := by
              simp only [apps, Wr.app]; split <;> simp [upd]
            have hk : ∀ A, (∀ s p, A ≠ .alias s p ∧ A ≠ .valias s p ∧ A ≠ .addr s p ∧ ∀ k, A ≠ .win s p k) → e t' = A → apps [.set t .junk, .mod s q .junk, .set t (.own (l.take (j - bigW)))] e t' = A := by
              intro A hA he
              simp only [apps]
              exact app_keep (app_keep (app_keep he hA htt) hA hts) hA htt
            refine ⟨⟨hT, hT2⟩, ?_⟩
            cases t2 with
            | none =>
              have e2 := hk _ (by simp) (hsh rfl)
              refine ⟨by rw [e2]; simp, ?_⟩
              simp only [e2]
              refine ⟨by rw [e1]; simp, ?_⟩
              simp only [e1]
              exact ⟨⟨.inr (by simp), hlen, by simpa using htd, by simp⟩, rfl⟩
            | some z =>
              obtain ⟨rfl, he⟩ := how z rfl
              have e2 := hk _ (by simp) he
              refine ⟨by rw [e2]; simp, ?_⟩
              simp only [e2]
              refine ⟨by rw [e1]; simp, ?_⟩
              simp only [e1]
              exact ⟨⟨.inr (by simpa using Ne.symm htt), hlen, by simpa using htd, by simpa using htd'⟩, rfl⟩
          intro Q K a w hs hK
          refine hdoes Q K a w (ghost a w hlj hs) fun a' w' hs' => hK a' w' ?_
          rw [apps_append]
          exact hs'
        cases het' : e t' with
        | own m =>
          simp only [het'] at h
          obtain ⟨⟨g1, g2, g3, g4, g5, g6⟩, h⟩ := h
          exact fin m (some t') (by simp) (fun z hz => by injection hz with hz; exact ⟨hz.symm, het'⟩) g1 g2 g3 g4 g5 g6 h
        | sh m =>
          simp only [het'] at h
          obtain ⟨⟨g1, g2, g3, g4, g5, g6⟩, h⟩ := h
          exact fin m none (fun _ => het') (by simp) g1 g2 g3 g4 g5 g6 h
        | _ => simp only [het'] at h; exact h.elim
      | _ => exact h.elim
    | _ => simp only [het, head] at h; exact rdApp_sound ho hd hn h
  | _ => exact rdApp_sound ho hd hn h

/-! ### Functions made -/
noncomputable def rdMakeFn (d g : Nat) (xs : List Operand) : Rd := rdArgs xs fun l fz => .need (slotsDistinct fz) (.ret (fzW (fz.getD []) ++ [.set d (.fn g l)]))

theorem rdMakeFn_sound {P : Program} {κ : Con} {o : Oper} {e : Env} {ws : List Wr} {d g : Nat} {xs : Array Operand} (ho : o.op = .makeFunc (.func g) #[] xs) (hd : o.dst = some d) (hn : (κ.lim.1 ≤ d ∧ d < κ.lim.2)) (h : (rdMakeFn d g xs.toList).Wo e ws) : Does P κ o e ws := by
  obtain ⟨l, fz, h, hargs⟩ := rdArgs_sound _ _ h
  obtain ⟨hsd, h⟩ := h
  have h' : ws = _ := h
  subst h'
  cases fz with
  | none => exact hsd.elim
  | some fz =>
    refine does_value hd hn fun a w Z β hR => ?_
    have hA := hargs hR
    obtain ⟨Z1, β1, hR1, hZ1, hb1⟩ := hR.freezes fz hsd hA.fz
    have hlen := hA.len
    have hp := ArgsOK.frozen hZ1 hA hb1
    refine ⟨.func (.func g) #[] (xs.map a.eval), w, Z1, β1, by simp [execOp, ho, Instr.makeFunc], ?_⟩
    rw [apps_append, Option.getD_some]
    refine hR1.put d (.fn g l _ (by simpa using hlen) fun k hk => ?_) (by simp)
    have hk' : k < (xs.toList.map a.eval).length := by omega
    have := hp k hk hk'
    simp only [List.length_map, Array.length_toList] at hk'
    simpa [hk'] using this

end Go.Proofs.Ytkibemgdncncoaa

/- All operations together; a row of operations in the text's order. No program in sight. -/
namespace Go.Proofs.Ytkibemgdncncoaa
set_option linter.unusedSimpArgs false
set_option linter.unusedVariables false
set_option maxRecDepth 8000
set_option maxHeartbeats 2000000
open Go Go.RowKit AV

/-- The parts of slot v become the parts of the box in slot t. -/
def mvB (v t : Nat) : List Nat → Option (List Nat)
  | [] => none
  | [x] => if x = v then none else some [x]
  | x :: k :: r => if x = t then some (v :: k :: r) else if x = v then none else some (x :: k :: r)

theorem mvB_inj (t d : Nat) : ∀ r1 r2 x, mvB t d r1 = some x → mvB t d r2 = some x → r1 = r2 := by
  intro r1 r2 x h1 h2
  rcases r1 with _ | ⟨a, _ | ⟨k, r1⟩⟩ <;> rcases r2 with _ | ⟨b, _ | ⟨j, r2⟩⟩ <;> simp only [mvB, reduceCtorEq] at h1 h2
  · split at h1 <;> split at h2 <;> simp_all
  · split at h1 <;> split at h2 <;> (try split at h2) <;> simp_all <;> subst h1 <;> simp_all
  · split at h1 <;> split at h2 <;> (try split at h1) <;> simp_all <;> subst h2 <;> simp_all
  · split at h1 <;> split at h2 <;> (try split at h1) <;> (try split at h2) <;> simp_all <;> subst h1 <;> simp_all

/-- A struct stored whole into a box. -/
noncomputable def rdStoreA (P : Program) (T : Nat) (addr x : Operand) : Rd := match addr with
  | .tmp t => .peek t fun h => match h with
    | .box _ => rdVal x fun A src => .get t fun c => match A, c with
      | .agg l', .box l => .need (l.length = l'.length ∧ szT P T = some l'.length ∧ allOne l' = true ∧ src ≠ some t) (.ret (srcW src ++ [.mod t [] (.box l')]))
      | _, _ => .fail
    | _ => .fail
  | _ => .fail

theorem rdStoreA_sound {P : Program} {κ : Con} {o : Oper} {e : Env} {ws : List Wr} {T : Nat} {addr x : Operand} (ho : o.op = .store T addr x) (hd : o.dst = none) (h : (rdStoreA P T addr x).Wo e ws) : Does P κ o e ws := by
  cases addr with
  | tmp t =>
    obtain ⟨hj, h⟩ := h
    cases het : e t with
    | box lb =>
      simp only [het, head] at h
      obtain ⟨A, src, ⟨_, hw⟩, hApl, hsrc, hval⟩ := rdVal_sound h
      dsimp only at hw
      split at hw
      case h_2 => exact hw.elim
      rename_i l' l hc
      obtain ⟨⟨hll, hT, hone, hst⟩, hw⟩ := hw
      have hw' : ws = _ := hw
      subst hw'
      refine does_skip hd fun a w Z β hR => ?_
      obtain ⟨hv1, hv2, hv3⟩ := hval hR
      have hone' : ∀ a ∈ l', one a = true := by simpa [allOne] using hone
      have hs0 := hR.slot' hc (by simp)
      generalize hvv : vals a t = vv at hs0
      cases hs0 with
      | pers h => cases h
      | box l b cs E hb hz h1 h4 hk =>
        -- what is stored
        have key : ∃ cs2 : Array Value, a.eval x = .agg cs2 ∧ cs2.size = l'.length ∧ ((src = none ∧ ∀ k (h : k < l'.length), PRep Z l'[k] (cs2.getD k undef)) ∨ ∃ v, src = some v ∧ ∀ k (h : k < l'.length), ORep Z w.heap β [v, k] l'[k] (cs2.getD k undef)) := by
          cases src with
          | none =>
            rcases hv3 rfl with hp | ⟨hA, _⟩
            · have := ORep.toP (hv2 rfl [0]) hp
              generalize a.eval x = vx at this
              cases this with
              | agg l cs g1 g2 => exact ⟨cs, rfl, g1, .inl ⟨rfl, g2⟩⟩
            · cases hA
          | some v =>
            have := hv1 v rfl
            generalize a.eval x = vx at this
            cases this with
            | pers h => cases h with | agg l cs g1 g2 => exact ⟨cs, rfl, g1, .inr ⟨v, rfl, fun k h => .pers (g2 k h)⟩⟩
            | agg l cs g1 g2 => exact ⟨cs, rfl, g1, .inr ⟨v, rfl, g2⟩⟩
        obtain ⟨cs2, hx, hcs2, hparts⟩ := key
        obtain ⟨i, hi, hi1⟩ := szT_spec hT
        have hone2 : ∀ u ∈ cs2.toList, u.oneCell' = true := by
          intro u hu
          obtain ⟨k, hk', rfl⟩ := List.getElem_of_mem hu
          have hkl : k < l'.length := by simpa [hcs2] using hk'
          have h5 : cs2.toList[k] = cs2.getD k undef := by simp [show k < cs2.size by omega]
          rw [h5]
          rcases hparts with ⟨_, g⟩ | ⟨v, _, g⟩
          · exact ORep.one (Z := Z) (H := w.heap) (β := β) (p := []) (.pers (g k hkl)) (hone' _ (List.getElem_mem hkl))
          · exact ORep.one (g k hkl) (hone' _ (List.getElem_mem hkl))
        have hst := run_storeCells_cells (P := P) b 0 cs2.toList 0 w (fun j hj => by
            rw [cell_of_row w b _ cs E (0, 0) hz]
            simp at hj ⊢; omega) (fun j hj => by simp [World.frozen?, hz]) hone2
        simp only [Nat.add_zero] at hst
        obtain ⟨cs', g1, g2, g3, g4, g5, g6, g7, g8, g9, g10⟩ := setCells_heap cs2.toList 0 w cs hz (by simp; omega)
        have hrun : (execOp a.eval o).run P w = .ok .skip (w.setCells b 0 cs2.toList) := by
          simp only [execOp, ho, eval_tmp, hvv, hx]
          simp [Instr.storeAt, Instr.sureAddr, storeVar, Value.cells, sizeOf, typeInfo, hi, hi1, hcs2, hst]
        have hck : ∀ k, k < l'.length → cs'.getD k undef = cs2.getD k undef := by
          intro k hk'
          have := g4 k (by simp; omega)
          simp only [Nat.zero_add] at this
          simp only [Array.getD_eq_getD_getElem?, this]
          simp
        have hbb := hR.bo _ _ hb
        have hpl : ∀ s' p', e t ≠ .alias s' p' ∧ e t ≠ .valias s' p' ∧ e t ≠ .addr s' p' ∧ ∀ k, e t ≠ .win s' p' k := by rw [hc]; simp
        have hzh : ∀ b' o, Z b' = some o → (w.setCells b 0 cs2.toList).heap[b']? = some o := fun b' o ho => by
          rw [g6 b' (by rintro rfl; rw [hbb.2.1] at ho; cases ho)]; exact hR.zh b' o ho
        have fin : ∀ (e1 : Env) (β' : List Nat → Option Nat), Rep κ Z β e1 (vals a) w → e1 t = .box l → (∀ r b', r ≠ [] → e1 (root r) ≠ .junk → ¬ [t] <+: r → β r = some b' → β' r = some b') → β' [t] = some b → (∀ p q b, β' p = some b → β' q = some b → p = q) → (∀ p b', β' p = some b' → ∃ q, β q = some b') →
            (∀ k (h : k < l'.length), ORep Z (w.setCells b 0 cs2.toList).heap β' [t, k] l'[k] (cs2.getD k undef)) → ∃ Z' β', Rep κ Z' β' ((Wr.mod t [] (.box l')).app e1) (vals a) (w.setCells b 0 cs2.toList) := by
          intro e1 β' hR1 he1 hβ hβt hinj hsub hk'
          refine ⟨Z, β', hR1.mod t [] (.box l) (.box l') (by rw [he1]; rfl) (by rw [he1]; simp) (by simp) (by rw [he1]; simp) g8 g9 g10 (by rw [g7]; exact Nat.le_refl _) (fun b' hn _ => g6 b' (by rintro rfl; exact hn hbb.1)) (fun _ _ h => h) (fun _ _ h => .inl h) hzh
            (fun r b' hr hj hn hb' => ⟨hβ r b' hr hj hn hb', g6 b' (by rintro rfl; exact hn (by rw [hR1.inj _ _ _ hb' hb]; exact List.prefix_refl _))⟩) hinj (fun p b' hp => by obtain ⟨q, hq⟩ := hsub p b' hp; have := hR1.bo q b' hq; rw [g7]; exact this) (fun u hu => ?_) (by intro _ q C hq hne; simp at hq; exact absurd hq hne)⟩
          generalize hB : AV.box l = B at hu
          cases hu with
          | pers h => subst hB; cases h
          | box l2 b2 cs3 E3 hb2 hz2 h12 h42 hk2 =>
            have : b2 = b := by rw [hb] at hb2; injection hb2 with h; exact h.symm
            subst this
            refine .box l' b2 cs' E hβt g1 (by rw [g2]; omega) (fun k hk3 => ?_) (fun k hk3 => by rw [hck k hk3]; exact hk' k hk3)
            rw [hck k hk3]
            have : cs2.getD k undef ∈ cs2.toList := by
              have hk4 : k < cs2.size := by omega
              simp [hk4]
            exact hone2 _ this
          | _ => cases hB
        rcases hparts with ⟨hsn, hp⟩ | ⟨v, hsv, hp⟩
        · subst hsn
          obtain ⟨Z', β', hR'⟩ := fin e β hR hc (fun _ _ _ _ _ h => h) hb hR.inj (fun p b' h => ⟨p, h⟩) (fun k hk' => .pers (hp k hk'))
          exact ⟨_, Z', β', hrun, hR'⟩
        · subst hsv
          have hvt : v ≠ t := by rintro rfl; exact hst rfl
          have e1 : (Wr.set v AV.junk).app e t = .box l := by simp [Wr.app, isOwn, upd, Ne.symm hvt, hc]
          obtain ⟨Z', β', hR'⟩ := fin _ (viaF (mvB v t) β) (hR.drop v) e1 (fun r b' hr hj hn hb' => by
              rcases r with _ | ⟨y, _ | ⟨k, r⟩⟩
              · exact absurd rfl hr
              · have hyv : ¬ y = v := by rintro rfl; exact hj (by simp [root, Wr.app, isOwn, upd])
                simpa [viaF, mvB, hyv] using hb'
              · have hyv : ¬ y = v := by rintro rfl; exact hj (by simp [root, Wr.app, isOwn, upd])
                have hyt : ¬ y = t := by rintro rfl; exact hn (by simp)
                simpa [viaF, mvB, hyv, hyt] using hb') (by simpa [viaF, mvB, Ne.symm hvt] using hb) (viaF_inj (mvB_inj v t) hR.inj) (fun p b' hp' => viaF_bo (Q := fun b => ∃ q, β q = some b) (fun p b hp => ⟨p, hp⟩) p b' hp')
              (fun k hk' => (hp k hk').move (fun _ _ h => h) fun r b' hr => ⟨by simpa [viaF, mvB] using hr, g6 b' (by
                rintro rfl
                have := hR.inj _ _ _ hr hb
                simp at this)⟩)
          exact ⟨_, Z', β', hrun, hR'⟩
    | _ => simp only [het, head] at h; exact h.elim
  | _ => exact h.elim

/-! ### All operations -/

def opT : Operand → List Nat
  | .tmp t => [t]
  | _ => []
def opTs : List (Nat × Operand) → List Nat
  | [] => []
  | p :: ps => opT p.2 ++ opTs ps
/-- The slots that an operation takes from. -/
def takesOf (o : Oper) : List Nat := match o.op with
  | .call c => (match c.callee with
    | .builtin .append => (match c.args.toList with
      | x :: _ => opT x
      | _ => [])
    | _ => [])
  | .buildSlice _ _ ps => opTs ps.toList
  | .build _ ps => opTs ps.toList
  | .store _ _ v => opT v
  | .assign x => opT x
  | .box _ x => opT x
  | _ => []
/-- The slots of a region that are taken from. -/
def takenL : List Oper → List Nat
  | [] => []
  | o :: l => takesOf o ++ takenL l

noncomputable def rdO (P : Program) (Γ : Ctx) (tl : List Nat) (o : Oper) : Rd := match o.dst with
  | some d => match o.op with
    | .move x => rdMv (tl.contains d) d x
    | .assign x => rdMv true d x
    | .pick c x y => rdPick d c x y
    | .alloc T => rdAlloc P T d
    | .box _ x => rdBox d x
    | .build T ps => rdBuild P T d ps.toList
    | .buildSlice T n ps => rdBuildS P T d n ps.toList
    | .load T x => rdLoad P (tl.contains d) T d x
    | .binOp op T x y _ => rdBin2 P op T d x y
    | .nilCheck x => rdNil d x
    | .unOp op _ x => rdUn op d x
    | .convert S T x => rdConv P S T d x
    | .makeSlice T x y => rdMakeS P T d x y
    | .slice T x lo hi none => rdSlice P T d x lo hi
    | .fieldAddr T x f => rdField P T d x f
    | .field T x f => rdFieldV P T d x f
    | .indexAddr T x i => rdIndex P T d x i
    | .extract x i => rdExtract d x i
    | .makeFunc fnc first caps => (match fnc, first.toList with
      | .func g, [] => rdMakeFn d g caps.toList
      | _, _ => .fail)
    | .call c => (match c.callee with
      | .builtin .len => (match c.args.toList, c.argTypes.toList with
        | [x], [T] => rdLen P T d x
        | _, _ => .fail)
      | .builtin .append => (match c.args.toList, c.argTypes.toList with
        | [x, y], [T, T2] => rdApp2 P T T2 d x y
        | _, _ => .fail)
      | .value g => rdCallY Γ d g c.args.toList
      | _ => .fail)
    | _ => .fail
  | none => match o.op with
    | .store T a x => (match aggT P T with
      | some true => rdStoreA P T a x
      | some false => rdStore P T a x
      | none => .fail)
    | .call c => (match c.callee with
      | .builtin .clear => (match c.args.toList, c.argTypes.toList with
        | [x], [T] => rdClear P T x
        | _, _ => .fail)
      | _ => .fail)
    | _ => .fail

section
variable {P : Program} {κ : Con} {Γ : Ctx} (hΓ : ∀ f c, Γ f = some c → CtrOK P f c)
include hΓ

theorem rdO_sound {tl : List Nat} {o : Oper} {e : Env} {ws : List Wr} (hn : ∀ d, o.dst = some d → (κ.lim.1 ≤ d ∧ d < κ.lim.2)) (h : (rdO P Γ tl o).Wo e ws) : Does P κ o e ws := by
  unfold rdO at h
  cases hd : o.dst with
  | some d =>
    simp only [hd] at h
    have hn := hn d hd
    split at h
    · rename_i ho; exact rdMv_sound (.inl ho) hd hn h
    · rename_i ho; exact rdMv_sound (.inr ho) hd hn h
    · rename_i ho; exact rdPick_sound ho hd hn h
    · rename_i ho; exact rdAlloc_sound ho hd hn h
    · rename_i ho; exact rdBox_sound ho hd hn h
    · rename_i ho; exact rdBuild_sound ho hd hn h
    · rename_i ho; exact rdBuildS_sound ho hd hn h
    · rename_i ho; exact rdLoad_sound ho hd hn h
    · rename_i ho; exact rdBin2_sound ho hd hn h
    · rename_i ho; exact rdNil_sound ho hd hn h
    · rename_i ho; exact rdUn_sound ho hd hn h
    · rename_i ho; exact rdConv_sound ho hd hn h
    · rename_i ho; exact rdMakeS_sound ho hd hn h
    · rename_i ho; exact rdSlice_sound ho hd hn h
    · rename_i ho; exact rdField_sound ho hd hn h
    · rename_i ho; exact rdFieldV_sound ho hd hn h
    · rename_i ho; exact rdIndex_sound ho hd hn h
    · rename_i ho; exact rdExtract_sound ho hd hn h
    · rename_i fnc first caps ho
      split at h
      · rename_i g hf
        have e1 : first = #[] := by rw [← Array.toArray_toList (xs := first), hf]
        subst e1
        exact rdMakeFn_sound ho hd hn h
      · exact h.elim
    · rename_i c ho
      obtain ⟨callee, args, ats⟩ := c
      simp only at h
      split at h
      · split at h
        · rename_i x T hx hT
          have e1 : args = #[x] := by rw [← Array.toArray_toList (xs := args), hx]
          have e2 : ats = #[T] := by rw [← Array.toArray_toList (xs := ats), hT]
          subst e1 e2
          exact rdLen_sound ho hd hn h
        · exact h.elim
      · split at h
        · rename_i x y T T2 hx hT
          have e1 : args = #[x, y] := by rw [← Array.toArray_toList (xs := args), hx]
          have e2 : ats = #[T, T2] := by rw [← Array.toArray_toList (xs := ats), hT]
          subst e1 e2
          exact rdApp2_sound ho hd hn h
        · exact h.elim
      · exact rdCallY_sound hΓ ho hd hn h
      · exact h.elim
    · exact h.elim
  | none =>
    simp only [hd] at h
    split at h
    · rename_i T a x ho
      cases hT : aggT P T with
      | none => simp only [hT] at h; exact h.elim
      | some b =>
        cases b with
        | true => simp only [hT] at h; exact rdStoreA_sound ho hd h
        | false => simp only [hT] at h; exact rdStore_sound ho hd h
    · rename_i c ho
      obtain ⟨callee, args, ats⟩ := c
      simp only at h
      split at h
      · split at h
        · rename_i x T hx hT
          have e1 : args = #[x] := by rw [← Array.toArray_toList (xs := args), hx]
          have e2 : ats = #[T] := by rw [← Array.toArray_toList (xs := ats), hT]
          subst e1 e2
          exact rdClear_sound ho hd h
        · exact h.elim
      · exact h.elim
    · exact h.elim

/-- An operation that is left out writes this. -/
noncomputable def rdSkip (o : Oper) : Rd := match o.dst with
  | some d => .ret [.set d (.tup [])]
  | none => .ret []

noncomputable def rdG (P : Program) (Γ : Ctx) (tl : List Nat) (ops : Array Oper) (o : Oper) : Rd := match o.guard with
  | none => rdO P Γ tl o
  | some (g, want) => match (ops[g]?).bind (·.dst) with
    | some t => .get t fun v => match v with
      | .bool b => .br (b = want) (rdO P Γ tl o) (rdSkip o)
      | .tup [] => rdSkip o
      | _ => .fail
    | none => .fail

/-- A step: the operation is carried out, or left out. -/
def Steps1 (P : Program) (κ : Con) (ops : Array Oper) (o : Oper) (e : Env) (ws : List Wr) : Prop :=
  ∀ (Q : Exit → Act → World → Prop) (K : Act → World → Prop) (a : Act) (w : World), St κ e a w → (∀ a' w', St κ (apps ws e) a' w' → K a' w') →
    if Region.wanted o (yielded ops a.tmps) then o.wp P a w K Q ∨ (o.asks P a w ∧ LetsOut Q) else K (a.put o.dst undef) w

omit hΓ in
theorem skip_sound {o : Oper} {e : Env} {ws : List Wr} (hn : ∀ d, o.dst = some d → (κ.lim.1 ≤ d ∧ d < κ.lim.2)) (h : (rdSkip o).Wo e ws) {a : Act} {w : World} (hs : St κ e a w) : St κ (apps ws e) (a.put o.dst undef) w := by
  obtain ⟨h1, h2, Z, β, hR⟩ := hs
  unfold rdSkip at h
  cases hd : o.dst with
  | none =>
    simp only [hd] at h
    have h' : ws = _ := h
    subst h'
    exact ⟨h1, h2, Z, β, hR⟩
  | some d =>
    simp only [hd] at h
    have h' : ws = _ := h
    subst h'
    refine ⟨h1, keep_put (hn d hd) h2, Z, β, ?_⟩
    rw [vals_put (show d < a.tmps.size by rw [h2.1]; exact (hn d hd).2)]
    exact hR.put d (.tup [] #[] rfl (by simp)) (by simp)

theorem rdG_sound {tl : List Nat} {ops : Array Oper} {o : Oper} {e : Env} {ws : List Wr} (hn : ∀ d, o.dst = some d → (κ.lim.1 ≤ d ∧ d < κ.lim.2)) (h : (rdG P Γ tl ops o).Wo e ws) : Steps1 P κ ops o e ws := by
  intro Q K a w hs hK
  unfold rdG at h
  cases hg : o.guard with
  | none =>
    simp only [hg] at h
    have hw : Region.wanted o (yielded ops a.tmps) = true := by simp [Region.wanted, hg]
    rw [if_pos hw]
    exact .inl (rdO_sound hΓ hn h Q K a w hs hK)
  | some gw =>
    obtain ⟨g, want⟩ := gw
    simp only [hg] at h
    cases ht : (ops[g]?).bind (·.dst) with
    | none => simp only [ht] at h; exact h.elim
    | some t =>
      simp only [ht] at h
      obtain ⟨hj, h⟩ := h
      obtain ⟨h1, h2, Z, β, hR⟩ := hs
      dsimp only at h
      split at h
      · rename_i b het
        have hv := ORep.toP (hR.slot' het (by simp)) rfl
        generalize hvv : vals a t = vv at hv
        cases hv
        have hat : a.tmps[t]? = some (.bool b) := by
          simp only [vals, Array.getD_eq_getD_getElem?] at hvv
          cases hh : a.tmps[t]? with
          | none => rw [hh] at hvv; cases hvv
          | some x => rw [hh] at hvv; simp at hvv; rw [hvv]
        have hy : yielded ops a.tmps g = some b := by simp [yielded, ht, hat]
        rcases h with ⟨hb, h⟩ | ⟨hb, h⟩
        · subst hb
          rw [if_pos (by simp [Region.wanted, hg, hy])]
          exact .inl (rdO_sound hΓ hn h Q K a w ⟨h1, h2, Z, β, hR⟩ hK)
        · rw [if_neg (by simp [Region.wanted, hg, hy, hb])]
          exact hK _ _ (skip_sound hn h ⟨h1, h2, Z, β, hR⟩)
      · rename_i het
        have hv := ORep.toP (hR.slot' het (by simp)) rfl
        generalize hvv : vals a t = vv at hv
        have hy : yielded ops a.tmps g = none := by
          cases hv with
          | tup l cs hcs hk =>
            simp only [vals, Array.getD_eq_getD_getElem?] at hvv
            simp only [yielded, ht, Option.bind_some]
            cases hh : a.tmps[t]? with
            | none => rfl
            | some x => rw [hh] at hvv; simp at hvv; rw [hvv]
        rw [if_neg (by simp [Region.wanted, hg, hy])]
        exact hK _ _ (skip_sound hn h ⟨h1, h2, Z, β, hR⟩)
      · exact h.elim
end

/-! ### Rows of operations -/

/-- What is asked of the environment for K of what is written. -/
def Rd.W (e : Env) : Rd → (List Wr → Prop) → Prop
  | .ret ws, K => K ws
  | .fail, _ => False
  | .get t k, K => e t ≠ .junk ∧ Rd.W e (k (e t)) K
  | .peek t k, K => e t ≠ .junk ∧ Rd.W e (k (head (e t))) K
  | .need c k, K => c ∧ Rd.W e k K
  | .ex _ k, K => ∃ x, Rd.W e (k x) K
  | .br c x y, K => (c → Rd.W e x K) ∧ (¬ c → Rd.W e y K)

theorem Rd.W.wo {e : Env} : ∀ {r : Rd} {K : List Wr → Prop}, r.W e K → ∃ ws, r.Wo e ws ∧ K ws
  | .ret ws, _, h => ⟨ws, rfl, h⟩
  | .fail, _, h => h.elim
  | .get _ _, _, ⟨h1, h2⟩ => let ⟨ws, h3, h4⟩ := h2.wo; ⟨ws, ⟨h1, h3⟩, h4⟩
  | .peek _ _, _, ⟨h1, h2⟩ => let ⟨ws, h3, h4⟩ := h2.wo; ⟨ws, ⟨h1, h3⟩, h4⟩
  | .need _ _, _, ⟨h1, h2⟩ => let ⟨ws, h3, h4⟩ := h2.wo; ⟨ws, ⟨h1, h3⟩, h4⟩
  | .ex _ _, _, ⟨x, h⟩ => let ⟨ws, h3, h4⟩ := h.wo; ⟨ws, ⟨x, h3⟩, h4⟩
  | .br c x y, K, ⟨h1, h2⟩ => by
    by_cases hc : c
    · obtain ⟨ws, h3, h4⟩ := (h1 hc).wo; exact ⟨ws, .inl ⟨hc, h3⟩, h4⟩
    · obtain ⟨ws, h3, h4⟩ := (h2 hc).wo; exact ⟨ws, .inr ⟨hc, h3⟩, h4⟩

def wpOpsA (P : Program) (Γ : Ctx) (tl : List Nat) (ops : Array Oper) : List Oper → Env → (Env → Prop) → Prop
  | [], e, K => K e
  | o :: rest, e, K => (rdG P Γ tl ops o).W e fun ws => wpOpsA P Γ tl ops rest (apps ws e) K

/-- Every slot that is written is there. -/
def dstOK (lim : Nat × Nat) (ops : List Oper) : Bool := ops.all fun o => match o.dst with
  | some d => decide (lim.1 ≤ d ∧ d < lim.2)
  | none => true

theorem dstOK_spec {lim : Nat × Nat} {ops : List Oper} (h : dstOK lim ops = true) {o : Oper} (ho : o ∈ ops) : ∀ d, o.dst = some d → (lim.1 ≤ d ∧ d < lim.2) := by
  intro d hd
  have := List.all_eq_true.1 h o ho
  simpa [hd] using this

theorem wpOpsA_sound {P : Program} {κ : Con} {Γ : Ctx} (hΓ : ∀ f c, Γ f = some c → CtrOK P f c) {tl : List Nat} {ops : Array Oper} {Q : Exit → Act → World → Prop} {K : Env → Prop} (hK : ∀ e a w, K e → St κ e a w → Q .normal a w) :
    ∀ (l : List Oper) (e : Env) (a : Act) (w : World), dstOK κ.lim l = true → wpOpsA P Γ tl ops l e K → St κ e a w → wpList P ops Q l a w
  | [], e, a, w, _, h, hs => hK e a w h hs
  | o :: rest, e, a, w, hd, h, hs => by
    obtain ⟨ws, hw, h⟩ := Rd.W.wo h
    have hn := dstOK_spec hd (List.mem_cons_self ..)
    have hd' : dstOK κ.lim rest = true := by simp only [dstOK, List.all_cons, Bool.and_eq_true] at hd; exact hd.2
    have := rdG_sound hΓ hn hw Q (wpList P ops Q rest) a w hs fun a' w' hs' => wpOpsA_sound hΓ hK rest _ a' w' hd' h hs'
    unfold wpList
    exact this

end Go.Proofs.Ytkibemgdncncoaa

/- A region that draws its order: one walk in the text's order serves every order, if what the operations touch is apart. No program in sight. -/
namespace Go.Proofs.Ytkibemgdncncoaa
set_option linter.unusedSimpArgs false
set_option linter.unusedVariables false
set_option maxRecDepth 8000
set_option maxHeartbeats 2000000
open Go Go.RowKit AV

theorem head_junk {A : AV} : head A = .junk ↔ A = .junk := by cases A <;> simp [head]
theorem tg_head (A : AV) : tg (head A) = tg A := by cases A <;> rfl

/-- What is read of two environments is alike: so is what is done. -/
theorem Rd.Ok.local {e e' : Env} : ∀ {r : Rd} {f : Fp}, r.Ok e f → (∀ t ∈ f.gets, e' t = e t) → (∀ t ∈ f.peeks, head (e' t) = head (e t)) → r.Ok e' f
  | .ret _, _, h, _, _ => h
  | .fail, _, h, _, _ => h
  | .get t k, f, ⟨h1, f', h2, h3⟩, hg, hp => by
    subst h3
    have := hg t (by simp)
    refine ⟨by rw [this]; exact h1, f', ?_, by rw [this]⟩
    rw [this]
    exact h2.local (fun s hs => hg s (by simp [hs])) (fun s hs => hp s hs)
  | .peek t k, f, ⟨h1, f', h2, h3⟩, hg, hp => by
    subst h3
    have := hp t (by simp)
    have htg : tg (e' t) = tg (e t) := by rw [← tg_head (e' t), this, tg_head]
    refine ⟨fun hj => h1 (head_junk.1 (by rw [← this]; exact head_junk.2 hj)), f', ?_, by rw [htg]⟩
    rw [this]
    exact h2.local (fun s hs => hg s hs) (fun s hs => hp s (by simp [hs]))
  | .need c k, f, ⟨h1, h2⟩, hg, hp => ⟨h1, h2.local hg hp⟩
  | .ex α k, f, ⟨x, h⟩, hg, hp => ⟨x, h.local hg hp⟩
  | .br c x y, f, .inl ⟨h1, h2⟩, hg, hp => .inl ⟨h1, h2.local hg hp⟩
  | .br c x y, f, .inr ⟨h1, h2⟩, hg, hp => .inr ⟨h1, h2.local hg hp⟩

theorem Rd.Ok.gets {e : Env} : ∀ {r : Rd} {f : Fp}, r.Ok e f → (∀ t ∈ f.gets, e t ≠ .junk ∧ ∀ s ∈ tg (e t), s ∈ f.tgs) ∧ (∀ t ∈ f.peeks, e t ≠ .junk ∧ ∀ s ∈ tg (e t), s ∈ f.tgs)
  | .ret _, _, h => by cases h; simp
  | .fail, _, h => h.elim
  | .get t k, f, ⟨h1, f', h2, h3⟩ => by
    subst h3
    have := h2.gets
    refine ⟨fun s hs => ?_, fun s hs => ⟨(this.2 s hs).1, fun x hx => by simp [(this.2 s hs).2 x hx]⟩⟩
    rcases List.mem_cons.1 hs with rfl | hs
    · exact ⟨h1, fun x hx => by simp [hx]⟩
    · exact ⟨(this.1 s hs).1, fun x hx => by simp [(this.1 s hs).2 x hx]⟩
  | .peek t k, f, ⟨h1, f', h2, h3⟩ => by
    subst h3
    have := h2.gets
    refine ⟨fun s hs => ⟨(this.1 s hs).1, fun x hx => by simp [(this.1 s hs).2 x hx]⟩, fun s hs => ?_⟩
    rcases List.mem_cons.1 hs with rfl | hs
    · exact ⟨h1, fun x hx => by simp [hx]⟩
    · exact ⟨(this.2 s hs).1, fun x hx => by simp [(this.2 s hs).2 x hx]⟩
  | .need c k, f, ⟨_, h2⟩ => h2.gets
  | .ex α k, f, ⟨x, h⟩ => h.gets
  | .br c x y, f, .inl ⟨_, h2⟩ => h2.gets
  | .br c x y, f, .inr ⟨_, h2⟩ => h2.gets

namespace Wr
def slot : Wr → Nat
  | .set d _ => d
  | .mod s _ _ => s
def val : Wr → AV
  | .set _ v => v
  | .mod _ _ v => v
/-- The slot whose kind it turns. -/
def hslot : Wr → List Nat
  | .set d _ => [d]
  | .mod s p _ => if p = [] then [s] else []
/-- The slot whose views it ends. -/
def kills (x : Wr) : List Nat := if isOwn x.val then [x.slot] else []
def path : Wr → List Nat
  | .set _ _ => []
  | .mod _ p _ => p
/-- What the slot becomes. -/
def cell : Wr → AV → AV
  | .set _ v, _ => v
  | .mod _ p v, A => setP A p v
def killer (x : Wr) (A : AV) : AV := if isOwn x.val then killV x.slot x.path A else A

theorem app_slot (x : Wr) (e : Env) : x.app e x.slot = x.cell (e x.slot) := by
  cases x <;> simp only [app, slot, cell] <;> split <;> simp [upd]
theorem app_other (x : Wr) (e : Env) {t : Nat} (h : t ≠ x.slot) : x.app e t = x.killer (e t) := by
  cases x with
  | set d v => simp only [slot] at h; simp only [app, killer, val, slot, path]; by_cases hv : isOwn v = true <;> simp [hv, upd, kill, h]
  | mod s p v => simp only [slot] at h; simp only [app, killer, val, slot, path]; by_cases hv : isOwn v = true <;> simp [hv, upd, kill, h]
end Wr

theorem killV_cases (s : Nat) (p : List Nat) (A : AV) : killV s p A = A ∨ (killV s p A = .junk ∧ s ∈ tg A) := by
  cases A <;> simp only [killV, true_or]
  all_goals (split <;> simp_all [tg])

theorem killer_cases (x : Wr) (A : AV) : x.killer A = A ∨ (x.killer A = .junk ∧ ∃ s ∈ x.kills, s ∈ tg A) := by
  unfold Wr.killer Wr.kills
  split
  · rcases killV_cases x.slot x.path A with h | h
    · exact .inl h
    · exact .inr ⟨h.1, _, by simp, h.2⟩
  · exact .inl rfl

theorem killer_junk (x : Wr) : x.killer .junk = .junk := by unfold Wr.killer; split <;> rfl

theorem killV_comm (s s' : Nat) (p p' : List Nat) (A : AV) : killV s p (killV s' p' A) = killV s' p' (killV s p A) := by
  rcases killV_cases s p A with h1 | ⟨h1, _⟩ <;> rcases killV_cases s' p' A with h2 | ⟨h2, _⟩ <;> rw [h1, h2] <;> first | exact h1 | exact h2.symm | rfl | (rw [h1]; rfl)

theorem killer_comm (x y : Wr) (A : AV) : x.killer (y.killer A) = y.killer (x.killer A) := by
  unfold Wr.killer
  split <;> split <;> first | rfl | exact killV_comm _ _ _ _ _

theorem killer_head (x : Wr) {A : AV} {k : Nat} {p : List Nat} {v : AV} : x.killer (setP A (k :: p) v) = setP (x.killer A) (k :: p) v := by
  unfold Wr.killer
  split
  · cases A <;> simp only [setP, kids, withKids, killV]
    all_goals (split <;> simp [setP, kids])
  · rfl

/-- Two writes to different slots, neither of which ends a view that the other writes. -/
theorem Wr.comm {x y : Wr} (h1 : x.slot ≠ y.slot) (h2 : ∀ s ∈ x.kills, s ∉ tg y.val) (h3 : ∀ s ∈ y.kills, s ∉ tg x.val) (e : Env) : x.app (y.app e) = y.app (x.app e) := by
  have cellK : ∀ (x y : Wr) (A : AV), (∀ s ∈ y.kills, s ∉ tg x.val) → x.cell (y.killer A) = y.killer (x.cell A) := by
    intro x y A h
    have hv : y.killer x.val = x.val := by
      rcases killer_cases y x.val with h' | ⟨_, s, hs, ht⟩
      · exact h'
      · exact absurd ht (h s hs)
    cases x with
    | set d v => exact hv.symm
    | mod s p v =>
      cases p with
      | nil => simp only [Wr.cell, setP]; exact hv.symm
      | cons k p => simp only [Wr.cell]; exact killer_head y |>.symm
  funext t
  by_cases hx : t = x.slot
  · subst hx
    rw [Wr.app_slot, Wr.app_other y _ h1, Wr.app_other y _ h1, Wr.app_slot]
    exact cellK x y _ h3
  · by_cases hy : t = y.slot
    · subst hy
      rw [Wr.app_other x _ hx, Wr.app_slot, Wr.app_slot, Wr.app_other x _ hx]
      exact (cellK y x _ h2).symm
    · rw [Wr.app_other x _ hx, Wr.app_other y _ hy, Wr.app_other y _ hy, Wr.app_other x _ hx]
      exact killer_comm x y _

def slotsW (ws : List Wr) : List Nat := ws.map Wr.slot
def hslotsW (ws : List Wr) : List Nat := ws.flatMap Wr.hslot
def killsW (ws : List Wr) : List Nat := ws.flatMap Wr.kills
def tgsW (ws : List Wr) : List Nat := ws.flatMap fun x => tg x.val

def disj (a b : List Nat) : Bool := a.all fun x => !b.contains x
theorem disj_spec {a b : List Nat} (h : disj a b = true) : ∀ x ∈ a, x ∉ b := by
  intro x hx hb
  have := List.all_eq_true.1 h x hx
  simp at this
  exact this hb

theorem apps_comm {a b : List Wr} (h1 : ∀ x ∈ slotsW a, x ∉ slotsW b) (h2 : ∀ s ∈ killsW a, s ∉ tgsW b) (h3 : ∀ s ∈ killsW b, s ∉ tgsW a) (e : Env) : apps a (apps b e) = apps b (apps a e) := by
  have one : ∀ (x : Wr) (b : List Wr), (x.slot ∉ slotsW b) → (∀ s ∈ x.kills, s ∉ tgsW b) → (∀ s ∈ killsW b, s ∉ tg x.val) → ∀ e, x.app (apps b e) = apps b (x.app e) := by
    intro x b
    induction b with
    | nil => intro _ _ _ e; rfl
    | cons y b ih =>
      intro g1 g2 g3 e
      simp only [slotsW, List.map_cons, List.mem_cons, not_or] at g1
      have c : x.app (y.app e) = y.app (x.app e) := Wr.comm g1.1 (fun s hs ht => g2 s hs (by simp [tgsW, ht])) (fun s hs => g3 s (by simp [killsW, hs])) e
      simp only [apps]
      rw [ih g1.2 (fun s hs ht => g2 s hs (by simp only [tgsW, List.flatMap_cons, List.mem_append]; exact .inr ht)) (fun s hs => g3 s (by simp only [killsW, List.flatMap_cons, List.mem_append]; exact .inr hs)), c]
  induction a generalizing e with
  | nil => rfl
  | cons x a ih =>
    simp only [apps]
    rw [one x b (h1 x.slot (by simp [slotsW])) (fun s hs => h2 s (by simp [killsW, hs])) (fun s hs ht => h3 s hs (by simp [tgsW, ht])) e]
    exact ih (fun y hy => h1 y (by simp only [slotsW, List.map_cons, List.mem_cons]; exact .inr hy)) (fun s hs => h2 s (by simp only [killsW, List.flatMap_cons, List.mem_append]; exact .inr hs)) (fun s hs ht => h3 s hs (by simp only [tgsW, List.flatMap_cons, List.mem_append]; exact .inr ht)) _

/-- Behind writes, a slot that they do not fill is as it was, or a view that has ended. -/
theorem apps_other : ∀ (ws : List Wr) (e : Env) {t : Nat}, t ∉ slotsW ws → apps ws e t = e t ∨ (apps ws e t = .junk ∧ ∃ s ∈ killsW ws, s ∈ tg (e t))
  | [], _, _, _ => .inl rfl
  | x :: ws, e, t, h => by
    simp only [slotsW, List.map_cons, List.mem_cons, not_or] at h
    have h1 := Wr.app_other x e h.1
    rcases apps_other ws (x.app e) h.2 with h2 | ⟨h2, s, hs, ht⟩
    · rcases killer_cases x (e t) with h3 | ⟨h3, s, hs, ht⟩
      · exact .inl (by simp only [apps]; rw [h2, h1, h3])
      · exact .inr ⟨by simp only [apps]; rw [h2, h1, h3], s, by simp only [killsW, List.flatMap_cons, List.mem_append]; exact .inl hs, ht⟩
    · refine .inr ⟨h2, s, by simp only [killsW, List.flatMap_cons, List.mem_append]; exact .inr hs, ?_⟩
      rw [h1] at ht
      rcases killer_cases x (e t) with h3 | ⟨h3, _⟩
      · rwa [h3] at ht
      · rw [h3] at ht; simp [tg] at ht

theorem head_setP {A v : AV} {k : Nat} {p : List Nat} : head (setP A (k :: p) v) = head A := by
  simp only [setP]
  cases A <;> simp [kids, withKids, head]

/-- .. and one whose kind they do not turn keeps its kind. -/
theorem apps_head : ∀ (ws : List Wr) (e : Env) {t : Nat}, t ∉ hslotsW ws → head (apps ws e t) = head (e t) ∨ (apps ws e t = .junk ∧ ∃ s ∈ killsW ws, s ∈ tg (e t))
  | [], _, _, _ => .inl rfl
  | x :: ws, e, t, h => by
    simp only [hslotsW, List.flatMap_cons, List.mem_append, not_or] at h
    have h1 : head (x.app e t) = head (e t) ∨ (x.app e t = .junk ∧ ∃ s ∈ x.kills, s ∈ tg (e t)) := by
      by_cases hx : t = x.slot
      · cases x with
        | set d v => exact absurd (by simp [Wr.hslot, hx, Wr.slot]) h.1
        | mod s p v =>
          cases p with
          | nil => exact absurd (by simp [Wr.hslot, hx, Wr.slot]) h.1
          | cons k p =>
            have := Wr.app_slot (.mod s (k :: p) v) e
            rw [hx, this]
            exact .inl head_setP
      · rw [Wr.app_other x e hx]
        rcases killer_cases x (e t) with h3 | h3
        · exact .inl (by rw [h3])
        · exact .inr h3
    rcases apps_head ws (x.app e) h.2 with h2 | ⟨h2, s, hs, ht⟩
    · rcases h1 with h3 | ⟨h3, s, hs, ht⟩
      · exact .inl (h2.trans h3)
      · refine .inr ⟨?_, s, by simp only [killsW, List.flatMap_cons, List.mem_append]; exact .inl hs, ht⟩
        rw [h3] at h2
        exact head_junk.1 h2
    · refine .inr ⟨h2, s, by simp only [killsW, List.flatMap_cons, List.mem_append]; exact .inr hs, ?_⟩
      rcases h1 with h3 | ⟨h3, _⟩
      · rw [← tg_head, ← h3, tg_head]; exact ht
      · rw [h3] at ht; simp [tg] at ht

/-- What two operations touch is apart. -/
def indep (f g : Fp) : Bool :=
  disj (slotsW f.ws) g.gets && disj (slotsW f.ws) (slotsW g.ws) && disj (slotsW g.ws) f.gets && disj (hslotsW f.ws) g.peeks && disj (hslotsW g.ws) f.peeks &&
  disj (killsW f.ws) g.tgs && disj (killsW f.ws) (tgsW g.ws) && disj (killsW g.ws) f.tgs && disj (killsW g.ws) (tgsW f.ws)

theorem swap {e : Env} {r1 r2 : Rd} {f g : Fp} (h1 : r1.Ok e f) (h2 : r2.Ok (apps f.ws e) g) (hi : indep f g = true) : r2.Ok e g ∧ r1.Ok (apps g.ws e) f ∧ apps g.ws (apps f.ws e) = apps f.ws (apps g.ws e) := by
  simp only [indep, Bool.and_eq_true] at hi
  obtain ⟨⟨⟨⟨⟨⟨⟨⟨i1, i2⟩, i3⟩, i4⟩, i5⟩, i6⟩, i7⟩, i8⟩, i9⟩ := hi
  have d1 := disj_spec i1
  have d2 := disj_spec i2
  have d3 := disj_spec i3
  have d4 := disj_spec i4
  have d5 := disj_spec i5
  have d7 := disj_spec i7
  have d8 := disj_spec i8
  have d9 := disj_spec i9
  have k2 := h2.gets
  have k1 := h1.gets
  have hback : r2.Ok e g := by
    refine h2.local (fun t ht => ?_) (fun t ht => ?_)
    · have hn : t ∉ slotsW f.ws := fun hm => d1 t hm ht
      rcases apps_other f.ws e hn with h | ⟨h, _⟩
      · exact h.symm
      · exact absurd h (k2.1 t ht).1
    · have hn : t ∉ hslotsW f.ws := fun hm => d4 t hm ht
      rcases apps_head f.ws e hn with h | ⟨h, _⟩
      · exact h.symm
      · exact absurd h (k2.2 t ht).1
  refine ⟨hback, ?_, ?_⟩
  · refine h1.local (fun t ht => ?_) (fun t ht => ?_)
    · have hn : t ∉ slotsW g.ws := fun hm => d3 t hm ht
      rcases apps_other g.ws e hn with h | ⟨_, s, hs, hst⟩
      · exact h
      · exact absurd ((k1.1 t ht).2 s hst) (d8 s hs)
    · have hn : t ∉ hslotsW g.ws := fun hm => d5 t hm ht
      rcases apps_head g.ws e hn with h | ⟨_, s, hs, hst⟩
      · exact h
      · exact absurd ((k1.2 t ht).2 s hst) (d8 s hs)
  · exact (apps_comm d2 d7 d9 e).symm

/-! ### Orders -/
section
variable (P : Program) (Γ : Ctx) (tl : List Nat) (ops : Array Oper)

/-- The operations of l, in this order, with these footprints. -/
def RunF (F : Nat → Fp) : List Nat → Env → Env → Prop
  | [], e, e' => e' = e
  | i :: l, e, e' => (∃ o, ops[i]? = some o ∧ (rdG P Γ tl ops o).Ok e (F i)) ∧ RunF F l (apps (F i).ws e) e'

def anyA (K : Env → Prop) : Nat → Array Bool → Env → Prop
  | 0, listed, e => Region.ready .any ops listed = [] ∧ K e
  | n + 1, listed, e => (Region.ready .any ops listed = [] → K e) ∧ ∀ i ∈ Region.ready .any ops listed, ∃ o f, ops[i]? = some o ∧ (rdG P Γ tl ops o).Ok e f ∧ anyA K n (listed.setIfInBounds i true) (apps f.ws e)
end

section
variable {P : Program} {Γ : Ctx} {tl : List Nat} {ops : Array Oper}

theorem bubble {F : Nat → Fp} {i : Nat} {l2 : List Nat} {e' : Env} : ∀ (l1 : List Nat) {e : Env}, RunF P Γ tl ops F (l1 ++ i :: l2) e e' → (∀ j ∈ l1, indep (F j) (F i) = true) → RunF P Γ tl ops F (i :: (l1 ++ l2)) e e'
  | [], e, h, _ => h
  | j :: l1, e, ⟨⟨oj, hoj, h1⟩, h⟩, hi => by
    obtain ⟨⟨o, ho, h2⟩, h3⟩ := bubble l1 h fun k hk => hi k (by simp [hk])
    obtain ⟨g1, g2, g3⟩ := swap h1 h2 (hi j (by simp))
    refine ⟨⟨o, ho, g1⟩, ⟨oj, hoj, g2⟩, ?_⟩
    rw [← g3]
    exact h3

/-- What has to come up ahead of what. -/
def befB (ops : Array Oper) : Array Nat := Region.before ops
def ordB (B : Array Nat) (j i : Nat) : Bool := (B.getD i 0).testBit j
def fwdB (ops : Array Oper) : Bool := ops.toList.zipIdx.all fun p => p.1.after.all fun e => !Region.binds .any e || decide (e.on < p.2)

/-- The operations that have come up are closed downwards. -/
def Down (ops : Array Oper) (listed : Array Bool) : Prop := ∀ i o, ops[i]? = some o → listed.getD i true = true → i < listed.size → ∀ e ∈ o.after, Region.binds .any e = true → listed.getD e.on false = true

theorem before_spec (hf : fwdB ops = true) : ∀ (i : Nat) (o : Oper), ops[i]? = some o → ∀ j, ordB (befB ops) j i = true → ∃ e ∈ o.after, Region.binds .any e = true ∧ (e.on = j ∨ ordB (befB ops) j e.on = true) := by
  intro i o ho j hj
  -- the array, entry by entry
  have step : ∀ (l : List Oper) (acc : Array Nat), (l.foldl (fun acc o => acc.push (o.after.foldl (fun s e => if Region.binds .any e then s ||| 2 ^ e.on ||| acc.getD e.on 0 else s) 0)) acc).size = acc.size + l.length ∧
      (∀ k, k < acc.size → (l.foldl (fun acc o => acc.push (o.after.foldl (fun s e => if Region.binds .any e then s ||| 2 ^ e.on ||| acc.getD e.on 0 else s) 0)) acc)[k]? = acc[k]?) := by
    intro l
    induction l with
    | nil => intro acc; simp
    | cons o l ih =>
      intro acc
      simp only [List.foldl_cons]
      have := ih (acc.push (o.after.foldl (fun s e => if Region.binds .any e then s ||| 2 ^ e.on ||| acc.getD e.on 0 else s) 0))
      refine ⟨by rw [this.1]; simp; omega, fun k hk => ?_⟩
      rw [this.2 k (by simp; omega), Array.getElem?_push, if_neg (by omega)]
  have hlt : i < ops.size := (Array.getElem?_eq_some_iff.1 ho).1
  have hB : befB ops = ops.toList.foldl (fun acc o => acc.push (o.after.foldl (fun s e => if Region.binds .any e then s ||| 2 ^ e.on ||| acc.getD e.on 0 else s) 0)) #[] := by
    unfold befB Region.before
    rw [← Array.foldl_toList]
  have hsplit : ops.toList = ops.toList.take i ++ o :: ops.toList.drop (i + 1) := by
    have h1 : ops.toList[i]? = some o := by simpa using ho
    obtain ⟨h2, h3⟩ := List.getElem?_eq_some_iff.1 h1
    rw [← h3, ← List.drop_eq_getElem_cons h2]
    exact (List.take_append_drop i _).symm
  generalize hacc : ((ops.toList.take i).foldl (fun acc o => acc.push (o.after.foldl (fun s e => if Region.binds .any e then s ||| 2 ^ e.on ||| acc.getD e.on 0 else s) 0)) #[]) = acc at *
  have hasz : acc.size = i := by
    rw [← hacc, (step _ _).1]
    simp; omega
  have hBi : (befB ops).getD i 0 = o.after.foldl (fun s e => if Region.binds .any e then s ||| 2 ^ e.on ||| acc.getD e.on 0 else s) 0 := by
    have : befB ops = (ops.toList.drop (i + 1)).foldl (fun acc o => acc.push (o.after.foldl (fun s e => if Region.binds .any e then s ||| 2 ^ e.on ||| acc.getD e.on 0 else s) 0)) (acc.push (o.after.foldl (fun s e => if Region.binds .any e then s ||| 2 ^ e.on ||| acc.getD e.on 0 else s) 0)) := by
      rw [hB]
      conv => lhs; rw [hsplit]
      rw [List.foldl_append, hacc]
      rfl
    rw [this, Array.getD_eq_getD_getElem?, (step _ _).2 i (by simp; omega), Array.getElem?_push, if_pos hasz.symm]
    rfl
  have haccB : ∀ k, k < i → acc.getD k 0 = (befB ops).getD k 0 := by
    intro k hk
    have : befB ops = (o :: ops.toList.drop (i + 1)).foldl (fun acc o => acc.push (o.after.foldl (fun s e => if Region.binds .any e then s ||| 2 ^ e.on ||| acc.getD e.on 0 else s) 0)) acc := by
      rw [hB]
      conv => lhs; rw [hsplit]
      rw [List.foldl_append, hacc]
    rw [this, Array.getD_eq_getD_getElem?, Array.getD_eq_getD_getElem?, (step _ _).2 k (by omega)]
  -- a bit of the fold comes from an edge
  have hfold : ∀ (l : List Edge) (s : Nat), (l.foldl (fun s e => if Region.binds .any e then s ||| 2 ^ e.on ||| acc.getD e.on 0 else s) s).testBit j = true → s.testBit j = true ∨ ∃ e ∈ l, Region.binds .any e = true ∧ (e.on = j ∨ (acc.getD e.on 0).testBit j = true) := by
    intro l
    induction l with
    | nil => intro s h; exact .inl h
    | cons e l ih =>
      intro s h
      simp only [List.foldl_cons] at h
      rcases ih _ h with h1 | ⟨e', he', h1⟩
      · split at h1
        · rename_i hb
          simp only [Nat.testBit_or, Bool.or_eq_true] at h1
          rcases h1 with (h1 | h1) | h1
          · exact .inl h1
          · rw [Nat.testBit_two_pow] at h1
            exact .inr ⟨e, by simp, hb, .inl (by simpa using h1)⟩
          · exact .inr ⟨e, by simp, hb, .inr h1⟩
        · exact .inl h1
      · exact .inr ⟨e', by simp [he'], h1⟩
  unfold ordB at hj
  rw [hBi, ← Array.foldl_toList] at hj
  rcases hfold _ _ hj with h0 | ⟨e, he, hb, h1⟩
  · simp at h0
  · refine ⟨e, by simpa using he, hb, h1.imp id fun h => ?_⟩
    have hel : e.on < i := by
      have := List.all_eq_true.1 hf (o, i) (by
        rw [List.mem_zipIdx_iff_getElem?]
        simpa using ho)
      simp only [Array.all_eq_true_iff_forall_mem] at this
      have := this e (by simpa using he)
      simpa [hb] using this
    unfold ordB
    rw [← haccB e.on hel]
    exact h

/-- What has to come up ahead of an operation that may come up now has come up. -/
theorem ord_listed (hf : fwdB ops = true) {listed : Array Bool} (hD : Down ops listed) (hsz : listed.size = ops.size) : ∀ (n i : Nat), i < n → (i ∈ Region.ready .any ops listed ∨ listed.getD i false = true) → ∀ j, ordB (befB ops) j i = true → listed.getD j false = true := by
  intro n
  induction n with
  | zero => intro i hi; omega
  | succ n ih =>
    intro i hi hr j hj
    have key : ∃ o, ops[i]? = some o ∧ ∀ e ∈ o.after, Region.binds .any e = true → listed.getD e.on false = true := by
      rcases hr with hr | hr
      · exact (mem_ready.1 hr).2
      · have hlt : i < listed.size := by
          rcases Nat.lt_or_ge i listed.size with h | h
          · exact h
          · simp [Array.getElem?_eq_none h] at hr
        have ho : ops[i]? = some ops[i] := Array.getElem?_eq_getElem (by omega)
        refine ⟨_, ho, hD i _ ho ?_ hlt⟩
        simpa [hlt] using hr
    obtain ⟨o, ho, hall⟩ := key
    obtain ⟨e, he, hb, h1⟩ := before_spec hf i o ho j hj
    have hel := hall e he hb
    rcases h1 with rfl | h1
    · exact hel
    · have hlt : e.on < i := by
        have := List.all_eq_true.1 hf (o, i) (by
          rw [List.mem_zipIdx_iff_getElem?]
          simpa using ho)
        simp only [Array.all_eq_true_iff_forall_mem] at this
        have := this e he
        simpa [hb] using this
      exact ih e.on (by omega) (.inr hel) j h1

/-- **One walk in the text's order serves every order.** -/
theorem anyA_of_run {F : Nat → Fp} {K : Env → Prop} {e' : Env} (hf : fwdB ops = true) (hK : K e') : ∀ (n : Nat) (l : List Nat) (listed : Array Bool) (e : Env), l.length = n → listed.size = ops.size → (∀ i, i ∈ l ↔ i < ops.size ∧ listed.getD i true = false) → l.Pairwise (· < ·) →
    (∀ j ∈ l, ∀ i ∈ l, j < i → ordB (befB ops) j i = true ∨ indep (F j) (F i) = true) → Down ops listed → RunF P Γ tl ops F l e e' → anyA P Γ tl ops K n listed e := by
  have hready : ∀ (l : List Nat) (listed : Array Bool), listed.size = ops.size → (∀ i, i ∈ l ↔ i < ops.size ∧ listed.getD i true = false) → l.Pairwise (· < ·) → l ≠ [] → Region.ready .any ops listed ≠ [] := by
    intro l listed hsz hl hp hne hr
    cases l with
    | nil => exact hne rfl
    | cons i l =>
      obtain ⟨hi, hli⟩ := (hl i).1 (by simp)
      have : i ∈ Region.ready .any ops listed := by
        rw [mem_ready]
        refine ⟨hli, ops[i], Array.getElem?_eq_getElem hi, fun ed he hb => ?_⟩
        have hlt : ed.on < i := by
          have := List.all_eq_true.1 hf (ops[i], i) (by
            rw [List.mem_zipIdx_iff_getElem?]
            simp [hi])
          simp only [Array.all_eq_true_iff_forall_mem] at this
          have := this ed he
          simpa [hb] using this
        have hlts : ed.on < listed.size := by omega
        cases hv : listed.getD ed.on false with
        | true => rfl
        | false =>
          have : ed.on ∈ i :: l := (hl _).2 ⟨by omega, by simpa [hlts] using hv⟩
          rcases List.mem_cons.1 this with h | h
          · omega
          · have := (List.pairwise_cons.1 hp).1 _ h; omega
      rw [hr] at this
      cases this
  intro n
  induction n with
  | zero =>
    intro l listed e hn hsz hl hp hi hD hrun
    have : l = [] := List.eq_nil_of_length_eq_zero hn
    subst this
    have : e' = e := hrun
    subst this
    refine ⟨?_, hK⟩
    cases hr : Region.ready .any ops listed with
    | nil => rfl
    | cons i r =>
      exfalso
      have hm : i ∈ Region.ready .any ops listed := by rw [hr]; simp
      obtain ⟨h1, o, ho, _⟩ := mem_ready.1 hm
      have := (hl i).2 ⟨(Array.getElem?_eq_some_iff.1 ho).1, h1⟩
      cases this
  | succ n ih =>
    intro l listed e hn hsz hl hp hi hD hrun
    have hne : l ≠ [] := by rintro rfl; simp at hn
    refine ⟨fun h => absurd h (hready l listed hsz hl hp hne), fun i hir => ?_⟩
    obtain ⟨h1, o, ho, hall⟩ := mem_ready.1 hir
    have hios : i < ops.size := (Array.getElem?_eq_some_iff.1 ho).1
    have him : i ∈ l := (hl i).2 ⟨hios, h1⟩
    obtain ⟨l1, l2, rfl⟩ := List.append_of_mem him
    have hp' := List.pairwise_append.1 hp
    have hlt1 : ∀ j ∈ l1, j < i := fun j hj => hp'.2.2 j hj i (by simp)
    obtain ⟨⟨o', ho', hok⟩, hrest⟩ := bubble l1 hrun fun j hj => by
      rcases hi j (by simp [hj]) i (by simp) (hlt1 j hj) with h | h
      · exfalso
        have := ord_listed hf hD hsz (i + 1) i (by omega) (.inl hir) j h
        have hj' := (hl j).1 (by simp [hj])
        have hjs : j < listed.size := by omega
        have h3 := hj'.2
        simp [hjs] at this h3
        rw [h3] at this
        cases this
      · exact h
    refine ⟨o', F i, ho', hok, ?_⟩
    have hne1 : ∀ j, j ∈ l1 ++ l2 → j ≠ i := by
      intro j hj
      rcases List.mem_append.1 hj with h | h
      · have := hlt1 j h; omega
      · have := (List.pairwise_cons.1 hp'.2.1).1 j h; omega
    refine ih (l1 ++ l2) _ _ (by simp at hn ⊢; omega) (by simpa using hsz) (fun j => ?_) ?_ (fun j hj k hk hlt => hi j (by simp at hj ⊢; rcases hj with h | h <;> simp [h]) k (by simp at hk ⊢; rcases hk with h | h <;> simp [h]) hlt) ?_ hrest
    · constructor
      · intro hj
        have hji := hne1 j hj
        have := (hl j).1 (by simp at hj ⊢; rcases hj with h | h <;> simp [h])
        exact ⟨this.1, by rw [getD_set_ne true (Ne.symm hji)]; exact this.2⟩
      · rintro ⟨hj, hjl⟩
        by_cases hji : j = i
        · subst hji
          have hjs : j < listed.size := by omega
          simp [hjs] at hjl
        · rw [getD_set_ne true (Ne.symm hji)] at hjl
          have := (hl j).2 ⟨hj, hjl⟩
          simp at this ⊢
          rcases this with h | h | h
          · exact .inl h
          · exact absurd h hji
          · exact .inr h
    · refine List.pairwise_append.2 ⟨hp'.1, (List.pairwise_cons.1 hp'.2.1).2, fun a ha b hb => hp'.2.2 a ha b (by simp [hb])⟩
    · intro k ok hok' hlk hks ed hed hb
      by_cases hki : k = i
      · subst hki
        rw [ho] at hok'
        injection hok' with hok'
        subst hok'
        exact getD_set_true (hall ed hed hb)
      · rw [getD_set_ne true (Ne.symm hki)] at hlk
        exact getD_set_true (hD k ok hok' hlk (by simpa using hks) ed hed hb)

/-- .. and so does the model's walk. -/
theorem wpAny_of_anyA {κ : Con} (hΓ : ∀ f c, Γ f = some c → CtrOK P f c) (hd : dstOK κ.lim ops.toList = true) {Q : Exit → Act → World → Prop} {K : Env → Prop} (hK : ∀ e a w, K e → St κ e a w → Q .normal a w) :
    ∀ (n : Nat) (listed : Array Bool) (e : Env) (a : Act) (w : World), anyA P Γ tl ops K n listed e → St κ e a w → wpAny P .any ops Q n listed a w
  | 0, listed, e, a, w, h, hs => ⟨h.1, hK e a w h.2 hs⟩
  | n + 1, listed, e, a, w, h, hs => by
    refine ⟨fun h0 => hK e a w (h.1 h0) hs, fun i hi => ?_⟩
    obtain ⟨o, f, ho, hok, hrest⟩ := h.2 i hi
    have hn := dstOK_spec hd (show o ∈ ops.toList by simpa using Array.mem_of_getElem? ho)
    have := rdG_sound hΓ hn hok.wo Q (wpAny P .any ops Q n (listed.setIfInBounds i true)) a w hs fun a' w' hs' => wpAny_of_anyA hΓ hd hK n _ _ a' w' hrest hs'
    unfold wpOp
    simp only [ho]
    exact this

/-! ### The walk with footprints -/

def Rd.D (e : Env) : Rd → List Nat → List Nat → List Nat → (Fp → Prop) → Prop
  | .ret ws, gs, ps, ts, K => K ⟨gs, ps, ts, ws⟩
  | .fail, _, _, _, _ => False
  | .get t k, gs, ps, ts, K => e t ≠ .junk ∧ Rd.D e (k (e t)) (t :: gs) ps (tg (e t) ++ ts) K
  | .peek t k, gs, ps, ts, K => e t ≠ .junk ∧ Rd.D e (k (head (e t))) gs (t :: ps) (tg (e t) ++ ts) K
  | .need c k, gs, ps, ts, K => c ∧ Rd.D e k gs ps ts K
  | .ex _ k, gs, ps, ts, K => ∃ x, Rd.D e (k x) gs ps ts K
  | .br c x y, gs, ps, ts, K => (c → Rd.D e x gs ps ts K) ∧ (¬ c → Rd.D e y gs ps ts K)

/-- Two footprints that name the same slots. -/
def Fp.le (f g : Fp) : Prop := (∀ t ∈ f.gets, t ∈ g.gets) ∧ (∀ t ∈ f.peeks, t ∈ g.peeks) ∧ (∀ t ∈ f.tgs, t ∈ g.tgs) ∧ f.ws = g.ws

theorem Rd.D.ok {e : Env} : ∀ {r : Rd} {gs ps ts : List Nat} {K : Fp → Prop}, r.D e gs ps ts K → ∃ f g, r.Ok e f ∧ K g ∧ f.le g ∧ (∀ t ∈ gs, t ∈ g.gets) ∧ (∀ t ∈ ps, t ∈ g.peeks) ∧ (∀ t ∈ ts, t ∈ g.tgs)
  | .ret ws, gs, ps, ts, K, h => ⟨⟨[], [], [], ws⟩, _, rfl, h, by simp [Fp.le], by simp, by simp, by simp⟩
  | .fail, _, _, _, _, h => h.elim
  | .get t k, gs, ps, ts, K, ⟨h1, h2⟩ => by
    obtain ⟨f, g, g1, g2, g3, g4, g5, g6⟩ := h2.ok
    refine ⟨_, g, ⟨h1, f, g1, rfl⟩, g2, ⟨fun s hs => ?_, g3.2.1, fun s hs => ?_, g3.2.2.2⟩, fun s hs => g4 s (by simp [hs]), g5, fun s hs => g6 s (by simp [hs])⟩
    · rcases List.mem_cons.1 hs with rfl | hs
      · exact g4 _ (by simp)
      · exact g3.1 s hs
    · rcases List.mem_append.1 hs with hs | hs
      · exact g6 s (by simp [hs])
      · exact g3.2.2.1 s hs
  | .peek t k, gs, ps, ts, K, ⟨h1, h2⟩ => by
    obtain ⟨f, g, g1, g2, g3, g4, g5, g6⟩ := h2.ok
    refine ⟨_, g, ⟨h1, f, g1, rfl⟩, g2, ⟨g3.1, fun s hs => ?_, fun s hs => ?_, g3.2.2.2⟩, g4, fun s hs => g5 s (by simp [hs]), fun s hs => g6 s (by simp [hs])⟩
    · rcases List.mem_cons.1 hs with rfl | hs
      · exact g5 _ (by simp)
      · exact g3.2.1 s hs
    · rcases List.mem_append.1 hs with hs | hs
      · exact g6 s (by simp [hs])
      · exact g3.2.2.1 s hs
  | .need c k, gs, ps, ts, K, ⟨h1, h2⟩ => by
    obtain ⟨f, g, g1, g2⟩ := h2.ok
    exact ⟨f, g, ⟨h1, g1⟩, g2⟩
  | .ex α k, gs, ps, ts, K, ⟨x, h2⟩ => by
    obtain ⟨f, g, g1, g2⟩ := h2.ok
    exact ⟨f, g, ⟨x, g1⟩, g2⟩
  | .br c x y, gs, ps, ts, K, ⟨h1, h2⟩ => by
    by_cases hc : c
    · obtain ⟨f, g, g1, g2⟩ := (h1 hc).ok
      exact ⟨f, g, .inl ⟨hc, g1⟩, g2⟩
    · obtain ⟨f, g, g1, g2⟩ := (h2 hc).ok
      exact ⟨f, g, .inr ⟨hc, g1⟩, g2⟩

theorem disj_mono {a b a' b' : List Nat} (ha : ∀ t ∈ a', t ∈ a) (hb : ∀ t ∈ b', t ∈ b) (h : disj a b = true) : disj a' b' = true := by
  have := disj_spec h
  unfold disj
  rw [List.all_eq_true]
  intro x hx
  simp
  exact fun hm => this x (ha x hx) (hb x hm)

theorem indep_mono {f g f' g' : Fp} (hf : f'.le f) (hg : g'.le g) (h : indep f g = true) : indep f' g' = true := by
  simp only [indep, Bool.and_eq_true] at h ⊢
  obtain ⟨⟨⟨⟨⟨⟨⟨⟨i1, i2⟩, i3⟩, i4⟩, i5⟩, i6⟩, i7⟩, i8⟩, i9⟩ := h
  obtain ⟨f1, f2, f3, f4⟩ := hf
  obtain ⟨g1, g2, g3, g4⟩ := hg
  rw [f4, g4]
  have id' : ∀ (l : List Nat), ∀ t ∈ l, t ∈ l := fun l t h => h
  exact ⟨⟨⟨⟨⟨⟨⟨⟨disj_mono (id' _) g1 i1, i2⟩, disj_mono (id' _) f1 i3⟩, disj_mono (id' _) g2 i4⟩, disj_mono (id' _) f2 i5⟩, disj_mono (id' _) g3 i6⟩, i7⟩, disj_mono (id' _) f3 i8⟩, i9⟩

/-- The walk in the text's order; acc: what the operations before have touched. -/
def chkP (B : Array Nat) : List (Nat × Fp) → Bool
  | [] => true
  | (i, f) :: acc => (acc.all fun p => ordB B p.1 i || indep p.2 f) && chkP B acc

def wpOpsD (P : Program) (Γ : Ctx) (tl : List Nat) (ops : Array Oper) (B : Array Nat) : List Oper → Nat → List (Nat × Fp) → Env → (Env → Prop) → Prop
  | [], _, acc, e, K => chkP B acc = true ∧ K e
  | o :: rest, i, acc, e, K => (rdG P Γ tl ops o).D e [] [] [] fun f => wpOpsD P Γ tl ops B rest (i + 1) ((i, f) :: acc) (apps f.ws e) K

theorem wpOpsD_run {K : Env → Prop} : ∀ (l : List Oper) (i : Nat) (acc : List (Nat × Fp)) (e : Env), (∀ j, l[j]? = ops[i + j]?) → wpOpsD P Γ tl ops (befB ops) l i acc e K →
    ∃ (F : Nat → Fp) (e' : Env), RunF P Γ tl ops F (List.range' i l.length) e e' ∧ K e' ∧ (∀ p ∈ acc, ∀ k, i ≤ k → k < i + l.length → ordB (befB ops) p.1 k = true ∨ indep p.2 (F k) = true) ∧
      (∀ j k, i ≤ j → j < k → k < i + l.length → ordB (befB ops) j k = true ∨ indep (F j) (F k) = true) ∧ chkP (befB ops) acc = true
  | [], i, acc, e, _, h => ⟨fun _ => ⟨[], [], [], []⟩, e, rfl, h.2, fun p _ k h1 h2 => by simp at h2; omega, fun j k h1 h2 h3 => by simp at h3; omega, h.1⟩
  | o :: l, i, acc, e, hl, h => by
    obtain ⟨f, g, g1, g3, g4, _⟩ := Rd.D.ok h
    have h0 : ops[i]? = some o := by simpa using (hl 0).symm
    obtain ⟨F, e', r1, r2, r3, r4, r5⟩ := wpOpsD_run l (i + 1) _ _ (fun j => by have := hl (j + 1); simpa [Nat.add_assoc, Nat.add_comm 1 j] using this) g3
    simp only [chkP, Bool.and_eq_true] at r5
    obtain ⟨g2, r6⟩ := r5
    have hF : ∀ k, i < k → (fun k => if k = i then f else F k) k = F k := fun k hk => by simp [Nat.ne_of_gt hk]
    refine ⟨fun k => if k = i then f else F k, e', ?_, r2, fun p hp k hk1 hk2 => ?_, fun j k hj hjk hk => ?_, r6⟩
    · simp only [List.length_cons, List.range'_succ, RunF, if_true]
      refine ⟨⟨o, h0, g1⟩, ?_⟩
      rw [g4.2.2.2]
      have cong : ∀ (m : List Nat) (e1 : Env), (∀ x ∈ m, i < x) → RunF P Γ tl ops F m e1 e' → RunF P Γ tl ops (fun k => if k = i then f else F k) m e1 e' := by
        intro m
        induction m with
        | nil => intro e1 _ h; exact h
        | cons x m ih =>
          intro e1 hm ⟨h1, h2⟩
          have hx := hF x (hm x (by simp))
          simp only at hx
          simp only [RunF, hx]
          exact ⟨h1, ih _ (fun y hy => hm y (by simp [hy])) h2⟩
      exact cong _ _ (fun x hx => by have := List.mem_range'_1.1 hx; omega) r1
    · simp only [List.length_cons] at hk2
      by_cases hki : k = i
      · subst hki
        have := List.all_eq_true.1 g2 p hp
        simp only [Bool.or_eq_true] at this
        simp only [if_true]
        exact this.imp id fun h => indep_mono ⟨fun _ h => h, fun _ h => h, fun _ h => h, rfl⟩ g4 h
      · simp only [hki, if_false]
        exact r3 p (by simp [hp]) k (by omega) (by omega)
    · simp only [List.length_cons] at hk
      by_cases hji : j = i
      · subst hji
        have hkj : k ≠ j := by omega
        simp only [if_true, hkj, if_false]
        exact (r3 (j, g) (by simp) k (by omega) (by omega)).imp id fun h => indep_mono g4 ⟨fun _ h => h, fun _ h => h, fun _ h => h, rfl⟩ h
      · have hki : k ≠ i := by omega
        simp only [hji, hki, if_false]
        exact r4 j k (by omega) hjk (by omega)

/-- A region that draws its order. -/
theorem wpOpsD_sound {κ : Con} (hΓ : ∀ f c, Γ f = some c → CtrOK P f c) (hm : P.follows .mixedOrders = true) {id : Nat} {Q : Exit → Act → World → Prop} {K : Env → Prop} (hK : ∀ e a w, K e → St κ e a w → Q .normal a w)
    (hd : dstOK κ.lim ops.toList = true) (hf : fwdB ops = true) {e : Env} {a : Act} {w : World} (h : wpOpsD P Γ tl ops (befB ops) ops.toList 0 [] e K) (hs : St κ e a w) : (Code.region id ops true).wp P Q a w := by
  obtain ⟨F, e', r1, r2, _, r4, _⟩ := wpOpsD_run ops.toList 0 [] e (by simp) h
  have hs' : St κ e a { w with drawn := w.drawn + 1 } := ⟨hs.1, hs.2.1, let ⟨Z, β, hR⟩ := hs.2.2; ⟨Z, β, hR.drew⟩⟩
  refine wp_region_any hm (wpAny_of_anyA (tl := tl) hΓ hd hK _ _ _ _ _ ?_ hs')
  refine anyA_of_run (F := F) hf r2 ops.size (List.range ops.size) (Array.replicate ops.size false) e (by simp) (by simp) (fun i => ?_) ?_ (fun j hj i hi hji => r4 j i (by omega) hji (by simp at hi ⊢; omega)) (fun i o ho hl hlt => ?_) ?_
  · simp only [List.mem_range]
    constructor
    · intro hi; exact ⟨hi, by simp [hi]⟩
    · exact fun h => h.1
  · exact List.pairwise_lt_range
  · have : i < ops.size := by simpa using hlt
    simp [this] at hl
  · rw [List.range_eq_range']
    simpa using r1
end

end Go.Proofs.Ytkibemgdncncoaa

/- The walk over code, abstractly; contracts of functions. No program in sight. -/
namespace Go.Proofs.Ytkibemgdncncoaa
set_option linter.unusedSimpArgs false
set_option linter.unusedVariables false
set_option maxRecDepth 8000
set_option maxHeartbeats 2000000
open Go Go.RowKit AV

theorem view_junk : view .junk = .junk := rfl

/-- Slots are forgotten, or what they hold is written no more. -/
def Le (e e' : Env) : Prop := ∀ t, e' t = .junk ∨ e' t = e t ∨ e' t = view (e t)

theorem Rep.weaken {κ : Con} {Z : Nat → Option Obj} {β : List Nat → Option Nat} {e e' : Env} {val : Nat → Value} {w : World} (h : Rep κ Z β e val w) (hle : Le e e') : ∃ Z' β', Rep κ Z' β' e' val w := by
  classical
  let fz : Nat → Prop := fun t => e' t ≠ .junk ∧ e' t ≠ e t
  let under : Nat → Prop := fun b => ∃ t r, fz t ∧ β (t :: r) = some b
  let Z' : Nat → Option Obj := fun b => if under b then w.heap[b]? else Z b
  let β' : List Nat → Option Nat := fun r => match r with
    | [] => none
    | t :: r => if fz t then none else β (t :: r)
  have hZ : ∀ b o, Z b = some o → Z' b = some o := by
    intro b o ho
    show (if under b then w.heap[b]? else Z b) = some o
    split
    · exact h.zh b o ho
    · exact ho
  have hsub : ∀ p b, β' p = some b → β p = some b ∧ ∃ t r, p = t :: r ∧ ¬ fz t := by
    intro p b hp
    cases p with
    | nil => cases hp
    | cons t r =>
      replace hp : (if fz t then none else β (t :: r)) = some b := hp
      split at hp
      · cases hp
      · rename_i hn; exact ⟨hp, t, r, rfl, hn⟩
  have hkeep : ∀ t r b, ¬ fz t → β (t :: r) = some b → β' (t :: r) = some b := by
    intro t r b hn hb
    show (if fz t then none else β (t :: r)) = some b
    rw [if_neg hn]; exact hb
  refine ⟨Z', β', h.os, h.tape, h.output, h.size, h.frame, fun b o ho => hZ b o (h.z0 b o ho), fun b o ho => ?_, fun b o ho => ?_, fun p q b hp hq => h.inj p q b (hsub p b hp).1 (hsub q b hq).1, fun p b hp => ?_, fun t => ?_⟩
  · replace ho : (if under b then w.heap[b]? else Z b) = some o := ho
    split at ho
    · rename_i hu; obtain ⟨t, r, _, hr⟩ := hu; exact .inr (h.bo _ b hr).1
    · exact h.zo b o ho
  · replace ho : (if under b then w.heap[b]? else Z b) = some o := ho
    split at ho
    · exact ho
    · exact h.zh b o ho
  · obtain ⟨h1, t, r, rfl, hn⟩ := hsub p b hp
    have := h.bo _ b h1
    refine ⟨this.1, ?_, this.2.2⟩
    show (if under b then w.heap[b]? else Z b) = none
    rw [if_neg ?_]
    · exact this.2.1
    · rintro ⟨t', r', hf, hr'⟩
      have := h.inj _ _ b h1 hr'
      injection this with h2 h3
      subst h2
      exact hn hf
  · have hmv : ∀ s p A v, ¬ fz s → ORep Z w.heap β (s :: p) A v → ORep Z' w.heap β' (s :: p) A v := fun s p A v hn hA =>
      hA.move hZ fun r b hr => ⟨by simpa using hkeep s (p ++ r) b hn (by simpa using hr), rfl⟩
    have hof : ∀ s p A, getP (e' s) p = some A → isOwn A = true → ¬ fz s ∧ getP (e s) p = some A := by
      intro s p A hg hA
      rcases hle s with h1 | h1 | h1
      · rw [h1] at hg; rw [getP_junk hg] at hA; cases hA
      · exact ⟨fun hf => hf.2 h1, by rw [← h1]; exact hg⟩
      · rw [h1] at hg; rw [getP_noOwn p (view_noOwn _) hg] at hA; cases hA
    by_cases hj : e' t = .junk
    · unfold TRep; rw [hj]; exact .pers (.junk _)
    · by_cases hs : e' t = e t
      · have hn : ¬ fz t := fun hf => hf.2 hs
        unfold TRep
        rw [hs]
        cases het : e t with
        | alias s p => exact fun A hg hA => let ⟨h1, h2⟩ := hof s p A hg hA; hmv s p A _ h1 (h.aliasAt het A h2 hA)
        | valias s p =>
          intro l hg
          obtain ⟨h1, h2⟩ := hof s p _ hg rfl
          obtain ⟨cs, hv, hr, b, T, hb, hz⟩ := h.valiasAt het l h2
          exact ⟨cs, hv, hmv s p _ _ h1 hr, b, T, hkeep s p b h1 hb, hz⟩
        | addr s p =>
          obtain ⟨q, k, b, hp, hv, hb⟩ := h.addrAt het
          refine ⟨q, k, b, hp, hv, fun A hg hA => ?_⟩
          obtain ⟨h1, h2⟩ := hof s q A hg hA
          exact hkeep s q b h1 (hb A h2 hA)
        | win s p k =>
          intro l hg
          obtain ⟨h1, h2⟩ := hof s p _ hg rfl
          obtain ⟨u, hu, hv⟩ := h.winAt het l h2
          exact ⟨u, hmv s p _ _ h1 hu, hv⟩
        | _ => exact hmv t [] _ _ hn (h.slot' het (by simp))
      · have hv : e' t = AV.view (e t) := by
          rcases hle t with h1 | h1 | h1
          · exact absurd h1 hj
          · exact absurd h1 hs
          · exact h1
        have hf : fz t := ⟨hj, hs⟩
        have hpl : ∀ s p, e t ≠ .alias s p ∧ e t ≠ .valias s p ∧ e t ≠ .addr s p ∧ ∀ k, e t ≠ .win s p k := by
          intro s p
          refine ⟨fun h1 => ?_, fun h1 => ?_, fun h1 => ?_, fun k h1 => ?_⟩ <;> (rw [h1] at hv; exact hj hv)
        have hP : PRep Z' (AV.view (e t)) (val t) := (h.slot t hpl).toView' hZ fun r b hr => by
          show (if under b then w.heap[b]? else Z b) = w.heap[b]?
          rw [if_pos ⟨t, r, hf, hr⟩]
        unfold TRep
        rw [hv]
        have hvp := view_plain (e t)
        generalize AV.view (e t) = X at hP hvp
        cases X with
        | alias s p => exact absurd rfl (hvp s p).1
        | valias s p => exact absurd rfl (hvp s p).2.1
        | addr s p => exact absurd rfl (hvp s p).2.2.1
        | win s p k => exact absurd rfl ((hvp s p).2.2.2 k)
        | _ => exact .pers hP

theorem St.weaken {κ : Con} {e e' : Env} {a : Act} {w : World} (h : St κ e a w) (hle : Le e e') : St κ e' a w :=
  let ⟨h1, h2, Z, β, hR⟩ := h
  let ⟨Z', β', hR'⟩ := hR.weaken hle
  ⟨h1, h2, Z', β', hR'⟩

/-- An environment, slot by slot. -/
def envOf : List (Nat × AV) → Env
  | [] => fun _ => .junk
  | (t, v) :: L => upd (envOf L) t v

def LeL (e : Env) : List (Nat × AV) → Prop
  | [] => True
  | (t, v) :: L => (v = e t ∨ v = view (e t)) ∧ LeL e L

theorem LeL.le {e : Env} : ∀ {L : List (Nat × AV)}, LeL e L → Le e (envOf L)
  | [], _, t => .inl rfl
  | (s, v) :: L, ⟨h1, h2⟩, t => by
    by_cases hts : t = s
    · subst hts; simp only [envOf, upd_same]; exact .inr h1
    · simp only [envOf, upd_ne _ _ _ _ hts]; exact h2.le t

abbrev QA := Exit → Env → Prop

theorem exists_min {p : Nat → Prop} (h : ∃ n, p n) : ∃ n, p n ∧ ∀ m, p m → n ≤ m := by
  obtain ⟨n, hn⟩ := h
  induction n using Nat.strongRecOn with
  | ind n ih =>
    by_cases hm : ∃ m, m < n ∧ p m
    · obtain ⟨m, h1, h2⟩ := hm; exact ih m h1 h2
    · exact ⟨n, hn, fun m h => Nat.le_of_not_lt fun h1 => hm ⟨m, h1, h⟩⟩

open Classical in
noncomputable def minN (p : Nat → Prop) : Nat := if h : ∃ n, p n then Classical.choose (exists_min h) else 0
theorem minN_spec {p : Nat → Prop} (h : ∃ n, p n) : p (minN p) ∧ ∀ m, p m → minN p ≤ m := by
  unfold minN; rw [dif_pos h]; exact Classical.choose_spec (exists_min h)

def CW (P : Program) (κ : Con) (c : Code) (Q : QA) (e : Env) : Prop := ∀ a w, St κ e a w → c.wp P (fun x a' w' => ∃ e', Q x e' ∧ St κ e' a' w') a w

def thenA (N : Env → Prop) (Q : QA) : QA
  | .normal, e => N e
  | x, e => Q x e

def inBlockA (id : Nat) (Q : QA) : QA
  | .exit id', e => if id' = id then Q .normal e else Q (.exit id') e
  | x, e => Q x e

section
variable {P : Program} {κ : Con} {Q : QA} {e : Env}

theorem CW.weaken {c : Code} {e' : Env} (hle : Le e e') (h : CW P κ c Q e') : CW P κ c Q e := fun a w hs => h a w (hs.weaken hle)

theorem CW.skip (h : Q .normal e) : CW P κ .skip Q e := fun _ _ hs => wp_skip ⟨e, h, hs⟩
theorem CW.exit {id : Nat} (h : Q (.exit id) e) : CW P κ (.exit id) Q e := fun _ _ hs => wp_exit ⟨e, h, hs⟩
theorem CW.ret (h : Q .ret e) : CW P κ .ret Q e := fun _ _ hs => wp_ret ⟨e, h, hs⟩

theorem CW.seq {x y : Code} (h : CW P κ x (thenA (CW P κ y Q) Q) e) : CW P κ (.seq x y) Q e := fun a w hs => by
  refine wp_seq (wp_mono (h a w hs) fun x' a' w' ⟨e', hq, hs'⟩ => ?_)
  cases x' with
  | normal => exact hq a' w' hs'
  | _ => exact ⟨e', hq, hs'⟩

theorem CW.block {id : Nat} {c : Code} (h : CW P κ c (inBlockA id Q) e) : CW P κ (.block id c) Q e := fun a w hs => by
  refine wp_block (wp_mono (h a w hs) fun x' a' w' ⟨e', hq, hs'⟩ => ?_)
  cases x' with
  | exit id' =>
    simp only [inBlockA] at hq
    simp only [Exit.inBlock]
    split at hq
    · rename_i hid; rw [if_pos hid]; exact ⟨e', hq, hs'⟩
    · rename_i hid; rw [if_neg hid]; exact ⟨e', hq, hs'⟩
  | _ => exact ⟨e', hq, hs'⟩

theorem CW.scope {c : Code} : True := trivial

theorem CW.cond {t : Nat} {x y : Code} {b : Bool} (hb : e t = .bool b) (h1 : b = true → CW P κ x Q e) (h2 : b = false → CW P κ y Q e) : CW P κ (.cond (.tmp t) x y) Q e := fun a w hs => by
  obtain ⟨g1, g2, Z, β, hR⟩ := hs
  have hv := ORep.toP (hR.slot' hb (by simp)) rfl
  generalize hvv : vals a t = v at hv
  cases hv
  exact wp_cond_split (t := b) (by rw [eval_tmp, hvv]) (fun h => h1 h a w ⟨g1, g2, Z, β, hR⟩) (fun h => h2 h a w ⟨g1, g2, Z, β, hR⟩)

theorem CW.region {Γ : Ctx} (hΓ : ∀ f c, Γ f = some c → CtrOK P f c) {id : Nat} {ops : List Oper} (tl : List Nat) (hd : dstOK κ.lim ops = true) (h : wpOpsA P Γ tl ops.toArray ops e (Q .normal)) : CW P κ (.region id ops.toArray false) Q e := fun a w hs =>
  wp_region_lit (wpOpsA_sound hΓ (fun e' _ _ hq hs' => ⟨e', hq, hs'⟩) ops e a w hd h hs)

theorem CW.draw {Γ : Ctx} (hΓ : ∀ f c, Γ f = some c → CtrOK P f c) (hm : P.follows .mixedOrders = true) {id : Nat} {ops : List Oper} (tl : List Nat) (B : Array Nat) (hd : dstOK κ.lim ops = true) (hf : fwdB ops.toArray = true) (hB : befB ops.toArray = B)
    (h : wpOpsD P Γ tl ops.toArray B ops 0 [] e (Q .normal)) : CW P κ (.region id ops.toArray true) Q e := fun a w hs => by
  subst hB
  exact wpOpsD_sound hΓ hm (fun e' _ _ hq hs' => ⟨e', hq, hs'⟩) (by simpa using hd) hf (by simpa using h) hs

theorem CW.mono {c : Code} {Q' : QA} (h : CW P κ c Q e) (hq : ∀ x e, Q x e → Q' x e) : CW P κ c Q' e := fun a w hs =>
  wp_mono (h a w hs) fun _ _ _ ⟨e', h1, h2⟩ => ⟨e', hq _ _ h1, h2⟩

/-- A loop: what holds at its head, and what each round lowers. -/
theorem CW.loop {c : Code} {ι : Type} (inv : ι → List (Nat × AV)) (pre : ι → Prop) (μ : ι → Nat) (x0 : ι) (h0 : LeL e (inv x0) ∧ pre x0)
    (round : ∀ x, pre x → CW P κ c (thenA (fun e' => ∃ x', LeL e' (inv x') ∧ pre x' ∧ μ x' < μ x) Q) (envOf (inv x))) : CW P κ (.loop c) Q e := fun a w hs => by
  let I : Act → World → Prop := fun a w => ∃ n x, pre x ∧ μ x = n ∧ St κ (envOf (inv x)) a w
  let M : Act → World → Nat := fun a w => minN fun n => ∃ x, pre x ∧ μ x = n ∧ St κ (envOf (inv x)) a w
  refine wp_loop I M ⟨_, x0, h0.2, rfl, hs.weaken h0.1.le⟩ fun a w hI => ?_
  obtain ⟨⟨x, hx, hn, hsx⟩, _⟩ := minN_spec hI
  refine wp_mono (round x hx a w hsx) fun x' a' w' ⟨e', hq, hs'⟩ => ?_
  cases x' with
  | normal =>
    obtain ⟨y, g1, g2, g3⟩ := hq
    have hI' : I a' w' := ⟨_, y, g2, rfl, hs'.weaken g1.le⟩
    refine ⟨hI', ?_⟩
    have : M a' w' ≤ μ y := (minN_spec hI').2 _ ⟨y, g2, rfl, hs'.weaken g1.le⟩
    have h2 : M a w = μ x := hn.symm
    omega
  | _ => exact ⟨e', hq, hs'⟩
end

/-! ### Functions -/

def plainB : AV → Bool
  | .alias _ _ => false
  | .valias _ _ => false
  | .addr _ _ => false
  | .win _ _ _ => false
  | .junk => false
  | _ => true

theorem plainB_spec {A : AV} (h : plainB A = true) : A ≠ .junk ∧ ∀ s p, A ≠ .alias s p ∧ A ≠ .valias s p ∧ A ≠ .addr s p ∧ ∀ k, A ≠ .win s p k := by
  cases A <;> simp_all [plainB]

/-- What is returned. -/
def RetOK (P : Program) (rs : List ResultVar) (e : Env) (r : AV) : Prop := match rs with
  | [.tmp t] => plainB r = true ∧ (r = e t ∨ r = view (e t))
  | [.tmp t1, .tmp t2] => ∃ r1 r2, r = .tup [r1, r2] ∧ t1 ≠ t2 ∧ plainB r1 = true ∧ plainB r2 = true ∧ (r1 = e t1 ∨ r1 = view (e t1)) ∧ (r2 = e t2 ∨ r2 = view (e t2))
  | [.cell t T] => ∃ l, aggT P T = some true ∧ szT P T = some l.length ∧ e t = .box l ∧ (r = .agg l ∨ r = .agg (viewL l))
  | [] => r = .tup []
  | _ => False

def retQ (P : Program) (rs : List ResultVar) (r : AV) : QA
  | .normal, e => RetOK P rs e r
  | .ret, e => RetOK P rs e r
  | _, _ => False

def argEnv (args : List AV) : Env := fun t => args.getD t .junk

theorem results_spec {P : Program} {fn : Func} {tmps : Array Value} {w : World} {t : Nat} {T : TypeId} {v : Value} {ad : Addr} (h : fn.results = #[.cell t T]) (ht : tmps.getD t undef = .pointer (some ad)) (hv : (loadVar T ad).run P w = .ok v w) : (results fn tmps).run P w = .ok v w := by
  have h2 : (tmps[t]?).getD undef = .pointer (some ad) := by rw [← Array.getD_eq_getD_getElem?]; exact ht
  simp [results, h, ht, h2, asAddr, hv]

/-- The state behind the code gives what the caller is told. -/
theorem ret_left {P : Program} {fn : Func} {κ : Con} {β0 : List Nat → Option Nat} (hO : κ.O0 = fun b => ∃ p, β0 p = some b) {e : Env} {a : Act} {w : World} {r : AV} (hs : St κ e a w) (hr : RetOK P fn.results.toList e r) :
    ∃ v Z' β', (results fn a.tmps).run P w = .ok v w ∧ Left κ.Z0 β0 κ.W0 Z' β' w ∧ ORep Z' w.heap β' [0] r v := by
  obtain ⟨h1, h2, Z, β, hR⟩ := hs
  have mk : ∀ (Z' : Nat → Option Obj) (β' : List Nat → Option Nat) (e' : Env) (β2 : List Nat → Option Nat), Rep κ Z' β' e' (vals a) w → (∀ p q b, β2 p = some b → β2 q = some b → p = q) → (∀ p b, β2 p = some b → ∃ q, β' q = some b) → Left κ.Z0 β0 κ.W0 Z' β2 w := by
    intro Z' β' e' β2 hR' hinj hsub
    have hnew : ∀ b, new κ b → (∃ q, β0 q = some b) ∨ κ.W0.heap.size ≤ b := fun b hb => by
      unfold new at hb; rw [hO] at hb; exact hb
    refine ⟨hR'.os, hR'.tape, hR'.output, hR'.size, fun b hb hn => hR'.frame b hb ?_, hR'.z0, fun b o ho => (hR'.zo b o ho).imp id fun h => hnew b h, hR'.zh, hinj, fun p b hp => ?_⟩
    · rw [hO]; rintro ⟨p, hp⟩; exact hn p hp
    · obtain ⟨q, hq⟩ := hsub p b hp
      have := hR'.bo q b hq
      exact ⟨hnew b this.1, this.2⟩
  unfold RetOK at hr
  split at hr
  · -- one slot
    rename_i t hrs
    obtain ⟨hp, hrt⟩ := hr
    have hres : fn.results = #[.tmp t] := by rw [← Array.toArray_toList (xs := fn.results), hrs]
    obtain ⟨Z', β', hR'⟩ := hR.weaken (e' := envOf [(t, r)]) (LeL.le ⟨hrt, trivial⟩)
    have hsl := hR'.slot' (t := t) (A := r) (by simp [envOf, upd]) (plainB_spec hp).2
    refine ⟨vals a t, Z', fun p => match p with | 0 :: q => β' (t :: q) | _ => none, results_tmp hres _ _ _, mk Z' β' _ _ hR' ?_ ?_, hsl.move (fun _ _ h => h) fun r b hb => ⟨by simpa using hb, rfl⟩⟩
    · intro p q b hp hq
      rcases p with _ | ⟨x, p⟩
      · cases hp
      · rcases q with _ | ⟨y, q⟩
        · cases hq
        · cases x <;> cases y <;> simp at hp hq
          have := hR'.inj _ _ _ hp hq
          simp at this
          rw [this]
    · intro p b hp
      rcases p with _ | ⟨x, p⟩
      · cases hp
      · cases x <;> simp at hp
        exact ⟨_, hp⟩
  · -- two slots
    rename_i t1 t2 hrs
    obtain ⟨r1, r2, rfl, h12, hp1, hp2, hr1, hr2⟩ := hr
    have hres : fn.results = #[.tmp t1, .tmp t2] := by rw [← Array.toArray_toList (xs := fn.results), hrs]
    obtain ⟨Z', β', hR'⟩ := hR.weaken (e' := envOf [(t1, r1), (t2, r2)]) (LeL.le ⟨hr1, hr2, trivial⟩)
    have hs1 := hR'.slot' (t := t1) (A := r1) (by simp [envOf, upd]) (plainB_spec hp1).2
    have hs2 := hR'.slot' (t := t2) (A := r2) (by simp [envOf, upd, Ne.symm h12]) (plainB_spec hp2).2
    refine ⟨.tuple #[vals a t1, vals a t2], Z', fun p => match p with | 0 :: 0 :: q => β' (t1 :: q) | 0 :: 1 :: q => β' (t2 :: q) | _ => none, results_tmp2 hres _ _ _, mk Z' β' _ _ hR' ?_ ?_, ?_⟩
    · intro p q b hp hq
      have form : ∀ p, (match p with | 0 :: 0 :: q => β' (t1 :: q) | 0 :: 1 :: q => β' (t2 :: q) | _ => none) = some b → (∃ s, p = 0 :: 0 :: s ∧ β' (t1 :: s) = some b) ∨ ∃ s, p = 0 :: 1 :: s ∧ β' (t2 :: s) = some b := by
        intro p hp
        split at hp
        · exact .inl ⟨_, rfl, hp⟩
        · exact .inr ⟨_, rfl, hp⟩
        · cases hp
      rcases form p hp with ⟨s, rfl, g1⟩ | ⟨s, rfl, g1⟩ <;> rcases form q hq with ⟨s', rfl, g2⟩ | ⟨s', rfl, g2⟩
      · have := hR'.inj _ _ _ g1 g2; simp at this; rw [this]
      · have := hR'.inj _ _ _ g1 g2; simp at this; exact absurd this.1 h12
      · have := hR'.inj _ _ _ g1 g2; simp at this; exact absurd this.1.symm h12
      · have := hR'.inj _ _ _ g1 g2; simp at this; rw [this]
    · intro p b hp
      split at hp
      · exact ⟨_, hp⟩
      · exact ⟨_, hp⟩
      · cases hp
    · refine .tup [r1, r2] _ rfl fun k hk => ?_
      have hk' : k = 0 ∨ k = 1 := by simp at hk; omega
      rcases hk' with rfl | rfl
      · exact hs1.move (fun _ _ h => h) fun r b hb => ⟨by simpa using hb, rfl⟩
      · exact hs2.move (fun _ _ h => h) fun r b hb => ⟨by simpa using hb, rfl⟩
  · -- a struct in memory
    rename_i t T hrs
    obtain ⟨l, hT, hsz, het, hrl⟩ := hr
    have hres : fn.results = #[.cell t T] := by rw [← Array.toArray_toList (xs := fn.results), hrs]
    -- the box, with its parts as they are told
    obtain ⟨l', hl', hle, hlen⟩ : ∃ l', r = .agg l' ∧ (∃ Z' β', Rep κ Z' β' (envOf [(t, .box l')]) (vals a) w) ∧ l'.length = l.length := by
      rcases hrl with rfl | rfl
      · exact ⟨l, rfl, hR.weaken (LeL.le ⟨.inl het.symm, trivial⟩), rfl⟩
      · refine ⟨viewL l, rfl, ?_, by rw [viewL_map]; simp⟩
        obtain ⟨Z1, β1, hR1⟩ := hR.weaken (e' := envOf [(t, .box l)]) (LeL.le ⟨.inl het.symm, trivial⟩)
        have hs1 := hR1.slot' (t := t) (A := .box l) (by simp [envOf, upd]) (by simp)
        generalize hvv : vals a t = v at hs1
        cases hs1 with
        | pers h => cases h
        | box l b cs E hb hz g1 g4 hk =>
          classical
          -- the parts are written no more; the box itself still is
          let under : Nat → Prop := fun b' => ∃ k r, β1 (t :: k :: r) = some b'
          let Z2 : Nat → Option Obj := fun b' => if under b' then w.heap[b']? else Z1 b'
          let β2 : List Nat → Option Nat := fun p => if p = [t] then some b else none
          have hZ : ∀ b o, Z1 b = some o → Z2 b = some o := by
            intro b o ho
            show (if under b then w.heap[b]? else Z1 b) = some o
            split
            · exact hR1.zh b o ho
            · exact ho
          have hbb := hR1.bo _ b hb
          refine ⟨Z2, β2, hR1.os, hR1.tape, hR1.output, hR1.size, hR1.frame, fun b o ho => hZ b o (hR1.z0 b o ho), fun b' o ho => ?_, fun b' o ho => ?_, fun p q b' hp hq => ?_, fun p b' hp => ?_, fun s => ?_⟩
          · replace ho : (if under b' then w.heap[b']? else Z1 b') = some o := ho
            split at ho
            · rename_i hu; obtain ⟨k, r, hr⟩ := hu; exact .inr (hR1.bo _ b' hr).1
            · exact hR1.zo b' o ho
          · replace ho : (if under b' then w.heap[b']? else Z1 b') = some o := ho
            split at ho
            · exact ho
            · exact hR1.zh b' o ho
          · replace hp : (if p = [t] then some b else none) = some b' := hp
            replace hq : (if q = [t] then some b else none) = some b' := hq
            split at hp
            · split at hq
              · simp_all
              · cases hq
            · cases hp
          · replace hp : (if p = [t] then some b else none) = some b' := hp
            split at hp
            · injection hp with hp
              subst hp
              refine ⟨hbb.1, ?_, hbb.2.2⟩
              show (if under b then w.heap[b]? else Z1 b) = none
              rw [if_neg]
              · exact hbb.2.1
              · rintro ⟨k, r, hr⟩
                have := hR1.inj _ _ b hr hb
                simp at this
            · cases hp
          · unfold TRep
            by_cases hst : s = t
            · subst hst
              simp only [envOf, upd_same]
              rw [hvv]
              refine .box _ b cs E (if_pos rfl) hz (by rw [viewL_map]; simpa using g1) (fun k hk' => g4 k (by rw [viewL_map] at hk'; simpa using hk')) (fun k hk' => ?_)
              have hkl : k < l.length := by rw [viewL_map] at hk'; simpa using hk'
              have : (viewL l)[k] = view l[k] := by simp [viewL_map]
              rw [this]
              exact .pers ((hk k hkl).toView' hZ fun r b' hr => by
                show (if under b' then w.heap[b']? else Z1 b') = w.heap[b']?
                rw [if_pos ⟨k, r, by simpa using hr⟩])
            · simp only [envOf, upd_ne _ _ _ _ hst]
              exact .pers (.junk _)
    subst hl'
    obtain ⟨Z', β', hR'⟩ := hle
    have hsl := hR'.slot' (t := t) (A := .box l') (by simp [envOf, upd]) (by simp)
    generalize hvv : vals a t = v at hsl
    cases hsl with
    | pers h => cases h
    | box l' b cs E hb hz g1 g4 hk =>
      refine ⟨.agg cs, Z', fun p => match p with | 0 :: k :: q => β' (t :: k :: q) | _ => none, results_spec hres hvv ?_, mk Z' β' _ _ hR' ?_ ?_, .agg l' cs g1 fun k hk' => (hk k hk').move (fun _ _ h => h) fun r b' hr => ⟨by simpa using hr, rfl⟩⟩
      · have := run_loadAt_agg' (P := P) hT (by rw [hsz, g1, hlen]) hz
        simpa [Instr.loadAt, Instr.sureAddr] using this
      · intro p q b' hp hq
        have form : ∀ p, (match p with | 0 :: k :: q => β' (t :: k :: q) | _ => none) = some b' → ∃ k s, p = 0 :: k :: s ∧ β' (t :: k :: s) = some b' := by
          intro p hp
          split at hp
          · exact ⟨_, _, rfl, hp⟩
          · cases hp
        obtain ⟨k, s, rfl, e1⟩ := form p hp
        obtain ⟨k', s', rfl, e2⟩ := form q hq
        have := hR'.inj _ _ _ e1 e2
        simp at this
        rw [this.1, this.2]
      · intro p b' hp
        split at hp
        · exact ⟨_, hp⟩
        · cases hp
  · rename_i hrs
    subst hr
    have hres : fn.results = #[] := by rw [← Array.toArray_toList (xs := fn.results), hrs]
    exact ⟨.tuple #[], Z, fun _ => none, results_none hres _ _ _, mk Z β e _ hR (by simp) (by simp), .pers (.tup [] #[] rfl (by simp))⟩
  · exact hr.elim

/-- A contract of a function that reads its arguments alone. -/
theorem ctr_pure {P : Program} {f : Nat} {fn : Func} {c : Code} (hf : P.funcs[f]? = some fn) (hname : (fn.name == "runtime.NumGoroutine") = false) (hb : fn.body = some c) {nt : Nat} (hnt : fn.ntmps = nt) {rel : List AV → AV → List AV → Prop}
    (h : ∀ args r args', rel args r args' → args' = [] ∧ args.length ≤ nt ∧ ∀ κ : Con, κ.lim = (0, nt) → CW P κ c (retQ P fn.results.toList r) (argEnv args)) : CtrOK P f ⟨false, rel, false⟩ := by
  refine ⟨⟨fn, c, hf, hname, hb⟩, fun args r args' hrel w Z β vs hvs hwf hargs => ?_⟩
  obtain ⟨rfl, hlen, hcw⟩ := h args r args' hrel
  simp only [Bool.false_eq_true, if_false] at hargs
  obtain ⟨hβ, hargs⟩ := hargs
  subst hβ
  let κ : Con := ⟨w, Z, fun b => ∃ p, (fun _ : List Nat => (none : Option Nat)) p = some b, fun _ => undef, (0, nt)⟩
  refine calls_of_wp hf hb (wp_mono (hcw κ rfl { tmps := vs ++ Array.replicate (fn.ntmps - vs.size) undef, defers := [] } w ⟨rfl, ⟨by simp [hnt, hvs]; show _ = nt; omega, fun t ht => absurd ht (Nat.not_lt_zero t)⟩, Z, fun _ => none, ?_⟩) fun x a w' ⟨e', hq, hs'⟩ => ?_)
  · refine ⟨rfl, rfl, rfl, Nat.le_refl _, fun _ _ _ => rfl, fun _ _ h => h, fun _ _ h => .inl h, hwf.zh, by simp, by simp, fun t => ?_⟩
    unfold TRep argEnv
    by_cases ht : t < args.length
    · have e1 : args.getD t .junk = args[t] := by simp [List.getD, List.getElem?_eq_getElem ht]
      have e2 : vals { tmps := vs ++ Array.replicate (fn.ntmps - vs.size) undef, defers := [] } t = vs.getD t undef := by
        have : t < vs.size := by omega
        simp [vals, Array.getD_eq_getD_getElem?, Array.getElem?_append_left this]
      rw [e1, e2]
      have := hargs t ht
      have hpl := this.plain
      generalize args[t] = X at this hpl
      cases X with
      | alias s p => exact absurd rfl (hpl s p).1
      | valias s p => exact absurd rfl (hpl s p).2.1
      | addr s p => exact absurd rfl (hpl s p).2.2.1
      | win s p k => exact absurd rfl ((hpl s p).2.2.2 k)
      | _ => exact .pers this
    · have e1 : args.getD t .junk = .junk := by simp [List.getD, List.getElem?_eq_none (Nat.le_of_not_lt ht)]
      rw [e1]
      exact .pers (.junk _)
  · have hd : a.defers = [] := hs'.1
    have key : RetOK P fn.results.toList e' r → ∃ v, (results fn a.tmps).run P w' = .ok v w' ∧ ∃ v' Z' β', Ending.returned v = .returned v' ∧ Left Z (fun _ => none) w Z' β' w' ∧ ORep Z' w'.heap β' [0] r v' ∧ ∀ i (h : i < ([] : List AV).length), ORep Z' w'.heap β' [i + 1] [][i] (vs.getD i undef) := by
      intro hr
      obtain ⟨v, Z', β', g1, g2, g3⟩ := ret_left (κ := κ) rfl hs' hr
      exact ⟨v, g1, v, Z', β', rfl, g2, g3, by simp⟩
    cases x with
    | normal => obtain ⟨v, g1, g2⟩ := key hq; exact ⟨hd, v, g1, g2⟩
    | ret => obtain ⟨v, g1, g2⟩ := key hq; exact ⟨hd, v, g1, g2⟩
    | _ => exact hq.elim

end Go.Proofs.Ytkibemgdncncoaa

/- Words for the walk: integers, lists of integers, and the rules by which the walk is reckoned. No program in sight. -/
namespace Go.Proofs.Ytkibemgdncncoaa
set_option linter.unusedSimpArgs false
set_option linter.unusedVariables false
set_option maxRecDepth 8000
set_option maxHeartbeats 2000000
open Go Go.RowKit AV

abbrev I (n : Int) : AV := .num .i64 n
abbrev ints (l : List Int) : AV := .sh (l.map I)
abbrev oints (l : List Int) : AV := .own (l.map I)
abbrev rows (l : List (List Int)) : AV := .sh (l.map ints)
abbrev orows (l : List (List Int)) : AV := .own (l.map ints)
abbrev oorows (l : List (List Int)) : AV := .own (l.map oints)

/-- An environment of arguments, slot by slot. -/
def envA : Nat → List AV → Env
  | _, [] => fun _ => .junk
  | k, a :: l => upd (envA (k + 1) l) k a

theorem envA_get : ∀ (l : List AV) (k t : Nat), envA k l t = if k ≤ t then l.getD (t - k) .junk else .junk
  | [], k, t => by simp [envA]
  | a :: l, k, t => by
    simp only [envA, upd]
    by_cases h : t = k
    · subst h; simp
    · rw [if_neg h, envA_get l (k + 1) t]
      by_cases h2 : k + 1 ≤ t
      · rw [if_pos h2, if_pos (by omega), show t - k = (t - (k + 1)) + 1 by omega]; simp
      · rw [if_neg h2, if_neg (by omega)]

theorem argEnv_eq (l : List AV) : argEnv l = envA 0 l := by funext t; simp [argEnv, envA_get]

theorem upd_at (e : Env) (k : Nat) (v : AV) (t : Nat) : upd e k v t = if t = k then v else e t := rfl
theorem kill_upd (s : Nat) (p : List Nat) (e : Env) (t : Nat) (v : AV) : kill s p (upd e t v) = upd (kill s p e) t (killV s p v) := by
  funext x; simp only [kill, upd]; split <;> rfl
theorem kill_nil (s : Nat) (p : List Nat) : kill s p (fun _ => AV.junk) = fun _ => .junk := rfl

section
variable {P : Program} {κ : Con} {Γ : Ctx} {tl : List Nat} {ops : Array Oper} {e : Env} {K : Env → Prop} {B : Array Nat}

def KOps (P : Program) (Γ : Ctx) (tl : List Nat) (ops : Array Oper) (rest : List Oper) (e : Env) (K : Env → Prop) (ws : List Wr) : Prop := wpOpsA P Γ tl ops rest (apps ws e) K
theorem wpOpsA_cons (o : Oper) (rest : List Oper) : wpOpsA P Γ tl ops (o :: rest) e K = (rdG P Γ tl ops o).W e (KOps P Γ tl ops rest e K) := rfl
theorem wpOpsA_nil : wpOpsA P Γ tl ops [] e K = K e := rfl
theorem KOps_app (rest : List Oper) (ws : List Wr) : KOps P Γ tl ops rest e K ws = wpOpsA P Γ tl ops rest (apps ws e) K := rfl

def KOpsD (P : Program) (Γ : Ctx) (tl : List Nat) (ops : Array Oper) (B : Array Nat) (rest : List Oper) (i : Nat) (acc : List (Nat × Fp)) (e : Env) (K : Env → Prop) (f : Fp) : Prop :=
  wpOpsD P Γ tl ops B rest (i + 1) ((i, f) :: acc) (apps f.ws e) K
theorem wpOpsD_cons (o : Oper) (rest : List Oper) (i : Nat) (acc) : wpOpsD P Γ tl ops B (o :: rest) i acc e K = (rdG P Γ tl ops o).D e [] [] [] (KOpsD P Γ tl ops B rest i acc e K) := rfl
theorem wpOpsD_nil (i : Nat) (acc) : wpOpsD P Γ tl ops B [] i acc e K = (chkP B acc = true ∧ K e) := rfl
theorem KOpsD_app (rest : List Oper) (i acc) (gs ps ts : List Nat) (ws : List Wr) : KOpsD P Γ tl ops B rest i acc e K ⟨gs, ps, ts, ws⟩ = wpOpsD P Γ tl ops B rest (i + 1) ((i, ⟨gs, ps, ts, ws⟩) :: acc) (apps ws e) K := rfl

theorem W_ret (ws : List Wr) (K : List Wr → Prop) : Rd.W e (.ret ws) K = K ws := rfl
theorem W_fail (K : List Wr → Prop) : Rd.W e .fail K = False := rfl
theorem W_get (t : Nat) (k : AV → Rd) (K : List Wr → Prop) : Rd.W e (.get t k) K = (e t ≠ .junk ∧ Rd.W e (k (e t)) K) := rfl
theorem W_peek (t : Nat) (k : AV → Rd) (K : List Wr → Prop) : Rd.W e (.peek t k) K = (e t ≠ .junk ∧ Rd.W e (k (head (e t))) K) := rfl
theorem W_need (c : Prop) (k : Rd) (K : List Wr → Prop) : Rd.W e (.need c k) K = (c ∧ Rd.W e k K) := rfl
theorem W_ex (α : Type) (k : α → Rd) (K : List Wr → Prop) : Rd.W e (.ex α k) K = ∃ x, Rd.W e (k x) K := rfl
theorem W_br (c : Prop) (x y : Rd) (K : List Wr → Prop) : Rd.W e (.br c x y) K = ((c → Rd.W e x K) ∧ (¬ c → Rd.W e y K)) := rfl

theorem W_idx_map {α : Type} (f : α → AV) (l : List α) (n : Nat) (k : AV → Rd) (K : List Wr → Prop) : Rd.W e (rdIdx (l.map f) n k) K = ∃ a, l[n]? = some a ∧ Rd.W e (k (f a)) K := by
  simp only [rdIdx, Rd.W, List.getElem?_map]
  refine propext ⟨fun ⟨x, h1, h2⟩ => ?_, fun ⟨a, h1, h2⟩ => ⟨f a, by simp [h1], h2⟩⟩
  cases h : l[n]? with
  | none => simp [h] at h1
  | some a => simp [h] at h1; subst h1; exact ⟨a, rfl, h2⟩
theorem W_idx_zero (a : AV) (l : List AV) (k : AV → Rd) (K : List Wr → Prop) : Rd.W e (rdIdx (a :: l) 0 k) K = Rd.W e (k a) K := by
  simp [rdIdx, Rd.W]
theorem W_idx_succ (a : AV) (l : List AV) (n : Nat) (k : AV → Rd) (K : List Wr → Prop) : Rd.W e (rdIdx (a :: l) (n + 1) k) K = Rd.W e (rdIdx l n k) K := by
  simp [rdIdx, Rd.W]
theorem W_getP_nil (c : AV) (k : AV → Rd) (K : List Wr → Prop) : Rd.W e (rdGetP c [] k) K = Rd.W e (k c) K := by
  simp [rdGetP, Rd.W, getP]
theorem W_getP_own (l : List AV) (i : Nat) (q : List Nat) (k : AV → Rd) (K : List Wr → Prop) : Rd.W e (rdGetP (.own l) (i :: q) k) K = Rd.W e (rdIdx l i fun a => rdGetP a q k) K := by
  simp only [rdGetP, rdIdx, Rd.W, getP, kids]
  cases l[i]? <;> simp
theorem W_getP_box (l : List AV) (i : Nat) (q : List Nat) (k : AV → Rd) (K : List Wr → Prop) : Rd.W e (rdGetP (.box l) (i :: q) k) K = Rd.W e (rdIdx l i fun a => rdGetP a q k) K := by
  simp only [rdGetP, rdIdx, Rd.W, getP, kids]
  cases l[i]? <;> simp
/-- A contract told by its argument: x. -/
theorem W_ask {Γ : Ctx} {f : Nat} {args : List AV} {k : AV → Rd} {K : List Wr → Prop} {rel : List AV → AV → List AV → Prop} (hf : Γ f = some ⟨false, rel, false⟩) (r : AV) (hr : rel args r []) (h : Rd.W e (k r) K) : Rd.W e (rdAsk Γ f args k) K :=
  ⟨_, r, ⟨hf, rfl, hr⟩, h⟩

theorem D_idx_map {α : Type} (f : α → AV) (l : List α) (n : Nat) (k : AV → Rd) (gs ps ts) (K : Fp → Prop) : Rd.D e (rdIdx (l.map f) n k) gs ps ts K = ∃ a, l[n]? = some a ∧ Rd.D e (k (f a)) gs ps ts K := by
  simp only [rdIdx, Rd.D, List.getElem?_map]
  refine propext ⟨fun ⟨x, h1, h2⟩ => ?_, fun ⟨a, h1, h2⟩ => ⟨f a, by simp [h1], h2⟩⟩
  cases h : l[n]? with
  | none => simp [h] at h1
  | some a => simp [h] at h1; subst h1; exact ⟨a, rfl, h2⟩
theorem D_idx_zero (a : AV) (l : List AV) (k : AV → Rd) (gs ps ts) (K : Fp → Prop) : Rd.D e (rdIdx (a :: l) 0 k) gs ps ts K = Rd.D e (k a) gs ps ts K := by
  simp [rdIdx, Rd.D]
theorem D_idx_succ (a : AV) (l : List AV) (n : Nat) (k : AV → Rd) (gs ps ts) (K : Fp → Prop) : Rd.D e (rdIdx (a :: l) (n + 1) k) gs ps ts K = Rd.D e (rdIdx l n k) gs ps ts K := by
  simp [rdIdx, Rd.D]
theorem D_getP_nil (c : AV) (k : AV → Rd) (gs ps ts) (K : Fp → Prop) : Rd.D e (rdGetP c [] k) gs ps ts K = Rd.D e (k c) gs ps ts K := by
  simp [rdGetP, Rd.D, getP]
theorem D_getP_own (l : List AV) (i : Nat) (q : List Nat) (k : AV → Rd) (gs ps ts) (K : Fp → Prop) : Rd.D e (rdGetP (.own l) (i :: q) k) gs ps ts K = Rd.D e (rdIdx l i fun a => rdGetP a q k) gs ps ts K := by
  simp only [rdGetP, rdIdx, Rd.D, getP, kids]
  cases l[i]? <;> simp
theorem D_getP_box (l : List AV) (i : Nat) (q : List Nat) (k : AV → Rd) (gs ps ts) (K : Fp → Prop) : Rd.D e (rdGetP (.box l) (i :: q) k) gs ps ts K = Rd.D e (rdIdx l i fun a => rdGetP a q k) gs ps ts K := by
  simp only [rdGetP, rdIdx, Rd.D, getP, kids]
  cases l[i]? <;> simp
theorem D_ask {Γ : Ctx} {f : Nat} {args : List AV} {k : AV → Rd} {gs ps ts} {K : Fp → Prop} {rel : List AV → AV → List AV → Prop} (hf : Γ f = some ⟨false, rel, false⟩) (r : AV) (hr : rel args r []) (h : Rd.D e (k r) gs ps ts K) : Rd.D e (rdAsk Γ f args k) gs ps ts K :=
  ⟨_, r, ⟨hf, rfl, hr⟩, h⟩

theorem D_ret (ws : List Wr) (gs ps ts) (K : Fp → Prop) : Rd.D e (.ret ws) gs ps ts K = K ⟨gs, ps, ts, ws⟩ := rfl
theorem D_fail (gs ps ts) (K : Fp → Prop) : Rd.D e .fail gs ps ts K = False := rfl
theorem D_get (t : Nat) (k : AV → Rd) (gs ps ts) (K : Fp → Prop) : Rd.D e (.get t k) gs ps ts K = (e t ≠ .junk ∧ Rd.D e (k (e t)) (t :: gs) ps (tg (e t) ++ ts) K) := rfl
theorem D_peek (t : Nat) (k : AV → Rd) (gs ps ts) (K : Fp → Prop) : Rd.D e (.peek t k) gs ps ts K = (e t ≠ .junk ∧ Rd.D e (k (head (e t))) gs (t :: ps) (tg (e t) ++ ts) K) := rfl
theorem D_need (c : Prop) (k : Rd) (gs ps ts) (K : Fp → Prop) : Rd.D e (.need c k) gs ps ts K = (c ∧ Rd.D e k gs ps ts K) := rfl
theorem D_ex (α : Type) (k : α → Rd) (gs ps ts) (K : Fp → Prop) : Rd.D e (.ex α k) gs ps ts K = ∃ x, Rd.D e (k x) gs ps ts K := rfl
theorem D_br (c : Prop) (x y : Rd) (gs ps ts) (K : Fp → Prop) : Rd.D e (.br c x y) gs ps ts K = ((c → Rd.D e x gs ps ts K) ∧ (¬ c → Rd.D e y gs ps ts K)) := rfl
end

/-- One piece of code, and what follows behind a name. -/
theorem CW.seqK {P : Program} {κ : Con} {Q : QA} {e : Env} {x y : Code} (h : ∀ K : Env → Prop, (∀ e', CW P κ y Q e' → K e') → CW P κ x (thenA K Q) e) : CW P κ (.seq x y) Q e :=
  CW.seq (h _ fun _ h => h)

theorem CW.reg {P : Program} {κ : Con} {Q : QA} {e : Env} {Γ : Ctx} (hΓ : ∀ f c, Γ f = some c → CtrOK P f c) {id : Nat} {ops : List Oper} (hd : dstOK κ.lim ops = true) (h : wpOpsA P Γ (takenL ops) ops.toArray ops e (Q .normal)) : CW P κ (.region id ops.toArray false) Q e :=
  CW.region hΓ _ hd h
theorem CW.drw {P : Program} {κ : Con} {Q : QA} {e : Env} {Γ : Ctx} (hΓ : ∀ f c, Γ f = some c → CtrOK P f c) (hm : P.follows .mixedOrders = true) {id : Nat} {ops : List Oper} (hd : dstOK κ.lim ops = true) (hf : fwdB ops.toArray = true)
    (h : ∀ B, befB ops.toArray = B → wpOpsD P Γ (takenL ops) ops.toArray B ops 0 [] e (Q .normal)) : CW P κ (.region id ops.toArray true) Q e :=
  CW.draw hΓ hm _ _ hd hf rfl (h _ rfl)

theorem thenA_normal (N : Env → Prop) (Q : QA) (e : Env) : thenA N Q .normal e = N e := rfl
theorem thenA_normal' (N : Env → Prop) (Q : QA) : thenA N Q .normal = N := rfl
theorem thenA_exit (N : Env → Prop) (Q : QA) (id : Nat) (e : Env) : thenA N Q (.exit id) e = Q (.exit id) e := rfl
theorem thenA_ret (N : Env → Prop) (Q : QA) (e : Env) : thenA N Q .ret e = Q .ret e := rfl
theorem inBlockA_normal (id : Nat) (Q : QA) (e : Env) : inBlockA id Q .normal e = Q .normal e := rfl
theorem inBlockA_ret (id : Nat) (Q : QA) (e : Env) : inBlockA id Q .ret e = Q .ret e := rfl
theorem inBlockA_exit (id id' : Nat) (Q : QA) (e : Env) : inBlockA id Q (.exit id') e = if id' = id then Q .normal e else Q (.exit id') e := rfl
theorem retQ_ret (P : Program) (rs : List ResultVar) (r : AV) (e : Env) : retQ P rs r .ret e = RetOK P rs e r := rfl
theorem retQ_normal (P : Program) (rs : List ResultVar) (r : AV) (e : Env) : retQ P rs r .normal e = RetOK P rs e r := rfl
theorem retOK1 (P : Program) (t : Nat) (e : Env) (r : AV) : RetOK P [.tmp t] e r = (plainB r = true ∧ (r = e t ∨ r = view (e t))) := rfl

def noCtx : Ctx := fun _ => none
theorem noCtx_ok (P : Program) : ∀ f c, noCtx f = some c → CtrOK P f c := by intro f c h; cases h

theorem ex_idx {α : Type} {l : List α} {n : Nat} {Q : α → Prop} (h : n < l.length) (hq : Q l[n]) : ∃ a, l[n]? = some a ∧ Q a := ⟨l[n], List.getElem?_eq_getElem h, hq⟩

theorem noSh_ints (l : List Int) : AV.allN (l.map I) = true := by rw [allN_iff]; simp [noSh]
theorem allP_ints (l : List Int) : AV.allP (l.map I) = true := by rw [allP_iff]; simp [isP]
theorem allP_rows (l : List (List Int)) : AV.allP (l.map ints) = true := by rw [allP_iff]; simp [isP]
theorem view_oints (l : List Int) : AV.viewL (l.map I) = l.map I := by rw [viewL_map]; simp [view]
theorem Nat.cast_ofNat_Int : ((0 : Nat) : Int) = 0 := rfl

end Go.Proofs.Ytkibemgdncncoaa

/- Contracts of functions that write what their first argument holds. No program in sight. -/
namespace Go.Proofs.Ytkibemgdncncoaa
set_option linter.unusedSimpArgs false
set_option linter.unusedVariables false
set_option maxRecDepth 8000
set_option maxHeartbeats 2000000
open Go Go.RowKit AV

/-- A result that owns nothing. -/
def RetP (rs : List ResultVar) (e : Env) (r : AV) : Prop := match rs with
  | [.tmp t] => isP r = true ∧ e t = r
  | [] => r = .tup []
  | _ => False

theorem retP0 (e : Env) (r : AV) : RetP [] e r = (r = .tup []) := rfl
theorem retP1 (t : Nat) (e : Env) (r : AV) : RetP [.tmp t] e r = (isP r = true ∧ e t = r) := rfl

/-- What the first argument holds now. -/
def backA (e : Env) (A : AV) : Prop := match e 0 with
  | .alias s p => getP (e s) p = some A ∧ isOwn A = true
  | .valias s p => ∃ l, getP (e s) p = some (.box l) ∧ A = .agg l
  | X => X = A ∧ isOwn A = true

def retE (rs : List ResultVar) (r A : AV) : QA
  | .normal, e => RetP rs e r ∧ backA e A
  | .ret, e => RetP rs e r ∧ backA e A
  | _, _ => False

theorem retE_ret (rs : List ResultVar) (r A : AV) (e : Env) : retE rs r A .ret e = (RetP rs e r ∧ backA e A) := rfl
theorem retE_normal (rs : List ResultVar) (r A : AV) (e : Env) : retE rs r A .normal e = (RetP rs e r ∧ backA e A) := rfl

def outB (β : List Nat → Option Nat) (s : Nat) (p : List Nat) (U : List Nat → Bool) : List Nat → Option Nat
  | 1 :: r => if U r then β (s :: p ++ r) else none
  | _ => none

theorem outB_spec {β : List Nat → Option Nat} {s : Nat} {p : List Nat} {U : List Nat → Bool} {q : List Nat} {b : Nat} (h : outB β s p U q = some b) : ∃ r, q = 1 :: r ∧ U r = true ∧ β (s :: p ++ r) = some b := by
  rcases q with _ | ⟨x, r⟩
  · cases h
  · rcases x with _ | _ | x
    · cases h
    · simp only [outB] at h
      split at h
      · exact ⟨r, rfl, by assumption, h⟩
      · cases h
    · cases h

theorem ret_eff {P : Program} {fn : Func} {κ : Con} {β0 : List Nat → Option Nat} (hO : κ.O0 = fun b => ∃ p, β0 p = some b) (hl : 0 < κ.lim.1) {e : Env} {a : Act} {w : World} {r A : AV} (hs : St κ e a w) (hr : RetP fn.results.toList e r) (hA : backA e A) :
    ∃ v Z' β', (results fn a.tmps).run P w = .ok v w ∧ Left κ.Z0 β0 κ.W0 Z' β' w ∧ ORep Z' w.heap β' [0] r v ∧ ORep Z' w.heap β' [1] A (κ.V0 0) := by
  obtain ⟨h1, h2, Z, β, hR⟩ := hs
  have hv0 : vals a 0 = κ.V0 0 := h2.2 0 hl
  have mk : ∀ (s : Nat) (p : List Nat) (U : List Nat → Bool), Left κ.Z0 β0 κ.W0 Z (outB β s p U) w := by
    intro s p U
    have hnew : ∀ b, new κ b → (∃ q, β0 q = some b) ∨ κ.W0.heap.size ≤ b := fun b hb => by
      unfold new at hb; rw [hO] at hb; exact hb
    refine ⟨hR.os, hR.tape, hR.output, hR.size, fun b hb hn => hR.frame b hb ?_, hR.z0, fun b o ho => (hR.zo b o ho).imp id fun h => hnew b h, hR.zh, fun p q b hp hq => ?_, fun p b hp => ?_⟩
    · rw [hO]; rintro ⟨p, hp⟩; exact hn p hp
    · obtain ⟨r1, rfl, _, g1⟩ := outB_spec hp
      obtain ⟨r2, rfl, _, g2⟩ := outB_spec hq
      have := hR.inj _ _ _ g1 g2
      simp at this
      rw [this]
    · obtain ⟨r1, rfl, _, g1⟩ := outB_spec hp
      have := hR.bo _ b g1
      exact ⟨hnew b this.1, this.2⟩
  have res : ∃ v, (results fn a.tmps).run P w = .ok v w ∧ PRep Z r v := by
    unfold RetP at hr
    split at hr
    · rename_i t hrs
      obtain ⟨hp, hrt⟩ := hr
      have hres : fn.results = #[.tmp t] := by rw [← Array.toArray_toList (xs := fn.results), hrs]
      exact ⟨_, results_tmp hres _ _ _, ORep.toP (hR.slot' hrt (isP_plain hp)) hp⟩
    · rename_i hrs
      subst hr
      have hres : fn.results = #[] := by rw [← Array.toArray_toList (xs := fn.results), hrs]
      exact ⟨_, results_none hres _ _ _, .tup [] #[] rfl (by simp)⟩
    · exact hr.elim
  obtain ⟨v, hv, hPr⟩ := res
  have plain : (∀ s p, e 0 ≠ .alias s p ∧ e 0 ≠ .valias s p ∧ e 0 ≠ .addr s p ∧ ∀ k, e 0 ≠ .win s p k) → e 0 = A → isOwn A = true → ∃ v Z' β', (results fn a.tmps).run P w = .ok v w ∧ Left κ.Z0 β0 κ.W0 Z' β' w ∧ ORep Z' w.heap β' [0] r v ∧ ORep Z' w.heap β' [1] A (κ.V0 0) := by
    intro hpl he ho
    refine ⟨v, Z, outB β 0 [] (fun _ => true), hv, mk _ _ _, .pers hPr, ?_⟩
    have := hR.slot 0 hpl
    rw [he, hv0] at this
    exact this.move (fun _ _ h => h) fun r b hb => ⟨by simpa [outB] using hb, rfl⟩
  unfold backA at hA
  cases he : e 0 with
  | alias s p =>
    rw [he] at hA
    obtain ⟨hg, ho⟩ := hA
    refine ⟨v, Z, outB β s p (fun _ => true), hv, mk _ _ _, .pers hPr, ?_⟩
    have := hR.aliasAt he A hg ho
    rw [hv0] at this
    exact this.move (fun _ _ h => h) fun r b hb => ⟨by simpa [outB] using hb, rfl⟩
  | valias s p =>
    rw [he] at hA
    obtain ⟨l, hg, rfl⟩ := hA
    obtain ⟨cs, hcs, hO', _⟩ := hR.valiasAt he l hg
    rw [hv0] at hcs
    rw [hcs]
    have key : ∃ hcs : cs.size = l.length, ∀ k (h : k < l.length), ORep Z w.heap β (s :: p ++ [k]) l[k] (cs.getD k undef) := by
      cases hO' with
      | pers h => cases h with | agg l cs h1 hk => exact ⟨h1, fun k h => .pers (hk k h)⟩
      | agg l cs h1 hk => exact ⟨h1, hk⟩
    obtain ⟨hsz, hk⟩ := key
    exact ⟨v, Z, outB β s p (fun _ => true), hv, mk _ _ _, .pers hPr, .agg l cs hsz fun k hk' => (hk k hk').move (fun _ _ h => h) fun r b hb => ⟨by simpa [outB] using hb, rfl⟩⟩
  | addr s p => rw [he] at hA; obtain ⟨rfl, ho⟩ := hA; cases ho
  | win s p k => rw [he] at hA; obtain ⟨rfl, ho⟩ := hA; cases ho
  | _ => rw [he] at hA; exact plain (by rw [he]; simp) (he.trans hA.1) hA.2

/-- A contract of a function that writes what its first argument holds. -/
theorem ctr_eff {P : Program} {f : Nat} {fn : Func} {c : Code} (hf : P.funcs[f]? = some fn) (hname : (fn.name == "runtime.NumGoroutine") = false) (hb : fn.body = some c) {nt : Nat} (hnt : fn.ntmps = nt) {rel : List AV → AV → List AV → Prop}
    (h : ∀ args r args', rel args r args' → ∃ A, args' = [A] ∧ 0 < args.length ∧ args.length ≤ nt ∧ ∀ κ : Con, κ.lim = (1, nt) → CW P κ c (retE fn.results.toList r A) (argEnv args)) : CtrOK P f ⟨true, rel, false⟩ := by
  refine ⟨⟨fn, c, hf, hname, hb⟩, fun args r args' hrel w Z β vs hvs hwf hargs => ?_⟩
  obtain ⟨A, rfl, h0, hlen, hcw⟩ := h args r args' hrel
  simp only [if_true] at hargs
  let κ : Con := ⟨w, Z, fun b => ∃ p, β p = some b, fun t => vs.getD t undef, (1, nt)⟩
  have hval : ∀ t, t < args.length → vals { tmps := vs ++ Array.replicate (fn.ntmps - vs.size) undef, defers := [] } t = vs.getD t undef := by
    intro t ht
    have : t < vs.size := by omega
    simp [vals, Array.getD_eq_getD_getElem?, Array.getElem?_append_left this]
  refine calls_of_wp hf hb (wp_mono (hcw κ rfl { tmps := vs ++ Array.replicate (fn.ntmps - vs.size) undef, defers := [] } w ⟨rfl, ⟨by simp [hnt, hvs]; show _ = nt; omega, fun t ht => hval t (by have : t < 1 := ht; omega)⟩, Z, β, ?_⟩) fun x a w' ⟨e', hq, hs'⟩ => ?_)
  · refine ⟨rfl, rfl, rfl, Nat.le_refl _, fun _ _ _ => rfl, fun _ _ h => h, fun _ _ h => .inl h, hwf.zh, hwf.inj, fun p b hp => ⟨.inl ⟨p, hp⟩, hwf.bo p b hp⟩, fun t => ?_⟩
    unfold TRep argEnv
    by_cases ht : t < args.length
    · have e1 : args.getD t .junk = args[t] := by simp [List.getD, List.getElem?_eq_getElem ht]
      rw [e1, hval t ht]
      have := hargs t ht
      have hpl := this.plain
      generalize args[t] = X at this hpl
      cases X with
      | alias s p => exact absurd rfl (hpl s p).1
      | valias s p => exact absurd rfl (hpl s p).2.1
      | addr s p => exact absurd rfl (hpl s p).2.2.1
      | win s p k => exact absurd rfl ((hpl s p).2.2.2 k)
      | _ => exact this
    · have e1 : args.getD t .junk = .junk := by simp [List.getD, List.getElem?_eq_none (Nat.le_of_not_lt ht)]
      rw [e1]
      exact .pers (.junk _)
  · have hd : a.defers = [] := hs'.1
    have key : RetP fn.results.toList e' r ∧ backA e' A → ∃ v, (results fn a.tmps).run P w' = .ok v w' ∧ ∃ v' Z' β', Ending.returned v = .returned v' ∧ Left Z β w Z' β' w' ∧ ORep Z' w'.heap β' [0] r v' ∧ ∀ i (h : i < ([A] : List AV).length), ORep Z' w'.heap β' [i + 1] [A][i] (vs.getD i undef) := by
      rintro ⟨hr, hA⟩
      obtain ⟨v, Z', β', g1, g2, g3, g4⟩ := ret_eff (κ := κ) rfl (Nat.zero_lt_one) hs' hr hA
      refine ⟨v, g1, v, Z', β', rfl, g2, g3, fun i hi => ?_⟩
      have : i = 0 := by simpa using hi
      subst this
      exact g4
    cases x with
    | normal => obtain ⟨v, g1, g2⟩ := key hq; exact ⟨hd, v, g1, g2⟩
    | ret => obtain ⟨v, g1, g2⟩ := key hq; exact ⟨hd, v, g1, g2⟩
    | _ => exact hq.elim

/-- A context, listed. -/
def ctxOf : List (Nat × Ctr) → Ctx
  | [], _ => none
  | (g, c) :: L, f => if f = g then some c else ctxOf L f

theorem ctxOf_ok {P : Program} : ∀ {L : List (Nat × Ctr)}, (∀ x ∈ L, CtrOK P x.1 x.2) → ∀ f c, ctxOf L f = some c → CtrOK P f c
  | [], _, f, c, h => by cases h
  | (g, c0) :: L, hL, f, c, h => by
    simp only [ctxOf] at h
    split at h
    · rename_i hfg
      injection h with h
      subst hfg; subst h
      exact hL (f, c0) (by simp)
    · exact ctxOf_ok (fun x hx => hL x (by simp [hx])) f c h

theorem isE_of {Γ : Ctx} {f : Nat} {c : Ctr} (h : Γ f = some c) : isE Γ f = c.eff := by simp [isE, h]

theorem allN_oints (l : List (List Int)) : AV.allN (l.map oints) = true := by rw [allN_iff]; intro a ha; obtain ⟨x, _, rfl⟩ := List.mem_map.1 ha; exact noSh_ints x
theorem view_I : AV.view ∘ I = I := by funext n; rfl
theorem view_ints : AV.view ∘ ints = ints := by funext l; rfl
theorem view_oo : AV.view ∘ oints = ints := by funext l; simp [oints, ints, view, viewL_map, view_I]

theorem retOK_box {P : Program} {T t : Nat} {e : Env} {l : List AV} (hT : aggT P T = some true) (hs : szT P T = some l.length) (he : e t = .box l) : RetOK P [.cell t T] e (.agg l) := ⟨l, hT, hs, he, .inl rfl⟩
theorem retOK_boxV {P : Program} {T t : Nat} {e : Env} {l : List AV} (hT : aggT P T = some true) (hs : szT P T = some l.length) (he : e t = .box l) : RetOK P [.cell t T] e (.agg (viewL l)) := ⟨l, hT, hs, he, .inr rfl⟩

theorem W_br_t {e : Env} (x y : Rd) (K : List Wr → Prop) : Rd.W e (.br True x y) K = Rd.W e x K := by simp [Rd.W]
theorem W_br_f {e : Env} (x y : Rd) (K : List Wr → Prop) : Rd.W e (.br False x y) K = Rd.W e y K := by simp [Rd.W]
theorem D_br_t {e : Env} (x y : Rd) (gs ps ts) (K : Fp → Prop) : Rd.D e (.br True x y) gs ps ts K = Rd.D e x gs ps ts K := by simp [Rd.D]
theorem D_br_f {e : Env} (x y : Rd) (gs ps ts) (K : Fp → Prop) : Rd.D e (.br False x y) gs ps ts K = Rd.D e y gs ps ts K := by simp [Rd.D]
theorem W_brs {e : Env} {c : Prop} {x y : Rd} {K : List Wr → Prop} (h1 : c → Rd.W e x K) (h2 : ¬ c → Rd.W e y K) : Rd.W e (.br c x y) K := ⟨h1, h2⟩
theorem D_brs {e : Env} {c : Prop} {x y : Rd} {gs ps ts} {K : Fp → Prop} (h1 : c → Rd.D e x gs ps ts K) (h2 : ¬ c → Rd.D e y gs ps ts K) : Rd.D e (.br c x y) gs ps ts K := ⟨h1, h2⟩

theorem cast_div (a b : Nat) : (a : Int) / (b : Int) = ((a / b : Nat) : Int) := (Int.natCast_ediv a b).symm
theorem cast_mod (a b : Nat) : (a : Int) % (b : Int) = ((a % b : Nat) : Int) := (Int.natCast_emod a b).symm

def killIf (b : Bool) (s : Nat) (p : List Nat) (e : Env) : Env := match b with
  | true => kill s p e
  | false => e
theorem killIf_t (s : Nat) (p : List Nat) (e : Env) : killIf true s p e = kill s p e := rfl
theorem killIf_f (s : Nat) (p : List Nat) (e : Env) : killIf false s p e = e := rfl
theorem app_set_junk (d : Nat) (e : Env)  : (Wr.set d AV.junk).app e = upd e d AV.junk := rfl
theorem app_mod_junk (s : Nat) (p : List Nat) (e : Env)  : (Wr.mod s p AV.junk).app e = upd e s (setP (e s) p AV.junk) := rfl
theorem app_set_num (d : Nat) (e : Env) (k : IntKind) (n : Int) : (Wr.set d (AV.num k n)).app e = upd e d (AV.num k n) := rfl
theorem app_mod_num (s : Nat) (p : List Nat) (e : Env) (k : IntKind) (n : Int) : (Wr.mod s p (AV.num k n)).app e = upd e s (setP (e s) p (AV.num k n)) := rfl
theorem app_set_bool (d : Nat) (e : Env) (b : Bool) : (Wr.set d (AV.bool b)).app e = upd e d (AV.bool b) := rfl
theorem app_mod_bool (s : Nat) (p : List Nat) (e : Env) (b : Bool) : (Wr.mod s p (AV.bool b)).app e = upd e s (setP (e s) p (AV.bool b)) := rfl
theorem app_set_sh (d : Nat) (e : Env) (l : List AV) : (Wr.set d (AV.sh l)).app e = upd e d (AV.sh l) := rfl
theorem app_mod_sh (s : Nat) (p : List Nat) (e : Env) (l : List AV) : (Wr.mod s p (AV.sh l)).app e = upd e s (setP (e s) p (AV.sh l)) := rfl
theorem app_set_own (d : Nat) (e : Env) (l : List AV) : (Wr.set d (AV.own l)).app e = upd (kill d [] e) d (AV.own l) := rfl
theorem app_mod_own (s : Nat) (p : List Nat) (e : Env) (l : List AV) : (Wr.mod s p (AV.own l)).app e = upd (kill s p e) s (setP (e s) p (AV.own l)) := rfl
theorem app_set_box (d : Nat) (e : Env) (l : List AV) : (Wr.set d (AV.box l)).app e = upd (kill d [] e) d (AV.box l) := rfl
theorem app_mod_box (s : Nat) (p : List Nat) (e : Env) (l : List AV) : (Wr.mod s p (AV.box l)).app e = upd (kill s p e) s (setP (e s) p (AV.box l)) := rfl
theorem app_set_pbox (d : Nat) (e : Env) (l : List AV) : (Wr.set d (AV.pbox l)).app e = upd e d (AV.pbox l) := rfl
theorem app_mod_pbox (s : Nat) (p : List Nat) (e : Env) (l : List AV) : (Wr.mod s p (AV.pbox l)).app e = upd e s (setP (e s) p (AV.pbox l)) := rfl
theorem app_set_pcell (d : Nat) (e : Env) (v : AV) : (Wr.set d (AV.pcell v)).app e = upd e d (AV.pcell v) := rfl
theorem app_mod_pcell (s : Nat) (p : List Nat) (e : Env) (v : AV) : (Wr.mod s p (AV.pcell v)).app e = upd e s (setP (e s) p (AV.pcell v)) := rfl
theorem app_set_alias (d : Nat) (e : Env) (s' : Nat) (q : List Nat) : (Wr.set d (AV.alias s' q)).app e = upd e d (AV.alias s' q) := rfl
theorem app_mod_alias (s : Nat) (p : List Nat) (e : Env) (s' : Nat) (q : List Nat) : (Wr.mod s p (AV.alias s' q)).app e = upd e s (setP (e s) p (AV.alias s' q)) := rfl
theorem app_set_valias (d : Nat) (e : Env) (s' : Nat) (q : List Nat) : (Wr.set d (AV.valias s' q)).app e = upd e d (AV.valias s' q) := rfl
theorem app_mod_valias (s : Nat) (p : List Nat) (e : Env) (s' : Nat) (q : List Nat) : (Wr.mod s p (AV.valias s' q)).app e = upd e s (setP (e s) p (AV.valias s' q)) := rfl
theorem app_set_addr (d : Nat) (e : Env) (s' : Nat) (q : List Nat) : (Wr.set d (AV.addr s' q)).app e = upd e d (AV.addr s' q) := rfl
theorem app_mod_addr (s : Nat) (p : List Nat) (e : Env) (s' : Nat) (q : List Nat) : (Wr.mod s p (AV.addr s' q)).app e = upd e s (setP (e s) p (AV.addr s' q)) := rfl
theorem app_set_fn (d : Nat) (e : Env) (f : Nat) (l : List AV) : (Wr.set d (AV.fn f l)).app e = upd e d (AV.fn f l) := rfl
theorem app_mod_fn (s : Nat) (p : List Nat) (e : Env) (f : Nat) (l : List AV) : (Wr.mod s p (AV.fn f l)).app e = upd e s (setP (e s) p (AV.fn f l)) := rfl
theorem app_set_agg (d : Nat) (e : Env) (l : List AV) : (Wr.set d (.agg l)).app e = upd (killIf (anyOwn l) d [] e) d (.agg l) := by cases h : anyOwn l <;> simp [Wr.app, isOwn, h, killIf]
theorem app_mod_agg (s : Nat) (p : List Nat) (e : Env) (l : List AV) : (Wr.mod s p (.agg l)).app e = upd (killIf (anyOwn l) s p e) s (setP (e s) p (.agg l)) := by cases h : anyOwn l <;> simp [Wr.app, isOwn, h, killIf]
theorem app_set_tup (d : Nat) (e : Env) (l : List AV) : (Wr.set d (.tup l)).app e = upd (killIf (anyOwn l) d [] e) d (.tup l) := by cases h : anyOwn l <;> simp [Wr.app, isOwn, h, killIf]
theorem app_mod_tup (s : Nat) (p : List Nat) (e : Env) (l : List AV) : (Wr.mod s p (.tup l)).app e = upd (killIf (anyOwn l) s p e) s (setP (e s) p (.tup l)) := by cases h : anyOwn l <;> simp [Wr.app, isOwn, h, killIf]

theorem isE_no (f : Nat) : isE noCtx f = false := rfl
theorem isE_nil (f : Nat) : isE (ctxOf []) f = false := rfl
theorem isE_cons (g : Nat) (c : Ctr) (L : List (Nat × Ctr)) (f : Nat) : isE (ctxOf ((g, c) :: L)) f = if f = g then c.eff else isE (ctxOf L) f := by
  by_cases h : f = g <;> simp [isE, ctxOf, h]

def effC (rel : List AV → AV → List AV → Prop) : Ctr := ⟨true, rel, false⟩
def pureC (rel : List AV → AV → Prop) : Ctr := ⟨false, fun args r args' => args' = [] ∧ rel args r, false⟩
theorem effC_eff (rel) : (effC rel).eff = true := rfl
theorem pureC_eff (rel) : (pureC rel).eff = false := rfl
theorem effC_rel (rel) : (effC rel).rel = rel := rfl
theorem pureC_rel (rel) (args r args') : (pureC rel).rel args r args' = (args' = [] ∧ rel args r) := rfl

theorem W_askP {e : Env} {Γ : Ctx} {f : Nat} {args : List AV} {k : AV → Rd} {K : List Wr → Prop} {rel : List AV → AV → Prop} (hf : Γ f = some (pureC rel)) (r : AV) (hr : rel args r) (h : Rd.W e (k r) K) : Rd.W e (rdAsk Γ f args k) K :=
  ⟨_, r, ⟨hf, rfl, rfl, hr⟩, h⟩
theorem D_askP {e : Env} {Γ : Ctx} {f : Nat} {args : List AV} {k : AV → Rd} {gs ps ts} {K : Fp → Prop} {rel : List AV → AV → Prop} (hf : Γ f = some (pureC rel)) (r : AV) (hr : rel args r) (h : Rd.D e (k r) gs ps ts K) : Rd.D e (rdAsk Γ f args k) gs ps ts K :=
  ⟨_, r, ⟨hf, rfl, rfl, hr⟩, h⟩
theorem W_askE {e : Env} {Γ : Ctx} {f : Nat} {args : List AV} {k : AV → AV → Rd} {K : List Wr → Prop} {rel : List AV → AV → List AV → Prop} (hf : Γ f = some (effC rel)) (r A : AV) (hr : rel args r [A]) (h : Rd.W e (k r A) K) : Rd.W e (rdAskE Γ f args k) K :=
  ⟨_, r, A, ⟨hf, rfl, hr⟩, h⟩
theorem D_askE {e : Env} {Γ : Ctx} {f : Nat} {args : List AV} {k : AV → AV → Rd} {gs ps ts} {K : Fp → Prop} {rel : List AV → AV → List AV → Prop} (hf : Γ f = some (effC rel)) (r A : AV) (hr : rel args r [A]) (h : Rd.D e (k r A) gs ps ts K) : Rd.D e (rdAskE Γ f args k) gs ps ts K :=
  ⟨_, r, A, ⟨hf, rfl, hr⟩, h⟩

/-- A contract of a function that reads its arguments alone. -/
theorem ctr_pure' {P : Program} {f : Nat} {fn : Func} {c : Code} (hf : P.funcs[f]? = some fn) (hname : (fn.name == "runtime.NumGoroutine") = false) (hb : fn.body = some c) {nt : Nat} (hnt : fn.ntmps = nt) {rel : List AV → AV → Prop}
    (h : ∀ args r, rel args r → args.length ≤ nt ∧ ∀ κ : Con, κ.lim = (0, nt) → CW P κ c (retQ P fn.results.toList r) (argEnv args)) : CtrOK P f (pureC rel) :=
  ctr_pure hf hname hb hnt fun args r args' ⟨h1, h2⟩ => ⟨h1, h args r h2⟩

theorem ctr_eff' {P : Program} {f : Nat} {fn : Func} {c : Code} (hf : P.funcs[f]? = some fn) (hname : (fn.name == "runtime.NumGoroutine") = false) (hb : fn.body = some c) {nt : Nat} (hnt : fn.ntmps = nt) {rel : List AV → AV → List AV → Prop}
    (h : ∀ args r args', rel args r args' → ∃ A, args' = [A] ∧ 0 < args.length ∧ args.length ≤ nt ∧ ∀ κ : Con, κ.lim = (1, nt) → CW P κ c (retE fn.results.toList r A) (argEnv args)) : CtrOK P f (effC rel) := ctr_eff hf hname hb hnt h

theorem take_succ_eq {α : Type} {l m : List α} {k : Nat} (hl : k < l.length) (hm : k < m.length) (h : l.take k = m.take k) (he : l[k] = m[k]) : l.take (k + 1) = m.take (k + 1) := by
  rw [List.take_succ_eq_append_getElem hl, List.take_succ_eq_append_getElem hm, h, he]

theorem getElem_of_drop {α : Type} {l m : List α} {k : Nat} (h : l.drop k = m.drop k) (hl : k < l.length) (hm : k < m.length) : l[k] = m[k] := by
  have := congrArg (fun l => l[0]?) h
  simp only [List.getElem?_drop, Nat.add_zero, List.getElem?_eq_getElem hl, List.getElem?_eq_getElem hm, Option.some.injEq] at this
  exact this

theorem drop_set_succ {α : Type} {X l : List α} {k : Nat} {v : α} (h : X.drop k = l.drop k) : (X.set k v).drop (k + 1) = l.drop (k + 1) := by
  have := congrArg (List.drop 1) h
  simp only [List.drop_drop] at this
  rw [List.drop_set_of_lt (by omega), this]

theorem take_set_succ {α : Type} {X l : List α} {k : Nat} (hk : k < l.length) (hX : k < X.length) (h : X.take k = l.take k) : (X.set k l[k]).take (k + 1) = l.take (k + 1) := by
  refine List.ext_getElem? fun i => ?_
  rw [List.getElem?_take, List.getElem?_take]
  by_cases hi : i < k + 1
  · simp only [hi, if_true]
    by_cases hik : i = k
    · subst hik; simp [hX, hk]
    · have := congrArg (fun l => l[i]?) h
      simp only [List.getElem?_take, show i < k by omega, if_true] at this
      rw [List.getElem?_set_ne (Ne.symm hik), this]
  · simp [hi]

/-! ### Contracts of functions that take their first argument -/
def takeC (rel : List AV → AV → Prop) : Ctr := ⟨true, fun args r args' => args' = [] ∧ rel args r, true⟩
theorem takeC_eff (rel) : (takeC rel).eff = true := rfl
theorem takeC_tk (rel) : (takeC rel).tk = true := rfl
theorem effC_tk (rel) : (effC rel).tk = false := rfl
theorem pureC_tk (rel) : (pureC rel).tk = false := rfl
theorem isT_no (f : Nat) : isT noCtx f = false := rfl
theorem isT_nil (f : Nat) : isT (ctxOf []) f = false := rfl
theorem isT_cons (g : Nat) (c : Ctr) (L : List (Nat × Ctr)) (f : Nat) : isT (ctxOf ((g, c) :: L)) f = if f = g then c.tk else isT (ctxOf L) f := by
  simp only [isT, ctxOf]
  split
  · rename_i h; split at h <;> simp_all
  · rename_i h; split at h <;> simp_all
theorem W_askT {e : Env} {Γ : Ctx} {f : Nat} {args : List AV} {k : AV → Rd} {K : List Wr → Prop} {rel : List AV → AV → Prop} (hf : Γ f = some (takeC rel)) (r : AV) (hr : rel args r) (h : Rd.W e (k r) K) : Rd.W e (rdAskT Γ f args k) K := by
  exact ⟨_, r, ⟨hf, rfl, rfl, hr⟩, h⟩
theorem D_askT {e : Env} {Γ : Ctx} {f : Nat} {args : List AV} {k : AV → Rd} {gs ps ts} {K : Fp → Prop} {rel : List AV → AV → Prop} (hf : Γ f = some (takeC rel)) (r : AV) (hr : rel args r) (h : Rd.D e (k r) gs ps ts K) : Rd.D e (rdAskT Γ f args k) gs ps ts K := by
  exact ⟨_, r, ⟨hf, rfl, rfl, hr⟩, h⟩

theorem ctr_take {P : Program} {f : Nat} {fn : Func} {c : Code} (hf : P.funcs[f]? = some fn) (hname : (fn.name == "runtime.NumGoroutine") = false) (hb : fn.body = some c) {nt : Nat} (hnt : fn.ntmps = nt) {rel : List AV → AV → Prop}
    (h : ∀ args r, rel args r → args.length ≤ nt ∧ ∀ κ : Con, κ.lim = (0, nt) → CW P κ c (retQ P fn.results.toList r) (argEnv args)) : CtrOK P f (takeC rel) := by
  refine ⟨⟨fn, c, hf, hname, hb⟩, fun args r args' hrel w Z β vs hvs hwf hargs => ?_⟩
  obtain ⟨rfl, hrel⟩ := hrel
  obtain ⟨hlen, hcw⟩ := h args r hrel
  rw [takeC_eff] at hargs
  simp only [if_true] at hargs
  let κ : Con := ⟨w, Z, fun b => ∃ p, β p = some b, fun _ => undef, (0, nt)⟩
  have hval : ∀ t, t < args.length → vals { tmps := vs ++ Array.replicate (fn.ntmps - vs.size) undef, defers := [] } t = vs.getD t undef := by
    intro t ht
    have : t < vs.size := by omega
    simp [vals, Array.getD_eq_getD_getElem?, Array.getElem?_append_left this]
  refine calls_of_wp hf hb (wp_mono (hcw κ rfl { tmps := vs ++ Array.replicate (fn.ntmps - vs.size) undef, defers := [] } w ⟨rfl, ⟨by simp [hnt, hvs]; show _ = nt; omega, fun t ht => absurd ht (Nat.not_lt_zero t)⟩, Z, β, ?_⟩) fun x a w' ⟨e', hq, hs'⟩ => ?_)
  · refine ⟨rfl, rfl, rfl, Nat.le_refl _, fun _ _ _ => rfl, fun _ _ h => h, fun _ _ h => .inl h, hwf.zh, hwf.inj, fun p b hp => ⟨.inl ⟨p, hp⟩, hwf.bo p b hp⟩, fun t => ?_⟩
    unfold TRep argEnv
    by_cases ht : t < args.length
    · have e1 : args.getD t .junk = args[t] := by simp [List.getD, List.getElem?_eq_getElem ht]
      rw [e1, hval t ht]
      have := hargs t ht
      have hpl := this.plain
      generalize args[t] = X at this hpl
      cases X with
      | alias s p => exact absurd rfl (hpl s p).1
      | valias s p => exact absurd rfl (hpl s p).2.1
      | addr s p => exact absurd rfl (hpl s p).2.2.1
      | win s p k => exact absurd rfl ((hpl s p).2.2.2 k)
      | _ => exact this
    · have e1 : args.getD t .junk = .junk := by simp [List.getD, List.getElem?_eq_none (Nat.le_of_not_lt ht)]
      rw [e1]
      exact .pers (.junk _)
  · have hd : a.defers = [] := hs'.1
    have key : RetOK P fn.results.toList e' r → ∃ v, (results fn a.tmps).run P w' = .ok v w' ∧ ∃ v' Z' β', Ending.returned v = .returned v' ∧ Left Z β w Z' β' w' ∧ ORep Z' w'.heap β' [0] r v' ∧ ∀ i (h : i < ([] : List AV).length), ORep Z' w'.heap β' [i + 1] [][i] (vs.getD i undef) := by
      intro hr
      obtain ⟨v, Z', β', g1, g2, g3⟩ := ret_left (κ := κ) rfl hs' hr
      exact ⟨v, g1, v, Z', β', rfl, g2, g3, by simp⟩
    cases x with
    | normal => obtain ⟨v, g1, g2⟩ := key hq; exact ⟨hd, v, g1, g2⟩
    | ret => obtain ⟨v, g1, g2⟩ := key hq; exact ⟨hd, v, g1, g2⟩
    | _ => exact hq.elim

/-! ### What is held is written no more, at any point of the walk -/
theorem CW.frz {P : Program} {κ : Con} {c : Code} {Q : QA} {e : Env} (s : Nat) (p : List Nat) (A : AV) (hg : getP (e s) p = some A) (hA : isOwn A = true) (h : CW P κ c Q ((Wr.mod s p (view A)).app e)) : CW P κ c Q e := by
  intro a w ⟨h1, h2, Z, β, hR⟩
  have hpl := plain_of_own hg hA
  obtain ⟨Z', β', hR', _⟩ := hR.freeze s p A hg hpl.2 hpl.1 (view_plain A) (view_noOwn A)
  exact h a w ⟨h1, h2, Z', β', hR'⟩
/-- .. and where the walk has ended. -/
theorem CW.frzPost {P : Program} {κ : Con} {c : Code} {Q : QA} {e : Env} {N N' : Env → Prop} (h : CW P κ c (thenA N Q) e) (hN : ∀ e', N e' → N' e' ∨ ∃ s p A, getP (e' s) p = some A ∧ isOwn A = true ∧ N' ((Wr.mod s p (view A)).app e')) : CW P κ c (thenA N' Q) e := by
  intro a w hs
  refine wp_mono (h a w hs) fun x a' w' ⟨e', hq, hs'⟩ => ?_
  cases x with
  | normal =>
    rcases hN e' hq with h1 | ⟨s, p, A, hg, hA, h1⟩
    · exact ⟨e', h1, hs'⟩
    · obtain ⟨g1, g2, Z, β, hR⟩ := hs'
      have hpl := plain_of_own hg hA
      obtain ⟨Z', β', hR', _⟩ := hR.freeze s p A hg hpl.2 hpl.1 (view_plain A) (view_noOwn A)
      exact ⟨_, h1, g1, g2, Z', β', hR'⟩
  | _ => exact ⟨e', hq, hs'⟩

end Go.Proofs.Ytkibemgdncncoaa

/- From the engine's contract of a law to what its row asks. No program in sight. -/
namespace Go.Proofs.Ytkibemgdncncoaa
set_option linter.unusedSimpArgs false
set_option linter.unusedVariables false
set_option maxRecDepth 8000
set_option maxHeartbeats 2000000
open Go Go.RowKit AV

/-- All memory, settled. -/
def heapZ (w : World) : Nat → Option Obj := fun b => w.heap[b]?

theorem cells_of_cell {w : World} {b i : Nat} {u : Value} (h : w.cell? ⟨b, i, none⟩ = some u) : ∃ cs T fz, w.heap[b]? = some (.cells cs T fz) ∧ cs[i]? = some u := by
  unfold World.cell? at h
  split at h
  · rename_i c T fz hc
    exact ⟨c, T, fz, hc, by simpa using h⟩
  · cases h

theorem IS.prep {B : Nat} {w : World} {v : Value} {l : List Int} (h : IS B w v l) : PRep (heapZ w) (ints l) v := by
  obtain ⟨A, c, rfl, h1, h2, h3⟩ := h
  cases hl : l with
  | nil => exact .nil A c h2
  | cons a t =>
    rw [← hl]
    have hpos : 0 < l.length := by rw [hl]; simp
    obtain ⟨b, o, rfl, hlt, hc⟩ := h3 hpos
    obtain ⟨cs, T, fz, hz, _⟩ := cells_of_cell (hc 0 hpos)
    have := PRep.sh (Z := heapZ w) (l.map I) b o c cs T fz (fun k => .int .i64 (nth l k)) hz (by simpa using h1) h2 (fun k hk => by
      obtain ⟨cs', T', fz', hz', hk'⟩ := cells_of_cell (hc k (by simpa using hk))
      rw [hz] at hz'
      injection hz' with hz'
      injection hz' with e1 e2 e3
      rw [e1]; exact hk') (fun k hk => rfl) (fun k hk => by
      have hk' : k < l.length := by simpa using hk
      have : nth l k = l[k] := by simp [nth, List.getD, hk']
      simp only [List.getElem_map, this]
      exact .num _ _)
    simpa using this

theorem ISS.prep {B : Nat} {w : World} {v : Value} {l : List (List Int)} (h : ISS B w v l) : PRep (heapZ w) (rows l) v := by
  obtain ⟨A, c, rfl, h1, h2, h3⟩ := h
  cases hl : l with
  | nil => exact .nil A c h2
  | cons a t =>
    rw [← hl]
    have hpos : 0 < l.length := by rw [hl]; simp
    obtain ⟨b, o, rfl, hlt, hc⟩ := h3 hpos
    obtain ⟨u0, hu0, _⟩ := hc 0 hpos
    obtain ⟨cs, T, fz, hz, _⟩ := cells_of_cell hu0
    have hget : ∀ k, k < l.length → cs[o + k]? = some (cs.getD (o + k) undef) ∧ IS B w (cs.getD (o + k) undef) (nthL l k) := by
      intro k hk
      obtain ⟨u, hu, his⟩ := hc k hk
      obtain ⟨cs', T', fz', hz', hk'⟩ := cells_of_cell hu
      rw [hz] at hz'
      injection hz' with hz'
      injection hz' with e1 e2 e3
      subst e1
      have : cs.getD (o + k) undef = u := by rw [Array.getD_eq_getD_getElem?, hk']; rfl
      rw [this]
      exact ⟨hk', his⟩
    have := PRep.sh (Z := heapZ w) (l.map ints) b o c cs T fz (fun k => cs.getD (o + k) undef) hz (by simpa using h1) h2 (fun k hk => (hget k (by simpa using hk)).1) (fun k hk => by
      obtain ⟨A', c', hv, _⟩ := (hget k (by simpa using hk)).2
      rw [hv]; rfl) (fun k hk => by
      have hk' : k < l.length := by simpa using hk
      have e : nthL l k = l[k] := by simp [nthL, List.getD, hk']
      have := (hget k hk').2.prep
      rw [e] at this
      simpa using this)
    simpa using this

theorem IS.len {B : Nat} {w : World} {v : Value} {l : List Int} (h : IS B w v l) : l.length ≤ maxLen := by
  obtain ⟨A, c, _, h1, h2, _⟩ := h; omega
theorem ISS.len {B : Nat} {w : World} {v : Value} {l : List (List Int)} (h : ISS B w v l) : l.length ≤ maxLen := by
  obtain ⟨A, c, _, h1, h2, _⟩ := h; omega
theorem ISS.rowLen {B : Nat} {w : World} {v : Value} {l : List (List Int)} (h : ISS B w v l) : ∀ x ∈ l, x.length ≤ maxLen := by
  obtain ⟨A, c, _, h1, h2, h3⟩ := h
  intro x hx
  obtain ⟨k, hk, rfl⟩ := List.getElem_of_mem hx
  obtain ⟨b, o, _, _, hc⟩ := h3 (by omega)
  obtain ⟨u, _, his⟩ := hc k hk
  have e : nthL l k = l[k] := by simp [nthL, List.getD, hk]
  rw [← e]; exact his.len

theorem auto_prep {Z : Nat → Option Obj} {v0 v1 : Value} {E : List Int} {N : List (List Int)} (h0 : PRep Z (ints E) v0) (h1 : PRep Z (rows N) v1) : PRep Z (.agg [ints E, rows N]) (.agg #[v0, v1]) := by
  refine .agg _ _ rfl fun k hk => ?_
  have hk' : k = 0 ∨ k = 1 := by simp at hk; omega
  rcases hk' with rfl | rfl
  · exact h0
  · exact h1

/-- A law that returns true, by the engine. -/
theorem law_of_ctr {P : Program} {f : Nat} {rel : List AV → AV → Prop} (h : CtrOK P f (pureC rel)) {args : List AV} (hr : rel args (.bool true)) {vs : Array Value} {w : World} (hn : vs.size = args.length)
    (ha : ∀ i (h : i < args.length), PRep (heapZ w) args[i] (vs.getD i undef)) : Calls P f vs w fun e w' => e = .returned (.bool true) ∧ Below w.heap.size w w' := by
  refine (h.2 args (.bool true) [] ⟨rfl, hr⟩ w (heapZ w) (fun _ => none) vs hn ⟨fun b o h => h, by simp, by simp⟩ (by
    simp only [pureC_eff, Bool.false_eq_true, if_false]
    exact ⟨trivial, ha⟩)).mono ?_
  rintro en w' ⟨v, Z', β', rfl, hL, hv, _⟩
  cases hv with
  | pers h =>
    cases h
    exact ⟨rfl, hL.os, hL.tape, hL.output, hL.size, fun b hb => hL.frame b hb (by simp)⟩

end Go.Proofs.Ytkibemgdncncoaa
