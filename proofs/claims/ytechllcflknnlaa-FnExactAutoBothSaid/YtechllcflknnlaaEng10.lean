/- Operations one by one: structs built, boxed, stored; append. No program in sight. -/
import Derived.Test.YtechllcflknnlaaEng9
namespace Go.Proofs.Ytechllcflknnlaa
set_option linter.unusedSimpArgs false
set_option linter.unusedVariables false
set_option maxRecDepth 8000
open Go Go.RowKit AV

theorem zT_spec {P : Program} {T : Nat} {zs : List AV} (h : zT P T = some zs) : ∃ i z, P.info? T = some i ∧ i.zero = some z ∧ zs = z.cells.toList.map cst ∧ ∀ c ∈ z.cells.toList, c.oneCell' = true := by
  unfold zT at h
  split at h
  · rename_i i hi
    split at h
    · rename_i z hz
      split at h
      · rename_i ha
        injection h with h
        exact ⟨i, z, hi, hz, h.symm, fun c hc => List.all_eq_true.1 ha c hc⟩
      · cases h
    · cases h
  · cases h

theorem cst_any {Z H β p} (v : Value) : ORep Z H β p (cst v) v := by
  by_cases h : cst v = .junk
  · rw [h]; exact .pers (.junk _)
  · exact cst_rep p v h

theorem cst_getD {Z H β p} {cs : Array Value} {k : Nat} (h : k < (cs.toList.map cst).length) : ORep Z H β p ((cs.toList.map cst)[k]) (cs.getD k undef) := by
  have hk : k < cs.size := by simpa using h
  have : cs.getD k undef = cs[k] := by simp [hk]
  rw [this]
  simp only [List.getElem_map, Array.getElem_toList]
  exact cst_any _

def rdBuild (P : Program) (T d : Nat) (xs : List (Nat × Operand)) : Rd := match zT P T, bPl P T with
  | some zs, some pl => rdParts xs fun ps =>
    .need ((srcs ps).Nodup ∧ (ps.map (·.1)).Nodup ∧ (∀ p ∈ ps, one p.2.1 = true ∧ pl[p.1]? = some (p.1, 1) ∧ p.1 < zs.length) ∧ d ∉ srcs ps) (.ret (partW ps ++ [.set d (.agg (foldP ps zs))]))
  | _, _ => .fail

theorem rdBuild_sound {P : Program} {κ : Con} {o : Oper} {e : Env} {ws : List Wr} {T d : Nat} {xs : Array (Nat × Operand)} (ho : o.op = .build T xs) (hd : o.dst = some d) (hn : (κ.lim.1 ≤ d ∧ d < κ.lim.2)) (h : (rdBuild P T d xs.toList).Wo e ws) : Does P κ o e ws := by
  unfold rdBuild at h
  split at h
  case h_2 => exact h.elim
  rename_i zs pl hz hpl0
  obtain ⟨ps, ⟨⟨hs, hk, hone, hds⟩, hw⟩, hpl, hps⟩ := rdParts_sound _ _ h
  have hw' : ws = _ := hw
  subst hw'
  obtain ⟨i, z, hi, hz0, rfl, hz1⟩ := zT_spec hz
  refine does_value hd hn fun a w Z β hR => ?_
  have hpo := hps hR
  generalize hvs : (xs.toList.map fun p => (p.1, a.eval p.2)) = vs at hpo
  have hv1 := partsOne hpo fun p hp => (hone p hp).1
  have hvn : ∀ v ∈ vs, pl[v.1]? = some (v.1, 1) ∧ v.1 < z.cells.size := by
    intro v hv
    have : v.1 ∈ List.map (·.1) vs := List.mem_map.2 ⟨v, hv, rfl⟩
    rw [← hpo.1] at this
    obtain ⟨p, hp, hpe⟩ := List.mem_map.1 this
    rw [← hpe]; have := hone p hp; exact ⟨this.2.1, by simpa using this.2.2⟩
  let cs1 := vs.foldl (fun (cs : Array Value) p => cs.setIfInBounds p.1 p.2) z.cells
  have hfill : Instr.fill (fun i => pl.toArray[i]?) z.cells vs = some cs1 := by
    rw [fill_one (place := fun i => pl.toArray[i]?) (off := fun i => i) vs z.cells (fun p hp => ⟨by simpa using (hvn p hp).1, cells_one (hv1 p hp), (hvn p hp).2⟩)]
    simp [cs1]
  have hrun : (execOp a.eval o).run P w = .ok (.value (.agg cs1)) w := by
    have hb : P.built T (xs.map fun p => (p.1, a.eval p.2)).toList = some cs1 := by
      unfold bPl at hpl0
      split at hpl0
      · rename_i fs hfs
        simp only [Program.built, hi, hfs, hz0, hpl0]
        rw [show (xs.map fun p => (p.1, a.eval p.2)).toList = vs by rw [← hvs]; simp]
        exact hfill
      · cases hpl0
    simp only [execOp, ho]
    have := run_build (P := P) w T (xs.map fun p => (p.1, a.eval p.2)) cs1 hb
    rw [Sem.run_bind]
    show ((Instr.build T (xs.map fun (i, x) => (i, a.eval x))).run P w).andThen _ = _
    rw [show (xs.map fun (i, x) => (i, a.eval x)) = xs.map fun p => (p.1, a.eval p.2) from rfl, this]
    rfl
  have hg := gather hR hpo hs hk (H' := w.heap) (fun b hb => rfl) (viaF (gaF (srcOf ps) (srcs ps) d) β) (fun _ _ => rfl)
  have hrel := foldP_rep (Rel := fun k A v => ORep Z w.heap (viaF (gaF (srcOf ps) (srcs ps) d) β) [d, k] A v) ps vs (z.cells.toList.map cst) z.cells (by simp) hpo.1 hg (fun k hk => cst_getD hk)
  exact ⟨_, _, Z, _, hrun, hR.bigParts (srcs ps) d (gaF (srcOf ps) (srcs ps) d) _ _ _ rfl rfl rfl (Nat.le_refl _) (fun b hb => rfl) (gaF_keep _ _ _) (.inl rfl) (gaF_inj (srcs_inj hs hk).1 (srcs_inj hs hk).2) (.agg _ _ hrel.1 fun k hk => hrel.2 k hk) (by simp)⟩

def allOne (l : List AV) : Bool := l.all one

/-- The slot whose value went into the box at d still names what lies there. -/
def backW (src : Option Nat) (d : Nat) : List Wr := match src with
  | some t => [.set t (.valias d [])]
  | none => []

theorem setV_self (val : Nat → Value) (t : Nat) : setV val t (val t) = val := by
  funext s; unfold setV; split
  · rename_i h; rw [h]
  · rfl

def rdBox (d : Nat) (x : Operand) : Rd := rdVal x fun A src => .need (src ≠ some d) (match A with
  | .agg l => .need (allOne l = true) (.ret (srcW src ++ [.set d (.box l)] ++ backW src d))
  | A => .need (one A = true) (.ret (srcW src ++ [.set d (.box [A])])))

theorem mvK_keep (t d : Nat) : ∀ r, r ≠ [] → root r ∉ [d, t] → mvK t d r = some r := by
  intro r hr hn
  rcases r with _ | ⟨x, _ | ⟨k, r⟩⟩
  · exact absurd rfl hr
  · simp [root] at hn; simp [mvK, hn]
  · simp [root] at hn; simp [mvK, hn]

theorem box_run {P : Program} {w : World} {T : Nat} {v : Value} : (Instr.box T v).run P w = .ok (.pointer (some ⟨w.heap.size, 0, none⟩)) (w.alloc (.cells v.cells T)) := by
  simp [Instr.box, newVar, newRow]

theorem rdBox_sound {P : Program} {κ : Con} {o : Oper} {e : Env} {ws : List Wr} {T d : Nat} {x : Operand} (ho : o.op = .box T x) (hd : o.dst = some d) (hn : (κ.lim.1 ≤ d ∧ d < κ.lim.2)) (h : (rdBox d x).Wo e ws) : Does P κ o e ws := by
  obtain ⟨A, src, ⟨hsd, h⟩, hApl, hsrc, hval⟩ := rdVal_sound h
  refine does_value hd hn fun a w Z β hR => ?_
  obtain ⟨hv1, hv2, hv3⟩ := hval hR
  have hrun : (execOp a.eval o).run P w = .ok (.value (.pointer (some ⟨w.heap.size, 0, none⟩))) (w.alloc (.cells (a.eval x).cells T)) := by
    simp only [execOp, ho]
    rw [Sem.run_bind, box_run]; rfl
  have hH : ∀ b, b < w.heap.size → (w.alloc (.cells (a.eval x).cells T)).heap[b]? = w.heap[b]? := fun b hb => Below.heap_alloc w _ b hb
  by_cases hag : ∃ l, A = .agg l
  · obtain ⟨l, rfl⟩ := hag
    obtain ⟨hal, hw⟩ := h
    have hw' : ws = _ := hw
    subst hw'
    have hal' : ∀ a ∈ l, one a = true := by simpa [allOne] using hal
    -- how an aggregate lies, wherever its parts come from
    have fin : ∀ (β' : List Nat → Option Nat) (p : List Nat) (v : Value), a.eval x = v → ORep Z w.heap β p (.agg l) v → β' [d] = some w.heap.size → (∀ k r b, β (p ++ (k :: r)) = some b → β' (d :: k :: r) = some b) →
        ORep Z (w.alloc (.cells v.cells T)).heap β' [d] (.box l) (.pointer (some ⟨w.heap.size, 0, none⟩)) := by
      intro β' p v hv hl hb hβ
      have key : ∃ cs, v = .agg cs ∧ cs.size = l.length ∧ ∀ k (h : k < l.length), ORep Z w.heap β (p ++ [k]) l[k] (cs.getD k undef) := by
        cases hl with
        | pers h => cases h with | agg l cs h1 hk => exact ⟨cs, rfl, h1, fun k h => .pers (hk k h)⟩
        | agg l cs h1 hk => exact ⟨cs, rfl, h1, hk⟩
      obtain ⟨cs, rfl, hcs, hk⟩ := key
      refine .box l w.heap.size cs T hb (heap_alloc_new w _) hcs (fun k h => ORep.one (hk k h) (hal' _ (List.getElem_mem h))) fun k h => (hk k h).move (fun _ _ h => h) fun r b hr => ⟨?_, hv ▸ hH b (hR.bo _ b hr).2.2⟩
      exact hβ k r b (by simpa using hr)
    cases src with
    | none =>
      -- parts that may be copied own nothing
      have hp : isP (AV.agg l) = true := by
        rcases hv3 rfl with hp | ⟨hA, _⟩
        · exact hp
        · cases hA
      have hl := ORep.toP (hv2 rfl [0]) hp
      generalize hvx : a.eval x = v at hl
      cases hl with
      | agg l cs h1 hk =>
        have hbx := ORep.box (Z := Z) (H := (w.alloc (.cells cs T)).heap) (β := withB (viaF (gaF (srcOf []) (srcs []) d) β) d w.heap.size) (p := [d]) l w.heap.size cs T (by simp [withB]) (heap_alloc_new w _) h1 (fun k h => ORep.one (Z := Z) (H := w.heap) (β := β) (p := []) (.pers (hk k h)) (hal' _ (List.getElem_mem h))) (fun k h => .pers (hk k h))
        refine ⟨_, _, Z, withB (viaF (gaF (srcOf []) (srcs []) d) β) d w.heap.size, hrun, ?_⟩
        rw [hvx]
        have := hR.bigParts (srcs []) d (gaF (srcOf []) (srcs []) d) (.box l) (.pointer (some ⟨w.heap.size, 0, none⟩)) _ (w' := w.alloc (.cells cs T)) rfl rfl rfl (by simp) (fun b hb => Below.heap_alloc w _ b hb) (gaF_keep _ _ _) (.inr ⟨rfl, by simp⟩) (gaF_inj (by simp [srcOf]) (by simp [srcOf])) hbx (by simp)
        exact this
    | some t =>
      have htd : t ≠ d := fun e => hsd (by rw [e])
      have hb := fin (withB (viaF (mvK t d) β) d w.heap.size) [t] _ rfl (hv1 t rfl) (by simp [withB]) (fun k r b hr => by
        unfold withB; rw [if_neg (by simp)]; simpa [viaF, mvK] using hr)
      obtain ⟨rfl, het, _⟩ := hsrc t rfl
      have hcs : ∃ cs, vals a t = .agg cs := by
        have := hv1 t rfl
        rw [eval_tmp] at this
        generalize vals a t = vv at this
        cases this with
        | pers h => cases h; exact ⟨_, rfl⟩
        | agg l cs => exact ⟨_, rfl⟩
      obtain ⟨cs, hcs⟩ := hcs
      have hev : a.eval (.tmp t) = .agg cs := by rw [eval_tmp]; exact hcs
      rw [hev] at hrun hb hH
      have hR2 := hR.bigParts [t] d (mvK t d) (.box l) _ _ (w' := w.alloc (.cells (Value.agg cs).cells T)) rfl rfl rfl (by simp) hH (mvK_keep t d) (.inr ⟨rfl, by simp⟩) (mvK_inj t d) hb (by simp)
      have e1 : apps ((([t] : List Nat).map fun t => Wr.set t .junk) ++ [Wr.set d (.box l)]) e d = .box l := by simp [apps, Wr.app, isOwn, upd]
      have hR3 := hR2.valiasPut t d [] (vals a t) (Ne.symm htd) (fun l' hl' => by
        rw [e1] at hl'
        simp only [getP, Option.some.injEq, AV.box.injEq] at hl'
        subst hl'
        cases hb with
        | pers h => cases h
        | box l b cs' E hb' hz' h1 h4 hk =>
          have h6 := heap_alloc_new w (.cells (Value.agg cs).cells T)
          rw [hz'] at h6
          injection h6 with h6
          injection h6 with h6
          have h7 : cs' = cs := h6
          exact ⟨cs', by rw [hcs, h7], .agg l cs' h1 hk, _, _, hb', hz'⟩)
      have e2 : setV (setV (vals a) d (.pointer (some ⟨w.heap.size, 0, none⟩))) t (vals a t) = setV (vals a) d (.pointer (some ⟨w.heap.size, 0, none⟩)) := by
        have := setV_self (setV (vals a) d (.pointer (some ⟨w.heap.size, 0, none⟩))) t
        rwa [show setV (vals a) d (.pointer (some ⟨w.heap.size, 0, none⟩)) t = vals a t by simp [setV, htd]] at this
      rw [e2] at hR3
      exact ⟨_, _, Z, _, hrun, hR3⟩
  · have h' : one A = true ∧ ws = srcW src ++ [.set d (.box [A])] := by
      cases A with
      | agg l => exact absurd ⟨l, rfl⟩ hag
      | _ => exact h
    obtain ⟨h1, hw⟩ := h'
    subst hw
    have hx1 : (a.eval x).oneCell' = true := by
      cases src with
      | none => exact ORep.one (hv2 rfl []) h1
      | some t => exact ORep.one (hv1 t rfl) h1
    have hcl := cells_one hx1
    have hs1 : (srcs [(0, A, src)]).Nodup := by cases src <;> simp [srcs]
    have hpo : PartsOK Z w.heap β e [(0, A, src)] [(0, a.eval x)] := by
      refine ⟨rfl, fun i hi hi' => ?_⟩
      have : i = 0 := by simpa using hi
      subst this
      refine ⟨fun t ht => ?_, fun hn Z' H' β' p hZ => ?_⟩
      · have := hsrc t ht
        exact ⟨this.2.1, this.2.2, hv1 t ht⟩
      · simp only [List.getElem_cons_zero] at hn ⊢
        rcases hv3 hn with hp | ⟨hA, hvv⟩
        · exact .pers ((ORep.toP (hv2 hn p) hp).mono hZ)
        · rw [hA, hvv]; exact .nil
    have hg := gather (d := d) (H' := (w.alloc (.cells (a.eval x).cells T)).heap) hR hpo hs1 (by simp) hH (withB (viaF (gaF (srcOf [(0, A, src)]) (srcs [(0, A, src)]) d) β) d w.heap.size) (fun k r => by simp [withB]) 0 (by simp) (by simp)
    simp only [List.getElem_cons_zero] at hg
    have hbx : ORep Z (w.alloc (.cells (a.eval x).cells T)).heap (withB (viaF (gaF (srcOf [(0, A, src)]) (srcs [(0, A, src)]) d) β) d w.heap.size) [d] (.box [A]) (.pointer (some ⟨w.heap.size, 0, none⟩)) := by
      have := ORep.box (Z := Z) (H := (w.alloc (.cells (a.eval x).cells T)).heap) (β := withB (viaF (gaF (srcOf [(0, A, src)]) (srcs [(0, A, src)]) d) β) d w.heap.size) (p := [d]) [A] w.heap.size (a.eval x).cells T (by simp [withB]) (heap_alloc_new w _) (by rw [hcl]; rfl) (fun k hk => by
        have : k = 0 := by simpa using hk
        subst this
        rw [hcl]; simpa using hx1) (fun k hk => by
        have : k = 0 := by simpa using hk
        subst this
        simp only [hcl] at hg ⊢
        simpa using hg)
      exact this
    have hfin := hR.bigParts (srcs [(0, A, src)]) d (gaF (srcOf [(0, A, src)]) (srcs [(0, A, src)]) d) (.box [A]) (.pointer (some ⟨w.heap.size, 0, none⟩)) _ (w' := w.alloc (.cells (a.eval x).cells T)) rfl rfl rfl (by simp) hH (gaF_keep _ _ _) (.inr ⟨rfl, by simp⟩) (gaF_inj (srcs_inj hs1 (by simp)).1 (srcs_inj hs1 (by simp)).2) hbx (by simp)
    refine ⟨_, _, Z, withB (viaF (gaF (srcOf [(0, A, src)]) (srcs [(0, A, src)]) d) β) d w.heap.size, hrun, ?_⟩
    have e1 : (srcs [(0, A, src)]).map (fun t => Wr.set t AV.junk) = srcW src := by cases src <;> simp [srcs, srcW]
    rw [e1] at hfin
    exact hfin

def rdAlloc (P : Program) (T d : Nat) : Rd := match zT P T with
  | some zs => .ret [.set d (.box zs)]
  | none => .fail

theorem rdAlloc_sound {P : Program} {κ : Con} {o : Oper} {e : Env} {ws : List Wr} {T d : Nat} (ho : o.op = .alloc T) (hd : o.dst = some d) (hn : (κ.lim.1 ≤ d ∧ d < κ.lim.2)) (h : (rdAlloc P T d).Wo e ws) : Does P κ o e ws := by
  unfold rdAlloc at h
  split at h
  case h_2 => exact h.elim
  rename_i zs hz
  have hw' : ws = _ := h
  subst hw'
  obtain ⟨i, z, hi, hz0, rfl, hz1⟩ := zT_spec hz
  refine does_value hd hn fun a w Z β hR => ?_
  have hrun : (execOp a.eval o).run P w = .ok (.value (.pointer (some ⟨w.heap.size, 0, none⟩))) (w.alloc (.cells z.cells T)) := by
    simp [execOp, ho, Instr.alloc, zeroValue, typeInfo, hi, hz0, newVar, newRow]
  have hbx := ORep.box (Z := Z) (H := (w.alloc (.cells z.cells T)).heap) (β := withB (viaF (gaF (srcOf []) (srcs []) d) β) d w.heap.size) (p := [d]) (z.cells.toList.map cst) w.heap.size z.cells T (by simp [withB]) (heap_alloc_new w _) (by simp) (fun k hk => by
    have hk' : k < z.cells.size := by simpa using hk
    have : z.cells.getD k undef = z.cells[k] := by simp [hk']
    rw [this]
    exact hz1 _ (by simp)) (fun k hk => cst_getD hk)
  have := hR.bigParts (srcs []) d (gaF (srcOf []) (srcs []) d) _ _ _ (w' := w.alloc (.cells z.cells T)) rfl rfl rfl (by simp) (fun b hb => Below.heap_alloc w _ b hb) (gaF_keep _ _ _) (.inr ⟨rfl, by simp⟩) (gaF_inj (by simp [srcOf]) (by simp [srcOf])) hbx (by simp)
  exact ⟨_, _, Z, _, hrun, by simpa [srcs] using this⟩

end Go.Proofs.Ytechllcflknnlaa
