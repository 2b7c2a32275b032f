/- Operations one by one: structs built, boxed, stored; append. No program in sight. -/
import Derived.Test.YtehdfifncbokeaaGrpA
import Derived.Laws.CopyRow
import Derived.Maps.RangeRun
import Derived.Maps.Keyed
import Derived.LaidEqlPtr
namespace Go.Proofs.Ytehdfifncbokeaa
set_option linter.unusedSimpArgs false
set_option linter.unusedVariables false
set_option maxRecDepth 8000
set_option maxHeartbeats 2000000
open Go Go.RowKit AV

theorem zT_spec {P : Program} {T : Nat} {zs : List AV} (h : zT P T = some zs) : ∃ i z, P.info? T = some i ∧ i.zero = some z ∧ zs = z.cells.toList.map cst ∧ ∀ c ∈ z.cells.toList, c.oneCell' = true := by
  unfold zT at h
  split at h
  · rename_i i hi
    split at h
    · rename_i z hz
      split at h
      · rename_i ha
        injection h with h
        exact ⟨i, z, hi, hz, h.symm, fun c hc => List.all_eq_true.1 ha c hc⟩
      · cases h
    · cases h
  · cases h

theorem cst_any {Z H β p} (v : Value) : ORep Z H β p (cst v) v := by
  by_cases h : cst v = .junk
  · rw [h]; exact .pers (.junk _)
  · exact cst_rep p v h

theorem cst_getD {Z H β p} {cs : Array Value} {k : Nat} (h : k < (cs.toList.map cst).length) : ORep Z H β p ((cs.toList.map cst)[k]) (cs.getD k undef) := by
  have hk : k < cs.size := by simpa using h
  have : cs.getD k undef = cs[k] := by simp [hk]
  rw [this]
  simp only [List.getElem_map, Array.getElem_toList]
  exact cst_any _

noncomputable def rdBuild (P : Program) (T d : Nat) (xs : List (Nat × Operand)) : Rd := match zT P T, bPl P T with
  | some zs, some pl => rdParts xs fun ps =>
    .need ((srcs ps).Nodup ∧ (ps.map (·.1)).Nodup ∧ (∀ p ∈ ps, one p.2.1 = true ∧ pl[p.1]? = some (p.1, 1) ∧ p.1 < zs.length) ∧ d ∉ srcs ps) (.ret (partW ps ++ [.set d (.agg (foldP ps zs))]))
  | _, _ => .fail

theorem rdBuild_sound {P : Program} {κ : Con} {o : Oper} {e : Env} {ws : List Wr} {T d : Nat} {xs : Array (Nat × Operand)} (ho : o.op = .build T xs) (hd : o.dst = some d) (hn : (κ.lim.1 ≤ d ∧ d < κ.lim.2)) (h : (rdBuild P T d xs.toList).Wo e ws) : Does P κ o e ws := by
  unfold rdBuild at h
  split at h
  case h_2 => exact h.elim
  rename_i zs pl hz hpl0
  obtain ⟨ps, ⟨⟨hs, hk, hone, hds⟩, hw⟩, hpl, hps⟩ := rdParts_sound _ _ h
  have hw' : ws = _ := hw
  subst hw'
  obtain ⟨i, z, hi, hz0, rfl, hz1⟩ := zT_spec hz
  refine does_value hd hn fun a w Z β hR => ?_
  have hpo := hps hR
  generalize hvs : (xs.toList.map fun p => (p.1, a.eval p.2)) = vs at hpo
  have hv1 := partsOne hpo fun p hp => (hone p hp).1
  have hvn : ∀ v ∈ vs, pl[v.1]? = some (v.1, 1) ∧ v.1 < z.cells.size := by
    intro v hv
    have : v.1 ∈ List.map (·.1) vs := List.mem_map.2 ⟨v, hv, rfl⟩
    rw [← hpo.1] at this
    obtain ⟨p, hp, hpe⟩ := List.mem_map.1 this
    rw [← hpe]; have := hone p hp; exact ⟨this.2.1, by simpa using this.2.2⟩
  let cs1 := vs.foldl (fun (cs : Array Value) p => cs.setIfInBounds p.1 p.2) z.cells
  have hfill : Instr.fill (fun i => pl.toArray[i]?) z.cells vs = some cs1 := by
    rw [fill_one (place := fun i => pl.toArray[i]?) (off := fun i => i) vs z.cells (fun p hp => ⟨by simpa using (hvn p hp).1, cells_one (hv1 p hp), (hvn p hp).2⟩)]
    simp [cs1]
  have hrun : (execOp a.eval o).run P w = .ok (.value (.agg cs1)) w := by
    have hb : P.built T (xs.map fun p => (p.1, a.eval p.2)).toList = some cs1 := by
      unfold bPl at hpl0
      split at hpl0
      · rename_i fs hfs
        simp only [Program.built, hi, hfs, hz0, hpl0]
        rw [show (xs.map fun p => (p.1, a.eval p.2)).toList = vs by rw [← hvs]; simp]
        exact hfill
      · cases hpl0
    simp only [execOp, ho]
    have := run_build (P := P) w T (xs.map fun p => (p.1, a.eval p.2)) cs1 hb
    rw [Sem.run_bind]
    show ((Instr.build T (xs.map fun (i, x) => (i, a.eval x))).run P w).andThen _ = _
    rw [show (xs.map fun (i, x) => (i, a.eval x)) = xs.map fun p => (p.1, a.eval p.2) from rfl, this]
    rfl
  have hg := gather hR hpo hs hk (H' := w.heap) (fun b hb => rfl) (viaF (gaF (srcOf ps) (srcs ps) d) β) (fun _ _ => rfl)
  have hrel := foldP_rep (Rel := fun k A v => ORep Z w.heap (viaF (gaF (srcOf ps) (srcs ps) d) β) [d, k] A v) ps vs (z.cells.toList.map cst) z.cells (by simp) hpo.1 hg (fun k hk => cst_getD hk)
  exact ⟨_, _, Z, _, hrun, hR.bigParts (srcs ps) d (gaF (srcOf ps) (srcs ps) d) _ _ _ rfl rfl rfl (Nat.le_refl _) (fun b hb => rfl) (gaF_keep _ _ _) (.inl rfl) (gaF_inj (srcs_inj hs hk).1 (srcs_inj hs hk).2) (.agg _ _ hrel.1 fun k hk => hrel.2 k hk) (by simp)⟩

def allOne (l : List AV) : Bool := l.all one

def backW (src : Option Nat) (d : Nat) : List Wr := match src with
  | some t => [.set t (.valias d [])]
  | none => []

theorem setV_self (val : Nat → Value) (t : Nat) : setV val t (val t) = val := by
  funext s; unfold setV; split
  · rename_i h; rw [h]
  · rfl

noncomputable def rdBox (d : Nat) (x : Operand) : Rd := rdVal x fun A src => .need (src ≠ some d) (match A with
  | .agg l => .need (allOne l = true) (.ret (srcW src ++ [.set d (.box l)] ++ backW src d))
  | A => .need (one A = true) (.ret (srcW src ++ [.set d (.box [A])])))

theorem mvK_keep (t d : Nat) : ∀ r, r ≠ [] → root r ∉ [d, t] → mvK t d r = some r := by
  intro r hr hn
  rcases r with _ | ⟨x, _ | ⟨k, r⟩⟩
  · exact absurd rfl hr
  · simp [root] at hn; simp [mvK, hn]
  · simp [root] at hn; simp [mvK, hn]

theorem box_run {P : Program} {w : World} {T : Nat} {v : Value} : (Instr.box T v).run P w = .ok (.pointer (some ⟨w.heap.size, 0, none⟩)) (w.alloc (.cells v.cells T)) := by
  simp [Instr.box, newVar, newRow]

theorem rdBox_sound {P : Program} {κ : Con} {o : Oper} {e : Env} {ws : List Wr} {T d : Nat} {x : Operand} (ho : o.op = .box T x) (hd : o.dst = some d) (hn : (κ.lim.1 ≤ d ∧ d < κ.lim.2)) (h : (rdBox d x).Wo e ws) : Does P κ o e ws := by
  obtain ⟨A, src, ⟨hsd, h⟩, hApl, hsrc, hval⟩ := rdVal_sound h
  refine does_value hd hn fun a w Z β hR => ?_
  obtain ⟨hv1, hv2, hv3⟩ := hval hR
  have hrun : (execOp a.eval o).run P w = .ok (.value (.pointer (some ⟨w.heap.size, 0, none⟩))) (w.alloc (.cells (a.eval x).cells T)) := by
    simp only [execOp, ho]
    rw [Sem.run_bind, box_run]; rfl
  have hH : ∀ b, b < w.heap.size → (w.alloc (.cells (a.eval x).cells T)).heap[b]? = w.heap[b]? := fun b hb => Below.heap_alloc w _ b hb
  by_cases hag : ∃ l, A = .agg l
  · obtain ⟨l, rfl⟩ := hag
    obtain ⟨hal, hw⟩ := h
    have hw' : ws = _ := hw
    subst hw'
    have hal' : ∀ a ∈ l, one a = true := by simpa [allOne] using hal
    have fin : ∀ (β' : List Nat → Option Nat) (p : List Nat) (v : Value), a.eval x = v → ORep Z w.heap β p (.agg l) v → β' [d] = some w.heap.size → (∀ k r b, β (p ++ (k :: r)) = some b → β' (d :: k :: r) = some b) →
        ORep Z (w.alloc (.cells v.cells T)).heap β' [d] (.box l) (.pointer (some ⟨w.heap.size, 0, none⟩)) := by
      intro β' p v hv hl hb hβ
      have key : ∃ cs, v = .agg cs ∧ cs.size = l.length ∧ ∀ k (h : k < l.length), ORep Z w.heap β (p ++ [k]) l[k] (cs.getD k undef) := by
        cases hl with
        | pers h => cases h with | agg l cs h1 hk => exact ⟨cs, rfl, h1, fun k h => .pers (hk k h)⟩
        | agg l cs h1 hk => exact ⟨cs, rfl, h1, hk⟩
      obtain ⟨cs, rfl, hcs, hk⟩ := key
      refine .box l w.heap.size cs T hb (heap_alloc_new w _) hcs (fun k h => ORep.one (hk k h) (hal' _ (List.getElem_mem h))) fun k h => (hk k h).move (fun _ _ h => h) fun r b hr => ⟨?_, hv ▸ hH b (hR.bo _ b hr).2.2⟩
      exact hβ k r b (by simpa using hr)
    cases src with
    | none =>
      have hp : isP (AV.agg l) = true := by
        rcases hv3 rfl with hp | ⟨hA, _⟩
        · exact hp
        · cases hA
      have hl := ORep.toP (hv2 rfl [0]) hp
      generalize hvx : a.eval x = v at hl
      cases hl with
      | agg l cs h1 hk =>
        have hbx := ORep.box (Z := Z) (H := (w.alloc (.cells cs T)).heap) (β := withB (viaF (gaF (srcOf []) (srcs []) d) β) d w.heap.size) (p := [d]) l w.heap.size cs T (by simp [withB]) (heap_alloc_new w _) h1 (fun k h => ORep.one (Z := Z) (H := w.heap) (β := β) (p := []) (.pers (hk k h)) (hal' _ (List.getElem_mem h))) (fun k h => .pers (hk k h))
        refine ⟨_, _, Z, withB (viaF (gaF (srcOf []) (srcs []) d) β) d w.heap.size, hrun, ?_⟩
        rw [hvx]
        have := hR.bigParts (srcs []) d (gaF (srcOf []) (srcs []) d) (.box l) (.pointer (some ⟨w.heap.size, 0, none⟩)) _ (w' := w.alloc (.cells cs T)) rfl rfl rfl (by simp) (fun b hb => Below.heap_alloc w _ b hb) (gaF_keep _ _ _) (.inr ⟨rfl, by simp⟩) (gaF_inj (by simp [srcOf]) (by simp [srcOf])) hbx (by simp)
        exact this
    | some t =>
      have htd : t ≠ d := fun e => hsd (by rw [e])
      have hb := fin (withB (viaF (mvK t d) β) d w.heap.size) [t] _ rfl (hv1 t rfl) (by simp [withB]) (fun k r b hr => by
        unfold withB; rw [if_neg (by simp)]; simpa [viaF, mvK] using hr)
      obtain ⟨rfl, het, _⟩ := hsrc t rfl
      have hcs : ∃ cs, vals a t = .agg cs := by
        have := hv1 t rfl
        rw [eval_tmp] at this
        generalize vals a t = vv at this
        cases this with
        | pers h => cases h; exact ⟨_, rfl⟩
        | agg l cs => exact ⟨_, rfl⟩
      obtain ⟨cs, hcs⟩ := hcs
      have hev : a.eval (.tmp t) = .agg cs := by rw [eval_tmp]; exact hcs
      rw [hev] at hrun hb hH
      have hR2 := hR.bigParts [t] d (mvK t d) (.box l) _ _ (w' := w.alloc (.cells (Value.agg cs).cells T)) rfl rfl rfl (by simp) hH (mvK_keep t d) (.inr ⟨rfl, by simp⟩) (mvK_inj t d) hb (by simp)
      have e1 : apps ((([t] : List Nat).map fun t => Wr.set t .junk) ++ [Wr.set d (.box l)]) e d = .box l := by simp [apps, Wr.app, isOwn, upd]
      have hR3 := hR2.valiasPut t d [] (vals a t) (Ne.symm htd) (fun l' hl' => by
        rw [e1] at hl'
        simp only [getP, Option.some.injEq, AV.box.injEq] at hl'
        subst hl'
        cases hb with
        | pers h => cases h
        | box l b cs' E hb' hz' h1 h4 hk =>
          have h6 := heap_alloc_new w (.cells (Value.agg cs).cells T)
          rw [hz'] at h6
          injection h6 with h6
          injection h6 with h6
          have h7 : cs' = cs := h6
          exact ⟨cs', by rw [hcs, h7], .agg l cs' h1 hk, _, _, hb', hz'⟩)
      have e2 : setV (setV (vals a) d (.pointer (some ⟨w.heap.size, 0, none⟩))) t (vals a t) = setV (vals a) d (.pointer (some ⟨w.heap.size, 0, none⟩)) := by
        have := setV_self (setV (vals a) d (.pointer (some ⟨w.heap.size, 0, none⟩))) t
        rwa [show setV (vals a) d (.pointer (some ⟨w.heap.size, 0, none⟩)) t = vals a t by simp [setV, htd]] at this
      rw [e2] at hR3
      exact ⟨_, _, Z, _, hrun, hR3⟩
  · have h' : one A = true ∧ ws = srcW src ++ [.set d (.box [A])] := by
      cases A with
      | agg l => exact absurd ⟨l, rfl⟩ hag
      | _ => exact h
    obtain ⟨h1, hw⟩ := h'
    subst hw
    have hx1 : (a.eval x).oneCell' = true := by
      cases src with
      | none => exact ORep.one (hv2 rfl []) h1
      | some t => exact ORep.one (hv1 t rfl) h1
    have hcl := cells_one hx1
    have hs1 : (srcs [(0, A, src)]).Nodup := by cases src <;> simp [srcs]
    have hpo : PartsOK Z w.heap β e [(0, A, src)] [(0, a.eval x)] := by
      refine ⟨rfl, fun i hi hi' => ?_⟩
      have : i = 0 := by simpa using hi
      subst this
      refine ⟨fun t ht => ?_, fun hn Z' H' β' p hZ => ?_⟩
      · have := hsrc t ht
        exact ⟨this.2.1, this.2.2, hv1 t ht⟩
      · simp only [List.getElem_cons_zero] at hn ⊢
        rcases hv3 hn with hp | ⟨hA, hvv⟩
        · exact .pers ((ORep.toP (hv2 hn p) hp).mono hZ)
        · rw [hA, hvv]; exact .nil
    have hg := gather (d := d) (H' := (w.alloc (.cells (a.eval x).cells T)).heap) hR hpo hs1 (by simp) hH (withB (viaF (gaF (srcOf [(0, A, src)]) (srcs [(0, A, src)]) d) β) d w.heap.size) (fun k r => by simp [withB]) 0 (by simp) (by simp)
    simp only [List.getElem_cons_zero] at hg
    have hbx : ORep Z (w.alloc (.cells (a.eval x).cells T)).heap (withB (viaF (gaF (srcOf [(0, A, src)]) (srcs [(0, A, src)]) d) β) d w.heap.size) [d] (.box [A]) (.pointer (some ⟨w.heap.size, 0, none⟩)) := by
      have := ORep.box (Z := Z) (H := (w.alloc (.cells (a.eval x).cells T)).heap) (β := withB (viaF (gaF (srcOf [(0, A, src)]) (srcs [(0, A, src)]) d) β) d w.heap.size) (p := [d]) [A] w.heap.size (a.eval x).cells T (by simp [withB]) (heap_alloc_new w _) (by rw [hcl]; rfl) (fun k hk => by
        have : k = 0 := by simpa using hk
        subst this
        rw [hcl]; simpa using hx1) (fun k hk => by
        have : k = 0 := by simpa using hk
        subst this
        simp only [hcl] at hg ⊢
        simpa using hg)
      exact this
    have hfin := hR.bigParts (srcs [(0, A, src)]) d (gaF (srcOf [(0, A, src)]) (srcs [(0, A, src)]) d) (.box [A]) (.pointer (some ⟨w.heap.size, 0, none⟩)) _ (w' := w.alloc (.cells (a.eval x).cells T)) rfl rfl rfl (by simp) hH (gaF_keep _ _ _) (.inr ⟨rfl, by simp⟩) (gaF_inj (srcs_inj hs1 (by simp)).1 (srcs_inj hs1 (by simp)).2) hbx (by simp)
    refine ⟨_, _, Z, withB (viaF (gaF (srcOf [(0, A, src)]) (srcs [(0, A, src)]) d) β) d w.heap.size, hrun, ?_⟩
    have e1 : (srcs [(0, A, src)]).map (fun t => Wr.set t AV.junk) = srcW src := by cases src <;> simp [srcs, srcW]
    rw [e1] at hfin
    exact hfin

noncomputable def rdAlloc (P : Program) (T d : Nat) : Rd := match zT P T with
  | some zs => .ret [.set d (.box zs)]
  | none => .fail

theorem rdAlloc_sound {P : Program} {κ : Con} {o : Oper} {e : Env} {ws : List Wr} {T d : Nat} (ho : o.op = .alloc T) (hd : o.dst = some d) (hn : (κ.lim.1 ≤ d ∧ d < κ.lim.2)) (h : (rdAlloc P T d).Wo e ws) : Does P κ o e ws := by
  unfold rdAlloc at h
  split at h
  case h_2 => exact h.elim
  rename_i zs hz
  have hw' : ws = _ := h
  subst hw'
  obtain ⟨i, z, hi, hz0, rfl, hz1⟩ := zT_spec hz
  refine does_value hd hn fun a w Z β hR => ?_
  have hrun : (execOp a.eval o).run P w = .ok (.value (.pointer (some ⟨w.heap.size, 0, none⟩))) (w.alloc (.cells z.cells T)) := by
    simp [execOp, ho, Instr.alloc, zeroValue, typeInfo, hi, hz0, newVar, newRow]
  have hbx := ORep.box (Z := Z) (H := (w.alloc (.cells z.cells T)).heap) (β := withB (viaF (gaF (srcOf []) (srcs []) d) β) d w.heap.size) (p := [d]) (z.cells.toList.map cst) w.heap.size z.cells T (by simp [withB]) (heap_alloc_new w _) (by simp) (fun k hk => by
    have hk' : k < z.cells.size := by simpa using hk
    have : z.cells.getD k undef = z.cells[k] := by simp [hk']
    rw [this]
    exact hz1 _ (by simp)) (fun k hk => cst_getD hk)
  have := hR.bigParts (srcs []) d (gaF (srcOf []) (srcs []) d) _ _ _ (w' := w.alloc (.cells z.cells T)) rfl rfl rfl (by simp) (fun b hb => Below.heap_alloc w _ b hb) (gaF_keep _ _ _) (.inr ⟨rfl, by simp⟩) (gaF_inj (by simp [srcOf]) (by simp [srcOf])) hbx (by simp)
  exact ⟨_, _, Z, _, hrun, by simpa [srcs] using this⟩

end Go.Proofs.Ytehdfifncbokeaa

namespace Go.Proofs.Ytehdfifncbokeaa
set_option linter.unusedSimpArgs false
set_option linter.unusedVariables false
set_option maxRecDepth 8000
set_option maxHeartbeats 2000000
open Go Go.RowKit AV

theorem setCells_heap {b : Nat} {T : TypeId} {fz : Nat × Nat} : ∀ (vs : List Value) (o : Nat) (w : World) (cs : Array Value), w.heap[b]? = some (.cells cs T fz) → o + vs.length ≤ cs.size →
    ∃ cs', (w.setCells b o vs).heap[b]? = some (.cells cs' T fz) ∧ cs'.size = cs.size ∧ (∀ j, j < o → cs'[j]? = cs[j]?) ∧ (∀ j, j < vs.length → cs'[o + j]? = vs[j]?) ∧ (∀ j, o + vs.length ≤ j → cs'[j]? = cs[j]?) ∧
      (∀ b', b' ≠ b → (w.setCells b o vs).heap[b']? = w.heap[b']?) ∧ (w.setCells b o vs).heap.size = w.heap.size ∧ (w.setCells b o vs).os = w.os ∧ (w.setCells b o vs).tape = w.tape ∧ (w.setCells b o vs).output = w.output
  | [], o, w, cs, h, _ => ⟨cs, h, rfl, fun _ _ => rfl, fun j hj => by simp at hj, fun _ _ => rfl, fun _ _ => rfl, rfl, rfl, rfl, rfl⟩
  | v :: vs, o, w, cs, h, hl => by
    have h1 : (w.setCell ⟨b, o, none⟩ v).heap[b]? = some (.cells (cs.setIfInBounds o v) T fz) := by simp [World.setCell, Array.getElem?_modify, h]
    simp only [List.length_cons] at hl
    obtain ⟨cs', g1, g2, g3, g4, g5, g6, g7, g8, g9, g10⟩ := setCells_heap vs (o + 1) (w.setCell ⟨b, o, none⟩ v) (cs.setIfInBounds o v) h1 (by simp; omega)
    refine ⟨cs', g1, by simpa using g2, fun j hj => ?_, fun j hj => ?_, fun j hj => ?_, fun b' hb' => ?_, g7.trans (by simp), g8, g9, g10⟩
    · rw [g3 j (by omega), Array.getElem?_setIfInBounds_ne (by omega)]
    · cases j with
      | zero =>
        rw [Nat.add_zero, g3 o (by omega)]
        have : o < cs.size := by omega
        simp [Array.getElem?_setIfInBounds, this]
      | succ j =>
        have := g4 j (by simpa using hj)
        rw [show o + (j + 1) = o + 1 + j by omega]
        simpa using this
    · simp only [List.length_cons] at hj
      rw [g5 j (by omega), Array.getElem?_setIfInBounds_ne (by omega)]
    · exact (g6 b' hb').trans (Below.heap_setCell w ⟨b, o, none⟩ v b' hb')

noncomputable def rdSrc (y : Operand) (k : List AV → Option Nat → Rd) : Rd := match y with
  | .const (.slice none 0 0) => k [] none
  | .tmp t => .get t fun v => match v with
    | .own l => k l (some t)
    | .sh l => k l none
    | .alias s q => .get s fun c => rdGetP c q fun X => match X with
      | .own l => .need (allP l = true) (k l none)
      | _ => .fail
    | .win s q j => .get s fun c => rdGetP c q fun X => match X with
      | .own l => .need (allP (l.drop j) = true ∧ j < bigW) (k (l.drop j) none)
      | _ => .fail
    | _ => .fail
  | _ => .fail

def apF (t1 t2 : Option Nat) (n d : Nat) : List Nat → Option (List Nat)
  | [] => none
  | [x] => if x = d then t1.map fun t => [t] else if some x = t1 ∨ some x = t2 then none else some [x]
  | x :: k :: r => if x = d then (if k < n then t1.map fun t => t :: k :: r else t2.map fun t => t :: (k - n) :: r) else if some x = t1 ∨ some x = t2 then none else some (x :: k :: r)

theorem apF_inj {t1 t2 : Option Nat} {n d : Nat} (h : t1 = none ∨ t1 ≠ t2) : ∀ r1 r2 x, apF t1 t2 n d r1 = some x → apF t1 t2 n d r2 = some x → r1 = r2 := by
  intro r1 r2 x h1 h2
  have key : ∀ r, apF t1 t2 n d r = some x → (∃ t, t1 = some t ∧ ((r = [d] ∧ x = [t]) ∨ ∃ k s, k < n ∧ r = d :: k :: s ∧ x = t :: k :: s)) ∨ (∃ t, t2 = some t ∧ ∃ k s, n ≤ k ∧ r = d :: k :: s ∧ x = t :: (k - n) :: s) ∨
      (r = x ∧ ∃ y s, x = y :: s ∧ some y ≠ t1 ∧ some y ≠ t2) := by
    intro r hr
    rcases r with _ | ⟨y, _ | ⟨k, s⟩⟩
    · simp [apF] at hr
    · simp only [apF] at hr
      split at hr
      · rename_i hy
        cases t1 with
        | none => simp at hr
        | some t => simp at hr; exact .inl ⟨t, rfl, .inl ⟨by rw [hy], hr.symm⟩⟩
      · split at hr
        · cases hr
        · rename_i hn; injection hr with hr; exact .inr (.inr ⟨hr, y, [], hr.symm, fun e => hn (.inl e), fun e => hn (.inr e)⟩)
    · simp only [apF] at hr
      split at hr
      · rename_i hy
        split at hr
        · rename_i hk
          cases t1 with
          | none => simp at hr
          | some t => simp at hr; exact .inl ⟨t, rfl, .inr ⟨k, s, hk, by rw [hy], hr.symm⟩⟩
        · rename_i hk
          cases t2 with
          | none => simp at hr
          | some t => simp at hr; exact .inr (.inl ⟨t, rfl, k, s, by omega, by rw [hy], hr.symm⟩)
      · split at hr
        · cases hr
        · rename_i hn; injection hr with hr; exact .inr (.inr ⟨hr, y, k :: s, hr.symm, fun e => hn (.inl e), fun e => hn (.inr e)⟩)
  rcases key r1 h1 with ⟨t, ht, ⟨ha, hb⟩ | ⟨k, s, hk, ha, hb⟩⟩ | ⟨t, ht, k, s, hk, ha, hb⟩ | ⟨ha, y, s, hb, hy1, hy2⟩ <;>
    rcases key r2 h2 with ⟨t', ht', ⟨ha', hb'⟩ | ⟨k', s', hk', ha', hb'⟩⟩ | ⟨t', ht', k', s', hk', ha', hb'⟩ | ⟨ha', y', s', hb', hy1', hy2'⟩ <;>
    (subst ha; subst ha'; rw [hb] at hb'; all_goals (try (simp_all <;> omega)); all_goals (try simp_all))

theorem apF_keep (t1 t2 : Option Nat) (n d : Nat) (S : List Nat) (h1 : ∀ t, t1 = some t → t ∈ S) (h2 : ∀ t, t2 = some t → t ∈ S) : ∀ r, r ≠ [] → root r ∉ d :: S → apF t1 t2 n d r = some r := by
  intro r hr hn
  have hx : ∀ x, x ∉ d :: S → x ≠ d ∧ ¬ (some x = t1 ∨ some x = t2) := by
    intro x hx
    simp at hx
    exact ⟨hx.1, fun h => h.elim (fun e => hx.2 (h1 x e.symm)) (fun e => hx.2 (h2 x e.symm))⟩
  rcases r with _ | ⟨x, _ | ⟨k, r⟩⟩
  · exact absurd rfl hr
  · have := hx x (by simpa [root] using hn); simp [apF, this.1, this.2]
  · have := hx x (by simpa [root] using hn); simp [apF, this.1, this.2]

theorem ORep.row {Z : Nat → Option Obj} {β : List Nat → Option Nat} {p : List Nat} {l : List AV} {v : Value} {w : World} (h : ORep Z w.heap β p (.own l) v) :
    ∃ us : Nat → Value, (∀ k, k < l.length → (us k).oneCell' = true) ∧ (∀ k (h : k < l.length), ORep Z w.heap β (p ++ [k]) l[k] (us k)) ∧
      ((l = [] ∧ v = .slice none 0 0) ∨ ∃ b c cs T, v = .slice (some ⟨b, 0, none⟩) l.length c ∧ β p = some b ∧ w.heap[b]? = some (.cells cs T (0, 0)) ∧ l.length ≤ c ∧ c = cs.size ∧ c ≤ maxLen ∧ ∀ k, k < l.length → cs[k]? = some (us k)) := by
  cases h with
  | pers h => cases h
  | nil => exact ⟨fun _ => undef, by simp, by simp, .inl ⟨rfl, rfl⟩⟩
  | own l b c cs T us hb hz h1 h2 h3 hu h4 hk => exact ⟨us, h4, hk, .inr ⟨b, c, cs, T, rfl, hb, hz, h1, h2, h3, hu⟩⟩

structure SrcOK (w : World) (v : Value) (n : Nat) (us : Nat → Value) : Prop where
  one : ∀ k, k < n → (us k).oneCell' = true
  at_ : (n = 0 ∧ ∃ A c, v = .slice A 0 c) ∨ ∃ b o c, v = .slice (some ⟨b, o, none⟩) n c ∧ ∀ k, k < n → w.cell? ⟨b, o + k, none⟩ = some (us k)

def newsOf (n : Nat) (us : Nat → Value) : List Value := (List.range n).map us

theorem newsOf_get {n : Nat} {us : Nat → Value} {k : Nat} (h : k < n) : (newsOf n us)[k]? = some (us k) := by simp [newsOf, h]

theorem SrcOK.src {P : Program} {w : World} {v : Value} {n : Nat} {us : Nat → Value} (h : SrcOK w v n us) {T E : TypeId} (hT : P.underlying T = some (.slice E)) : Src P 1 T v n (newsOf n us) w := by
  have h1 : ∀ u ∈ newsOf n us, u.oneCell' = true := by
    intro u hu
    simp only [newsOf, List.mem_map, List.mem_range] at hu
    obtain ⟨k, hk, rfl⟩ := hu
    exact h.one k hk
  rcases h.at_ with ⟨hn, A, c, hv⟩ | ⟨b, o, c, hv, hc⟩
  · subst hn
    subst hv
    cases A with
    | none => exact Src.ofNil w hT c
    | some ad => exact Src.ofSlice w hT ad 0 c [] (by simp) (by simp) (by simp)
  · subst hv
    refine Src.ofSlice w hT ⟨b, o, none⟩ n c _ (by simp [newsOf]) (fun j u hj => ?_) h1
    have hadd : (⟨b, o, none⟩ : Addr).add j = ⟨b, o + j, none⟩ := by unfold Addr.add; split <;> simp_all
    rw [hadd]
    have hjn : j < n := by have := (List.getElem?_eq_some_iff.1 hj).1; simpa [newsOf] using this
    rw [newsOf_get hjn] at hj
    injection hj with hj
    rw [← hj]; exact hc j hjn

theorem rdSrc_sound {e : Env} {y : Operand} {k : List AV → Option Nat → Rd} {ws : List Wr} (h : (rdSrc y k).Wo e ws) : ∃ m src, (k m src).Wo e ws ∧ (∀ t, src = some t → y = .tmp t ∧ e t = .own m) ∧
    ∀ {κ Z β w} {a : Act}, Rep κ Z β e (vals a) w → ∃ us, SrcOK w (a.eval y) m.length us ∧ (∀ t, src = some t → ∀ k (h : k < m.length), ORep Z w.heap β [t, k] m[k] (us k)) ∧ (src = none → ∀ k (h : k < m.length), PRep Z m[k] (us k)) := by
  cases y with
  | const v =>
    simp only [rdSrc] at h
    split at h
    · rename_i heq
      injection heq with heq
      subst heq
      exact ⟨[], none, h, by simp, fun _ => ⟨fun _ => undef, ⟨by simp, .inl ⟨rfl, _, _, rfl⟩⟩, by simp, by simp⟩⟩
    · rename_i heq; cases heq
    · exact h.elim
  | tmp t =>
    obtain ⟨hj, h⟩ := h
    cases het : e t with
    | own l =>
      simp only [het] at h
      refine ⟨l, some t, h, fun t' ht => by injection ht with ht; subst ht; exact ⟨rfl, het⟩, fun {κ Z β w a} hR => ?_⟩
      obtain ⟨us, h1, h2, h3⟩ := ORep.row (hR.slot' het (by simp))
      refine ⟨us, ⟨h1, ?_⟩, fun t' ht k hk => ?_, by simp⟩
      · rcases h3 with ⟨hl, hv⟩ | ⟨b, c, cs, T, hv, hb, hz, _, _, _, hu⟩
        · exact .inl ⟨by simp [hl], none, 0, hv⟩
        · exact .inr ⟨b, 0, c, hv, fun k hk => cell_heap hz (by simpa using hu k hk)⟩
      · injection ht with ht; subst ht; exact h2 k hk
    | sh l =>
      simp only [het] at h
      refine ⟨l, none, h, by simp, fun {κ Z β w a} hR => ?_⟩
      have hp := ORep.toP (hR.slot' het (by simp)) rfl
      rw [eval_tmp]
      generalize vals a t = v at hp
      cases hp with
      | nil A c hc => exact ⟨fun _ => undef, ⟨by simp, .inl ⟨rfl, A, c, rfl⟩⟩, by simp, by simp⟩
      | sh l b of c cs E fz us hz h1 h2 hu h3 hk => exact ⟨us, ⟨h3, .inr ⟨b, of, c, rfl, fun k hk => cell_heap (hR.zh _ _ hz) (hu k hk)⟩⟩, by simp, fun _ => hk⟩
    | alias s q =>
      simp only [het] at h
      obtain ⟨hsj, X, hl, h⟩ := h
      dsimp only at h
      split at h
      case h_2 => exact h.elim
      rename_i l
      obtain ⟨hp, h⟩ := h
      refine ⟨l, none, h, by simp, fun {κ Z β w a} hR => ?_⟩
      obtain ⟨us, h1, h2, h3⟩ := ORep.row (hR.aliasAt het _ hl rfl)
      refine ⟨us, ⟨h1, ?_⟩, by simp, fun _ k hk => ORep.toP (h2 k hk) ((allP_iff l).1 hp _ (List.getElem_mem hk))⟩
      rcases h3 with ⟨hl, hv⟩ | ⟨b, c, cs, T, hv, hb, hz, _, _, _, hu⟩
      · exact .inl ⟨by simp [hl], none, 0, hv⟩
      · exact .inr ⟨b, 0, c, hv, fun k hk => cell_heap hz (by simpa using hu k hk)⟩
    | win s q j =>
      simp only [het] at h
      obtain ⟨hsj, X, hl, h⟩ := h
      dsimp only at h
      split at h
      case h_2 => exact h.elim
      rename_i l
      obtain ⟨⟨hp, hjb⟩, h⟩ := h
      refine ⟨l.drop j, none, h, by simp, fun {κ Z β w a} hR => ?_⟩
      obtain ⟨u, hu, hv⟩ := hR.winAt het _ hl
      rw [eval_tmp, hv]
      by_cases hj : j < l.length
      · obtain ⟨b, c, cs, E, us, hd2, hb, hz, _, _, _, hus, h4, hk⟩ := hu.win (k := j) hj
        refine ⟨fun i => us (j + i), ⟨fun k hk => h4 _ (by simp at hk; omega), .inr ⟨b, j, c - j, by rw [hd2, List.length_drop], fun k hk => cell_heap hz (hus _ (by simp at hk; omega))⟩⟩, by simp, fun _ k hk' => ?_⟩
        have hlt : j + k < l.length := by simp at hk'; omega
        have h6 := (allP_iff _).1 hp _ (List.getElem_mem hk')
        simp only [List.getElem_drop] at h6 ⊢
        exact ORep.toP (hk _ hlt) h6
      · have hnil : l.drop j = [] := List.drop_eq_nil_of_le (by omega)
        obtain ⟨A, c, hd2⟩ := hu.winLen hjb
        rw [hnil, hd2]
        have : l.length - j = 0 := by omega
        exact ⟨fun _ => undef, ⟨by simp, .inl ⟨rfl, A, _, by rw [this]⟩⟩, by simp, by simp⟩
    | _ => simp only [het] at h; exact h.elim
  | _ => exact h.elim

noncomputable def rdDst (x : Operand) (k : List AV → Option Nat → Rd) : Rd := match x with
  | .const (.slice none 0 0) => k [] none
  | .tmp t => .get t fun v => match v with
    | .own l => k l (some t)
    | _ => .fail
  | _ => .fail

noncomputable def rdApp (P : Program) (T T2 d : Nat) (x y : Operand) : Rd := .need (slOK P T = true ∧ slOK P T2 = true) (rdSrc y fun m t2 => rdDst x fun l t1 => .need ((t1 = none ∨ t1 ≠ t2) ∧ l.length + m.length ≤ 1099511627776 ∧ t1 ≠ some d ∧ t2 ≠ some d)
  (.ret (srcW t1 ++ srcW t2 ++ [.set d (.own (l ++ m))])))

theorem rdDst_sound {e : Env} {x : Operand} {k : List AV → Option Nat → Rd} {ws : List Wr} (h : (rdDst x k).Wo e ws) : ∃ l src, (k l src).Wo e ws ∧ ((src = none ∧ l = [] ∧ x = .const (.slice none 0 0)) ∨ ∃ t, src = some t ∧ x = .tmp t ∧ e t = .own l) := by
  cases x with
  | const v =>
    simp only [rdDst] at h
    split at h
    · rename_i heq
      injection heq with heq
      subst heq
      exact ⟨[], none, h, .inl ⟨rfl, rfl, rfl⟩⟩
    · rename_i heq; cases heq
    · exact h.elim
  | tmp t =>
    obtain ⟨hj, h⟩ := h
    cases het : e t with
    | own l => simp only [het] at h; exact ⟨l, some t, h, .inr ⟨t, rfl, rfl, het⟩⟩
    | _ => simp only [het] at h; exact h.elim
  | _ => exact h.elim

theorem rdApp_sound {P : Program} {κ : Con} {o : Oper} {e : Env} {ws : List Wr} {T T2 d : Nat} {x y : Operand} (ho : o.op = .call { callee := .builtin .append, args := #[x, y], argTypes := #[T, T2] }) (hd : o.dst = some d) (hn : (κ.lim.1 ≤ d ∧ d < κ.lim.2)) (h : (rdApp P T T2 d x y).Wo e ws) : Does P κ o e ws := by
  obtain ⟨⟨hT, hT2⟩, h⟩ := h
  obtain ⟨m, t2, h, hs2, hsrc⟩ := rdSrc_sound h
  obtain ⟨l, t1, h, hdst⟩ := rdDst_sound h
  obtain ⟨⟨ht12, hlen, ht1d, ht2d⟩, hw⟩ := h
  have hw' : ws = _ := hw
  subst hw'
  obtain ⟨E, i, z, hu, hi, hi1, hi2, hz, hz1⟩ := slOK_spec hT
  obtain ⟨E2, i2, z2, hu2, _, _, _, _, _⟩ := slOK_spec hT2
  refine does_value hd hn fun a w Z β hR => ?_
  obtain ⟨us2, hso, hown2, hper2⟩ := hsrc hR
  have hS := hso.src (P := P) hu2
  have hrun : ∀ v w', (Builtin.append_ #[T, T2] o.type #[a.eval x, a.eval y]).run P w = .ok v w' → (execOp a.eval o).run P w = .ok (.value v) w' := by
    intro v w' hv
    simp [execOp, ho, resolve, invoke, builtin, hv]
  let S : List Nat := t1.toList ++ t2.toList
  have hSd : d ∉ S := by simp [S]; exact ⟨fun h => ht1d (by simp [h]), fun h => ht2d (by simp [h])⟩
  have hws : (srcW t1 ++ srcW t2 ++ [Wr.set d (.own (l ++ m))]) = (S.map fun t => Wr.set t .junk) ++ [.set d (.own (l ++ m))] := by
    cases t1 <;> cases t2 <;> rfl
  have hkeep := apF_keep t1 t2 l.length d S (by intro t ht; simp [S, ht]) (by intro t ht; simp [S, ht])
  have hinjF := apF_inj (t1 := t1) (t2 := t2) (n := l.length) (d := d) ht12
  have hold : ∃ us1 : Nat → Value, (∀ k, k < l.length → (us1 k).oneCell' = true) ∧ (∀ k (h : k < l.length), ∀ (β' : List Nat → Option Nat) (H' : Array Obj), (∀ r b, viaF (apF t1 t2 l.length d) β (d :: k :: r) = some b → β' (d :: k :: r) = some b ∧ H'[b]? = w.heap[b]?) → ORep Z H' β' [d, k] l[k] (us1 k)) ∧
      ((l = [] ∧ a.eval x = .slice none 0 0) ∨ ∃ b c cs Tb, a.eval x = .slice (some ⟨b, 0, none⟩) l.length c ∧ viaF (apF t1 t2 l.length d) β [d] = some b ∧ w.heap[b]? = some (.cells cs Tb (0, 0)) ∧ l.length ≤ c ∧ c = cs.size ∧ c ≤ maxLen ∧ ∀ k, k < l.length → cs[k]? = some (us1 k)) := by
    rcases hdst with ⟨rfl, rfl, rfl⟩ | ⟨t, rfl, rfl, het⟩
    · exact ⟨fun _ => undef, by simp, by simp, .inl ⟨rfl, rfl⟩⟩
    · obtain ⟨us, h1, h2, h3⟩ := ORep.row (hR.slot' het (by simp))
      refine ⟨us, h1, fun k hk β' H' hβ => ?_, ?_⟩
      · refine (h2 k hk).move (fun _ _ h => h) fun r b hr => ?_
        have := hβ r b (by simp [viaF, apF, hk]; simpa using hr)
        simpa using this
      · rcases h3 with ⟨hl, hv⟩ | ⟨b, c, cs, Tb, hv, hb, rest⟩
        · exact .inl ⟨hl, hv⟩
        · exact .inr ⟨b, c, cs, Tb, hv, by simp [viaF, apF]; exact hb, rest⟩
  obtain ⟨us1, hone1, hrep1, hv1⟩ := hold
  have hrep2 : ∀ k (h : k < m.length), ∀ (β' : List Nat → Option Nat) (H' : Array Obj), (∀ r b, viaF (apF t1 t2 l.length d) β (d :: (l.length + k) :: r) = some b → β' (d :: (l.length + k) :: r) = some b ∧ H'[b]? = w.heap[b]?) → ORep Z H' β' [d, l.length + k] m[k] (us2 k) := by
    intro k hk β' H' hβ
    cases hs : t2 with
    | none => exact .pers (hper2 hs k hk)
    | some t =>
      refine (hown2 t hs k hk).move (fun _ _ h => h) fun r b hr => ?_
      have := hβ r b (by
        have : ¬ (l.length + k < l.length) := by omega
        simp [viaF, apF, this, hs]; simpa using hr)
      simpa using this
  let us : Nat → Value := fun k => if k < l.length then us1 k else us2 (k - l.length)
  have hus : ∀ k, k < (l ++ m).length → (us k).oneCell' = true := by
    intro k hk
    simp only [List.length_append] at hk
    show (if k < l.length then us1 k else us2 (k - l.length)).oneCell' = true
    split
    · exact hone1 k (by assumption)
    · exact hso.one _ (by omega)
  have fin : ∀ (β' : List Nat → Option Nat) (w' : World) (b c : Nat) (cs : Array Value) (Tb : TypeId), β' [d] = some b → w'.heap[b]? = some (.cells cs Tb (0, 0)) → l.length + m.length ≤ c → c = cs.size → c ≤ maxLen → (∀ k, k < l.length + m.length → cs[k]? = some (us k)) →
      (∀ k r b, viaF (apF t1 t2 l.length d) β (d :: k :: r) = some b → β' (d :: k :: r) = some b ∧ w'.heap[b]? = w.heap[b]?) → ORep Z w'.heap β' [d] (.own (l ++ m)) (.slice (some ⟨b, 0, none⟩) (l.length + m.length) c) := by
    intro β' w' b c cs Tb hb hzb h1 h2 h3 hcs hβ
    have := ORep.own (Z := Z) (H := w'.heap) (β := β') (p := [d]) (l ++ m) b c cs Tb us hb hzb (by simpa using h1) h2 h3 (fun k hk => hcs k (by simpa using hk)) hus (fun k hk => by
      simp only [List.length_append] at hk
      by_cases hkl : k < l.length
      · rw [List.getElem_append_left hkl]
        show ORep Z w'.heap β' [d, k] l[k] (if k < l.length then us1 k else us2 (k - l.length))
        rw [if_pos hkl]
        exact hrep1 k hkl β' w'.heap (hβ k)
      · rw [List.getElem_append_right (by omega)]
        show ORep Z w'.heap β' [d, k] m[k - l.length] (if k < l.length then us1 k else us2 (k - l.length))
        rw [if_neg hkl]
        have := hrep2 (k - l.length) (by omega) β' w'.heap (by rw [show l.length + (k - l.length) = k by omega]; exact hβ k)
        rwa [show l.length + (k - l.length) = k by omega] at this)
    rw [List.length_append] at this
    exact this
  have h48 : ∀ cap, cap < l.length + m.length → Builtin.nextslicecap (l.length + m.length) cap * i.bytes ≤ 281474976710656 := by
    intro cap hc
    refine growslice_fits hc ?_
    have := Nat.mul_le_mul hlen hi2
    omega
  have h63 : ((l.length + m.length : Nat) : Int) ≤ 9223372036854775807 := by omega
  have grow : ∀ (base : Option Addr) (cap : Nat), a.eval x = .slice base l.length cap → (Builtin.firstCells i.size l.length (.slice base l.length cap)).run P w.drew = .ok (newsOf l.length us1).toArray w.drew → cap < l.length + m.length →
      ∃ u w' Z' β', (execOp a.eval o).run P w = .ok (.value u) w' ∧ Rep κ Z' β' (apps ((S.map fun t => Wr.set t .junk) ++ [.set d (.own (l ++ m))]) e) (setV (vals a) d u) w' := by
    intro base cap hx hfc hc
    have hg := run_append_grow_src w T T2 o.type E i z hu hi hz base l.length cap (newsOf l.length us1) hfc (a.eval y) m.length (newsOf m.length us2) (by rw [hi1]; exact hS) hc h63 (h48 cap hc)
    have hge := grownCap_ge w (l.length + m.length) cap E
    have hle := grownCap_le_maxLen w (l.length + m.length) cap E (by unfold maxLen; omega)
    generalize hgc : grownCap w (l.length + m.length) cap E = gc at hg hge hle
    generalize hcs : ((newsOf l.length us1 ++ newsOf m.length us2).toArray ++ Builtin.zeroCells z.cells (gc - (l.length + m.length))) = cs at hg
    have hcsz : cs.size = gc := by
      rw [← hcs]; simp [newsOf, size_zeroCells, cells_one hz1]; omega
    have hck : ∀ k, k < l.length + m.length → cs[k]? = some (us k) := by
      intro k hk
      rw [← hcs]
      rw [Array.getElem?_append_left (by simp [newsOf]; omega)]
      simp only [List.getElem?_toArray]
      by_cases hkl : k < l.length
      · rw [List.getElem?_append_left (by simpa [newsOf] using hkl), newsOf_get hkl]
        simp [us, hkl]
      · rw [List.getElem?_append_right (by simp [newsOf]; omega)]
        simp only [newsOf, List.length_map, List.length_range]
        have := newsOf_get (us := us2) (show k - l.length < m.length by omega)
        simp only [newsOf] at this
        rw [this]
        simp [us, hkl]
    have hori := fin (withB (viaF (apF t1 t2 l.length d) β) d w.heap.size) (w.drew.alloc (.cells cs E)) w.heap.size gc cs E (by simp [withB]) (heap_alloc_new w.drew _) hge (by omega) hle hck (fun k r b hb => ⟨by simpa [withB] using hb, Below.heap_alloc w.drew _ b (by
      have := viaF_bo (Q := fun b => b < w.heap.size) (fun p b hp => (hR.bo p b hp).2.2) _ b hb; exact this)⟩)
    refine ⟨_, _, Z, withB (viaF (apF t1 t2 l.length d) β) d w.heap.size, hrun _ _ (by rw [hx]; exact hg), ?_⟩
    exact hR.bigParts S d (apF t1 t2 l.length d) _ _ _ rfl rfl rfl (by show w.heap.size ≤ (w.drew.alloc _).heap.size; simp) (fun b hb => Below.heap_alloc w.drew _ b hb) hkeep (.inr ⟨rfl, by show w.heap.size < (w.drew.alloc _).heap.size; simp⟩) hinjF hori (by simp)
  rw [hws]
  rcases hv1 with ⟨hl0, hx⟩ | ⟨b, c, cs, Tb, hx, hb, hzb, hlc, hcc, hcm, hcs⟩
  · subst hl0
    by_cases hm0 : m = []
    · subst hm0
      have hn := hS.newsLen
      have hap : (Builtin.append_ #[T, T2] o.type #[a.eval x, a.eval y]).run P w = .ok (.slice none 0 0) w := by
        rw [hx]
        have hl := hS.len w
        have hc := hS.cells
        simp only [List.length_nil] at hl hc
        simp [Builtin.append_, run_underlying hu, run_underlying hu2, sizeOf, typeInfo, hi, hi1, hl, hc, newsOf]
      refine ⟨_, w, Z, viaF (apF t1 t2 0 d) β, hrun _ _ hap, ?_⟩
      exact hR.bigParts S d (apF t1 t2 0 d) (.own ([] ++ [])) _ _ rfl rfl rfl (Nat.le_refl _) (fun b hb => rfl) hkeep (.inl rfl) hinjF .nil (by simp)
    · have hm1 : 0 < m.length := List.length_pos_iff.2 hm0
      refine grow none 0 hx ?_ (by simpa using hm1)
      have := run_firstCells_none (P := P) w.drew i.size 0 0 0
      simpa [newsOf] using this
  · by_cases hroom : l.length + m.length ≤ c
    · have hcell : ∀ j, j < (newsOf m.length us2).length → l.length * i.size + j < cs.size := by
        intro j hj; simp [newsOf] at hj; rw [hi1]; omega
      have hrm := run_append_room_src w T T2 o.type E i hu hi b 0 l.length c (a.eval y) m.length (newsOf m.length us2) (by rw [hi1]; exact hS) hroom (fun j hj => by
          rw [cell_of_row w b _ cs Tb (0, 0) hzb]
          have := hcell j hj
          rw [show 0 + l.length * i.size + j = l.length * i.size + j by omega]
          simp [this]) (fun j hj => by simp [World.frozen?, hzb])
      rw [hi1] at hrm
      simp only [Nat.mul_one, Nat.zero_add] at hrm
      obtain ⟨cs', g1, g2, g3, g4, g5, g6, g7, g8, g9, g10⟩ := setCells_heap (newsOf m.length us2) l.length w cs hzb (by simp [newsOf]; omega)
      have hck : ∀ k, k < l.length + m.length → cs'[k]? = some (us k) := by
        intro k hk
        by_cases hkl : k < l.length
        · rw [g3 k hkl, hcs k hkl]; simp [us, hkl]
        · have := g4 (k - l.length) (by simp [newsOf]; omega)
          rw [show l.length + (k - l.length) = k by omega] at this
          rw [this, newsOf_get (by omega)]
          simp [us, hkl]
      have hinjV := viaF_inj hinjF hR.inj
      have hori := fin (viaF (apF t1 t2 l.length d) β) (w.setCells b l.length (newsOf m.length us2)) b c cs' Tb hb g1 hroom (by omega) hcm hck (fun k r b' hb' => ⟨hb', g6 b' (by
        rintro rfl
        have := hinjV _ _ _ hb' hb
        simp at this)⟩)
      refine ⟨_, _, Z, viaF (apF t1 t2 l.length d) β, hrun _ _ (by rw [hx]; exact hrm), ?_⟩
      rw [apps_append, apps_drops]
      show Rep κ Z _ ((Wr.set d (.own (l ++ m))).app (dropS S e)) _ _
      rw [← app_set_dropC]
      have hbo := viaF_bo (f := apF t1 t2 l.length d) hR.bo
      have hbb := hbo _ _ hb
      refine hR.big (d :: S) d (by simp) _ _ g8 g9 g10 (by rw [g7]; exact Nat.le_refl _) (fun b' hn _ => g6 b' (by rintro rfl; exact hn hbb.1)) (fun _ _ h => h) (fun _ _ h => .inl h)
        (fun b' o' ho' => by rw [g6 b' (by rintro rfl; rw [hbb.2.1] at ho'; cases ho')]; exact hR.zh b' o' ho') (fun r b' hr hn hb' => ⟨by simp [viaF, hkeep r hr hn, hb'], g6 b' ?_⟩) hinjV (fun p b' hp => by have := hbo p b' hp; rw [g7]; exact this) hori (by simp)
      rintro rfl
      have h1 : viaF (apF t1 t2 l.length d) β r = some b' := by simp [viaF, hkeep r hr hn, hb']
      have := hinjV _ _ _ h1 hb
      subst this
      simp [root] at hn
    · refine grow (some ⟨b, 0, none⟩) c hx ?_ (by omega)
      rw [hi1]
      refine run_firstCells_some w.drew 1 l.length ⟨b, 0, none⟩ l.length c _ (by simp [newsOf]) (fun j v hj => ?_)
      have hjl : j < l.length := by have := (List.getElem?_eq_some_iff.1 hj).1; simpa [newsOf] using this
      rw [newsOf_get hjl] at hj
      injection hj with hj
      subst hj
      have hadd : (⟨b, 0, none⟩ : Addr).add j = ⟨b, j, none⟩ := by unfold Addr.add; split <;> simp_all
      rw [hadd]
      exact cell_heap (w := w.drew) hzb (hcs j hjl)

end Go.Proofs.Ytehdfifncbokeaa

namespace Go.Proofs.Ytehdfifncbokeaa
set_option linter.unusedSimpArgs false
set_option linter.unusedVariables false
set_option maxRecDepth 8000
set_option maxHeartbeats 2000000
open Go Go.RowKit AV

structure Wf (Z : Nat → Option Obj) (β : List Nat → Option Nat) (w : World) : Prop where
  zh : ∀ b o, Z b = some o → w.heap[b]? = some o
  inj : ∀ p q b, β p = some b → β q = some b → p = q
  bo : ∀ p b, β p = some b → Z b = none ∧ b < w.heap.size

structure Left (Z : Nat → Option Obj) (β : List Nat → Option Nat) (w : World) (Z' : Nat → Option Obj) (β' : List Nat → Option Nat) (w' : World) : Prop where
  os : w'.os = w.os
  tape : w'.tape = w.tape
  output : w'.output = w.output
  size : w.heap.size ≤ w'.heap.size
  frame : ∀ b, b < w.heap.size → (∀ p, β p ≠ some b) → w'.heap[b]? = w.heap[b]?
  z0 : ∀ b o, Z b = some o → Z' b = some o
  zo : ∀ b o, Z' b = some o → Z b = some o ∨ (∃ p, β p = some b) ∨ w.heap.size ≤ b
  zh : ∀ b o, Z' b = some o → w'.heap[b]? = some o
  inj : ∀ p q b, β' p = some b → β' q = some b → p = q
  bo : ∀ p b, β' p = some b → ((∃ q, β q = some b) ∨ w.heap.size ≤ b) ∧ Z' b = none ∧ b < w'.heap.size

structure Ctr where
  eff : Bool
  rel : List AV → AV → List AV → Prop
  tk : Bool

def canCall (P : Program) (f : Nat) : Prop := ∃ fn c, P.funcs[f]? = some fn ∧ (fn.name == "runtime.NumGoroutine") = false ∧ fn.body = some c

def CtrOK (P : Program) (f : Nat) (c : Ctr) : Prop := canCall P f ∧ ∀ args r args', c.rel args r args' → ∀ (w : World) (Z : Nat → Option Obj) (β : List Nat → Option Nat) (vals : Array Value), vals.size = args.length → Wf Z β w →
  (if c.eff then ∀ i (h : i < args.length), ORep Z w.heap β [i] args[i] (vals.getD i undef) else (β = fun _ => none) ∧ ∀ i (h : i < args.length), PRep Z args[i] (vals.getD i undef)) →
  Calls P f vals w fun en w' => ∃ v Z' β', en = .returned v ∧ Left Z β w Z' β' w' ∧ ORep Z' w'.heap β' [0] r v ∧ ∀ i (h : i < args'.length), ORep Z' w'.heap β' [i + 1] args'[i] (vals.getD i undef)

theorem run_callFunc' {P : Program} {f : Nat} (h : canCall P f) (args : Array Value) (w : World) : (callFunc f args).run P w = .ok (.enter f args) w := by
  obtain ⟨fn, c, hf, hn, hb⟩ := h
  have h1 : fn.name ≠ "runtime.NumGoroutine" := by simpa using hn
  simp [callFunc, hf, h1, hb]

noncomputable def rdArg (x : Operand) (k : AV → Option (List (Nat × List Nat × AV)) → Rd) : Rd := match x with
  | .const v => .need (cst v ≠ .junk) (k (view (cst v)) (some []))
  | .func f => k (.fn f []) (some [])
  | .global _ => .fail
  | .tmp t => .get t fun v => match v with
    | .alias s p => .get s fun c => rdGetP c p fun A => .need (isOwn A = true) (k (view A) (some [(s, p, view A)]))
    | .valias s p => .get s fun c => rdGetP c p fun X => match X with
      | .box l => k (.agg (viewL l)) none
      | _ => .fail
    | .addr _ _ => .fail
    | .win s p j => .get s fun c => rdGetP c p fun X => match X with
      | .own l => .need (bigW ≤ j ∧ j - bigW ≤ l.length) (k (.sh (viewL (l.take (j - bigW)))) none)
      | _ => .fail
    | .pin A _ => k A (some [])
    | .junk => .fail
    | v => if isOwn v then k (view v) (some [(t, [], view v)]) else if isP v then k v (some []) else .fail

noncomputable def rdArgs : List Operand → (List AV → Option (List (Nat × List Nat × AV)) → Rd) → Rd
  | [], k => k [] (some [])
  | x :: xs, k => rdArg x fun A fz => rdArgs xs fun l fz' => k (A :: l) (match fz, fz' with
    | some a, some b => some (a ++ b)
    | _, _ => none)

inductive ArgOK (Z : Nat → Option Obj) (H : Array Obj) (β : List Nat → Option Nat) (e : Env) : AV → Option (List (Nat × List Nat × AV)) → Value → Prop
  | pers {A v} (h : PRep Z A v) : ArgOK Z H β e A (some []) v
  | own {s p A v} (hg : getP (e s) p = some A) (hA : isOwn A = true) (h : ORep Z H β (s :: p) A v) : ArgOK Z H β e (view A) (some [(s, p, view A)]) v
  | val {s p l v} (h : ORep Z H β (s :: p) (.agg l) v) : ArgOK Z H β e (.agg (viewL l)) none v
  | win {s p l u j} (h : ORep Z H β (s :: p) (.own l) u) (hj : bigW ≤ j) (hn : j - bigW ≤ l.length) : ArgOK Z H β e (.sh (viewL (l.take (j - bigW)))) none (dropV j u)

theorem PRep.take {Z l u} (h : PRep Z (.sh l) u) {j : Nat} (hj : bigW ≤ j) (hn : j - bigW ≤ l.length) : PRep Z (.sh (l.take (j - bigW))) (dropV j u) := by
  have hnj : ¬ j < bigW := by omega
  cases h with
  | nil A c hc =>
    simp only [dropV, if_neg hnj, List.take_nil]
    rw [show j - bigW = 0 from by simpa using hn]
    exact .nil A c hc
  | sh l b o c cs T fz us hz h1 h2 hu h3 hk =>
    simp only [dropV, if_neg hnj]
    have hl : (l.take (j - bigW)).length = j - bigW := by rw [List.length_take]; omega
    have := PRep.sh (Z := Z) (l.take (j - bigW)) b o c cs T fz us hz (by omega) h2 (fun k h => hu k (by omega)) (fun k h => h3 k (by omega)) (fun k h => by rw [List.getElem_take]; exact hk k (by omega))
    rw [hl] at this
    exact this

theorem PRep.unpin {Z A v u} (h : PRep Z (.pin A v) u) : PRep Z A u := by
  cases h; assumption

theorem rdArg_sound {e : Env} {x : Operand} {k} {ws : List Wr} (h : (rdArg x k).Wo e ws) : ∃ A fz, (k A fz).Wo e ws ∧ ∀ {κ Z β w} {a : Act}, Rep κ Z β e (vals a) w → ArgOK Z w.heap β e A fz (a.eval x) := by
  cases x with
  | const v =>
    obtain ⟨h1, h2⟩ := h
    refine ⟨_, _, h2, fun {κ Z β w a} hR => .pers ?_⟩
    show PRep Z (view (cst v)) v
    unfold cst at h1 ⊢
    split
    · exact .num _ _
    · exact .bool _
    · exact .nil _ _ (by decide)
    · simp at h1
  | func f => exact ⟨_, _, h, fun hR => .pers (.fn f [] #[] rfl (by simp))⟩
  | global g => exact h.elim
  | tmp t =>
    obtain ⟨h1, h2⟩ := h
    cases het : e t with
    | alias s p =>
      simp only [het] at h2
      obtain ⟨hsj, A, hg, hA, h2⟩ := h2
      exact ⟨_, _, h2, fun hR => .own hg hA (hR.aliasAt het A hg hA)⟩
    | valias s p =>
      simp only [het] at h2
      obtain ⟨hsj, X, hl, h2⟩ := h2
      dsimp only at h2
      split at h2
      case h_2 => exact h2.elim
      rename_i l
      refine ⟨_, _, h2, fun hR => ?_⟩
      obtain ⟨cs, hv, hr, _⟩ := hR.valiasAt het l hl
      rw [eval_tmp, hv]
      exact .val hr
    | addr s p => simp only [het] at h2; exact h2.elim
    | win s p j =>
      simp only [het] at h2
      obtain ⟨hsj, X, hl, h2⟩ := h2
      dsimp only at h2
      split at h2
      case h_2 => exact h2.elim
      rename_i l
      obtain ⟨⟨hj, hn⟩, h2⟩ := h2
      refine ⟨_, _, h2, fun hR => ?_⟩
      obtain ⟨u, hu, hv⟩ := hR.winAt het _ hl
      rw [eval_tmp, hv]
      exact .win hu hj hn
    | pin A v =>
      simp only [het] at h2
      exact ⟨_, _, h2, fun hR => .pers (ORep.toP (hR.slot' het (by simp)) rfl).unpin⟩
    | junk => exact absurd het h1
    | _ =>
      simp only [het] at h2
      split at h2
      · rename_i ho
        exact ⟨_, _, h2, fun hR => .own (by rw [het]; rfl) ho (hR.slot' het (by simp))⟩
      · split at h2
        · rename_i hp
          exact ⟨_, _, h2, fun hR => .pers (ORep.toP (hR.slot' het (by simp)) hp)⟩
        · exact h2.elim

def ArgsOK (Z : Nat → Option Obj) (H : Array Obj) (β : List Nat → Option Nat) (e : Env) : List AV → Option (List (Nat × List Nat × AV)) → List Value → Prop
  | [], fz, vs => fz = some [] ∧ vs = []
  | A :: l, fz, v :: vs => ∃ f1 f2, ArgOK Z H β e A f1 v ∧ ArgsOK Z H β e l f2 vs ∧ fz = (match f1, f2 with
    | some a, some b => some (a ++ b)
    | _, _ => none)
  | _ :: _, _, [] => False

theorem rdArgs_sound {e : Env} {ws : List Wr} : ∀ (xs : List Operand) (k), (rdArgs xs k).Wo e ws → ∃ l fz, (k l fz).Wo e ws ∧ ∀ {κ Z β w} {a : Act}, Rep κ Z β e (vals a) w → ArgsOK Z w.heap β e l fz (xs.map a.eval)
  | [], k, h => ⟨[], some [], h, fun _ => ⟨rfl, rfl⟩⟩
  | x :: xs, k, h => by
    obtain ⟨A, fz, h, h1⟩ := rdArg_sound h
    obtain ⟨l, fz', h, h2⟩ := rdArgs_sound xs _ h
    exact ⟨_, _, h, fun hR => ⟨fz, fz', h1 hR, h2 hR, rfl⟩⟩

theorem ArgsOK.len {Z H β e} : ∀ {l fz vs}, ArgsOK Z H β e l fz vs → vs.length = l.length
  | [], _, _, ⟨_, h⟩ => by rw [h]; rfl
  | _ :: _, _, [], h => h.elim
  | _ :: l, _, _ :: vs, ⟨_, _, _, h, _⟩ => by simp [h.len]

theorem ArgsOK.all {Z Z' : Nat → Option Obj} {H : Array Obj} {β : List Nat → Option Nat} {e : Env} (hZ : ∀ b o, Z b = some o → Z' b = some o) (hb : ∀ p b, β p = some b → Z' b = H[b]?) : ∀ {l fz vs}, ArgsOK Z H β e l fz vs →
    ∀ i (h : i < l.length) (h' : i < vs.length), PRep Z' l[i] vs[i]
  | [], _, _, _, i, h, _ => by simp at h
  | _ :: _, _, [], h, _, _, _ => h.elim
  | A :: l, _, v :: vs, ⟨f1, f2, h1, h2, _⟩, i, hi, hi' => by
    cases i with
    | zero =>
      simp only [List.getElem_cons_zero]
      cases h1 with
      | pers h => exact h.mono hZ
      | own hg hA h => exact h.toView' hZ fun r b hr => hb _ b hr
      | val h =>
        have := h.toView' hZ fun r b hr => hb _ b hr
        simpa only [AV.view] using this
      | win h hj hn =>
        have := h.toView' hZ fun r b hr => hb _ b hr
        simp only [AV.view] at this
        have := this.take hj (by rw [viewL_map, List.length_map]; exact hn)
        rwa [viewL_map, ← List.map_take, ← viewL_map] at this
    | succ i => exact ArgsOK.all hZ hb h2 i (by simpa using hi) (by simpa using hi')

def fzW (fz : List (Nat × List Nat × AV)) : List Wr := fz.map fun p => .mod p.1 p.2.1 p.2.2

theorem view_plain (A : AV) : ∀ s p, view A ≠ .alias s p ∧ view A ≠ .valias s p ∧ view A ≠ .addr s p ∧ ∀ k, view A ≠ .win s p k := by
  intro s p; cases A <;> simp [view]

mutual
theorem view_noOwn : ∀ A : AV, isOwn (view A) = false
  | .agg l => by simp only [view, isOwn]; exact viewL_noOwn l
  | .tup l => by simp only [view, isOwn]; exact viewL_noOwn l
  | .junk => rfl
  | .num _ _ => rfl
  | .bool _ => rfl
  | .sh _ => rfl
  | .own _ => rfl
  | .box _ => rfl
  | .pbox _ => rfl
  | .pcell _ => rfl
  | .alias _ _ => rfl
  | .valias _ _ => rfl
  | .addr _ _ => rfl
  | .fn _ _ => rfl
  | .win _ _ _ => rfl
  | .pin _ _ => rfl
  | .omap _ _ => rfl
  | .pmap _ _ => rfl
  | .oiter _ _ _ => rfl
  | .memo _ _ => rfl
  | .orec _ _ => rfl
  | .srec _ _ => rfl
  | .mfn _ _ => rfl
theorem viewL_noOwn : ∀ l : List AV, anyOwn (viewL l) = false
  | [] => rfl
  | a :: l => by simp only [viewL, anyOwn, Bool.or_eq_false_iff]; exact ⟨view_noOwn a, viewL_noOwn l⟩
end

theorem Rep.freezes {κ : Con} {val : Nat → Value} {w : World} : ∀ (fz : List (Nat × List Nat × AV)) {Z : Nat → Option Obj} {β : List Nat → Option Nat} {e : Env}, Rep κ Z β e val w → (fz.map (·.1)).Nodup →
    (∀ p ∈ fz, ∃ A, getP (e p.1) p.2.1 = some A ∧ isOwn A = true ∧ p.2.2 = AV.view A) →
    ∃ Z' β', Rep κ Z' β' (apps (fzW fz) e) val w ∧ (∀ b o, Z b = some o → Z' b = some o) ∧ ∀ p ∈ fz, ∀ r b, β (p.1 :: p.2.1 ++ r) = some b → Z' b = w.heap[b]?
  | [], Z, β, e, h, _, _ => ⟨Z, β, h, fun _ _ h => h, by simp⟩
  | (s, p, V) :: fz, Z, β, e, h, hn, hg => by
    obtain ⟨A, h1, h2, h3⟩ := hg (s, p, V) (by simp)
    dsimp only at h1 h2 h3
    subst h3
    have hpl := plain_of_own h1 h2
    obtain ⟨Z1, β1, hR1, hZ1, hb1, hk1⟩ := h.freeze s p A h1 hpl.2 hpl.1 (view_plain A) (view_noOwn A)
    simp only [List.map_cons, List.nodup_cons] at hn
    obtain ⟨Z2, β2, hR2, hZ2, hb2⟩ := Rep.freezes fz hR1 hn.2 (fun q hq => by
      obtain ⟨B, g1, g2, g3⟩ := hg q (by simp [hq])
      refine ⟨B, ?_, g2, g3⟩
      have hqs : q.1 ≠ s := fun e => hn.1 (e ▸ List.mem_map.2 ⟨q, hq, rfl⟩)
      simpa [Wr.app, view_noOwn, upd, hqs] using g1)
    refine ⟨Z2, β2, hR2, fun b o ho => hZ2 b o (hZ1 b o ho), fun q hq r b hb => ?_⟩
    rcases List.mem_cons.1 hq with rfl | hq
    · have h4 := hb1 r b hb
      have hlt := (h.bo _ b hb).2.2
      obtain ⟨o, ho⟩ : ∃ o, w.heap[b]? = some o := ⟨_, Array.getElem?_eq_getElem hlt⟩
      rw [ho] at h4 ⊢
      exact hZ2 b o h4
    · have hqs : q.1 ≠ s := fun e => hn.1 (e ▸ List.mem_map.2 ⟨q, hq, rfl⟩)
      refine hb2 q hq r b ?_
      rw [hk1 _ (by simp [Ne.symm hqs])]
      exact hb

theorem ArgsOK.fz {Z : Nat → Option Obj} {H : Array Obj} {β : List Nat → Option Nat} {e : Env} : ∀ {l fz vs}, ArgsOK Z H β e l (some fz) vs → ∀ p ∈ fz, ∃ A, getP (e p.1) p.2.1 = some A ∧ isOwn A = true ∧ p.2.2 = view A
  | [], fz, vs, ⟨h, _⟩, p, hp => by injection h with h; subst h; cases hp
  | _ :: _, _, [], h, _, _ => h.elim
  | A :: l, fz, v :: vs, ⟨f1, f2, h1, h2, h3⟩, p, hp => by
    cases h1 with
    | pers h =>
      cases f2 with
      | none => cases h3
      | some b => simp at h3; subst h3; exact ArgsOK.fz h2 p hp
    | own hg hA h =>
      cases f2 with
      | none => cases h3
      | some b =>
        simp at h3
        subst h3
        rcases List.mem_cons.1 hp with rfl | hp
        · exact ⟨_, hg, hA, rfl⟩
        · exact ArgsOK.fz h2 p hp
    | val h => cases h3
    | win h _ _ => cases h3

theorem ArgsOK.frozen {Z Z' : Nat → Option Obj} {H : Array Obj} {β : List Nat → Option Nat} {e : Env} (hZ : ∀ b o, Z b = some o → Z' b = some o) : ∀ {l fz vs}, ArgsOK Z H β e l (some fz) vs → (∀ p ∈ fz, ∀ r b, β (p.1 :: p.2.1 ++ r) = some b → Z' b = H[b]?) →
    ∀ i (h : i < l.length) (h' : i < vs.length), PRep Z' l[i] vs[i]
  | [], _, _, _, _, i, h, _ => by simp at h
  | _ :: _, _, [], h, _, _, _, _ => h.elim
  | A :: l, fz, v :: vs, ⟨f1, f2, h1, h2, h3⟩, hb, i, hi, hi' => by
    cases f2 with
    | none => cases f1 <;> cases h3
    | some b =>
      cases f1 with
      | none => cases h3
      | some a =>
        simp at h3
        subst h3
        cases i with
        | zero =>
          simp only [List.getElem_cons_zero]
          cases h1 with
          | pers h => exact h.mono hZ
          | @own s p A v hg hA h => exact h.toView' hZ fun r b' hr => hb (s, p, view A) (by simp) r b' hr
        | succ i => exact ArgsOK.frozen hZ h2 (fun p hp => hb p (by simp [hp])) i (by simpa using hi) (by simpa using hi')

def mergeB (β β' : List Nat → Option Nat) (d : Nat) : List Nat → Option Nat
  | [] => none
  | x :: q => if x = d then β' (0 :: q) else β (x :: q)

theorem Rep.callBack {κ : Con} {Z : Nat → Option Obj} {β : List Nat → Option Nat} {e : Env} {val : Nat → Value} {w : World} (h : Rep κ Z β e val w) (d : Nat) {Z1 Z' : Nat → Option Obj} {β' : List Nat → Option Nat} {w' : World} {r : AV} {v : Value}
    (hL : Left Z1 (fun _ => none) w Z' β' w') (hr : ORep Z' w'.heap β' [0] r v) (hpl : ∀ s p, r ≠ .alias s p ∧ r ≠ .valias s p ∧ r ≠ .addr s p ∧ ∀ k, r ≠ .win s p k)
    (hcase : Z1 = Z ∨ noSh r = true) : ∃ Z2 β2, Rep κ Z2 β2 ((Wr.set d r).app e) (setV val d v) w' := by
  have hfr : ∀ b, b < w.heap.size → w'.heap[b]? = w.heap[b]? := fun b hb => hL.frame b hb (by simp)
  have hb' : ∀ p b, β' p = some b → w.heap.size ≤ b ∧ Z' b = none ∧ b < w'.heap.size := fun p b hp => by
    have := hL.bo p b hp
    exact ⟨this.1.resolve_left (by simp), this.2⟩
  have hinj : ∀ p q b, mergeB β β' d p = some b → mergeB β β' d q = some b → p = q := by
    intro p q b h1 h2
    rcases p with _ | ⟨x, p⟩
    · cases h1
    · rcases q with _ | ⟨y, q⟩
      · cases h2
      · simp only [mergeB] at h1 h2
        by_cases hx : x = d <;> by_cases hy : y = d
        · simp only [hx, hy, if_true] at h1 h2
          have := hL.inj _ _ _ h1 h2
          simp at this
          rw [hx, hy, this]
        · simp only [hx, hy, if_true, if_false] at h1 h2
          have g1 := hb' _ _ h1
          have g2 := h.bo _ _ h2
          omega
        · simp only [hx, hy, if_true, if_false] at h1 h2
          have g1 := hb' _ _ h2
          have g2 := h.bo _ _ h1
          omega
        · simp only [hx, hy, if_false] at h1 h2
          exact h.inj _ _ _ h1 h2
  have hf : ∀ r b, r ≠ [] → root r ∉ [d] → β r = some b → mergeB β β' d r = some b ∧ w'.heap[b]? = w.heap[b]? := by
    intro r b hr hn hb
    rcases r with _ | ⟨x, r⟩
    · exact absurd rfl hr
    · simp [root] at hn
      exact ⟨by simp [mergeB, hn, hb], hfr b (h.bo _ b hb).2.2⟩
  have hmg : ORep Z' w'.heap (mergeB β β' d) [d] r v := hr.move (fun _ _ h => h) fun r b hb => ⟨by simpa [mergeB] using hb, rfl⟩
  have hnz : Z w.heap.size = none → True := fun _ => trivial
  rcases hcase with rfl | hns
  · refine ⟨Z', mergeB β β' d, ?_⟩
    rw [← app_set_drop]
    refine h.big [d] d (by simp) r v hL.os hL.tape hL.output hL.size (fun b _ hb => hfr b hb) hL.z0 (fun b o ho => ?_) hL.zh hf hinj (fun p b hp => ?_) hmg hpl
    · rcases hL.zo b o ho with h1 | h1 | h1
      · exact .inl h1
      · obtain ⟨p, hp⟩ := h1; cases hp
      · exact .inr (.inr (Nat.le_trans h.size h1))
    · rcases p with _ | ⟨x, p⟩
      · cases hp
      · simp only [mergeB] at hp
        split at hp
        · have := hb' _ _ hp; exact ⟨.inr (Nat.le_trans h.size this.1), this.2⟩
        · have := h.bo _ _ hp
          refine ⟨this.1, ?_, by have := hL.size; omega⟩
          cases hz : Z' b with
          | none => rfl
          | some o =>
            rcases hL.zo b o hz with h1 | h1 | h1
            · rw [this.2.1] at h1; cases h1
            · obtain ⟨p, hp⟩ := h1; cases hp
            · omega
  · refine ⟨Z, mergeB β β' d, ?_⟩
    rw [← app_set_drop]
    refine h.big [d] d (by simp) r v hL.os hL.tape hL.output hL.size (fun b _ hb => hfr b hb) (fun _ _ h => h) (fun b o ho => .inl ho) (fun b o ho => (hfr b (Array.getElem?_eq_some_iff.1 (h.zh b o ho)).1).trans (h.zh b o ho)) hf hinj (fun p b hp => ?_) (hmg.swap hns) hpl
    rcases p with _ | ⟨x, p⟩
    · cases hp
    · simp only [mergeB] at hp
      split at hp
      · have := hb' _ _ hp
        refine ⟨.inr (Nat.le_trans h.size this.1), ?_, this.2.2⟩
        cases hz : Z b with
        | none => rfl
        | some o => have := (Array.getElem?_eq_some_iff.1 (h.zh b o hz)).1; omega
      · have := h.bo _ _ hp; exact ⟨this.1, this.2.1, by have := hL.size; omega⟩

abbrev Ctx := Nat → Option Ctr

def slotsDistinct (fz : Option (List (Nat × List Nat × AV))) : Prop := match fz with
  | some l => (l.map (·.1)).Nodup
  | none => False

noncomputable def rdAsk (Γ : Ctx) (f : Nat) (args : List AV) (k : AV → Rd) : Rd := .ex Ctr fun c => .ex AV fun r => .need (Γ f = some c ∧ c.eff = false ∧ c.rel args r []) (k r)

noncomputable def rdCallP (Γ : Ctx) (d f : Nat) (args : List AV) (fz : Option (List (Nat × List Nat × AV))) : Rd := rdAsk Γ f args fun r => (if noSh r then .ret [.set d r] else .need (slotsDistinct fz) (.ret (fzW (fz.getD []) ++ [.set d r])))

noncomputable def rdCall (Γ : Ctx) (d : Nat) (g : Operand) (xs : List Operand) : Rd := match g with
  | .func f => rdArgs xs fun l fz => rdCallP Γ d f l fz
  | .tmp t => .get t fun v => match v with
    | .fn f caps => rdArgs xs fun l fz => rdCallP Γ d f (l ++ caps) fz
    | .mfn f first => rdArgs xs fun l fz => rdCallP Γ d f (first ++ l) fz
    | _ => .fail
  | _ => .fail

theorem ORep.plain {Z H β p A v} (h : ORep Z H β p A v) : ∀ s p, A ≠ .alias s p ∧ A ≠ .valias s p ∧ A ≠ .addr s p ∧ ∀ k, A ≠ .win s p k := by
  cases h with
  | pers h => exact PRep.plain h
  | _ => simp

theorem callP_sound {P : Program} {κ : Con} {Γ : Ctx} (hΓ : ∀ f c, Γ f = some c → CtrOK P f c) {o : Oper} {e : Env} {ws : List Wr} {d f : Nat} {l : List AV} {fz} (hd : o.dst = some d) (hn : (κ.lim.1 ≤ d ∧ d < κ.lim.2))
    (h : (rdCallP Γ d f l fz).Wo e ws) {Q : Exit → Act → World → Prop} {K : Act → World → Prop} {a : Act} {w : World} (h1 : a.defers = []) (h2 : a.tmps.size = κ.lim.2 ∧ ∀ t, t < κ.lim.1 → vals a t = κ.V0 t) {Z β} (hR : Rep κ Z β e (vals a) w) {vs : List Value}
    (hrun : canCall P f → (execOp a.eval o).run P w = .ok (.enter f vs.toArray) w) (hall : ∀ Z', (∀ b o, Z b = some o → Z' b = some o) → (∀ p b, β p = some b → Z' b = w.heap[b]?) → ∀ i (h : i < l.length) (h' : i < vs.length), PRep Z' l[i] vs[i])
    (hfr : ∀ fz', fz = some fz' → (∀ p ∈ fz', ∃ A, getP (e p.1) p.2.1 = some A ∧ isOwn A = true ∧ p.2.2 = view A) ∧ ∀ Z', (∀ b o, Z b = some o → Z' b = some o) → (∀ p ∈ fz', ∀ r b, β (p.1 :: p.2.1 ++ r) = some b → Z' b = w.heap[b]?) → ∀ i (h : i < l.length) (h' : i < vs.length), PRep Z' l[i] vs[i])
    (hlen : vs.length = l.length) (hK : ∀ a' w', St κ (apps ws e) a' w' → K a' w') : o.wp P a w K Q := by
  classical
  obtain ⟨c, r, ⟨hc, heff, hrel⟩, h⟩ := h
  obtain ⟨hcan, hctr⟩ := hΓ f c hc
  unfold Oper.wp
  rw [hrun hcan, Oper.upon_enter]
  have main : ∀ (Z1 : Nat → Option Obj) (β1 : List Nat → Option Nat) (e1 : Env), Rep κ Z1 β1 e1 (vals a) w → (∃ Zc : Nat → Option Obj, (∀ b o, Zc b = some o → w.heap[b]? = some o) ∧ (∀ i (h : i < l.length) (h' : i < vs.length), PRep Zc l[i] vs[i]) ∧ (Zc = Z1 ∨ noSh r = true)) →
      apps ws e = (Wr.set d r).app e1 → Calls P f vs.toArray w fun
        | .returned v, w'' => K (a.put o.dst v) w''
        | .panicked chain, w'' => Q (.panic chain) a w''
        | .outgrown, _ => LetsOut Q := by
    intro Z1 β1 e1 hR1 ⟨Zc, hzh, hargs, hcase⟩ he
    refine (hctr l r [] hrel w Zc (fun _ => none) vs.toArray (by simpa using hlen) ⟨hzh, by simp, by simp⟩ (by
      rw [heff]
      simp only [Bool.false_eq_true, if_false]
      refine ⟨trivial, fun i hi => ?_⟩
      have hi' : i < vs.length := by omega
      have := hargs i hi hi'
      simpa [hi'] using this)).mono ?_
    rintro en w' ⟨v, Z', β', rfl, hL, hr, _⟩
    obtain ⟨Z2, β2, hR2⟩ := hR1.callBack d hL hr hr.plain (hcase.imp (fun e => e) id)
    show K (a.put o.dst v) w'
    rw [hd]
    refine hK _ _ ⟨h1, keep_put hn h2, Z2, β2, ?_⟩
    rw [vals_put (by omega), he]
    exact hR2
  dsimp only at h
  split at h
  · rename_i hns
    have hw' : ws = _ := h
    subst hw'
    let Zc : Nat → Option Obj := fun b => if ∃ p, β p = some b then w.heap[b]? else Z b
    have hZc : ∀ b o, Z b = some o → Zc b = some o := by
      intro b o ho
      show (if ∃ p, β p = some b then w.heap[b]? else Z b) = some o
      split
      · exact hR.zh b o ho
      · exact ho
    refine main Z β e hR ⟨Zc, fun b o ho => ?_, hall Zc hZc (fun p b hp => ?_), .inr hns⟩ rfl
    · replace ho : (if ∃ p, β p = some b then w.heap[b]? else Z b) = some o := ho
      split at ho
      · exact ho
      · exact hR.zh b o ho
    · show (if ∃ p, β p = some b then w.heap[b]? else Z b) = w.heap[b]?
      rw [if_pos ⟨p, hp⟩]
  · obtain ⟨hsd, h⟩ := h
    have hw' : ws = _ := h
    subst hw'
    cases hfz : fz with
    | none => rw [hfz] at hsd; exact hsd.elim
    | some fz' =>
      rw [hfz] at hsd
      obtain ⟨g1, g2⟩ := hfr fz' hfz
      obtain ⟨Z1, β1, hR1, hZ1, hb1⟩ := hR.freezes fz' hsd g1
      refine main Z1 β1 _ hR1 ⟨Z1, hR1.zh, g2 Z1 hZ1 hb1, .inl rfl⟩ ?_
      rw [hfz, Option.getD_some]
      exact apps_append _ _ _

theorem eval_func (a : Act) (f : Nat) : a.eval (.func f) = .func (.func f) #[] #[] := rfl

theorem PRep.fnv {Z f caps v} (h : PRep Z (.fn f caps) v) : ∃ cs : Array Value, v = .func (.func f) #[] cs ∧ cs.size = caps.length ∧ ∀ k (h : k < caps.length), PRep Z caps[k] (cs.getD k undef) := by
  cases h with
  | fn f l cs h1 hk => exact ⟨cs, rfl, h1, hk⟩
theorem PRep.mfnv {Z f caps v} (h : PRep Z (.mfn f caps) v) : ∃ cs : Array Value, v = .func (.func f) cs #[] ∧ cs.size = caps.length ∧ ∀ k (h : k < caps.length), PRep Z caps[k] (cs.getD k undef) := by
  cases h with
  | mfn f l cs h1 hk => exact ⟨cs, rfl, h1, hk⟩

theorem rdCall_sound {P : Program} {κ : Con} {Γ : Ctx} (hΓ : ∀ f c, Γ f = some c → CtrOK P f c) {o : Oper} {e : Env} {ws : List Wr} {d : Nat} {g : Operand} {xs : Array Operand} {ats} (ho : o.op = .call { callee := .value g, args := xs, argTypes := ats }) (hd : o.dst = some d) (hn : (κ.lim.1 ≤ d ∧ d < κ.lim.2))
    (h : (rdCall Γ d g xs.toList).Wo e ws) : Does P κ o e ws := by
  intro Q K a w ⟨h1, h2, Z, β, hR⟩ hK
  cases g with
  | func f =>
    obtain ⟨l, fz, h, hargs⟩ := rdArgs_sound _ _ h
    have hA := hargs hR
    refine callP_sound hΓ hd hn h h1 h2 hR (vs := xs.toList.map a.eval) (fun hcan => ?_) (fun Z' hZ hb i hi hi' => hA.all hZ hb i hi hi') (fun fz' hf => by subst hf; exact ⟨hA.fz, fun Z' hZ hb i hi hi' => ArgsOK.frozen hZ hA hb i hi hi'⟩) hA.len hK
    have he : (xs.toList.map a.eval).toArray = xs.map a.eval := by apply Array.ext'; simp
    rw [he]
    simp [execOp, ho, resolve, Deferred.ofValue, eval_func, invoke, run_callFunc' hcan]
  | tmp t =>
    obtain ⟨hj, h⟩ := h
    cases het : e t with
    | fn f caps =>
      simp only [het] at h
      obtain ⟨l, fz, h, hargs⟩ := rdArgs_sound _ _ h
      have hA := hargs hR
      obtain ⟨cs, hv, hcs, hck⟩ := PRep.fnv (ORep.toP (hR.slot' het (by simp)) rfl)
      have ext : ∀ (Z' : Nat → Option Obj), (∀ b o, Z b = some o → Z' b = some o) → (∀ i (h : i < l.length) (h' : i < (xs.toList.map a.eval).length), PRep Z' l[i] (xs.toList.map a.eval)[i]) →
          ∀ i (h : i < (l ++ caps).length) (h' : i < (xs.toList.map a.eval ++ cs.toList).length), PRep Z' (l ++ caps)[i] (xs.toList.map a.eval ++ cs.toList)[i] := by
        intro Z' hZ hp i hi hi'
        have hl := hA.len
        by_cases hil : i < l.length
        · rw [List.getElem_append_left hil, List.getElem_append_left (by omega)]
          exact hp i hil (by omega)
        · rw [List.getElem_append_right (by omega), List.getElem_append_right (by omega)]
          have hi2 : i - l.length < caps.length := by simp at hi; omega
          have := (hck (i - l.length) hi2).mono hZ
          simp only [hl]
          have h3 : i - l.length < cs.size := by omega
          simpa [h3] using this
      refine callP_sound hΓ hd hn h h1 h2 hR (vs := xs.toList.map a.eval ++ cs.toList) (fun hcan => ?_) (fun Z' hZ hb => ext Z' hZ fun i hi hi' => hA.all hZ hb i hi hi') (fun fz' hf => by subst hf; exact ⟨hA.fz, fun Z' hZ hb => ext Z' hZ fun i hi hi' => ArgsOK.frozen hZ hA hb i hi hi'⟩) (by have := hA.len; simp at this ⊢; omega) hK
      have he : (xs.toList.map a.eval ++ cs.toList).toArray = xs.map a.eval ++ cs := by apply Array.ext'; simp
      rw [he]
      simp [execOp, ho, resolve, Deferred.ofValue, eval_tmp, hv, invoke, run_callFunc' hcan]
    | mfn f first =>
      simp only [het] at h
      obtain ⟨l, fz, h, hargs⟩ := rdArgs_sound _ _ h
      have hA := hargs hR
      obtain ⟨cs, hv, hcs, hck⟩ := PRep.mfnv (ORep.toP (hR.slot' het (by simp)) rfl)
      have ext : ∀ (Z' : Nat → Option Obj), (∀ b o, Z b = some o → Z' b = some o) → (∀ i (h : i < l.length) (h' : i < (xs.toList.map a.eval).length), PRep Z' l[i] (xs.toList.map a.eval)[i]) →
          ∀ i (h : i < (first ++ l).length) (h' : i < (cs.toList ++ xs.toList.map a.eval).length), PRep Z' (first ++ l)[i] (cs.toList ++ xs.toList.map a.eval)[i] := by
        intro Z' hZ hp i hi hi'
        have hl := hA.len
        have hcl : cs.toList.length = first.length := by simpa using hcs
        by_cases hil : i < first.length
        · rw [List.getElem_append_left hil, List.getElem_append_left (by omega)]
          have := (hck i hil).mono hZ
          have h3 : i < cs.size := by omega
          simpa [h3] using this
        · rw [List.getElem_append_right (by omega), List.getElem_append_right (by omega)]
          have hi2 : i - first.length < l.length := by simp at hi; omega
          have := hp (i - first.length) hi2 (by omega)
          simp only [hcl]
          exact this
      refine callP_sound hΓ hd hn h h1 h2 hR (vs := cs.toList ++ xs.toList.map a.eval) (fun hcan => ?_) (fun Z' hZ hb => ext Z' hZ fun i hi hi' => hA.all hZ hb i hi hi') (fun fz' hf => by subst hf; exact ⟨hA.fz, fun Z' hZ hb => ext Z' hZ fun i hi hi' => ArgsOK.frozen hZ hA hb i hi hi'⟩) (by have := hA.len; simp at this ⊢; omega) hK
      have he : (cs.toList ++ xs.toList.map a.eval).toArray = cs ++ xs.map a.eval := by apply Array.ext'; simp
      rw [he]
      simp [execOp, ho, resolve, Deferred.ofValue, eval_tmp, hv, invoke, run_callFunc' hcan]
    | _ => simp only [het] at h; exact h.elim
  | _ => exact h.elim

end Go.Proofs.Ytehdfifncbokeaa

namespace Go.Proofs.Ytehdfifncbokeaa
set_option linter.unusedSimpArgs false
set_option linter.unusedVariables false
set_option maxRecDepth 8000
set_option maxHeartbeats 2000000
open Go Go.RowKit AV

def noIt : AV → Bool
  | .oiter _ _ _ => false
  | .memo _ _ => false
  | .orec _ _ => false
  | _ => true

def toBox : AV → AV := fun A => match A with | .agg l' => .box l' | A => A

inductive GiveOK (Z : Nat → Option Obj) (H : Array Obj) (β : List Nat → Option Nat) (e : Env) (s : Nat) (p : List Nat) : AV → AV → (AV → AV) → Value → Prop
  | own {l v} (hg : getP (e s) p = some (.own l)) (h : ORep Z H β (s :: p) (.own l) v) : GiveOK Z H β e s p (.own l) (.own l) id v
  | ptr {l v} (hg : getP (e s) p = some (.box l)) (h : ORep Z H β (s :: p) (.box l) v) : GiveOK Z H β e s p (.box l) (.box l) id v
  | box {l cs} (hg : getP (e s) p = some (.box l)) (h : ORep Z H β (s :: p) (.agg l) (.agg cs)) (hb : InBox H β (s :: p) cs) : GiveOK Z H β e s p (.agg l) (.box l) toBox (.agg cs)

noncomputable def rdGive (x : Operand) (k : AV → Nat → List Nat → (AV → AV) → Rd) : Rd := match x with
  | .tmp t => .get t fun v => match v with
    | .alias s p => .get s fun c => rdGetP c p fun A => match A with
      | .own l => k (.own l) s p id
      | .box l => k (.box l) s p id
      | _ => .fail
    | .valias s p => .get s fun c => rdGetP c p fun X => match X with
      | .box l => k (.agg l) s p toBox
      | _ => .fail
    | .own l => k (.own l) t [] id
    | .box l => k (.box l) t [] id
    | _ => .fail
  | _ => .fail

theorem rdGive_sound {e : Env} {x : Operand} {k} {ws : List Wr} (h : (rdGive x k).Wo e ws) : ∃ A0 A s p back, (k A0 s p back).Wo e ws ∧ ∀ {κ Z β w} {a : Act}, Rep κ Z β e (vals a) w → GiveOK Z w.heap β e s p A0 A back (a.eval x) := by
  cases x with
  | tmp t =>
    obtain ⟨h1, h2⟩ := h
    cases het : e t with
    | alias s p =>
      simp only [het] at h2
      obtain ⟨hsj, A, hg, h2⟩ := h2
      dsimp only at h2
      split at h2
      · exact ⟨_, _, _, _, _, h2, fun hR => .own hg (hR.aliasAt het _ hg rfl)⟩
      · exact ⟨_, _, _, _, _, h2, fun hR => .ptr hg (hR.aliasAt het _ hg rfl)⟩
      · exact h2.elim
    | valias s p =>
      simp only [het] at h2
      obtain ⟨hsj, X, hl, h2⟩ := h2
      dsimp only at h2
      split at h2
      case h_2 => exact h2.elim
      rename_i l
      refine ⟨_, .box l, _, _, _, h2, fun hR => ?_⟩
      obtain ⟨cs, hv, hr, hb⟩ := hR.valiasAt het l hl
      rw [eval_tmp, hv]
      exact .box hl hr hb
    | own l =>
      simp only [het] at h2
      exact ⟨_, _, _, _, _, h2, fun hR => .own (by rw [het]; rfl) (hR.slot' het (by simp))⟩
    | box l =>
      simp only [het] at h2
      exact ⟨_, _, _, _, _, h2, fun hR => .ptr (by rw [het]; rfl) (hR.slot' het (by simp))⟩
    | _ => simp only [het] at h2; exact h2.elim
  | _ => exact h.elim

noncomputable def rdAskE (Γ : Ctx) (f : Nat) (args : List AV) (k : AV → AV → Rd) : Rd := .ex Ctr fun c => .ex AV fun r => .ex AV fun A' => .need (Γ f = some c ∧ c.eff = true ∧ c.rel args r [A']) (k r A')

noncomputable def rdCallE (Γ : Ctx) (d f : Nat) : List Operand → Rd
  | [] => .fail
  | x :: xs => rdGive x fun A0 s p back => rdArgs xs fun l fz => .need (fz = some []) (rdAskE Γ f (A0 :: l) fun r A' => .need ((isP r || isOwn r) = true ∧ isOwn A' = true ∧ noIt A' = true) (.ret [.mod s p (back A'), .set d r]))

theorem ArgsOK.pers {Z : Nat → Option Obj} {H : Array Obj} {β : List Nat → Option Nat} {e : Env} : ∀ {l vs}, ArgsOK Z H β e l (some []) vs → ∀ i (h : i < l.length) (h' : i < vs.length), PRep Z l[i] vs[i] := fun {l vs} hA i hi hi' => hA.frozen (Z' := Z) (fun _ _ h => h) (by simp) i hi hi'

section
variable {κ : Con} {Z : Nat → Option Obj} {β : List Nat → Option Nat} {e : Env} {val : Nat → Value} {w : World}

def giveB (β : List Nat → Option Nat) (s : Nat) (p : List Nat) (U : List Nat → Bool) : List Nat → Option Nat
  | 0 :: r => if U r then β (s :: p ++ r) else none
  | _ => none

noncomputable def takeB (β β' : List Nat → Option Nat) (s : Nat) (p : List Nat) (U : List Nat → Bool) (q : List Nat) : Option Nat :=
  if (s :: p) <+: q ∧ U (q.drop (p.length + 1)) = true then β' (1 :: q.drop (p.length + 1)) else β q

theorem giveB_spec {s : Nat} {p : List Nat} {U : List Nat → Bool} {q : List Nat} {b : Nat} (h : giveB β s p U q = some b) : ∃ r, q = 0 :: r ∧ U r = true ∧ β (s :: p ++ r) = some b := by
  rcases q with _ | ⟨x, r⟩
  · cases h
  · cases x with
    | zero =>
      simp only [giveB] at h
      split at h
      · exact ⟨r, rfl, by assumption, h⟩
      · cases h
    | succ x => cases h

theorem takeB_in (β β' : List Nat → Option Nat) (s : Nat) (p : List Nat) (U : List Nat → Bool) (r : List Nat) (hr : U r = true) : takeB β β' s p U (s :: p ++ r) = β' (1 :: r) := by
  have e1 : (s :: p ++ r).drop (p.length + 1) = r := by simp
  unfold takeB
  rw [e1, if_pos ⟨by simp, hr⟩]

theorem takeB_out {β' : List Nat → Option Nat} {s : Nat} {p : List Nat} {U : List Nat → Bool} {q : List Nat} (h : ∀ r, q = s :: p ++ r → U r = false) : takeB β β' s p U q = β q := by
  unfold takeB
  rw [if_neg]
  rintro ⟨⟨r, rfl⟩, h2⟩
  have e1 : (s :: p ++ r).drop (p.length + 1) = r := by simp
  rw [e1, h r rfl] at h2
  cases h2

theorem takeB_cases (β' : List Nat → Option Nat) (s : Nat) (p : List Nat) (U : List Nat → Bool) (q : List Nat) : (∃ r, q = s :: p ++ r ∧ U r = true ∧ takeB β β' s p U q = β' (1 :: r)) ∨ ((∀ r, q = s :: p ++ r → U r = false) ∧ takeB β β' s p U q = β q) := by
  by_cases h : ∃ r, q = s :: p ++ r ∧ U r = true
  · obtain ⟨r, rfl, hr⟩ := h
    exact .inl ⟨r, rfl, hr, takeB_in _ _ _ _ _ _ hr⟩
  · have h' : ∀ r, q = s :: p ++ r → U r = false := fun r hr => by
      cases hu : U r with
      | false => rfl
      | true => exact absurd ⟨r, hr, hu⟩ h
    exact .inr ⟨h', takeB_out h'⟩

theorem Rep.callE (h : Rep κ Z β e val w) (s : Nat) (p : List Nat) (U : List Nat → Bool) {Z' : Nat → Option Obj} {β' : List Nat → Option Nat} {w' : World} (hL : Left Z (giveB β s p U) w Z' β' w') {A A' : AV} (hg : getP (e s) p = some A) (hA : isOwn A = true) (hA' : ∀ s' p', A' ≠ .alias s' p' ∧ A' ≠ .valias s' p' ∧ A' ≠ .addr s' p' ∧ ∀ k, A' ≠ .win s' p' k)
    (hr : ∀ u, ORep Z w.heap β (s :: p) A u → ORep Z' w'.heap (takeB β β' s p U) (s :: p) A' u) : Rep κ Z' (takeB β β' s p U) ((Wr.mod s p A').app e) val w' := by
  have hpl := plain_of_own hg hA
  have hout : ∀ q b, (∀ r, q = s :: p ++ r → U r = false) → β q = some b → ∀ q', giveB β s p U q' ≠ some b := by
    intro q b hq hb q' hq'
    obtain ⟨r, rfl, hu, hr'⟩ := giveB_spec hq'
    have := h.inj _ _ _ hb hr'
    rw [hq r this] at hu
    cases hu
  have hnewB : ∀ q b, giveB β s p U q = some b → new κ b := fun q b hq => by
    obtain ⟨r, rfl, hu, hr'⟩ := giveB_spec hq
    exact (h.bo _ b hr').1
  have hnewS : ∀ b, w.heap.size ≤ b → new κ b := fun b hb => .inr (Nat.le_trans h.size hb)
  refine h.mod s p A A' hg hpl.2 hA' hpl.1 hL.os hL.tape hL.output hL.size (fun b hn hb => hL.frame b hb fun q hq => hn (hnewB q b hq)) hL.z0 (fun b o ho => ?_) hL.zh (fun r b hr0 hj hn hb => ?_) (fun p1 p2 b h1 h2 => ?_) (fun q b hq => ?_) hr (fun _ q C' hq _ hC' => getP_own_up hg hq hA hC')
  · rcases hL.zo b o ho with h1 | ⟨q, hq⟩ | h1
    · exact .inl h1
    · exact .inr (hnewB q b hq)
    · exact .inr (hnewS b h1)
  · have hno : ∀ r', r = s :: p ++ r' → U r' = false := fun r' hr' => absurd (hr' ▸ List.prefix_append _ _) hn
    exact ⟨(takeB_out hno).trans hb, hL.frame b (h.bo r b hb).2.2 (hout r b hno hb)⟩
  · rcases takeB_cases (β := β) β' s p U p1 with ⟨r1, rfl, hu1, e1⟩ | ⟨hn1, e1⟩ <;> rcases takeB_cases (β := β) β' s p U p2 with ⟨r2, rfl, hu2, e2⟩ | ⟨hn2, e2⟩ <;> rw [e1] at h1 <;> rw [e2] at h2
    · have := hL.inj _ _ _ h1 h2
      simp at this
      rw [this]
    · exfalso
      have hb := hL.bo _ _ h1
      rcases hb.1 with ⟨q, hq⟩ | hb'
      · exact hout _ _ hn2 h2 q hq
      · have := (h.bo _ _ h2).2.2; omega
    · exfalso
      have hb := hL.bo _ _ h2
      rcases hb.1 with ⟨q, hq⟩ | hb'
      · exact hout _ _ hn1 h1 q hq
      · have := (h.bo _ _ h1).2.2; omega
    · exact h.inj _ _ _ h1 h2
  · rcases takeB_cases (β := β) β' s p U q with ⟨r1, rfl, hu1, e1⟩ | ⟨hn1, e1⟩ <;> rw [e1] at hq
    · have hb := hL.bo _ _ hq
      refine ⟨?_, hb.2⟩
      rcases hb.1 with ⟨q, hq⟩ | hb'
      · exact hnewB q b hq
      · exact hnewS b hb'
    · have hb := h.bo _ _ hq
      refine ⟨hb.1, ?_, Nat.lt_of_lt_of_le hb.2.2 hL.size⟩
      cases hz : Z' b with
      | none => rfl
      | some o =>
        exfalso
        rcases hL.zo b o hz with h1 | ⟨q', hq'⟩ | h1
        · rw [hb.2.1] at h1; cases h1
        · exact hout _ _ hn1 hq q' hq'
        · omega

theorem Rep.callR (h : Rep κ Z β e val w) (s : Nat) (p : List Nat) (U : List Nat → Bool) {Z' : Nat → Option Obj} {β' : List Nat → Option Nat} {w' : World} (hL : Left Z (giveB β s p U) w Z' β' w') {e1 : Env} (h1 : Rep κ Z' (takeB β β' s p U) e1 val w') (d : Nat) {r : AV} {v : Value}
    (hr : ORep Z' w'.heap β' [0] r v) (hpl : ∀ s' p', r ≠ .alias s' p' ∧ r ≠ .valias s' p' ∧ r ≠ .addr s' p' ∧ ∀ k, r ≠ .win s' p' k) : ∃ β3, Rep κ Z' β3 ((Wr.set d r).app e1) (setV val d v) w' := by
  let β3 : List Nat → Option Nat := fun q => match q with
    | [] => none
    | x :: q' => if x = d then β' (0 :: q') else takeB β β' s p U (x :: q')
  have hin : ∀ q', β3 (d :: q') = β' (0 :: q') := fun q' => if_pos rfl
  have hout : ∀ x q', x ≠ d → β3 (x :: q') = takeB β β' s p U (x :: q') := fun x q' hx => if_neg hx
  have apart : ∀ q' q2 b, β' (0 :: q') = some b → takeB β β' s p U q2 = some b → False := by
    intro q' q2 b g1 g2
    rcases takeB_cases (β := β) β' s p U q2 with ⟨r2, rfl, hu2, e2⟩ | ⟨hn2, e2⟩ <;> rw [e2] at g2
    · have := hL.inj _ _ _ g1 g2
      simp at this
    · rcases (hL.bo _ _ g1).1 with ⟨q, hq⟩ | hb
      · obtain ⟨r1, rfl, hu, hr1⟩ := giveB_spec hq
        have := h.inj _ _ _ g2 hr1
        rw [hn2 r1 this] at hu
        cases hu
      · have := (h.bo _ _ g2).2.2; omega
  refine ⟨β3, ?_⟩
  have := h1.big (β' := β3) (Z' := Z') (w' := w') [d] d (by simp) r v rfl rfl rfl (Nat.le_refl _) (fun _ _ _ => rfl) (fun _ _ h => h) (fun _ _ h => .inl h) h1.zh (fun q b hq hroot hb => ?_) (fun q1 q2 b g1 g2 => ?_) (fun q b hq => ?_) (hr.move (fun _ _ h => h) fun q b hb => ⟨by simpa [hin] using hb, rfl⟩) hpl
  · rw [app_set_drop] at this
    exact this
  · cases q with
    | nil => exact absurd rfl hq
    | cons x q => exact ⟨(hout x q (by simpa [root] using hroot)).trans hb, rfl⟩
  · cases q1 with
    | nil => cases g1
    | cons x q1 =>
      cases q2 with
      | nil => cases g2
      | cons y q2 =>
        by_cases hx : x = d <;> by_cases hy : y = d
        · subst hx; subst hy
          rw [hin] at g1 g2
          have := hL.inj _ _ _ g1 g2
          simp at this
          rw [this]
        · subst hx
          rw [hin] at g1
          rw [hout _ _ hy] at g2
          exact (apart _ _ _ g1 g2).elim
        · subst hy
          rw [hin] at g2
          rw [hout _ _ hx] at g1
          exact (apart _ _ _ g2 g1).elim
        · rw [hout _ _ hx] at g1
          rw [hout _ _ hy] at g2
          exact h1.inj _ _ _ g1 g2
  · cases q with
    | nil => cases hq
    | cons x q =>
      by_cases hx : x = d
      · subst hx
        rw [hin] at hq
        have hb := hL.bo _ _ hq
        refine ⟨?_, hb.2⟩
        rcases hb.1 with ⟨q, hq⟩ | hb'
        · obtain ⟨r1, rfl, hu, hr1⟩ := giveB_spec hq
          exact (h.bo _ b hr1).1
        · exact .inr (Nat.le_trans h.size hb')
      · rw [hout _ _ hx] at hq
        exact h1.bo _ _ hq
end

theorem own_inv {Z : Nat → Option Obj} {H : Array Obj} {β : List Nat → Option Nat} {p A b n c} (h : ORep Z H β p A (.slice (some ⟨b, 0, none⟩) n c)) (ho : isOwn A = true) (hi : noIt A = true) : ∃ (l : List AV) (cs : Array Value) (T : TypeId) (us : Nat → Value), A = .own l ∧ n = l.length ∧ β p = some b ∧ H[b]? = some (.cells cs T (0, 0)) ∧ l.length ≤ c ∧ c = cs.size ∧ c ≤ maxLen ∧
    (∀ k, k < l.length → cs[k]? = some (us k)) ∧ (∀ k, k < l.length → (us k).oneCell' = true) ∧ ∀ k (h : k < l.length), ORep Z H β (p ++ [k]) l[k] (us k) := by
  cases h with
  | pers h => rw [h.noOwn] at ho; cases ho
  | own l b c cs T us hb hz g1 g2 g3 gu g4 gk => exact ⟨l, cs, T, us, rfl, rfl, hb, hz, g1, g2, g3, gu, g4, gk⟩
  | orec => simp [noIt] at hi
  | memo => simp [noIt] at hi

theorem own_nil_inv {Z : Nat → Option Obj} {H : Array Obj} {β : List Nat → Option Nat} {p A} (h : ORep Z H β p A (.slice none 0 0)) (ho : isOwn A = true) (hi : noIt A = true) : A = .own [] := by
  cases h with
  | pers h => rw [h.noOwn] at ho; cases ho
  | nil => rfl
  | rnil => simp [noIt] at hi
  | memo => simp [noIt] at hi

theorem box_inv {Z : Nat → Option Obj} {H : Array Obj} {β : List Nat → Option Nat} {p A b o} (h : ORep Z H β p A (.pointer (some ⟨b, o, none⟩))) (ho : isOwn A = true) : (∃ (l : List AV) (cs : Array Value) (T : TypeId), A = .box l ∧ o = 0 ∧ β p = some b ∧ H[b]? = some (.cells cs T (0, 0)) ∧ cs.size = l.length ∧ (∀ k, k < l.length → (cs.getD k undef).oneCell' = true) ∧ ∀ k (h : k < l.length), ORep Z H β (p ++ [k]) l[k] (cs.getD k undef)) ∨ ∃ ks vs seen, A = .oiter ks vs seen := by
  cases h with
  | pers h => rw [h.noOwn] at ho; cases ho
  | box l b cs T hb hz g1 g4 gk => exact .inl ⟨l, cs, T, rfl, rfl, hb, hz, g1, g4, gk⟩
  | oiter ks vs seen => exact .inr ⟨ks, vs, seen, rfl⟩
  | memo f g E v h => cases h with
    | pers h => cases h

theorem agg_inv {Z : Nat → Option Obj} {H : Array Obj} {β : List Nat → Option Nat} {p A cs} (h : ORep Z H β p A (.agg cs)) (ho : isOwn A = true) : ∃ l : List AV, A = .agg l ∧ cs.size = l.length ∧ ∀ k (h : k < l.length), ORep Z H β (p ++ [k]) l[k] (cs.getD k undef) := by
  cases h with
  | pers h => rw [h.noOwn] at ho; cases ho
  | agg l cs h1 hk => exact ⟨l, rfl, h1, hk⟩
  | memo f g E v h => cases h with
    | pers h => cases h

theorem toBox_plain {A : AV} (hA : isOwn A = true) : ∀ s p, toBox A ≠ .alias s p ∧ toBox A ≠ .valias s p ∧ toBox A ≠ .addr s p ∧ ∀ k, toBox A ≠ .win s p k := by
  cases A <;> simp [isOwn] at hA <;> simp [toBox]

set_option maxHeartbeats 1000000 in
theorem rdCallE_sound {P : Program} {κ : Con} {Γ : Ctx} (hΓ : ∀ f c, Γ f = some c → CtrOK P f c) {o : Oper} {e : Env} {ws : List Wr} {d f : Nat} {xs : Array Operand} {ats} (ho : o.op = .call { callee := .value (.func f), args := xs, argTypes := ats }) (hd : o.dst = some d) (hn : κ.lim.1 ≤ d ∧ d < κ.lim.2)
    (h : (rdCallE Γ d f xs.toList).Wo e ws) : Does P κ o e ws := by
  intro Q K a w ⟨h1, h2, Z, β, hR⟩ hK
  cases hxs : xs.toList with
  | nil => rw [hxs] at h; exact h.elim
  | cons x xr =>
    rw [hxs] at h
    unfold rdCallE at h
    obtain ⟨A0, A, s, p, back, h, hgive⟩ := rdGive_sound h
    obtain ⟨l, fz, h, hargs⟩ := rdArgs_sound _ _ h
    obtain ⟨hfz, c, r, A', ⟨hc, heff, hrel⟩, ⟨hrP, hAo, hAi⟩, hw⟩ := h
    have hw' : ws = _ := hw
    subst hw'
    subst hfz
    have hG := hgive hR
    have hAr := hargs hR
    have hPa := hAr.pers
    have hlen := hAr.len
    obtain ⟨hcan, hctr⟩ := hΓ f c hc
    have hvs : (xs.map a.eval).toList = a.eval x :: xr.map a.eval := by simp [hxs]
    have hvs' : xs.map a.eval = (a.eval x :: xr.map a.eval).toArray := by rw [← hvs]
    unfold Oper.wp
    have hrun : (execOp a.eval o).run P w = .ok (.enter f (xs.map a.eval)) w := by
      simp [execOp, ho, resolve, Deferred.ofValue, eval_func, invoke, run_callFunc' hcan]
    rw [hrun, Oper.upon_enter]
    have main : ∀ (U : List Nat → Bool) (v : Value), a.eval x = v → ORep Z w.heap (giveB β s p U) [0] A0 v → getP (e s) p = some A → isOwn A = true → (∀ s' p', back A' ≠ .alias s' p' ∧ back A' ≠ .valias s' p' ∧ back A' ≠ .addr s' p' ∧ ∀ k, back A' ≠ .win s' p' k) →
        (∀ Z' β' w', Left Z (giveB β s p U) w Z' β' w' → ORep Z' w'.heap β' [1] A' v → ∀ u, ORep Z w.heap β (s :: p) A u → ORep Z' w'.heap (takeB β β' s p U) (s :: p) (back A') u) →
        Calls P f (xs.map a.eval) w fun
        | .returned v, w'' => K (a.put o.dst v) w''
        | .panicked chain, w'' => Q (.panic chain) a w''
        | .outgrown, _ => LetsOut Q := by
      intro U v hv h0 hg hA hpl hback
      refine (hctr (A0 :: l) r [A'] hrel w Z (giveB β s p U) (xs.map a.eval) (by simp at hlen; simp [hvs', hlen]) ⟨hR.zh, fun q1 q2 b g1 g2 => ?_, fun q b g => ?_⟩ (by
        rw [heff]
        simp only [if_true]
        intro i hi
        cases i with
        | zero => rw [hvs']; simpa [hv] using h0
        | succ i =>
          have hi1 : i < l.length := by simpa using hi
          have hi2 : i < (xr.map a.eval).length := by rw [hlen]; exact hi1
          have := hPa i hi1 hi2
          have e1 : (xs.map a.eval).getD (i + 1) undef = (xr.map a.eval)[i] := by
            rw [hvs']; simp at hi2; simp [hi2]
          rw [e1]
          exact .pers (by simpa using this))).mono ?_
      · obtain ⟨r1, rfl, _, e1⟩ := giveB_spec g1
        obtain ⟨r2, rfl, _, e2⟩ := giveB_spec g2
        have := hR.inj _ _ _ e1 e2
        simp at this
        rw [this]
      · obtain ⟨r1, rfl, _, e1⟩ := giveB_spec g
        exact (hR.bo _ _ e1).2
      · rintro en w' ⟨vr, Z', β', rfl, hL, hr, ha'⟩
        have hA1 := ha' 0 (by simp)
        simp only [List.getElem_cons_zero] at hA1
        have e0 : (xs.map a.eval).getD 0 undef = v := by rw [hvs']; simp [hv]
        rw [e0] at hA1
        have hR1 := hR.callE s p U hL hg hA hpl (hback Z' β' w' hL hA1)
        show K (a.put o.dst vr) w'
        rw [hd]
        cases hrp : isP r with
        | true =>
          have hR2 := hR1.put d (ORep.toP hr hrp) (isP_plain hrp)
          refine hK _ _ ⟨h1, keep_put hn h2, Z', takeB β β' s p U, ?_⟩
          rw [vals_put (by omega)]
          exact hR2
        | false =>
          rw [hrp, Bool.false_or] at hrP
          obtain ⟨β3, hR2⟩ := hR.callR s p U hL hR1 d hr (own_plain hrP)
          refine hK _ _ ⟨h1, keep_put hn h2, Z', β3, ?_⟩
          rw [vals_put (by omega)]
          exact hR2
    clear h hw hgive hargs
    generalize hvx : a.eval x = v at hG
    cases hG with
    | @own l0 v hg h0 =>
      by_cases hnil : v = .slice none 0 0
      · subst hnil
        have hl0 : AV.own l0 = .own [] := own_nil_inv h0 rfl rfl
        injection hl0 with hl0
        subst hl0
        refine main (fun _ => false) _ hvx .nil hg rfl (own_plain hAo) fun Z' β' w' hL hA1 u hu => ?_
        have hA'' : A' = .own [] := own_nil_inv hA1 hAo hAi
        rw [hA'']
        have hbt : ∀ q, takeB β β' s p (fun _ => false) q = β q := fun q => takeB_out fun _ _ => rfl
        refine hu.move hL.z0 fun r b hb => ⟨(hbt _).trans hb, hL.frame b (hR.bo _ b hb).2.2 fun q hq => ?_⟩
        obtain ⟨_, _, hf, _⟩ := giveB_spec hq
        cases hf
      · refine main (fun _ => true) v hvx (h0.move (fun _ _ h => h) fun r b hb => ⟨by simpa [giveB] using hb, rfl⟩) hg rfl (own_plain hAo) fun Z' β' w' hL hA1 u hu => ?_
        cases h0 with
        | pers h => cases h
        | nil => exact absurd rfl hnil
        | own l b c cs T us hb hz g1 g2 g3 gu g4 gk =>
          obtain ⟨l', cs', T', us', hA2, e2, hb', hz', g1', g2', g3', gu', g4', gk'⟩ := own_inv hA1 hAo hAi
          show ORep Z' w'.heap _ (s :: p) A' u
          rw [hA2]
          cases hu with
          | pers h => cases h
          | nil =>
            have : l' = [] := List.length_eq_zero_iff.1 e2.symm
            rw [this]
            exact .nil
          | own l b2 c2 cs2 T2 us2 hb2 hz2 k1 k2 k3 ku k4 kk =>
            rw [hb] at hb2
            injection hb2 with hb2
            subst hb2
            rw [hz] at hz2
            injection hz2 with hz2
            injection hz2 with hz2 hz3
            subst hz2
            rw [show c2 = c by rw [k2, g2], e2]
            refine .own l' b c cs' T' us' ?_ hz' g1' g2' g3' gu' g4' fun k hk => ?_
            · have := takeB_in β β' s p (fun _ => true) [] rfl
              rw [List.append_nil] at this
              rw [this]; exact hb'
            · refine (gk' k hk).move (fun _ _ h => h) fun r b hr => ⟨?_, rfl⟩
              have := takeB_in β β' s p (fun _ => true) (k :: r) rfl
              rw [show s :: p ++ [k] ++ r = s :: p ++ k :: r by simp, this]
              simpa using hr
    | @ptr l0 v hg h0 =>
      refine main (fun _ => true) v hvx (h0.move (fun _ _ h => h) fun r b hb => ⟨by simpa [giveB] using hb, rfl⟩) hg rfl (own_plain hAo) fun Z' β' w' hL hA1 u hu => ?_
      cases h0 with
      | pers h => cases h
      | box l b cs T hb hz g1 g4 gk =>
        rcases box_inv hA1 hAo with ⟨l', cs', T', hA2, -, hb', hz', g1', g4', gk'⟩ | ⟨_, _, _, hA2⟩
        · show ORep Z' w'.heap _ (s :: p) A' u
          rw [hA2]
          cases hu with
          | pers h => cases h
          | box l b2 cs2 T2 hb2 hz2 k1 k4 kk =>
            rw [hb] at hb2
            injection hb2 with hb2
            subst hb2
            refine .box l' b cs' T' ?_ hz' g1' g4' fun k hk => ?_
            · have := takeB_in β β' s p (fun _ => true) [] rfl
              rw [List.append_nil] at this
              rw [this]; exact hb'
            · refine (gk' k hk).move (fun _ _ h => h) fun r b hr => ⟨?_, rfl⟩
              have := takeB_in β β' s p (fun _ => true) (k :: r) rfl
              rw [show s :: p ++ [k] ++ r = s :: p ++ k :: r by simp, this]
              simpa using hr
        · rw [hA2] at hAi; cases hAi
    | @box l0 cs hg h0 hib =>
      obtain ⟨b, T, hb, hz⟩ := hib
      have key : cs.size = l0.length ∧ ∀ k (h : k < l0.length), ORep Z w.heap β (s :: p ++ [k]) l0[k] (cs.getD k undef) := by
        cases h0 with
        | pers h => cases h with | agg l cs h1 hk => exact ⟨h1, fun k h => .pers (hk k h)⟩
        | agg l cs h1 hk => exact ⟨h1, hk⟩
      obtain ⟨hcs, hk0⟩ := key
      refine main (fun r => !r.isEmpty) _ hvx (.agg l0 cs hcs fun k hk => (hk0 k hk).move (fun _ _ h => h) fun r b hb => ⟨by simpa [giveB] using hb, rfl⟩) hg rfl (toBox_plain hAo) fun Z' β' w' hL hA1 u hu => ?_
      cases hu with
      | pers h => cases h
      | box l b2 cs2 T2 hb2 hz2 k1 k4 kk =>
        rw [hb] at hb2
        injection hb2 with hb2
        subst hb2
        rw [hz] at hz2
        injection hz2 with hz2
        injection hz2 with hz2 hz3
        subst hz2
        have hfr : w'.heap[b]? = w.heap[b]? := hL.frame b (hR.bo _ b hb).2.2 fun q hq => by
          obtain ⟨r, rfl, hur, hr⟩ := giveB_spec hq
          have := hR.inj _ _ _ hb hr
          cases r with
          | nil => simp at hur
          | cons k r => simp at this
        have hbt : takeB β β' s p (fun r => !r.isEmpty) (s :: p) = some b := by
          rw [takeB_out (fun r hr => by
            cases r with
            | nil => rfl
            | cons k r => simp at hr)]
          exact hb
        obtain ⟨l', rfl, h1, hk⟩ := agg_inv hA1 hAo
        refine .box l' b cs T hbt (hfr.trans hz) h1 (fun k hk' => k4 k (by omega)) fun k hk' => (hk k hk').move (fun _ _ h => h) fun r b' hr => ⟨?_, rfl⟩
        have := takeB_in β β' s p (fun r => !r.isEmpty) (k :: r) rfl
        rw [show s :: p ++ [k] ++ r = s :: p ++ k :: r by simp, this]
        simpa using hr

def isE (Γ : Ctx) (f : Nat) : Bool := match Γ f with
  | some c => c.eff
  | none => false

noncomputable def rdCallX (Γ : Ctx) (d : Nat) (g : Operand) (xs : List Operand) : Rd := match g with
  | .func f => if isE Γ f then rdCallE Γ d f xs else rdCall Γ d (.func f) xs
  | g => rdCall Γ d g xs

theorem rdCallX_sound {P : Program} {κ : Con} {Γ : Ctx} (hΓ : ∀ f c, Γ f = some c → CtrOK P f c) {o : Oper} {e : Env} {ws : List Wr} {d : Nat} {g : Operand} {xs : Array Operand} {ats} (ho : o.op = .call { callee := .value g, args := xs, argTypes := ats }) (hd : o.dst = some d) (hn : κ.lim.1 ≤ d ∧ d < κ.lim.2)
    (h : (rdCallX Γ d g xs.toList).Wo e ws) : Does P κ o e ws := by
  cases g with
  | func f =>
    simp only [rdCallX] at h
    split at h
    · exact rdCallE_sound hΓ ho hd hn h
    · exact rdCall_sound hΓ ho hd hn h
  | _ => exact rdCall_sound hΓ ho hd hn h

end Go.Proofs.Ytehdfifncbokeaa

namespace Go.Proofs.Ytehdfifncbokeaa
set_option linter.unusedSimpArgs false
set_option linter.unusedVariables false
set_option maxRecDepth 8000
set_option maxHeartbeats 2000000
open Go Go.RowKit AV

noncomputable def rdAskT (Γ : Ctx) (f : Nat) (args : List AV) (k : AV → Rd) : Rd := .ex Ctr fun c => .ex AV fun r => .need (Γ f = some c ∧ c.eff = true ∧ c.rel args r []) (k r)

noncomputable def rdCallT (Γ : Ctx) (d f : Nat) : List Operand → Rd
  | .tmp t :: xs => rdTake d t fun A ws0 => rdArgs xs fun l fz => .need (fz = some []) (rdAskT Γ f (A :: l) fun r => .ret (ws0 ++ [.set d A] ++ [.set d r]))
  | _ => .fail

theorem Rep.callT {κ : Con} {Z : Nat → Option Obj} {β : List Nat → Option Nat} {e : Env} {val : Nat → Value} {w : World} (h : Rep κ Z β e val w) (d : Nat) {Z' : Nat → Option Obj} {β' : List Nat → Option Nat} {w' : World} {r : AV} {v : Value}
    (hL : Left Z (giveB β d [] fun _ => true) w Z' β' w') (hr : ORep Z' w'.heap β' [0] r v) : Rep κ Z' (mergeB β β' d) ((Wr.set d r).app e) (setV val d v) w' := by
  have hg : ∀ p b, giveB β d [] (fun _ => true) p = some b → ∃ r, β (d :: r) = some b := fun p b hp => by
    obtain ⟨r, _, _, h2⟩ := giveB_spec hp
    exact ⟨r, h2⟩
  have hnot : ∀ x q b, x ≠ d → β (x :: q) = some b → ∀ p, giveB β d [] (fun _ => true) p ≠ some b := fun x q b hx hb p hp => by
    obtain ⟨r, hr⟩ := hg p b hp
    have := h.inj _ _ _ hb hr
    simp at this
    exact hx this.1
  have hb' : ∀ p b, β' p = some b → ((∃ r, β (d :: r) = some b) ∨ w.heap.size ≤ b) ∧ Z' b = none ∧ b < w'.heap.size := fun p b hp => by
    have := hL.bo p b hp
    refine ⟨?_, this.2⟩
    rcases this.1 with ⟨q, hq⟩ | h1
    · exact .inl (hg q b hq)
    · exact .inr h1
  have hinj : ∀ p q b, mergeB β β' d p = some b → mergeB β β' d q = some b → p = q := by
    intro p q b h1 h2
    rcases p with _ | ⟨x, p⟩
    · cases h1
    · rcases q with _ | ⟨y, q⟩
      · cases h2
      · simp only [mergeB] at h1 h2
        by_cases hx : x = d <;> by_cases hy : y = d
        · simp only [hx, hy, if_true] at h1 h2
          have := hL.inj _ _ _ h1 h2
          simp at this
          rw [hx, hy, this]
        · simp only [hx, hy, if_true, if_false] at h1 h2
          rcases (hb' _ _ h1).1 with ⟨r, hr⟩ | g1
          · have := h.inj _ _ _ h2 hr; simp at this; exact absurd this.1 hy
          · have g2 := h.bo _ _ h2; omega
        · simp only [hx, hy, if_true, if_false] at h1 h2
          rcases (hb' _ _ h2).1 with ⟨r, hr⟩ | g1
          · have := h.inj _ _ _ h1 hr; simp at this; exact absurd this.1 hx
          · have g2 := h.bo _ _ h1; omega
        · simp only [hx, hy, if_false] at h1 h2
          exact h.inj _ _ _ h1 h2
  rw [← app_set_drop]
  refine h.big [d] d (by simp) r v hL.os hL.tape hL.output hL.size (fun b hn hb => hL.frame b hb fun p hp => ?_) hL.z0 (fun b o ho => ?_) hL.zh (fun r b hr0 hn hb => ?_) hinj (fun p b hp => ?_) (hr.move (fun _ _ h => h) fun r b hb => ⟨by simpa [mergeB] using hb, rfl⟩) hr.plain
  · obtain ⟨r, hr⟩ := hg p b hp
    exact hn (h.bo _ _ hr).1
  · rcases hL.zo b o ho with h1 | ⟨p, hp⟩ | h1
    · exact .inl h1
    · obtain ⟨r, hr⟩ := hg p b hp
      exact .inr (h.bo _ _ hr).1
    · exact .inr (.inr (Nat.le_trans h.size h1))
  · rcases r with _ | ⟨x, r⟩
    · exact absurd rfl hr0
    · simp [root] at hn
      exact ⟨by simp [mergeB, hn, hb], hL.frame b (h.bo _ b hb).2.2 (hnot x r b hn hb)⟩
  · rcases p with _ | ⟨x, p⟩
    · cases hp
    · simp only [mergeB] at hp
      split at hp
      · have := hb' _ _ hp
        refine ⟨?_, this.2⟩
        rcases this.1 with ⟨r, hr⟩ | h1
        · exact (h.bo _ _ hr).1
        · exact .inr (Nat.le_trans h.size h1)
      · rename_i hxd
        have := h.bo _ _ hp
        refine ⟨this.1, ?_, by have := hL.size; omega⟩
        cases hz : Z' b with
        | none => rfl
        | some o =>
          rcases hL.zo b o hz with h1 | ⟨q, hq⟩ | h1
          · rw [this.2.1] at h1; cases h1
          · exact absurd hq (hnot x p b hxd hp q)
          · omega

theorem rdCallT_sound {P : Program} {κ : Con} {Γ : Ctx} (hΓ : ∀ f c, Γ f = some c → CtrOK P f c) {o : Oper} {e : Env} {ws : List Wr} {d f : Nat} {xs : Array Operand} {ats} (ho : o.op = .call { callee := .value (.func f), args := xs, argTypes := ats }) (hd : o.dst = some d) (hn : κ.lim.1 ≤ d ∧ d < κ.lim.2)
    (h : (rdCallT Γ d f xs.toList).Wo e ws) : Does P κ o e ws := by
  intro Q K a w ⟨h1, h2, Z, β, hR⟩ hK
  cases hxs : xs.toList with
  | nil => rw [hxs] at h; exact h.elim
  | cons x xr =>
    rw [hxs] at h
    cases x with
    | tmp t =>
      unfold rdCallT at h
      obtain ⟨A, ws0, h, hAj, hApl, htake⟩ := rdTake_sound h
      obtain ⟨l, fz, h, hargs⟩ := rdArgs_sound _ _ h
      obtain ⟨hfz, c, r, ⟨hc, heff, hrel⟩, hw⟩ := h
      have hw' : ws = _ := hw
      subst hw'
      subst hfz
      have hAr := hargs hR
      have hPa := hAr.pers
      have hlen := hAr.len
      obtain ⟨β1, hR1⟩ := htake hR
      obtain ⟨hcan, hctr⟩ := hΓ f c hc
      have hvs : (xs.map a.eval).toList = vals a t :: xr.map a.eval := by simp [hxs, eval_tmp]
      have hvs' : xs.map a.eval = (vals a t :: xr.map a.eval).toArray := by rw [← hvs]
      unfold Oper.wp
      have hrun : (execOp a.eval o).run P w = .ok (.enter f (xs.map a.eval)) w := by
        simp [execOp, ho, resolve, Deferred.ofValue, eval_func, invoke, run_callFunc' hcan]
      rw [hrun, Oper.upon_enter]
      have hdA : apps (ws0 ++ [.set d A]) e d = A := by
        rw [apps_append]
        show (Wr.set d A).app _ d = A
        simp only [Wr.app]; split <;> simp [upd]
      have hA0 : ORep Z w.heap β1 [d] A (vals a t) := by
        have := hR1.slot' hdA hApl
        simpa [setV] using this
      refine (hctr (A :: l) r [] hrel w Z (giveB β1 d [] fun _ => true) (xs.map a.eval) (by simp at hlen; simp [hvs', hlen]) ⟨hR1.zh, fun q1 q2 b g1 g2 => ?_, fun q b g => ?_⟩ (by
        rw [heff]
        simp only [if_true]
        intro i hi
        cases i with
        | zero =>
          rw [hvs']
          simpa using hA0.move (H' := w.heap) (β' := giveB β1 d [] fun _ => true) (q := [0]) (fun _ _ h => h) fun r b hb => ⟨by simpa [giveB] using hb, rfl⟩
        | succ i =>
          have hi1 : i < l.length := by simpa using hi
          have hi2 : i < (xr.map a.eval).length := by rw [hlen]; exact hi1
          have := hPa i hi1 hi2
          have e1 : (xs.map a.eval).getD (i + 1) undef = (xr.map a.eval)[i] := by
            rw [hvs']; simp at hi2; simp [hi2]
          rw [e1]
          exact .pers (by simpa using this))).mono ?_
      · obtain ⟨r1, rfl, _, e1⟩ := giveB_spec g1
        obtain ⟨r2, rfl, _, e2⟩ := giveB_spec g2
        have := hR1.inj _ _ _ e1 e2
        simp at this
        rw [this]
      · obtain ⟨r1, rfl, _, e1⟩ := giveB_spec g
        exact (hR1.bo _ _ e1).2
      · rintro en w' ⟨vr, Z', β', rfl, hL, hr, _⟩
        have hR2 := hR1.callT d hL hr
        show K (a.put o.dst vr) w'
        rw [hd]
        refine hK _ _ ⟨h1, keep_put hn h2, Z', mergeB β1 β' d, ?_⟩
        rw [vals_put (by omega)]
        have e2 : setV (setV (vals a) d (vals a t)) d vr = setV (vals a) d vr := by funext t; simp only [setV]; split <;> rfl
        rw [e2] at hR2
        rw [apps_append]
        exact hR2
    | _ => exact h.elim

def isT (Γ : Ctx) (f : Nat) : Bool := match Γ f with
  | some c => c.tk
  | none => false

noncomputable def rdCallY (Γ : Ctx) (d : Nat) (g : Operand) (xs : List Operand) : Rd := match g with
  | .func f => if isT Γ f then rdCallT Γ d f xs else rdCallX Γ d (.func f) xs
  | g => rdCallX Γ d g xs

theorem rdCallY_sound {P : Program} {κ : Con} {Γ : Ctx} (hΓ : ∀ f c, Γ f = some c → CtrOK P f c) {o : Oper} {e : Env} {ws : List Wr} {d : Nat} {g : Operand} {xs : Array Operand} {ats} (ho : o.op = .call { callee := .value g, args := xs, argTypes := ats }) (hd : o.dst = some d) (hn : κ.lim.1 ≤ d ∧ d < κ.lim.2)
    (h : (rdCallY Γ d g xs.toList).Wo e ws) : Does P κ o e ws := by
  cases g with
  | func f =>
    simp only [rdCallY] at h
    split at h
    · exact rdCallT_sound hΓ ho hd hn h
    · exact rdCallX_sound hΓ ho hd hn h
  | _ => exact rdCallX_sound hΓ ho hd hn h

noncomputable def rdNil (d : Nat) (x : Operand) : Rd := match x with
  | .tmp t => .peek t fun h => match h with
    | .box _ => .need (t ≠ d) (.ret [.set d (.alias t [])])
    | .alias s p => .need (s ≠ d) (.get s fun c => rdGetP c p fun X => match X with
      | .box _ => .ret [.set d (.alias s p)]
      | _ => .fail)
    | .addr s p => .need (s ≠ d) (.ret [.set d (.addr s p)])
    | .pbox _ => .get t fun v => .need (isP v = true) (.ret [.set d v])
    | .pcell _ => .get t fun v => .need (isP v = true) (.ret [.set d v])
    | _ => .fail
  | _ => .fail

theorem rdNil_sound {P : Program} {κ : Con} {o : Oper} {e : Env} {ws : List Wr} {d : Nat} {x : Operand} (ho : o.op = .nilCheck x) (hd : o.dst = some d) (hn : (κ.lim.1 ≤ d ∧ d < κ.lim.2)) (h : (rdNil d x).Wo e ws) : Does P κ o e ws := by
  cases x with
  | tmp t =>
    obtain ⟨hj, h⟩ := h
    have hrun : ∀ (a : Act) (w : World) (ad : Addr), vals a t = .pointer (some ad) → (execOp a.eval o).run P w = .ok (.value (vals a t)) w := by
      intro a w ad hv
      simp only [execOp, ho, eval_tmp, hv]
      rfl
    refine does_value hd hn fun a w Z β hR => ?_
    cases het : e t with
    | box l =>
      simp only [het, head] at h
      obtain ⟨htd, h⟩ := h
      have h' : ws = _ := h
      subst h'
      have hO := hR.slot' het (by simp)
      have hv : ∃ ad, vals a t = .pointer (some ad) := by
        generalize vals a t = v at hO
        cases hO with
        | pers h => cases h
        | box => exact ⟨_, rfl⟩
      obtain ⟨ad, hv⟩ := hv
      refine ⟨_, w, Z, β, hrun a w ad hv, hR.view d t [] _ htd fun A hA hAo => ?_⟩
      simp only [getP, Option.some.injEq] at hA
      subst hA
      exact hR.slot t (own_plain hAo)
    | alias s p =>
      simp only [het, head] at h
      obtain ⟨hsd, hsj, X, hl, h⟩ := h
      dsimp only at h
      split at h
      case h_2 => exact h.elim
      rename_i l
      have h' : ws = _ := h
      subst h'
      have hO := hR.aliasAt het _ hl rfl
      have hv : ∃ ad, vals a t = .pointer (some ad) := by
        generalize vals a t = v at hO
        cases hO with
        | pers h => cases h
        | box => exact ⟨_, rfl⟩
      obtain ⟨ad, hv⟩ := hv
      exact ⟨_, w, Z, β, hrun a w ad hv, hR.view d s p _ hsd (hR.aliasAt het)⟩
    | addr s p =>
      simp only [het, head] at h
      obtain ⟨hsd, h⟩ := h
      have h' : ws = _ := h
      subst h'
      obtain ⟨q, k, b, rfl, hv, hb⟩ := hR.addrAt het
      refine ⟨_, w, Z, β, hrun a w _ hv, ?_⟩
      rw [hv]
      exact hR.addrPut d s q k b hsd hb
    | pbox l =>
      simp only [het, head] at h
      obtain ⟨_, h⟩ := h
      simp only [het] at h
      obtain ⟨_, h⟩ := h
      have h' : ws = _ := h
      subst h'
      have hp := ORep.toP (hR.slot' het (by simp)) rfl
      have hv : ∃ ad, vals a t = .pointer (some ad) := by
        generalize vals a t = v at hp
        cases hp; exact ⟨_, rfl⟩
      obtain ⟨ad, hv⟩ := hv
      exact ⟨_, w, Z, β, hrun a w ad hv, hR.put d hp (by simp)⟩
    | pcell u =>
      simp only [het, head] at h
      obtain ⟨_, h⟩ := h
      simp only [het] at h
      obtain ⟨_, h⟩ := h
      have h' : ws = _ := h
      subst h'
      have hp := ORep.toP (hR.slot' het (by simp)) rfl
      have hv : ∃ ad, vals a t = .pointer (some ad) := by
        generalize vals a t = v at hp
        cases hp; exact ⟨_, rfl⟩
      obtain ⟨ad, hv⟩ := hv
      exact ⟨_, w, Z, β, hrun a w ad hv, hR.put d hp (by simp)⟩
    | _ => simp only [het, head] at h; exact h.elim
  | _ => exact h.elim

noncomputable def rdNilEq (d : Nat) (x : Operand) : Rd := rdX x fun A => match A with
  | .sh l => .need (l ≠ []) (.ret [.set d (.bool false)])
  | _ => .fail

def isNilEq (op : BinOp) (y : Operand) : Bool := match op, y with
  | .eql, .const (.slice none 0 0) => true
  | _, _ => false

noncomputable def rdBin2 (P : Program) (op : BinOp) (T d : Nat) (x y : Operand) : Rd := if isNilEq op y && (slE P T).isSome then rdNilEq d x else rdBin P op T d x y

theorem equalIn_nil {P : Program} {w : World} {T E : Nat} {b : Addr} {n c : Nat} (d : Nat) (h : P.underlying T = some (.slice E)) : (Op.equalIn (d + 1) T (.slice (some b) n c) (.slice none 0 0)).run P w = .ok false w := by
  simp [Op.equalIn, run_underlying h]

theorem rdBin2_sound {P : Program} {κ : Con} {o : Oper} {e : Env} {ws : List Wr} {op : BinOp} {T yT d : Nat} {x y : Operand} (ho : o.op = .binOp op T x y yT) (hd : o.dst = some d) (hn : (κ.lim.1 ≤ d ∧ d < κ.lim.2)) (h : (rdBin2 P op T d x y).Wo e ws) : Does P κ o e ws := by
  unfold rdBin2 at h
  split at h
  · rename_i hc
    simp only [Bool.and_eq_true] at hc
    obtain ⟨h1, h2⟩ := hc
    unfold isNilEq at h1
    split at h1
    · obtain ⟨E, hE⟩ := slE_spec h2
      obtain ⟨A, h, -, hA⟩ := rdX_sound h
      cases A with
      | sh l =>
        obtain ⟨hl, h⟩ := h
        have h' : ws = _ := h
        subst h'
        refine does_value hd hn fun a w Z β hR => ⟨.bool false, w, Z, β, ?_, hR.put d (.bool false) (by simp)⟩
        have hx := hA hR rfl
        generalize hxe : a.eval x = vx at hx
        cases hx with
        | nil => exact absurd rfl hl
        | sh l b of c cs E' fz us hz g1 g2 hu g3 hk =>
          have hy : a.eval (.const (.slice none 0 0)) = .slice none 0 0 := rfl
          have hg : (eqGuard .eql T x (.const (.slice none 0 0)) (.slice (some ⟨b, of, none⟩) l.length c) (.slice none 0 0)).run P w = .ok () w := rfl
          have hq : (Go.binOp .eql T (.slice (some ⟨b, of, none⟩) l.length c) (.slice none 0 0)).run P w = .ok (.bool false) w := by
            have h5 := equalIn_nil (P := P) (w := w) (b := ⟨b, of, none⟩) (n := l.length) (c := c) 9999 hE
            simp only [Go.binOp, Op.equal]
            rw [Sem.run_bind]
            have h6 : (Op.equalIn Op.maxDepth T (.slice (some ⟨b, of, none⟩) l.length c) (.slice none 0 0)).run P w = .ok false w := h5
            rw [h6]
            rfl
          simp only [execOp, ho, hxe, hy]
          simp only [Sem.run_bind, hg, Result.andThen_ok, hq]
          rfl
      | _ => exact h.elim
    · cases h1
  · exact rdBin_sound ho hd hn h

noncomputable def rdClear (P : Program) (T : Nat) (x : Operand) : Rd := match x with
  | .tmp t => .need (slOK P T = true) (.get t fun v => match v with
    | .win s q k => .get s fun c => rdGetP c q fun X => match X with
      | .own l => .need (k < bigW) (.ret [.mod s q (.own (l.take k ++ List.replicate (l.length - k) .junk))])
      | _ => .fail
    | _ => .fail)
  | _ => .fail

theorem does_void {P : Program} {κ : Con} {o : Oper} {e : Env} {ws : List Wr} (hd : o.dst = none)
    (h : ∀ a w Z β, Rep κ Z β e (vals a) w → ∃ u w' Z' β', (execOp a.eval o).run P w = .ok (.value u) w' ∧ Rep κ Z' β' (apps ws e) (vals a) w') : Does P κ o e ws := by
  intro Q K a w ⟨h1, h2, Z, β, hR⟩ hK
  obtain ⟨u, w', Z', β', hrun, hR'⟩ := h a w Z β hR
  unfold Oper.wp
  rw [hrun, Oper.upon_value, hd]
  exact hK _ _ ⟨h1, h2, Z', β', hR'⟩

theorem zeroCells_one (z : Value) (n : Nat) : (Builtin.zeroCells #[z] n).toList = List.replicate n z := by
  refine List.ext_getElem (by simp [Builtin.zeroCells]) fun i h1 h2 => ?_
  simp [Builtin.zeroCells, Nat.mod_one]

theorem rdClear_sound {P : Program} {κ : Con} {o : Oper} {e : Env} {ws : List Wr} {T : Nat} {x : Operand} (ho : o.op = .call { callee := .builtin .clear, args := #[x], argTypes := #[T] }) (hd : o.dst = none) (h : (rdClear P T x).Wo e ws) : Does P κ o e ws := by
  cases x with
  | tmp t =>
    obtain ⟨hT, hj, h⟩ := h
    obtain ⟨E, i, z, hu, hi, hi1, _, hz0, hz1⟩ := slOK_spec hT
    cases het : e t with
    | win s q k =>
      simp only [het] at h
      obtain ⟨hsj, X, hg, h⟩ := h
      dsimp only at h
      split at h
      case h_2 => exact h.elim
      rename_i l
      obtain ⟨hkb, h⟩ := h
      have h' : ws = _ := h
      subst h'
      have hpl := plain_of_own hg rfl
      refine does_void hd fun a w Z β hR => ?_
      obtain ⟨u, hu', hv⟩ := hR.winAt het _ hg
      have hrun : ∀ v w', (Builtin.clear_ #[T] o.type #[v]).run P w = .ok (.tuple #[]) w' → vals a t = v → (execOp a.eval o).run P w = .ok (.value (.tuple #[])) w' := by
        intro v w' hc hv
        simp only [execOp, ho]
        simp [resolve, invoke, builtin, eval_tmp, hv]
        simp [hc]
      by_cases hk : k < l.length
      · obtain ⟨b, c, cs, E', us, hd2, hb, hz, g1, g2, g3, gu, g4, gk⟩ := hu'.win hk
        have hzc : z.cells = #[z] := cells_one hz1
        have hst := run_storeCells_at (P := P) b k E' (List.replicate (l.length - k) z) 0 cs w hz (by simp; omega) (fun v hv => by rw [List.eq_of_mem_replicate hv]; exact hz1)
        generalize hcs : (cs.toList.take (k + 0) ++ List.replicate (l.length - k) z ++ cs.toList.drop (k + 0 + (List.replicate (l.length - k) z).length)).toArray = cs' at hst
        have hsz : cs'.size = cs.size := by rw [← hcs]; simp; omega
        have hlow : ∀ j, j < k → cs'[j]? = cs[j]? := by
          intro j hj
          have h1 : j < cs.size := by omega
          rw [← hcs]
          simp only [List.getElem?_toArray, Nat.add_zero, List.append_assoc]
          rw [List.getElem?_append_left (by simp; omega), List.getElem?_take_of_lt hj]
          simp
        have hmid : ∀ j, k ≤ j → j < l.length → cs'[j]? = some z := by
          intro j hj hjl
          rw [← hcs]
          simp only [List.getElem?_toArray, Nat.add_zero, List.append_assoc]
          rw [List.getElem?_append_right (by simp; omega), List.getElem?_append_left (by simp; omega), List.getElem?_replicate]
          have : j - (List.take k cs.toList).length < l.length - k := by simp; omega
          rw [if_pos this]
        have hH := setRow_heap w b cs cs' E' (0, 0) hz
        have hO := fun b' (hb' : b' ≠ b) => setRow_other w b b' cs' hb'
        have hnew := hR.bo _ b hb
        refine ⟨_, w.setRow b cs', Z, β, hrun _ _ ?_ (hv.trans hd2), ?_⟩
        · have hne : l.length - k ≠ 0 := by omega
          obtain ⟨n, hn⟩ : ∃ n, l.length - k = n + 1 := ⟨l.length - k - 1, by omega⟩
          rw [hn] at hst ⊢
          simp [Builtin.clear_, run_underlying hu, zeroValue, typeInfo, hi, hz0, hzc, zeroCells_one, hst]
        · refine hR.mod (w' := w.setRow b cs') s q (.own l) (.own (l.take k ++ List.replicate (l.length - k) .junk)) hg hpl.2 (by simp) hpl.1 rfl rfl rfl (by simp) (fun b' hn' _ => hO b' fun e0 => hn' (e0 ▸ hnew.1)) (fun _ _ h => h) (fun _ _ h => .inl h) (fun b' o' ho' => ?_) (fun r b' _ _ hpre hb' => ⟨hb', hO b' fun e0 => ?_⟩) hR.inj (fun p b' hp => by simpa using hR.bo p b' hp) (fun v0 hv0 => ?_) (fun _ q' C hq' _ hC' => getP_own_up hg hq' rfl hC')
          · rw [hO b' fun e0 => by rw [e0, hnew.2.1] at ho'; cases ho']
            exact hR.zh b' o' ho'
          · subst e0
            have := hR.inj _ _ _ hb' hb
            exact hpre (this ▸ List.prefix_refl _)
          · cases hv0 with
            | pers h => cases h
            | nil => simp at hk
            | own l b2 c2 cs2 T2 us2 hb2 hz2 k1 k2 k3 ku k4 kk =>
              rw [hb] at hb2; injection hb2 with hb2; subst hb2
              rw [hz] at hz2; injection hz2 with hz2; injection hz2 with hz2 hz3; subst hz2
              have hln : (l.take k ++ List.replicate (l.length - k) AV.junk).length = l.length := by simp; omega
              have := ORep.own (Z := Z) (H := (w.setRow b cs').heap) (β := β) (p := s :: q) (l.take k ++ List.replicate (l.length - k) AV.junk) b c2 cs' E' (fun j => if j < k then us2 j else z) hb hH (by omega) (by omega) k3 (fun j hj => by
                  split
                  · rename_i hjk; rw [hlow j hjk]; exact ku j (by omega)
                  · exact hmid j (by omega) (by omega)) (fun j hj => by
                  split
                  · exact k4 j (by omega)
                  · exact hz1) (fun j hj => by
                  by_cases hjk : j < k
                  · rw [if_pos hjk, List.getElem_append_left (by simp; omega), List.getElem_take]
                    refine (kk j (by omega)).move (fun _ _ h => h) fun r b' hr => ⟨hr, hO b' fun e0 => ?_⟩
                    subst e0
                    have := hR.inj _ _ _ hr hb
                    simp at this
                  · rw [List.getElem_append_right (by simp; omega), List.getElem_replicate]
                    exact .pers (.junk _))
              rw [hln] at this
              exact this
      · have hdl : l.length - k = 0 := by omega
        have hsame : l.take k ++ List.replicate (l.length - k) AV.junk = l := by rw [hdl, List.replicate_zero, List.append_nil]; exact List.take_of_length_le (by omega)
        obtain ⟨A, c, hd2⟩ := hu'.winLen hkb
        rw [hdl] at hd2
        refine ⟨_, w, Z, β, hrun _ _ ?_ (hv.trans hd2), ?_⟩
        · cases A <;> simp [Builtin.clear_, run_underlying hu]
        · rw [hsame]
          exact hR.mod s q (.own l) (.own l) hg hpl.2 (by simp) hpl.1 rfl rfl rfl (Nat.le_refl _) (fun _ _ _ => rfl) (fun _ _ h => h) (fun _ _ h => .inl h) hR.zh (fun r b' _ _ _ hb' => ⟨hb', rfl⟩) hR.inj hR.bo (fun _ h => h) (fun _ q' C hq' _ hC' => getP_own_up hg hq' rfl hC')
    | _ => simp only [het] at h; exact h.elim
  | _ => exact h.elim

noncomputable def rdSrcO (y : Operand) (k : List AV → Option Nat → Nat → Rd) : Rd := match y with
  | .tmp t => .get t fun v => match v with
    | .own l => k l (some t) t
    | .sh l => k l none t
    | _ => .fail
  | _ => .fail

noncomputable def rdApp2 (P : Program) (T T2 d : Nat) (x y : Operand) : Rd := match x with
  | .tmp t => .peek t fun h => match h with
    | .win s q j => .need (slOK P T = true ∧ slOK P T2 = true ∧ s ≠ t ∧ bigW ≤ j) (.get s fun c => rdGetP c q fun X => match X with
      | .own l => rdSrcO y fun m t2 t' => .need (j - bigW ≤ l.length ∧ t' ≠ t ∧ t' ≠ s ∧ (l.take (j - bigW)).length + m.length ≤ 1099511627776 ∧ t ≠ d ∧ t' ≠ d)
        (.ret ([.set t .junk, .mod s q .junk, .set t (.own (l.take (j - bigW)))] ++ (srcW (some t) ++ srcW t2 ++ [.set d (.own (l.take (j - bigW) ++ m))])))
      | _ => .fail)
    | _ => rdApp P T T2 d x y
  | _ => rdApp P T T2 d x y

theorem app_keep {x : Wr} {e : Env} {t : Nat} {A : AV} (h : e t = A) (hA : ∀ s p, A ≠ .alias s p ∧ A ≠ .valias s p ∧ A ≠ .addr s p ∧ ∀ k, A ≠ .win s p k) (ht : t ≠ (match x with | .set d _ => d | .mod s _ _ => s)) : x.app e t = A := by
  have hk : ∀ s p, killV s p A = A := fun s p => killV_same hA
  cases x with
  | set d v =>
    simp only [Wr.app]
    split
    · rw [upd_ne _ _ _ _ ht]; simp only [kill]; rw [h, hk]
    · rw [upd_ne _ _ _ _ ht]; exact h
  | mod s p v =>
    simp only [Wr.app]
    split
    · rw [upd_ne _ _ _ _ ht]; simp only [kill]; rw [h, hk]
    · rw [upd_ne _ _ _ _ ht]; exact h

theorem rdApp2_sound {P : Program} {κ : Con} {o : Oper} {e : Env} {ws : List Wr} {T T2 d : Nat} {x y : Operand} (ho : o.op = .call { callee := .builtin .append, args := #[x, y], argTypes := #[T, T2] }) (hd : o.dst = some d) (hn : (κ.lim.1 ≤ d ∧ d < κ.lim.2)) (h : (rdApp2 P T T2 d x y).Wo e ws) : Does P κ o e ws := by
  unfold rdApp2 at h
  cases x with
  | tmp t =>
    obtain ⟨hj, h⟩ := h
    cases het : e t with
    | win s q j =>
      simp only [het, head] at h
      obtain ⟨⟨hT, hT2, hst, hjb⟩, hsj, X, hg, h⟩ := h
      dsimp only at h
      split at h
      case h_2 => exact h.elim
      rename_i l
      have hpl := plain_of_own hg rfl
      cases y with
      | tmp t' =>
        obtain ⟨hj', h⟩ := h
        have ghost : ∀ (a : Act) (w : World), j - bigW ≤ l.length → St κ e a w → St κ (apps [.set t .junk, .mod s q .junk, .set t (.own (l.take (j - bigW)))] e) a w := by
          intro a w hlj ⟨h1, h2, Z, β, hR⟩
          obtain ⟨u, hu, hv⟩ := hR.winAt het _ hg
          obtain ⟨β', hR1⟩ := hR.giveP hst hg hpl.2 (by simp) hsj hu
          obtain ⟨A, c, hu2, _, _, hR2⟩ := hR1.shorten (e := (Wr.mod s q .junk).app ((Wr.set t .junk).app e)) (j - bigW) hlj
          have : vals a t = .slice A (j - bigW) c := by rw [hv, hu2]; simp only [dropV]; rw [if_neg (by omega)]
          rw [← this, setV_self] at hR2
          exact ⟨h1, h2, Z, β', hR2⟩
        have fin : ∀ (m : List AV) (t2 : Option Nat), (t2 = none → e t' = .sh m) → (∀ z, t2 = some z → z = t' ∧ e t' = .own m) → j - bigW ≤ l.length → t' ≠ t → t' ≠ s → (l.take (j - bigW)).length + m.length ≤ 1099511627776 → t ≠ d → t' ≠ d →
            ws = [.set t .junk, .mod s q .junk, .set t (.own (l.take (j - bigW)))] ++ (srcW (some t) ++ srcW t2 ++ [.set d (.own (l.take (j - bigW) ++ m))]) → Does P κ o e ws := by
          intro m t2 hsh how hlj htt hts hlen htd htd' hws
          subst hws
          have hdoes : Does P κ o (apps [.set t .junk, .mod s q .junk, .set t (.own (l.take (j - bigW)))] e) (srcW (some t) ++ srcW t2 ++ [.set d (.own (l.take (j - bigW) ++ m))]) := by
            refine rdApp_sound (T := T) (T2 := T2) (x := .tmp t) (y := .tmp t') ho hd hn ?_
            have e1 : apps [.set t .junk, .mod s q .junk, .set t (.own (l.take (j - bigW)))] e t = .own (l.take (j - bigW)) := by
              simp only [apps, Wr.app]; split <;> simp [upd]
            have hk : ∀ A, (∀ s p, A ≠ .alias s p ∧ A ≠ .valias s p ∧ A ≠ .addr s p ∧ ∀ k, A ≠ .win s p k) → e t' = A → apps [.set t .junk, .mod s q .junk, .set t (.own (l.take (j - bigW)))] e t' = A := by
              intro A hA he
              simp only [apps]
              exact app_keep (app_keep (app_keep he hA htt) hA hts) hA htt
            refine ⟨⟨hT, hT2⟩, ?_⟩
            cases t2 with
            | none =>
              have e2 := hk _ (by simp) (hsh rfl)
              refine ⟨by rw [e2]; simp, ?_⟩
              simp only [e2]
              refine ⟨by rw [e1]; simp, ?_⟩
              simp only [e1]
              exact ⟨⟨.inr (by simp), hlen, by simpa using htd, by simp⟩, rfl⟩
            | some z =>
              obtain ⟨rfl, he⟩ := how z rfl
              have e2 := hk _ (by simp) he
              refine ⟨by rw [e2]; simp, ?_⟩
              simp only [e2]
              refine ⟨by rw [e1]; simp, ?_⟩
              simp only [e1]
              exact ⟨⟨.inr (by simpa using Ne.symm htt), hlen, by simpa using htd, by simpa using htd'⟩, rfl⟩
          intro Q K a w hs hK
          refine hdoes Q K a w (ghost a w hlj hs) fun a' w' hs' => hK a' w' ?_
          rw [apps_append]
          exact hs'
        cases het' : e t' with
        | own m =>
          simp only [het'] at h
          obtain ⟨⟨g1, g2, g3, g4, g5, g6⟩, h⟩ := h
          exact fin m (some t') (by simp) (fun z hz => by injection hz with hz; exact ⟨hz.symm, het'⟩) g1 g2 g3 g4 g5 g6 h
        | sh m =>
          simp only [het'] at h
          obtain ⟨⟨g1, g2, g3, g4, g5, g6⟩, h⟩ := h
          exact fin m none (fun _ => het') (by simp) g1 g2 g3 g4 g5 g6 h
        | _ => simp only [het'] at h; exact h.elim
      | _ => exact h.elim
    | _ => simp only [het, head] at h; exact rdApp_sound ho hd hn h
  | _ => exact rdApp_sound ho hd hn h

noncomputable def rdMakeFn (d g : Nat) (xs : List Operand) : Rd := rdArgs xs fun l fz => .need (slotsDistinct fz) (.ret (fzW (fz.getD []) ++ [.set d (.fn g l)]))

theorem rdMakeFn_sound {P : Program} {κ : Con} {o : Oper} {e : Env} {ws : List Wr} {d g : Nat} {xs : Array Operand} (ho : o.op = .makeFunc (.func g) #[] xs) (hd : o.dst = some d) (hn : (κ.lim.1 ≤ d ∧ d < κ.lim.2)) (h : (rdMakeFn d g xs.toList).Wo e ws) : Does P κ o e ws := by
  obtain ⟨l, fz, h, hargs⟩ := rdArgs_sound _ _ h
  obtain ⟨hsd, h⟩ := h
  have h' : ws = _ := h
  subst h'
  cases fz with
  | none => exact hsd.elim
  | some fz =>
    refine does_value hd hn fun a w Z β hR => ?_
    have hA := hargs hR
    obtain ⟨Z1, β1, hR1, hZ1, hb1⟩ := hR.freezes fz hsd hA.fz
    have hlen := hA.len
    have hp := ArgsOK.frozen hZ1 hA hb1
    refine ⟨.func (.func g) #[] (xs.map a.eval), w, Z1, β1, by simp [execOp, ho, Instr.makeFunc], ?_⟩
    rw [apps_append, Option.getD_some]
    refine hR1.put d (.fn g l _ (by simpa using hlen) fun k hk => ?_) (by simp)
    have hk' : k < (xs.toList.map a.eval).length := by omega
    have := hp k hk hk'
    simp only [List.length_map, Array.length_toList] at hk'
    simpa [hk'] using this

noncomputable def rdMakeM (d g : Nat) (xs : List Operand) : Rd := rdArgs xs fun l fz => .need (slotsDistinct fz) (.ret (fzW (fz.getD []) ++ [.set d (.mfn g l)]))
theorem rdMakeM_sound {P : Program} {κ : Con} {o : Oper} {e : Env} {ws : List Wr} {d g : Nat} {xs : Array Operand} (ho : o.op = .makeFunc (.func g) xs #[]) (hd : o.dst = some d) (hn : (κ.lim.1 ≤ d ∧ d < κ.lim.2)) (h : (rdMakeM d g xs.toList).Wo e ws) : Does P κ o e ws := by
  obtain ⟨l, fz, h, hargs⟩ := rdArgs_sound _ _ h
  obtain ⟨hsd, h⟩ := h
  have h' : ws = _ := h
  subst h'
  cases fz with
  | none => exact hsd.elim
  | some fz =>
    refine does_value hd hn fun a w Z β hR => ?_
    have hA := hargs hR
    obtain ⟨Z1, β1, hR1, hZ1, hb1⟩ := hR.freezes fz hsd hA.fz
    have hlen := hA.len
    have hp := ArgsOK.frozen hZ1 hA hb1
    refine ⟨.func (.func g) (xs.map a.eval) #[], w, Z1, β1, by simp [execOp, ho, Instr.makeFunc], ?_⟩
    rw [apps_append, Option.getD_some]
    refine hR1.put d (.mfn g l _ (by simpa using hlen) fun k hk => ?_) (by simp)
    have hk' : k < (xs.toList.map a.eval).length := by omega
    have := hp k hk hk'
    simp only [List.length_map, Array.length_toList] at hk'
    simpa [hk'] using this

end Go.Proofs.Ytehdfifncbokeaa

namespace Go.Proofs.Ytehdfifncbokeaa
set_option linter.unusedSimpArgs false
set_option linter.unusedVariables false
set_option maxRecDepth 8000
set_option maxHeartbeats 2000000
open Go Go.RowKit AV
open Go.ChangeMaps (setBlock)

section
variable (P : Program)
def mpT (T : Nat) : Option (Nat × Nat) := match P.underlying T with
  | some (.map k e) => some (k, e)
  | _ => none
def intF (f : Field) (off : Nat) : Bool := decide (f.name ≠ "_") && decide (f.offset = off) && (match P.underlying f.type with
  | some (.int .i64) => true
  | _ => false)
def ptrF (f : Field) (off : Nat) : Bool := decide (f.name ≠ "_") && decide (f.offset = off) && (match P.underlying f.type with
  | some (.pointer e) => (match P.info? e with
    | some i => decide (i.size ≠ 0)
    | none => false)
  | _ => false)
def kkT (K : Nat) : Nat := match P.underlying K with
  | some (.int .i64) => 1
  | some (.struct fs) => (match fs.toList with
    | [f, g] => if intF P f 0 && intF P g 1 && !P.stoodInHeld K then 2 else 0
    | [f, g, h] => if ptrF P f 0 && intF P g 1 && intF P h 2 && !P.stoodInHeld K then 3 else 0
    | _ => 0)
  | _ => 0
end

theorem mpT_spec {P : Program} {T k e : Nat} (h : mpT P T = some (k, e)) : P.underlying T = some (.map k e) := by
  unfold mpT at h
  split at h
  · rename_i k' e' hu
    simp only [Option.some.injEq, Prod.mk.injEq] at h
    obtain ⟨rfl, rfl⟩ := h
    exact hu
  · cases h

inductive Ex3 : AV → Prop
  | mk (k : IntKind) (n : Int) (l : List AV) (h : ∀ a ∈ l, Ex3 a) : Ex3 (.pbox [.num k n, .sh l])

def kOK : Nat → AV → Prop
  | 1, .num .i64 n => in64 n
  | 2, .agg [.num .i64 a, .num .i64 b] => in64 a ∧ in64 b
  | 3, .agg [.pin A _, .num .i64 a, .num .i64 b] => Ex3 A ∧ in64 a ∧ in64 b
  | _, _ => False

structure KeySem (P : Program) (K : Nat) (ok : AV → Prop) : Prop where
  uniq : ∀ {Z : Nat → Option Obj} {X : AV} {v u : Value}, ok X → PRep Z X v → PRep Z X u → v = u
  inj : ∀ {Z : Nat → Option Obj} {X Y : AV} {v : Value}, ok X → ok Y → PRep Z X v → PRep Z Y v → X = Y
  check : ∀ {Z : Nat → Option Obj} {X : AV} {v : Value} (w : World) (em : Bool), ok X → PRep Z X v → (Instr.checkKey em 10000 K v).run P w = .ok () w
  find : ∀ {Z : Nat → Option Obj} {X : AV} {x : Value} (w : World), (∀ b o, Z b = some o → w.heap[b]? = some o) → ok X → PRep Z X x → ∀ es : List MapEntry, (∀ e ∈ es, ∃ Y, ok Y ∧ PRep Z Y e.key) →
    ((Instr.findKey K x es).run P w = .ok none w ∧ ∀ e ∈ es, e.key ≠ x) ∨ ∃ j e, (Instr.findKey K x es).run P w = .ok (some (j, e.val)) w ∧ es[j]? = some e ∧ e.key = x
  stays : ∀ {Z : Nat → Option Obj} {X : AV} {v : Value} (w : World), ok X → PRep Z X v → (Instr.keyThatStays v v).run P w = .ok v w

theorem kOK1 {X : AV} (h : kOK 1 X) : ∃ n, X = .num .i64 n ∧ in64 n := by
  unfold kOK at h
  split at h
  · exact ⟨_, rfl, h⟩
  · exact absurd ‹(1 : Nat) = 2› (by decide)
  · exact absurd ‹(1 : Nat) = 3› (by decide)
  · exact h.elim
theorem kOK2 {X : AV} (h : kOK 2 X) : ∃ a b, X = .agg [.num .i64 a, .num .i64 b] := by
  unfold kOK at h
  split at h
  · exact absurd ‹(2 : Nat) = 1› (by decide)
  · exact ⟨_, _, rfl⟩
  · exact absurd ‹(2 : Nat) = 3› (by decide)
  · exact h.elim
theorem kOK3 {X : AV} (h : kOK 3 X) : ∃ A v a b, X = .agg [.pin A v, .num .i64 a, .num .i64 b] ∧ Ex3 A := by
  unfold kOK at h
  split at h
  · exact absurd ‹(3 : Nat) = 1› (by decide)
  · exact absurd ‹(3 : Nat) = 2› (by decide)
  · exact ⟨_, _, _, _, rfl, h.1⟩
  · exact h.elim

theorem Ex3.ptr {A : AV} (h : Ex3 A) {Z : Nat → Option Obj} {v : Value} (hv : PRep Z A v) : ∃ (b o : Nat) (cs : Array Value) (T : TypeId), v = .pointer (some ⟨b, o, none⟩) ∧ Z b = some (.cells cs T (0, 0)) := by
  cases h with
  | mk k n l h =>
    cases hv with
    | pbox l b o cs T fz hz h1 h3 hk => exact ⟨b, o, cs, T, rfl, by rw [hz, fz.2]⟩

theorem Ex3.inj {A : AV} (h : Ex3 A) : ∀ {Z : Nat → Option Obj} {B : AV} {v : Value}, Ex3 B → PRep Z A v → PRep Z B v → A = B := by
  induction h with
  | mk k n l h ih =>
    intro Z B v hB hA hv
    cases hB with
    | mk k' n' l' h' =>
      cases hA with
      | pbox _ b o cs T fz hz h1 h3 hk =>
        cases hv with
        | pbox _ b2 o2 cs2 T2 fz2 hz2 h12 h32 hk2 =>
          rw [hz] at hz2
          injection hz2 with hz2
          injection hz2 with hz2 _ _
          subst hz2
          have a0 := hk 0 (by simp)
          have b0 := hk2 0 (by simp)
          have a1 := hk 1 (by simp)
          have b1 := hk2 1 (by simp)
          simp only [List.getElem_cons_zero, List.getElem_cons_succ] at a0 b0 a1 b1
          generalize cs.getD (o + 0) undef = x at a0 b0
          generalize cs.getD (o + 1) undef = y at a1 b1
          cases a0
          cases b0
          have hl : l = l' := by
            cases a1 with
            | nil A c hc =>
              have key : ∀ m, m = 0 → PRep Z (.sh l') (.slice A m c) → ([] : List AV) = l' := by
                intro m hm h
                cases h with
                | nil => rfl
                | sh l' b o c cs T fz us hz h1 h2 hu h3 hk => exact (List.eq_nil_of_length_eq_zero hm).symm
              exact key 0 rfl b1
            | sh l b o c cs T fz us hz h1 h2 hu h3 hk =>
              generalize hn : l.length = m at b1
              cases b1 with
              | nil => exact List.eq_nil_of_length_eq_zero hn
              | sh l' _ _ _ cs2 T2 fz2 us2 hz2 h12 h22 hu2 h32 hk2 =>
                rw [hz] at hz2
                injection hz2 with hz2
                injection hz2 with hz2 _ _
                subst hz2
                apply List.ext_getElem hn
                intro i hi hi2
                have e1 := hu i hi
                have e2 := hu2 i hi2
                rw [e1] at e2
                injection e2 with e2
                have g2 := hk2 i hi2
                rw [← e2] at g2
                exact ih _ (List.getElem_mem hi) (h' _ (List.getElem_mem hi2)) (hk i hi) g2
          rw [hl]

theorem keySem1 {P : Program} {K : Nat} (hu : P.underlying K = some (.int .i64)) : KeySem P K (kOK 1) := by
  have law := Maps.int_keyed hu
  have key : ∀ {n : Int}, in64 n → keyOf P K (.int .i64 n) = some (.int .i64 n) := fun {n} h => Maps.keyOf_int_mk hu (by
    have h1 : IntKind.min .i64 = -9223372036854775808 := by decide
    have h2 : IntKind.max .i64 = 9223372036854775807 := by decide
    simp only [Lit.wf, Bool.and_eq_true, decide_eq_true_eq, h1, h2]
    exact h)
  refine ⟨fun hX hv hu' => ?_, fun hX hY hv hu' => ?_, fun w em hX hv => ?_, fun w _ hX hx es hes => ?_, fun w hX hv => ?_⟩
  · obtain ⟨n, rfl, _⟩ := kOK1 hX
    cases hv; cases hu'; rfl
  · obtain ⟨n, rfl, _⟩ := kOK1 hX
    obtain ⟨m, rfl, _⟩ := kOK1 hY
    cases hv; cases hu'; rfl
  · obtain ⟨n, rfl, hn⟩ := kOK1 hX
    cases hv
    exact law.check w em (key hn)
  · obtain ⟨n, rfl, hn⟩ := kOK1 hX
    cases hx
    exact law.find w (key hn) es fun e he => by
      obtain ⟨Y, hY, hye⟩ := hes e he
      obtain ⟨m, rfl, hm⟩ := kOK1 hY
      generalize e.key = v at hye
      cases hye
      exact ⟨_, key hm⟩
  · obtain ⟨n, rfl, hn⟩ := kOK1 hX
    cases hv
    exact law.stays w (key hn)

theorem run_isAgg_int {P : Program} {w : World} {T : Nat} {k : IntKind} (h : P.underlying T = some (.int k)) : (isAgg T).run P w = .ok false w := by
  simp [isAgg, run_underlying h]
theorem run_part_int {P : Program} {w : World} {T : Nat} {k : IntKind} (h : P.underlying T = some (.int k)) {cs : Array Value} {off : Nat} {v : Value} (hv : cs[off]? = some v) : (part T cs off).run P w = .ok v w := by
  simp [part, run_isAgg_int h, hv]

theorem intF_spec {P : Program} {f : Field} {off : Nat} (h : intF P f off = true) : f.name ≠ "_" ∧ f.offset = off ∧ P.underlying f.type = some (.int .i64) := by
  simp only [intF, Bool.and_eq_true, decide_eq_true_eq] at h
  refine ⟨h.1.1, h.1.2, ?_⟩
  have := h.2
  split at this
  · assumption
  · cases this

theorem run_equalInt {P : Program} {w : World} {T : Nat} {k : IntKind} (h : P.underlying T = some (.int k)) (d : Nat) (a b : Int) : (Op.equalIn (d + 1) T (.int k a) (.int k b)).run P w = .ok (a == b) w := by
  rw [Op.equalIn]
  simp [Sem.run_bind, run_underlying h]

theorem run_equal2 {P : Program} {w : World} {K : Nat} {fs : Array Field} {f g : Field} (hu : P.underlying K = some (.struct fs)) (hfs : fs.toList = [f, g]) (hf : intF P f 0 = true) (hg : intF P g 1 = true) (hs : P.stoodInHeld K = false) (a b c d : Int) :
    (Op.equal K (.agg #[.int .i64 a, .int .i64 b]) (.agg #[.int .i64 c, .int .i64 d])).run P w = .ok (decide (a = c ∧ b = d)) w := by
  obtain ⟨f1, f2, f3⟩ := intF_spec hf
  obtain ⟨g1, g2, g3⟩ := intF_spec hg
  have e1 : fs = #[f, g] := by rw [← Array.toArray_toList (xs := fs), hfs]
  subst e1
  unfold Op.equal Op.maxDepth
  have hF := fun a b => run_equalInt (w := w) f3 9998 a b
  have hG := fun a b => run_equalInt (w := w) g3 9998 a b
  show (Op.equalIn (9999 + 1) K _ _).run P w = _
  rw [Op.equalIn]
  generalize hE : Op.equalIn 9999 = E at hF hG ⊢
  have p1 : ∀ x y : Value, (part f.type #[x, y] f.offset).run P w = .ok x w := fun x y => run_part_int f3 (by rw [f2]; rfl)
  have p2 : ∀ x y : Value, (part g.type #[x, y] g.offset).run P w = .ok y w := fun x y => run_part_int g3 (by rw [g2]; rfl)
  by_cases h1 : a = c
  · by_cases h2 : b = d
    · subst h1 h2
      simp [Sem.run_bind, run_underlying hu, program, Sem.run, hs, f1, g1, p1, p2, hF, hG]
    · subst h1
      have hb : (b == d) = false := by simpa using h2
      simp [Sem.run_bind, run_underlying hu, program, Sem.run, hs, f1, g1, p1, p2, hF, hG, hb, h2]
  · have hb : (a == c) = false := by simpa using h1
    simp [Sem.run_bind, run_underlying hu, program, Sem.run, hs, f1, g1, p1, p2, hF, hG, hb, h1]

theorem run_checkInt {P : Program} {w : World} {T : Nat} {k : IntKind} (h : P.underlying T = some (.int k)) (em : Bool) (d : Nat) (a : Int) : (Instr.checkKey em (d + 1) T (.int k a)).run P w = .ok () w := by
  rw [Instr.checkKey]
  simp [Sem.run_bind, run_underlying h]
theorem run_check2 {P : Program} {w : World} {K : Nat} {fs : Array Field} {f g : Field} (hu : P.underlying K = some (.struct fs)) (hfs : fs.toList = [f, g]) (hf : intF P f 0 = true) (hg : intF P g 1 = true) (em : Bool) (a b : Int) :
    (Instr.checkKey em 10000 K (.agg #[.int .i64 a, .int .i64 b])).run P w = .ok () w := by
  obtain ⟨f1, f2, f3⟩ := intF_spec hf
  obtain ⟨g1, g2, g3⟩ := intF_spec hg
  have e1 : fs = #[f, g] := by rw [← Array.toArray_toList (xs := fs), hfs]
  subst e1
  have hF := fun a => run_checkInt (w := w) f3 em 9998 a
  have hG := fun a => run_checkInt (w := w) g3 em 9998 a
  show (Instr.checkKey em (9999 + 1) K _).run P w = _
  rw [Instr.checkKey]
  generalize hE : Instr.checkKey em 9999 = E at hF hG ⊢
  have p1 : ∀ x y : Value, (part f.type #[x, y] f.offset).run P w = .ok x w := fun x y => run_part_int f3 (by rw [f2]; rfl)
  have p2 : ∀ x y : Value, (part g.type #[x, y] g.offset).run P w = .ok y w := fun x y => run_part_int g3 (by rw [g2]; rfl)
  simp [Sem.run_bind, run_underlying hu, f1, g1, p1, p2, hF, hG]

theorem find_asking {P : Program} {w : World} {K : Nat} {x : Value} : ∀ (es : List MapEntry) (i : Nat), (∀ e ∈ es, ∃ b : Bool, (Op.equal K x e.key).run P w = .ok b w ∧ (b = true ↔ e.key = x)) →
    ((Instr.findAsking K x es i).run P w = .ok none w ∧ ∀ e ∈ es, e.key ≠ x) ∨ ∃ j e, (Instr.findAsking K x es i).run P w = .ok (some (i + j, e.val)) w ∧ es[j]? = some e ∧ e.key = x
  | [], i, _ => .inl ⟨by simp [Instr.findAsking], by simp⟩
  | e :: es, i, h => by
    obtain ⟨b, h1, h2⟩ := h e (by simp)
    cases b with
    | true => exact .inr ⟨0, e, by rw [Instr.findAsking]; simp [Sem.run_bind, h1], rfl, h2.1 rfl⟩
    | false =>
      have hne : e.key ≠ x := fun hk => by have := h2.2 hk; cases this
      rcases find_asking es (i + 1) (fun e he => h e (by simp [he])) with ⟨g1, g2⟩ | ⟨j, e', g1, g2, g3⟩
      · exact .inl ⟨by rw [Instr.findAsking]; simp [Sem.run_bind, h1, g1], fun e' he' => by
          rcases List.mem_cons.1 he' with rfl | he'
          · exact hne
          · exact g2 e' he'⟩
      · exact .inr ⟨j + 1, e', by rw [Instr.findAsking]; simp [Sem.run_bind, h1, g1]; omega, by simpa using g2, g3⟩

theorem same2 (a b : Int) : Instr.sameBits 10000 (.agg #[.int .i64 a, .int .i64 b]) (.agg #[.int .i64 a, .int .i64 b]) = true := by
  show Instr.sameBits (9999 + 1) _ _ = true
  rw [Instr.sameBits]
  simp [Instr.sameBits]

theorem agg2_inv {Z : Nat → Option Obj} {a b : Int} {v : Value} (h : PRep Z (.agg [.num .i64 a, .num .i64 b]) v) : v = .agg #[.int .i64 a, .int .i64 b] := by
  cases h with
  | agg l cs h1 hk =>
    have h0 := hk 0 (by simp)
    have h2 := hk 1 (by simp)
    simp only [List.getElem_cons_zero, List.getElem_cons_succ] at h0 h2
    generalize hx : cs.getD 0 undef = x at h0
    generalize hy : cs.getD 1 undef = y at h2
    cases h0; cases h2
    congr 1
    apply Array.ext (by simpa using h1)
    intro i hi hi'
    have hs : cs.size = 2 := by simpa using h1
    rcases (by omega : i = 0 ∨ i = 1) with rfl | rfl
    · simpa [Array.getD, hs] using hx
    · simpa [Array.getD, hs] using hy

theorem keySem2 {P : Program} {K : Nat} {fs : Array Field} {f g : Field} (hu : P.underlying K = some (.struct fs)) (hfs : fs.toList = [f, g]) (hf : intF P f 0 = true) (hg : intF P g 1 = true) (hs : P.stoodInHeld K = false) : KeySem P K (kOK 2) := by
  refine ⟨fun hX hv hu' => ?_, fun hX hY hv hu' => ?_, fun w em hX hv => ?_, fun w _ hX hx es hes => ?_, fun w hX hv => ?_⟩
  · obtain ⟨a, b, rfl⟩ := kOK2 hX
    rw [agg2_inv hv, agg2_inv hu']
  · obtain ⟨a, b, rfl⟩ := kOK2 hX
    obtain ⟨c, d, rfl⟩ := kOK2 hY
    have := (agg2_inv hv).symm.trans (agg2_inv hu')
    simp at this
    rw [this.1, this.2]
  · obtain ⟨a, b, rfl⟩ := kOK2 hX
    rw [agg2_inv hv]
    exact run_check2 hu hfs hf hg em a b
  · obtain ⟨a, b, rfl⟩ := kOK2 hX
    rw [agg2_inv hx]
    have hfind : (Instr.findKey K (.agg #[.int .i64 a, .int .i64 b]) es).run P w = (Instr.findAsking K (.agg #[.int .i64 a, .int .i64 b]) es).run P w := by
      unfold Instr.findKey
      cases es with
      | nil => simp [Sem.run_bind, run_underlying hu, Instr.findNow, Instr.findAsking]
      | cons e es => simp [Sem.run_bind, run_underlying hu, Instr.findNow, Instr.sameNow]
    rw [hfind]
    have := find_asking (P := P) (w := w) (K := K) (x := .agg #[.int .i64 a, .int .i64 b]) es 0 (fun e he => by
      obtain ⟨Y, hY, hye⟩ := hes e he
      obtain ⟨c, d, rfl⟩ := kOK2 hY
      refine ⟨_, by rw [agg2_inv hye]; exact run_equal2 hu hfs hf hg hs a b c d, ?_⟩
      rw [agg2_inv hye, decide_eq_true_eq]
      simp [eq_comm])
    simpa using this
  · obtain ⟨a, b, rfl⟩ := kOK2 hX
    rw [agg2_inv hv]
    unfold Instr.keyThatStays
    simp [same2]

theorem ptrF_spec {P : Program} {f : Field} {off : Nat} (h : ptrF P f off = true) : f.name ≠ "_" ∧ f.offset = off ∧ ∃ e i, P.underlying f.type = some (.pointer e) ∧ P.info? e = some i ∧ i.size ≠ 0 := by
  simp only [ptrF, Bool.and_eq_true, decide_eq_true_eq] at h
  refine ⟨h.1.1, h.1.2, ?_⟩
  have := h.2
  split at this
  · rename_i e he
    split at this
    · rename_i i hi
      exact ⟨e, i, he, hi, of_decide_eq_true this⟩
    · cases this
  · cases this

theorem run_part_ptr {P : Program} {w : World} {T e : Nat} (h : P.underlying T = some (.pointer e)) {cs : Array Value} {off : Nat} {v : Value} (hv : cs[off]? = some v) : (part T cs off).run P w = .ok v w := by
  have h1 : (isAgg T).run P w = .ok false w := by simp [isAgg, run_underlying h]
  simp [part, h1, hv]

theorem run_equalPtr {P : Program} {w : World} {T e : Nat} {i : TypeInfo} (h : P.underlying T = some (.pointer e)) (hi : P.info? e = some i) (hs : i.size ≠ 0) (d : Nat) {a b : Addr} {ca cb : Array Value} {ta tb : TypeId} (ha : w.heap[a.block]? = some (.cells ca ta (0, 0))) (hb : w.heap[b.block]? = some (.cells cb tb (0, 0))) :
    (Op.equalIn (d + 1) T (.pointer (some a)) (.pointer (some b))).run P w = .ok (decide (a = b)) w := by
  by_cases hab : a = b
  · subst hab
    simp [Op.equalIn, run_underlying h, sizeOf, typeInfo, hi, hs, run_sameAddr_same]
  · simp [Op.equalIn, run_underlying h, sizeOf, typeInfo, hi, hs, run_sameAddr_other w hab ha hb, hab]

theorem run_equal3 {P : Program} {w : World} {K : Nat} {fs : Array Field} {f g h : Field} (hu : P.underlying K = some (.struct fs)) (hfs : fs.toList = [f, g, h]) (hf : ptrF P f 0 = true) (hg : intF P g 1 = true) (hh : intF P h 2 = true) (hs : P.stoodInHeld K = false) {x y : Addr} {ca cb : Array Value} {ta tb : TypeId} (ha : w.heap[x.block]? = some (.cells ca ta (0, 0))) (hb : w.heap[y.block]? = some (.cells cb tb (0, 0))) (a b c d : Int) :
    (Op.equal K (.agg #[.pointer (some x), .int .i64 a, .int .i64 b]) (.agg #[.pointer (some y), .int .i64 c, .int .i64 d])).run P w = .ok (decide (x = y ∧ a = c ∧ b = d)) w := by
  obtain ⟨f1, f2, e, i, f3, f4, f5⟩ := ptrF_spec hf
  obtain ⟨g1, g2, g3⟩ := intF_spec hg
  obtain ⟨h1, h2, h3⟩ := intF_spec hh
  have e1 : fs = #[f, g, h] := by rw [← Array.toArray_toList (xs := fs), hfs]
  subst e1
  unfold Op.equal Op.maxDepth
  have hF := run_equalPtr (P := P) (w := w) f3 f4 f5 9998 ha hb
  have hG := fun a b => run_equalInt (w := w) g3 9998 a b
  have hH := fun a b => run_equalInt (w := w) h3 9998 a b
  show (Op.equalIn (9999 + 1) K _ _).run P w = _
  rw [Op.equalIn]
  generalize hE : Op.equalIn 9999 = E at hF hG hH ⊢
  have p1 : ∀ x y z : Value, (part f.type #[x, y, z] f.offset).run P w = .ok x w := fun x y z => run_part_ptr f3 (by rw [f2]; rfl)
  have p2 : ∀ x y z : Value, (part g.type #[x, y, z] g.offset).run P w = .ok y w := fun x y z => run_part_int g3 (by rw [g2]; rfl)
  have p3 : ∀ x y z : Value, (part h.type #[x, y, z] h.offset).run P w = .ok z w := fun x y z => run_part_int h3 (by rw [h2]; rfl)
  by_cases k0 : x = y
  · subst k0
    rw [decide_eq_true rfl] at hF
    by_cases k1 : a = c
    · subst k1
      by_cases k2 : b = d
      · subst k2
        simp [Sem.run_bind, run_underlying hu, program, Sem.run, hs, f1, g1, h1, p1, p2, p3, hF, hG, hH]
      · have hb : (b == d) = false := by simpa using k2
        simp [Sem.run_bind, run_underlying hu, program, Sem.run, hs, f1, g1, h1, p1, p2, p3, hF, hG, hH, hb, k2]
    · have hb : (a == c) = false := by simpa using k1
      simp [Sem.run_bind, run_underlying hu, program, Sem.run, hs, f1, g1, h1, p1, p2, p3, hF, hG, hb, k1]
  · have hd0 : decide (x = y) = false := by simpa using k0
    rw [hd0] at hF
    simp [Sem.run_bind, run_underlying hu, program, Sem.run, hs, f1, g1, h1, p1, p2, p3, hF, hG, k0]

theorem run_check3 {P : Program} {w : World} {K : Nat} {fs : Array Field} {f g h : Field} (hu : P.underlying K = some (.struct fs)) (hfs : fs.toList = [f, g, h]) (hf : ptrF P f 0 = true) (hg : intF P g 1 = true) (hh : intF P h 2 = true) (em : Bool) (x : Value) (a b : Int) :
    (Instr.checkKey em 10000 K (.agg #[x, .int .i64 a, .int .i64 b])).run P w = .ok () w := by
  obtain ⟨f1, f2, e, i, f3, f4, f5⟩ := ptrF_spec hf
  obtain ⟨g1, g2, g3⟩ := intF_spec hg
  obtain ⟨h1, h2, h3⟩ := intF_spec hh
  have e1 : fs = #[f, g, h] := by rw [← Array.toArray_toList (xs := fs), hfs]
  subst e1
  have hF : (Instr.checkKey em (9998 + 1) f.type x).run P w = .ok () w := by
    rw [Instr.checkKey]
    simp [Sem.run_bind, run_underlying f3]
  have hG := fun a => run_checkInt (w := w) g3 em 9998 a
  have hH := fun a => run_checkInt (w := w) h3 em 9998 a
  show (Instr.checkKey em (9999 + 1) K _).run P w = _
  rw [Instr.checkKey]
  generalize hE : Instr.checkKey em 9999 = E at hF hG hH ⊢
  have p1 : ∀ x y z : Value, (part f.type #[x, y, z] f.offset).run P w = .ok x w := fun x y z => run_part_ptr f3 (by rw [f2]; rfl)
  have p2 : ∀ x y z : Value, (part g.type #[x, y, z] g.offset).run P w = .ok y w := fun x y z => run_part_int g3 (by rw [g2]; rfl)
  have p3 : ∀ x y z : Value, (part h.type #[x, y, z] h.offset).run P w = .ok z w := fun x y z => run_part_int h3 (by rw [h2]; rfl)
  simp [Sem.run_bind, run_underlying hu, f1, g1, h1, p1, p2, p3, hF, hG, hH]

theorem same3 (p : Option Addr) (a b : Int) : Instr.sameBits 10000 (.agg #[.pointer p, .int .i64 a, .int .i64 b]) (.agg #[.pointer p, .int .i64 a, .int .i64 b]) = true := by
  show Instr.sameBits (9999 + 1) _ _ = true
  rw [Instr.sameBits]
  simp [Instr.sameBits]

theorem agg3_inv {Z : Nat → Option Obj} {A : AV} {p : Value} {a b : Int} {v : Value} (h : PRep Z (.agg [.pin A p, .num .i64 a, .num .i64 b]) v) : v = .agg #[p, .int .i64 a, .int .i64 b] ∧ PRep Z A p := by
  cases h with
  | agg l cs h1 hk =>
    have h0 := hk 0 (by simp)
    have h2 := hk 1 (by simp)
    have h3 := hk 2 (by simp)
    simp only [List.getElem_cons_zero, List.getElem_cons_succ] at h0 h2 h3
    generalize hx : cs.getD 0 undef = x at h0
    generalize hy : cs.getD 1 undef = y at h2
    generalize hz : cs.getD 2 undef = z at h3
    cases h0 with
    | pin A p h0 =>
      cases h2; cases h3
      refine ⟨?_, h0⟩
      congr 1
      apply Array.ext (by simpa using h1)
      intro i hi hi'
      have hs : cs.size = 3 := by simpa using h1
      rcases (by omega : i = 0 ∨ i = 1 ∨ i = 2) with rfl | rfl | rfl
      · simpa [Array.getD, hs] using hx
      · simpa [Array.getD, hs] using hy
      · simpa [Array.getD, hs] using hz

theorem keySem3 {P : Program} {K : Nat} {fs : Array Field} {f g h : Field} (hu : P.underlying K = some (.struct fs)) (hfs : fs.toList = [f, g, h]) (hf : ptrF P f 0 = true) (hg : intF P g 1 = true) (hh : intF P h 2 = true) (hs : P.stoodInHeld K = false) : KeySem P K (kOK 3) := by
  refine ⟨fun hX hv hu' => ?_, fun hX hY hv hu' => ?_, fun w em hX hv => ?_, fun w hw hX hx es hes => ?_, fun w hX hv => ?_⟩
  · obtain ⟨A, p, a, b, rfl, -⟩ := kOK3 hX
    rw [(agg3_inv hv).1, (agg3_inv hu').1]
  · obtain ⟨A, p, a, b, rfl, hA⟩ := kOK3 hX
    obtain ⟨B, q, c, d, rfl, hB⟩ := kOK3 hY
    obtain ⟨e1, g1⟩ := agg3_inv hv
    obtain ⟨e2, g2⟩ := agg3_inv hu'
    have := e1.symm.trans e2
    simp at this
    obtain ⟨rfl, rfl, rfl⟩ := this
    rw [hA.inj hB g1 g2]
  · obtain ⟨A, p, a, b, rfl, hA⟩ := kOK3 hX
    rw [(agg3_inv hv).1]
    exact run_check3 hu hfs hf hg hh em p a b
  · obtain ⟨A, p, a, b, rfl, hA⟩ := kOK3 hX
    obtain ⟨e1, g1⟩ := agg3_inv hx
    rw [e1]
    obtain ⟨b1, o1, cs1, T1, rfl, hz1⟩ := hA.ptr g1
    have hfind : (Instr.findKey K (.agg #[.pointer (some ⟨b1, o1, none⟩), .int .i64 a, .int .i64 b]) es).run P w = (Instr.findAsking K (.agg #[.pointer (some ⟨b1, o1, none⟩), .int .i64 a, .int .i64 b]) es).run P w := by
      unfold Instr.findKey
      cases es with
      | nil => simp [Sem.run_bind, run_underlying hu, Instr.findNow, Instr.findAsking]
      | cons e es => simp [Sem.run_bind, run_underlying hu, Instr.findNow, Instr.sameNow]
    rw [hfind]
    have := find_asking (P := P) (w := w) (K := K) (x := .agg #[.pointer (some ⟨b1, o1, none⟩), .int .i64 a, .int .i64 b]) es 0 (fun e he => by
      obtain ⟨Y, hY, hye⟩ := hes e he
      obtain ⟨B, q, c, d, rfl, hB⟩ := kOK3 hY
      obtain ⟨e2, g2⟩ := agg3_inv hye
      obtain ⟨b2, o2, cs2, T2, rfl, hz2⟩ := hB.ptr g2
      refine ⟨_, by rw [e2]; exact run_equal3 hu hfs hf hg hh hs (hw _ _ hz1) (hw _ _ hz2) a b c d, ?_⟩
      rw [e2, decide_eq_true_eq]
      simp [eq_comm])
    simpa using this
  · obtain ⟨A, p, a, b, rfl, hA⟩ := kOK3 hX
    obtain ⟨e1, g1⟩ := agg3_inv hv
    obtain ⟨b1, o1, cs1, T1, rfl, hz1⟩ := hA.ptr g1
    rw [e1]
    unfold Instr.keyThatStays
    simp [same3]

theorem keySem {P : Program} {K : Nat} {n : Nat} (h : kkT P K = n) (hn : n ≠ 0) : KeySem P K (kOK n) := by
  unfold kkT at h
  split at h
  · rename_i hu; subst h; exact keySem1 hu
  · rename_i fs hu
    split at h
    · rename_i f g hfs
      split at h
      · rename_i hc
        subst h
        simp only [Bool.and_eq_true, Bool.not_eq_true'] at hc
        exact keySem2 hu hfs hc.1.1 hc.1.2 hc.2
      · exact absurd h.symm hn
    · rename_i f g h3 hfs
      split at h
      · rename_i hc
        subst h
        simp only [Bool.and_eq_true, Bool.not_eq_true'] at hc
        exact keySem3 hu hfs hc.1.1.1 hc.1.1.2 hc.1.2 hc.2
      · exact absurd h.symm hn
    · exact absurd h.symm hn
  · exact absurd h.symm hn

end Go.Proofs.Ytehdfifncbokeaa

namespace Go.Proofs.Ytehdfifncbokeaa
set_option linter.unusedSimpArgs false
set_option linter.unusedVariables false
set_option maxRecDepth 8000
set_option maxHeartbeats 2000000
open Go Go.RowKit AV
open Go.ChangeMaps (setBlock)

def MapIs (Z : Nat → Option Obj) (w : World) (ks vs : List AV) (v : Value) : Prop := ∃ (b : Nat) (es : Array MapEntry) (kf vf : Nat → Value), v = .map (some b) ∧ w.heap[b]? = some (.map es ks.length) ∧ es.size = ks.length ∧ vs.length = ks.length ∧
  (∀ i, i < ks.length → es[i]? = some ⟨kf i, vf i, i⟩) ∧ (∀ i (h : i < ks.length), PRep Z ks[i] (kf i)) ∧ ∀ i (h : i < vs.length), PRep Z vs[i] (vf i)

theorem mapIs_own {Z : Nat → Option Obj} {w : World} {β : List Nat → Option Nat} {p ks vs v} (h : ORep Z w.heap β p (.omap ks vs) v) : MapIs Z w ks vs v := by
  cases h with
  | pers h => cases h
  | omap ks vs b es kf vf hb hz h1 h2 he hk hv => exact ⟨b, es, kf, vf, rfl, hz, h1, h2, he, hk, hv⟩
theorem mapIs_set {Z : Nat → Option Obj} {w : World} {ks vs v} (hz : ∀ b o, Z b = some o → w.heap[b]? = some o) (h : PRep Z (.pmap ks vs) v) : MapIs Z w ks vs v := by
  cases h with
  | pmap ks vs b es kf vf hb h1 h2 he hk hv => exact ⟨b, es, kf, vf, rfl, hz _ _ hb, h1, h2, he, hk, hv⟩

noncomputable def rdMapOf (x : Operand) (k : List AV → List AV → Rd) : Rd := match x with
  | .tmp t => .get t fun v => match v with
    | .omap ks vs => k ks vs
    | .pmap ks vs => k ks vs
    | .pin (.pmap ks vs) _ => k ks vs
    | .alias s q => .get s fun c => rdGetP c q fun X => match X with
      | .omap ks vs => k ks vs
      | _ => .fail
    | _ => .fail
  | _ => .fail

theorem rdMapOf_sound {e : Env} {x : Operand} {k} {ws : List Wr} (h : (rdMapOf x k).Wo e ws) : ∃ ks vs, (k ks vs).Wo e ws ∧ ∀ {κ Z β w} {a : Act}, Rep κ Z β e (vals a) w → MapIs Z w ks vs (a.eval x) := by
  cases x with
  | tmp t =>
    obtain ⟨hj, h⟩ := h
    cases het : e t with
    | omap ks vs => simp only [het] at h; exact ⟨ks, vs, h, fun hR => mapIs_own (hR.slot' het (by simp))⟩
    | pmap ks vs => simp only [het] at h; exact ⟨ks, vs, h, fun hR => mapIs_set hR.zh (ORep.toP (hR.slot' het (by simp)) rfl)⟩
    | pin A v =>
      simp only [het] at h
      split at h
      · rename_i h1; cases h1
      · rename_i h1; cases h1
      · rename_i ks vs v' h1
        injection h1 with h1 h2
        subst h1 h2
        refine ⟨ks, vs, h, fun {κ Z β w a} hR => ?_⟩
        have hp := ORep.toP (hR.slot' het (by simp)) rfl
        rw [eval_tmp]
        generalize vals a t = u at hp
        cases hp with
        | pin A v hp => exact mapIs_set hR.zh hp
      · rename_i h1; cases h1
      · exact h.elim
    | alias s q =>
      simp only [het] at h
      obtain ⟨_, X, hg, h⟩ := h
      dsimp only at h
      split at h
      · exact ⟨_, _, h, fun hR => mapIs_own (hR.aliasAt het _ hg rfl)⟩
      · exact h.elim
    | _ => simp only [het] at h; exact h.elim
  | _ => exact h.elim

noncomputable def rdLenM (d : Nat) (x : Operand) : Rd := rdMapOf x fun ks _ => .ret [.set d (.num .i64 ks.length)]

theorem rdLenM_sound {P : Program} {κ : Con} {o : Oper} {e : Env} {ws : List Wr} {T d : Nat} {x : Operand} (hT : (mpT P T).isSome = true) (ho : o.op = .call { callee := .builtin .len, args := #[x], argTypes := #[T] }) (hd : o.dst = some d) (hn : (κ.lim.1 ≤ d ∧ d < κ.lim.2)) (h : (rdLenM d x).Wo e ws) : Does P κ o e ws := by
  obtain ⟨ks, vs, h, hm⟩ := rdMapOf_sound h
  have h' : ws = _ := h
  subst h'
  obtain ⟨⟨K, E⟩, hKE⟩ := Option.isSome_iff_exists.1 hT
  have hu := mpT_spec hKE
  refine does_value hd hn fun a w Z β hR => ?_
  obtain ⟨b, es, kf, vf, hv, hb, h1, -⟩ := hm hR
  refine ⟨.int .i64 ks.length, w, Z, β, ?_, hR.put d (.num _ _) (by simp)⟩
  simp [execOp, ho, resolve, invoke, builtin, hv, Builtin.len_, run_underlying hu, goInt, getObj, Sem.run_bind, Sem.run, hb, h1]

def LookOK (P : Program) (K E : Nat) (ks vs : List AV) (X R : AV) : Prop :=
  kkT P K ≠ 0 ∧ kOK (kkT P K) X ∧ (∀ Y ∈ ks, kOK (kkT P K) Y) ∧ isP R = true ∧ R ≠ .junk ∧ (∀ i : Nat, ks[i]? = some X → vs[i]? = some R) ∧ (X ∉ ks → zOf P E = R)

noncomputable def rdLook (P : Program) (T d : Nat) (x y : Operand) : Rd := match mpT P T with
  | some (K, E) => rdMapOf x fun ks vs => rdX y fun X => .ex AV fun R => .need (LookOK P K E ks vs X R) (.ret [.set d R])
  | none => .fail

theorem zOf_run {P : Program} {w : World} {E : Nat} {R : AV} (h : zOf P E = R) (hR : R ≠ .junk) : ∃ z, (zeroValue E).run P w = .ok z w ∧ cst z = R := by
  unfold zOf at h
  split at h
  · rename_i i hi
    split at h
    · rename_i z hz
      exact ⟨z, by simp [zeroValue, typeInfo, hi, hz], h⟩
    · exact absurd h.symm hR
  · exact absurd h.symm hR

theorem kOK_isP {n : Nat} {X : AV} (h : kOK n X) : isP X = true := by
  unfold kOK at h
  split at h <;> first | rfl | exact h.elim

theorem map_find {P : Program} {K : Nat} {ok : AV → Prop} (S : KeySem P K ok) {Z : Nat → Option Obj} {w : World} (hzh : ∀ b o, Z b = some o → w.heap[b]? = some o) {ks vs : List AV} {es : Array MapEntry} {kf vf : Nat → Value} {X : AV} {x : Value} (h1 : es.size = ks.length) (h2 : vs.length = ks.length)
    (he : ∀ i, i < ks.length → es[i]? = some ⟨kf i, vf i, i⟩) (hk : ∀ i (h : i < ks.length), PRep Z ks[i] (kf i)) (hX : ok X) (hks : ∀ Y ∈ ks, ok Y) (hx : PRep Z X x) :
    ((Instr.findKey K x es.toList).run P w = .ok none w ∧ X ∉ ks) ∨ ∃ (j : Nat) (h : j < ks.length), (Instr.findKey K x es.toList).run P w = .ok (some (j, vf j)) w ∧ ks[j] = X ∧ kf j = x := by
  rcases S.find w hzh hX hx es.toList (fun e hem => by
    obtain ⟨i, hi, rfl⟩ := List.getElem_of_mem hem
    have hi' : i < ks.length := by simpa [h1] using hi
    have := he i hi'
    have hg : es.toList[i] = ⟨kf i, vf i, i⟩ := by
      have h3 : es.toList[i]? = es[i]? := by simp
      rw [List.getElem?_eq_getElem hi, this] at h3
      injection h3
    rw [hg]
    exact ⟨ks[i], hks _ (List.getElem_mem hi'), hk i hi'⟩) with ⟨g1, g2⟩ | ⟨j, e, g1, g2, g3⟩
  · refine .inl ⟨g1, fun hm => ?_⟩
    obtain ⟨i, hi, rfl⟩ := List.getElem_of_mem hm
    have h3 := he i hi
    have hmem : (⟨kf i, vf i, i⟩ : MapEntry) ∈ es.toList := by
      have : es.toList[i]? = some ⟨kf i, vf i, i⟩ := by simpa using h3
      exact List.mem_of_getElem? this
    exact g2 _ hmem (S.uniq hX (hk i hi) hx)
  · have hj : j < ks.length := by
      have := (List.getElem?_eq_some_iff.1 g2).1
      simpa [h1] using this
    have h3 := he j hj
    have h4 : es.toList[j]? = es[j]? := by simp
    rw [g2, h3] at h4
    injection h4 with h4
    subst h4
    refine .inr ⟨j, hj, g1, ?_, g3⟩
    exact S.inj (hks _ (List.getElem_mem hj)) hX (by have := hk j hj; dsimp only at g3; rwa [g3] at this) hx

theorem rdLook_sound {P : Program} {κ : Con} {o : Oper} {e : Env} {ws : List Wr} {T d : Nat} {x y : Operand} (ho : o.op = .lookup T x y false) (hd : o.dst = some d) (hn : (κ.lim.1 ≤ d ∧ d < κ.lim.2)) (h : (rdLook P T d x y).Wo e ws) : Does P κ o e ws := by
  unfold rdLook at h
  split at h
  case h_2 => exact h.elim
  rename_i K E hKE
  have hu := mpT_spec hKE
  obtain ⟨ks, vs, h, hm⟩ := rdMapOf_sound h
  obtain ⟨X, h, hXj, hX⟩ := rdX_sound h
  obtain ⟨R, ⟨hK, hkX, hks, hRp, hRj, hR1, hR2⟩, h⟩ := h
  have h' : ws = _ := h
  subst h'
  have S := keySem (P := P) (K := K) rfl hK
  refine does_value hd hn fun a w Z β hR => ?_
  have hx := hX hR (kOK_isP hkX)
  obtain ⟨b, es, kf, vf, hv, hb, h1, h2, he, hk, hvv⟩ := hm hR
  have hck := S.check w es.isEmpty hkX hx
  rcases map_find S (w := w) hR.zh h1 h2 he hk hkX hks hx with ⟨g1, g2⟩ | ⟨j, hj, g1, g2, g3⟩
  · obtain ⟨z, hz, hcz⟩ := zOf_run (w := w) (hR2 g2) hRj
    refine ⟨z, w, Z, β, ?_, hR.put d (ORep.toP (by rw [← hcz]; exact cst_rep (Z := Z) (H := w.heap) (β := β) [] z (by rw [hcz]; exact hRj)) hRp) (isP_plain hRp)⟩
    simp only [execOp, ho]
    rw [hv]
    simp [Instr.lookup, Sem.run_bind, run_underlying hu, getObj, Sem.run, hb, hck, g1, hz]
  · have hvj := hR1 j (by rw [List.getElem?_eq_getElem hj, g2])
    have hjv : j < vs.length := by omega
    have hrep := hvv j hjv
    rw [List.getElem?_eq_getElem hjv] at hvj
    injection hvj with hvj
    rw [hvj] at hrep
    refine ⟨vf j, w, Z, β, ?_, hR.put d hrep (isP_plain hRp)⟩
    simp only [execOp, ho]
    rw [hv]
    simp [Instr.lookup, Sem.run_bind, run_underlying hu, getObj, Sem.run, hb, hck, g1]

def Look2OK (P : Program) (K E : Nat) (ks vs : List AV) (X R : AV) (b : Bool) : Prop :=
  kkT P K ≠ 0 ∧ kOK (kkT P K) X ∧ (∀ Y ∈ ks, kOK (kkT P K) Y) ∧ isP R = true ∧ R ≠ .junk ∧ (∀ i : Nat, ks[i]? = some X → vs[i]? = some R ∧ b = true) ∧ (X ∉ ks → zOf P E = R ∧ b = false)

noncomputable def rdLook2 (P : Program) (T d : Nat) (x y : Operand) : Rd := match mpT P T with
  | some (K, E) => rdMapOf x fun ks vs => rdX y fun X => .ex AV fun R => .ex Bool fun b => .need (Look2OK P K E ks vs X R b) (.ret [.set d (.tup [R, .bool b])])
  | none => .fail

theorem rdLook2_sound {P : Program} {κ : Con} {o : Oper} {e : Env} {ws : List Wr} {T d : Nat} {x y : Operand} (ho : o.op = .lookup T x y true) (hd : o.dst = some d) (hn : (κ.lim.1 ≤ d ∧ d < κ.lim.2)) (h : (rdLook2 P T d x y).Wo e ws) : Does P κ o e ws := by
  unfold rdLook2 at h
  split at h
  case h_2 => exact h.elim
  rename_i K E hKE
  have hu := mpT_spec hKE
  obtain ⟨ks, vs, h, hm⟩ := rdMapOf_sound h
  obtain ⟨X, h, hXj, hX⟩ := rdX_sound h
  obtain ⟨R, bo, ⟨hK, hkX, hks, hRp, hRj, hR1, hR2⟩, h⟩ := h
  have h' : ws = _ := h
  subst h'
  have S := keySem (P := P) (K := K) rfl hK
  refine does_value hd hn fun a w Z β hR => ?_
  have hx := hX hR (kOK_isP hkX)
  obtain ⟨b, es, kf, vf, hv, hb, h1, h2, he, hk, hvv⟩ := hm hR
  have hck := S.check w es.isEmpty hkX hx
  have fin : ∀ u : Value, PRep Z R u → Rep κ Z β (apps [Wr.set d (.tup [R, .bool bo])] e) (setV (vals a) d (.tuple #[u, .bool bo])) w := fun u hu => hR.put d (.tup [R, .bool bo] #[u, .bool bo] rfl fun k hk => by
    have : k = 0 ∨ k = 1 := by simp at hk; omega
    rcases this with rfl | rfl
    · exact hu
    · exact .bool bo) (by simp)
  rcases map_find S (w := w) hR.zh h1 h2 he hk hkX hks hx with ⟨g1, g2⟩ | ⟨j, hj, g1, g2, g3⟩
  · obtain ⟨hz0, rfl⟩ := hR2 g2
    obtain ⟨z, hz, hcz⟩ := zOf_run (w := w) hz0 hRj
    refine ⟨.tuple #[z, .bool false], w, Z, β, ?_, fin z (ORep.toP (by rw [← hcz]; exact cst_rep (Z := Z) (H := w.heap) (β := β) [] z (by rw [hcz]; exact hRj)) hRp)⟩
    simp only [execOp, ho]
    rw [hv]
    simp [Instr.lookup, Sem.run_bind, run_underlying hu, getObj, Sem.run, hb, hck, g1, hz]
  · obtain ⟨hvj, rfl⟩ := hR1 j (by rw [List.getElem?_eq_getElem hj, g2])
    have hjv : j < vs.length := by omega
    have hrep := hvv j hjv
    rw [List.getElem?_eq_getElem hjv] at hvj
    injection hvj with hvj
    rw [hvj] at hrep
    refine ⟨.tuple #[vf j, .bool true], w, Z, β, ?_, fin _ hrep⟩
    simp only [execOp, ho]
    rw [hv]
    simp [Instr.lookup, Sem.run_bind, run_underlying hu, getObj, Sem.run, hb, hck, g1]

end Go.Proofs.Ytehdfifncbokeaa

namespace Go.Proofs.Ytehdfifncbokeaa
set_option linter.unusedSimpArgs false
set_option linter.unusedVariables false
set_option maxRecDepth 8000
set_option maxHeartbeats 2000000
open Go Go.RowKit AV
open Go.ChangeMaps (setBlock)

theorem rdMakeMap_sound {P : Program} {κ : Con} {o : Oper} {e : Env} {ws : List Wr} {T d : Nat} (ho : o.op = .makeMap T none) (hd : o.dst = some d) (hn : (κ.lim.1 ≤ d ∧ d < κ.lim.2)) (h : (Rd.ret [.set d (.omap [] [])]).Wo e ws) : Does P κ o e ws := by
  have h' : ws = _ := h
  subst h'
  refine does_value hd hn fun a w Z β hR => ?_
  have hrun : (execOp a.eval o).run P w = .ok (.value (.map (some w.heap.size))) (w.alloc (.map #[] 0)) := by
    simp [execOp, ho, Instr.makeMap, newObj, Sem.run]
  have hori := ORep.omap (Z := Z) (H := (w.alloc (.map #[] 0)).heap) (β := withB (viaF (gaF (srcOf []) (srcs []) d) β) d w.heap.size) (p := [d]) [] [] w.heap.size #[] (fun _ => undef) (fun _ => undef) (by simp [withB]) (heap_alloc_new w _) rfl rfl (by simp) (by simp) (by simp)
  have := hR.bigParts (srcs []) d (gaF (srcOf []) (srcs []) d) (.omap [] []) (.map (some w.heap.size)) (withB (viaF (gaF (srcOf []) (srcs []) d) β) d w.heap.size) (w' := w.alloc (.map #[] 0)) rfl rfl rfl (by simp) (fun b hb => Below.heap_alloc w _ b hb) (gaF_keep _ _ _) (.inr ⟨rfl, by simp⟩) (gaF_inj (by simp [srcOf]) (by simp [srcOf])) hori (by simp)
  exact ⟨_, _, Z, _, hrun, by simpa [srcs] using this⟩

noncomputable def rdPMap (x : Operand) (k : List AV → List AV → Rd) : Rd := match x with
  | .tmp t => .get t fun v => match v with
    | .pmap ks vs => k ks vs
    | .pin (.pmap ks vs) _ => k ks vs
    | _ => .fail
  | _ => .fail

theorem rdPMap_sound {e : Env} {x : Operand} {k} {ws : List Wr} (h : (rdPMap x k).Wo e ws) : ∃ ks vs, (k ks vs).Wo e ws ∧ ∀ {κ Z β w} {a : Act}, Rep κ Z β e (vals a) w → PRep Z (.pmap ks vs) (a.eval x) := by
  cases x with
  | tmp t =>
    obtain ⟨hj, h⟩ := h
    cases het : e t with
    | pmap ks vs => simp only [het] at h; exact ⟨ks, vs, h, fun hR => ORep.toP (hR.slot' het (by simp)) rfl⟩
    | pin A v =>
      simp only [het] at h
      split at h
      · rename_i h1; cases h1
      · rename_i ks vs v' h1
        injection h1 with h1 h2
        subst h1 h2
        refine ⟨ks, vs, h, fun {κ Z β w a} hR => ?_⟩
        have hp := ORep.toP (hR.slot' het (by simp)) rfl
        rw [eval_tmp]
        generalize vals a t = u at hp
        cases hp with
        | pin A v hp => exact hp
      · exact h.elim
    | _ => simp only [het] at h; exact h.elim
  | _ => exact h.elim

noncomputable def rdRange (P : Program) (T d : Nat) (x : Operand) : Rd := .need ((mpT P T).isSome = true) (rdPMap x fun ks vs => .ret [.set d (.oiter ks vs [])])

theorem rdRange_sound {P : Program} {κ : Con} {o : Oper} {e : Env} {ws : List Wr} {T d : Nat} {x : Operand} (ho : o.op = .range T x) (hd : o.dst = some d) (hn : (κ.lim.1 ≤ d ∧ d < κ.lim.2)) (h : (rdRange P T d x).Wo e ws) : Does P κ o e ws := by
  obtain ⟨hT, h⟩ := h
  obtain ⟨ks, vs, h, hm⟩ := rdPMap_sound h
  have h' : ws = _ := h
  subst h'
  obtain ⟨⟨K, E⟩, hKE⟩ := Option.isSome_iff_exists.1 hT
  have hu := mpT_spec hKE
  refine does_value hd hn fun a w Z β hR => ?_
  have hp := hm hR
  generalize hv : a.eval x = v at hp
  cases hp with
  | pmap ks vs b es kf vf hb h1 h2 he hk hvv =>
    have hb' := hR.zh _ _ hb
    have hrun : (execOp a.eval o).run P w = .ok (.value (.pointer (some ⟨w.heap.size, 0, none⟩))) (w.alloc (.mapIter (some b) ks.length #[] ks.length)) := by
      simp only [execOp, ho]
      rw [hv]
      simp [Instr.range, Sem.run_bind, run_underlying hu, getObj, Sem.run, hb', newObj]
    have hori := ORep.oiter (Z := Z) (H := (w.alloc (.mapIter (some b) ks.length #[] ks.length)).heap) (β := withB (viaF (gaF (srcOf []) (srcs []) d) β) d w.heap.size) (p := [d]) ks vs [] w.heap.size b es kf vf (by simp [withB]) (heap_alloc_new w _) hb h1 h2 he hk hvv
    have := hR.bigParts (srcs []) d (gaF (srcOf []) (srcs []) d) (.oiter ks vs []) (.pointer (some ⟨w.heap.size, 0, none⟩)) (withB (viaF (gaF (srcOf []) (srcs []) d) β) d w.heap.size) (w' := w.alloc (.mapIter (some b) ks.length #[] ks.length)) rfl rfl rfl (by simp) (fun b hb => Below.heap_alloc w _ b hb) (gaF_keep _ _ _) (.inr ⟨rfl, by simp⟩) (gaF_inj (by simp [srcOf]) (by simp [srcOf])) hori (by simp)
    exact ⟨_, _, Z, _, hrun, by simpa [srcs] using this⟩

noncomputable def rdEntry (d : Nat) (x : Operand) : Rd := match x with
  | .tmp t => .get t fun v => match v with
    | .oiter ks vs seen => .ex Nat fun j => .ex AV fun K => .ex AV fun V => .need (seen.getLast? = some j ∧ ks[j]? = some K ∧ vs[j]? = some V) (.ret [.set d (.tup [K, V])])
    | _ => .fail
  | _ => .fail

theorem born_nodup {es : Array MapEntry} {n : Nat} {kf vf : Nat → Value} (h1 : es.size = n) (he : ∀ i, i < n → es[i]? = some ⟨kf i, vf i, i⟩) : es.toList.map (·.born) = List.range n := by
  apply List.ext_getElem?
  intro i
  rw [List.getElem?_map, Array.getElem?_toList]
  by_cases hi : i < n
  · rw [he i hi, List.getElem?_range hi]; rfl
  · rw [Array.getElem?_eq_none (by omega), List.getElem?_eq_none (by simp; omega)]; rfl

theorem rdEntry_sound {P : Program} {κ : Con} {o : Oper} {e : Env} {ws : List Wr} {d : Nat} {x : Operand} (ho : o.op = .entry x) (hd : o.dst = some d) (hn : (κ.lim.1 ≤ d ∧ d < κ.lim.2)) (h : (rdEntry d x).Wo e ws) : Does P κ o e ws := by
  cases x with
  | tmp t =>
    obtain ⟨hj, h⟩ := h
    cases het : e t with
    | oiter ks vs seen =>
      simp only [het] at h
      obtain ⟨j, K, V, ⟨hs, hK, hV⟩, h⟩ := h
      have h' : ws = _ := h
      subst h'
      obtain ⟨s0, rfl⟩ : ∃ s0, seen = s0 ++ [j] := List.getLast?_eq_some_iff.1 hs
      refine does_value hd hn fun a w Z β hR => ?_
      have hO := hR.slot' het (by simp)
      generalize hv : vals a t = v at hO
      cases hO with
      | pers h => cases h
      | oiter ks vs seen r m es kf vf hb hz hm h1 h2 he hk hvv =>
        have hj : j < ks.length := (List.getElem?_eq_some_iff.1 hK).1
        have hjv : j < vs.length := by omega
        rw [List.getElem?_eq_getElem hj] at hK
        rw [List.getElem?_eq_getElem hjv] at hV
        injection hK with hK
        injection hV with hV
        have hmem : (⟨kf j, vf j, j⟩ : MapEntry) ∈ es.toList := by
          have : es.toList[j]? = some ⟨kf j, vf j, j⟩ := by rw [Array.getElem?_toList]; exact he j hj
          exact List.mem_of_getElem? this
        have hrun := run_entry_at (P := P) w r m ks.length s0.toArray es ks.length ⟨kf j, vf j, j⟩ (by rw [hz]; simp) (hR.zh _ _ hm) hmem (by rw [born_nodup h1 he]; exact List.nodup_range)
        refine ⟨.tuple #[kf j, vf j], w, Z, β, ?_, hR.put d (.tup [K, V] #[kf j, vf j] rfl fun i hi => ?_) (by simp)⟩
        · simp only [execOp, ho, eval_tmp]
          rw [hv]
          simp [Sem.run_bind, hrun]
        · have hi' : i = 0 ∨ i = 1 := by simp at hi; omega
          rcases hi' with rfl | rfl
          · simpa [← hK] using hk j hj
          · simpa [← hV] using hvv j hjv
    | _ => simp only [het] at h; exact h.elim
  | _ => exact h.elim

def UpdOK (P : Program) (K : Nat) (ks vs : List AV) (X V : AV) (ks' vs' : List AV) : Prop :=
  kkT P K ≠ 0 ∧ kOK (kkT P K) X ∧ (∀ Y ∈ ks, kOK (kkT P K) Y) ∧ isP V = true ∧ V ≠ .junk ∧ ((X ∈ ks ∧ ks' = ks ∧ ∀ i : Nat, ks[i]? = some X → vs' = vs.set i V) ∨ (X ∉ ks ∧ ks' = ks ++ [X] ∧ vs' = vs ++ [V]))

noncomputable def rdUpdAt (P : Program) (K : Nat) (y z : Operand) (s : Nat) (p : List Nat) (ks vs : List AV) : Rd :=
  rdX y fun X => rdX z fun V => .ex (List AV) fun ks' => .ex (List AV) fun vs' => .need (UpdOK P K ks vs X V ks' vs') (.ret [.mod s p (.omap ks' vs')])

noncomputable def rdMapUpd (P : Program) (T : Nat) (x y z : Operand) : Rd := match mpT P T, x with
  | some (K, _), .tmp t => .get t fun v => match v with
    | .omap ks vs => rdUpdAt P K y z t [] ks vs
    | .alias s q => .get s fun c => rdGetP c q fun X => match X with
      | .omap ks vs => rdUpdAt P K y z s q ks vs
      | _ => .fail
    | _ => .fail
  | _, _ => .fail

theorem block_same {w : World} {b : Nat} {o o' : Obj} (h : w.heap[b]? = some o) : (setBlock w b o').heap[b]? = some o' := by
  have := (Array.getElem?_eq_some_iff.1 h).1
  simp [setBlock, this]
theorem block_other {w : World} {b b' : Nat} {o' : Obj} (h : b' ≠ b) : (setBlock w b o').heap[b']? = w.heap[b']? := by
  simp only [setBlock]
  exact Array.getElem?_setIfInBounds_ne (Ne.symm h)

theorem rdUpdAt_sound {P : Program} {κ : Con} {o : Oper} {e : Env} {ws : List Wr} {T K E : Nat} {x y z : Operand} (hKE : mpT P T = some (K, E)) (ho : o.op = .mapUpdate T x y z ∨ o.op = .insert T x y z) (hd : o.dst = none) {s : Nat} {p : List Nat} {ks vs : List AV}
    (hg : getP (e s) p = some (.omap ks vs)) (hx : ∀ {Z β w} {a : Act}, Rep κ Z β e (vals a) w → ORep Z w.heap β (s :: p) (.omap ks vs) (a.eval x)) (h : (rdUpdAt P K y z s p ks vs).Wo e ws) : Does P κ o e ws := by
  have hu := mpT_spec hKE
  obtain ⟨X, h, hXj, hX⟩ := rdX_sound h
  obtain ⟨V, h, hVj, hV⟩ := rdX_sound h
  obtain ⟨ks', vs', ⟨hK, hkX, hks, hVp, hVn, hup⟩, h⟩ := h
  have h' : ws = _ := h
  subst h'
  have S := keySem (P := P) (K := K) rfl hK
  have hpl := plain_of_own hg rfl
  refine does_skip hd fun a w Z β hR => ?_
  have hxv := hX hR (kOK_isP hkX)
  have hvv := hV hR hVp
  have hO := hx hR
  generalize hxe : a.eval x = m at hO
  cases hO with
  | pers h => cases h
  | omap ks vs b es kf vf hb hz h1 h2 he hk hv =>
    have hck := S.check w false hkX hxv
    have hnew := hR.bo _ b hb
    have fin : ∀ (es' : Array MapEntry) (kf' vf' : Nat → Value), (Instr.mapUpdate T (.map (some b)) (a.eval y) (a.eval z)).run P w = .ok () (setBlock w b (.map es' ks'.length)) → es'.size = ks'.length → vs'.length = ks'.length → (∀ i, i < ks'.length → es'[i]? = some ⟨kf' i, vf' i, i⟩) →
        (∀ i (h : i < ks'.length), PRep Z ks'[i] (kf' i)) → (∀ i (h : i < vs'.length), PRep Z vs'[i] (vf' i)) → ∃ w' Z' β', (execOp a.eval o).run P w = .ok .skip w' ∧ Rep κ Z' β' (apps [Wr.mod s p (.omap ks' vs')] e) (vals a) w' := by
      intro es' kf' vf' hrun g1 g2 g3 g4 g5
      have hH : (setBlock w b (.map es' ks'.length)).heap[b]? = some (.map es' ks'.length) := block_same hz
      have hO := fun b' (hb' : b' ≠ b) => block_other (w := w) (o' := .map es' ks'.length) hb'
      refine ⟨_, Z, β, ?_, hR.mod (w' := setBlock w b (.map es' ks'.length)) s p (.omap ks vs) (.omap ks' vs') hg hpl.2 (by simp) hpl.1 rfl rfl rfl (by simp [setBlock]) (fun b' hn' _ => hO b' fun e0 => hn' (e0 ▸ hnew.1)) (fun _ _ h => h) (fun _ _ h => .inl h) (fun b' o' ho' => ?_) (fun r b' _ _ hpre hb' => ⟨hb', hO b' fun e0 => ?_⟩) hR.inj (fun q b' hp => by simpa [setBlock] using hR.bo q b' hp) (fun v0 hv0 => ?_) (fun _ q' C hq' _ hC' => getP_own_up hg hq' rfl hC')⟩
      · rcases ho with ho | ho <;> (simp only [execOp, ho]; rw [hxe]; simp [Sem.run_bind, hrun])
      · rw [hO b' fun e0 => by rw [e0, hnew.2.1] at ho'; cases ho']
        exact hR.zh b' o' ho'
      · subst e0
        have := hR.inj _ _ _ hb' hb
        exact hpre (this ▸ List.prefix_refl _)
      · cases hv0 with
        | pers h => cases h
        | omap ks vs b2 es2 kf2 vf2 hb2 hz2 k1 k2 k3 k4 k5 =>
          rw [hb] at hb2; injection hb2 with hb2; subst hb2
          exact .omap ks' vs' b es' kf' vf' hb hH g1 g2 g3 g4 g5
    rcases map_find S (w := w) hR.zh h1 h2 he hk hkX hks hxv with ⟨g1, g2⟩ | ⟨j, hj, g1, g2, g3⟩
    · rcases hup with ⟨hm, -⟩ | ⟨-, rfl, rfl⟩
      · exact absurd hm g2
      refine fin (es.push ⟨a.eval y, a.eval z, ks.length⟩) (fun i => if i < ks.length then kf i else a.eval y) (fun i => if i < ks.length then vf i else a.eval z) ?_ (by simp [h1]) (by simp [h2]) (fun i hi => ?_) (fun i hi => ?_) (fun i hi => ?_)
      · simp [Instr.mapUpdate, Sem.run_bind, run_underlying hu, getObj, Sem.run, hz, hck, g1, MapKept.run_setObj_map _ hz, setBlock]
      · simp only [List.length_append, List.length_cons, List.length_nil] at hi
        by_cases hi2 : i < ks.length
        · rw [if_pos hi2, if_pos hi2, Array.getElem?_push, if_neg (by omega)]; exact he i hi2
        · have : i = es.size := by omega
          subst this
          rw [if_neg hi2, if_neg hi2, Array.getElem?_push, if_pos rfl, h1]
      · by_cases hi2 : i < ks.length
        · rw [if_pos hi2, List.getElem_append_left hi2]; exact hk i hi2
        · rw [if_neg hi2, List.getElem_append_right (by omega)]; simpa using hxv
      · by_cases hi2 : i < ks.length
        · rw [if_pos hi2, List.getElem_append_left (by omega)]; exact hv i (by omega)
        · rw [if_neg hi2, List.getElem_append_right (by omega)]; simpa using hvv
    · rcases hup with ⟨-, rfl, hset⟩ | ⟨hm, -⟩
      case inr => exact absurd (g2 ▸ List.getElem_mem hj) hm
      have hvs := hset j (by rw [List.getElem?_eq_getElem hj, g2])
      subst hvs
      have hej := he j hj
      refine fin (es.modify j fun e => { e with key := a.eval y, val := a.eval z }) (fun i => kf i) (fun i => if i = j then a.eval z else vf i) ?_ (by simp [h1]) (by simp [h2]) (fun i hi => ?_) hk (fun i hi => ?_)
      · simp [Instr.mapUpdate, Sem.run_bind, run_underlying hu, getObj, Sem.run, hz, hck, g1, MapKept.run_setObj_map _ hz, setBlock, hej, g3, S.stays w hkX hxv]
      · rw [Array.getElem?_modify]
        by_cases hij : j = i
        · subst hij; rw [if_pos rfl, hej, if_pos rfl]; simp [g3]
        · rw [if_neg hij, he i hi, if_neg (Ne.symm hij)]
      · by_cases hij : i = j
        · subst hij; rw [if_pos rfl, List.getElem_set_self]; exact hvv
        · rw [if_neg hij, List.getElem_set_ne (Ne.symm hij)]; exact hv i (by simpa using hi)

theorem rdMapUpd_sound {P : Program} {κ : Con} {o : Oper} {e : Env} {ws : List Wr} {T : Nat} {x y z : Operand} (ho : o.op = .mapUpdate T x y z ∨ o.op = .insert T x y z) (hd : o.dst = none) (h : (rdMapUpd P T x y z).Wo e ws) : Does P κ o e ws := by
  unfold rdMapUpd at h
  split at h
  case h_2 => exact h.elim
  rename_i K E t hKE
  obtain ⟨hj, h⟩ := h
  cases het : e t with
  | omap ks vs =>
    simp only [het] at h
    exact rdUpdAt_sound hKE ho hd (by rw [het]; rfl) (fun hR => hR.slot' het (by simp)) h
  | alias s q =>
    simp only [het] at h
    obtain ⟨_, X, hg, h⟩ := h
    dsimp only at h
    split at h
    · exact rdUpdAt_sound hKE ho hd hg (fun hR => hR.aliasAt het _ hg rfl) h
    · exact h.elim
  | _ => simp only [het] at h; exact h.elim

end Go.Proofs.Ytehdfifncbokeaa

namespace Go.Proofs.Ytehdfifncbokeaa
set_option linter.unusedSimpArgs false
set_option linter.unusedVariables false
set_option maxRecDepth 8000
set_option maxHeartbeats 2000000
open Go Go.RowKit AV

section
variable (P : Program)
def recOK (E n : Nat) : Bool := match P.info? E with
  | some i => i.size == n && decide (2 ≤ n) && decide (n ≤ 64) && decide (i.bytes ≤ 64) && (match i.zero with
    | some z => z.cells.size == n
    | none => false)
  | none => false
def recT (T : Nat) : Nat := match slE P T with
  | some e => (match aggT P e, szT P e with
    | some true, some n => if recOK P e n then n else 0
    | _, _ => 0)
  | none => 0
end

theorem recT_spec {P : Program} {T n : Nat} (h : recT P T = n) (h0 : n ≠ 0) : ∃ E i z, P.underlying T = some (.slice E) ∧ P.info? E = some i ∧ i.size = n ∧ 2 ≤ n ∧ n ≤ 64 ∧ i.bytes ≤ 64 ∧ i.zero = some z ∧ z.cells.size = n := by
  unfold recT at h
  cases hs : slE P T with
  | none => simp [hs] at h; omega
  | some E =>
    simp only [hs] at h
    obtain ⟨E', hE'⟩ := slE_spec (P := P) (T := T) (by simp [hs])
    have hEE : E' = E := by simpa [slE, hE'] using hs
    subst hEE
    split at h
    · rename_i m _ _
      split at h
      · rename_i hr
        subst h
        unfold recOK at hr
        cases hi : P.info? E' with
        | none => simp [hi] at hr
        | some i =>
          simp only [hi] at hr
          cases hz : i.zero with
          | none => simp [hz] at hr
          | some z =>
            simp [hz] at hr
            exact ⟨E', i, z, hE', hi, hr.1.1.1.1, hr.1.1.1.2, hr.1.1.2, hr.1.2, hz, hr.2⟩
      · omega
    · omega

theorem run_indexAtR {P : Program} {w : World} {T b o m c n : Nat} {k : IntKind} {j : Int} (h : recT P T = n) (hn : n ≠ 0) (h0 : 0 ≤ j) (h1 : j.toNat < m) :
    (Instr.indexAt T (.slice (some ⟨b, o, none⟩) m c) (.int k j)).run P w = .ok (.pointer (some ⟨b, o + j.toNat * n, none⟩)) w := by
  obtain ⟨E, i, z, hu, hi, hi1, _⟩ := recT_spec h hn
  have hadd : ∀ x, (⟨b, o, none⟩ : Addr).add x = ⟨b, o + x, none⟩ := by intro x; unfold Addr.add; split <;> simp_all
  have h2 : j < m := by omega
  simp [Instr.indexAt, asIntOf, run_underlying hu, h0, h2, sizeOf, typeInfo, hi, hi1, hadd]

noncomputable def rdIndexR (P : Program) (T d : Nat) (x i : Operand) : Rd := match x with
  | .tmp t => rdX i fun I => match I with
    | .num _ j => .peek t fun h => match h with
      | .srec _ _ => .get t fun v => match v with
        | .srec n l => .need (n = recT P T ∧ n ≠ 0 ∧ 0 ≤ j) (.ex (List AV) fun a => .need (a.length = n ∧ a <+: l.drop (j.toNat * n)) (.ret [.set d (.pbox a)]))
        | _ => .fail
      | .alias s q => .need (s ≠ d) (.get s fun c => rdGetP c q fun X => match X with
        | .orec n l => .need (n = recT P T ∧ n ≠ 0 ∧ 0 ≤ j ∧ j.toNat * n + n ≤ l.length) (.ret [.set d (.addr s (q ++ [j.toNat * n]))])
        | _ => .fail)
      | _ => .fail
    | _ => .fail
  | _ => .fail

theorem mul_lt_of {j n m : Nat} (h : j * n + n ≤ m * n) (hn : n ≠ 0) : j < m := by
  have : (j + 1) * n ≤ m * n := by rw [Nat.add_mul, Nat.one_mul]; exact h
  have := Nat.le_of_mul_le_mul_right this (by omega)
  omega

theorem rdIndexR_sound {P : Program} {κ : Con} {o : Oper} {e : Env} {ws : List Wr} {T d : Nat} {x i : Operand} (ho : o.op = .indexAddr T x i) (hd : o.dst = some d) (hn : (κ.lim.1 ≤ d ∧ d < κ.lim.2)) (h : (rdIndexR P T d x i).Wo e ws) : Does P κ o e ws := by
  have hrun : ∀ (a : Act) (w : World) (u : Value), (Instr.indexAt T (a.eval x) (a.eval i)).run P w = .ok u w → (execOp a.eval o).run P w = .ok (.value u) w := by
    intro a w u hu
    simp only [execOp, ho]
    rw [Sem.run_bind, hu]
    rfl
  cases x with
  | tmp t =>
    obtain ⟨I, h, -, hI⟩ := rdX_sound h
    cases I with
    | num k j =>
      obtain ⟨hj, h⟩ := h
      refine does_value hd hn fun a w Z β hR => ?_
      have hiv := hI hR rfl
      generalize hie : a.eval i = iv at hiv
      cases hiv
      cases het : e t with
      | srec n l =>
        simp only [het, head] at h
        obtain ⟨_, h⟩ := h
        simp only [het] at h
        obtain ⟨⟨hnT, hn0, h0⟩, A, ⟨hAl, hAp⟩, h⟩ := h
        have h' : ws = _ := h
        subst h'
        obtain ⟨r, hr⟩ := hAp
        have hle : j.toNat * n + n ≤ l.length := by
          have := congrArg List.length hr
          simp at this; omega
        have hget : ∀ k (hk : k < A.length), ∃ h2 : j.toNat * n + k < l.length, A[k] = l[j.toNat * n + k] := by
          intro k hk
          have h1 : (A ++ r)[k]? = (l.drop (j.toNat * n))[k]? := by rw [hr]
          rw [List.getElem?_append_left hk, List.getElem?_eq_getElem hk, List.getElem?_drop] at h1
          obtain ⟨h2, h3⟩ := List.getElem?_eq_some_iff.1 h1.symm
          exact ⟨h2, h3.symm⟩
        have hp := ORep.toP (hR.slot' het (by simp)) rfl
        generalize hvv : vals a t = vv at hp
        cases hp with
        | rnil => simp at hle; omega
        | srec n m l b of c cs E fz us hz hl h1 h2 hu h3 hk =>
          have hjm : j.toNat < m := mul_lt_of (by rw [← hl]; exact hle) hn0
          have hc : ∀ k, k < A.length → cs.getD (of + j.toNat * n + k) undef = us (j.toNat * n + k) ∧ of + j.toNat * n + k < cs.size := fun k hk' => by
            have h4 := hu (j.toNat * n + k) (by omega)
            rw [← Nat.add_assoc] at h4
            exact ⟨by simp [Array.getD_eq_getD_getElem?, h4], (Array.getElem?_eq_some_iff.1 h4).1⟩
          refine ⟨_, w, Z, β, hrun a w (.pointer (some ⟨b, of + j.toNat * n, none⟩)) (by rw [eval_tmp, hvv, hie]; exact run_indexAtR hnT.symm hn0 h0 hjm), hR.put d (.pbox A b (of + j.toNat * n) cs E fz hz ?_ ?_ ?_) (by simp)⟩
          · have := (hc (n - 1) (by omega)).2
            omega
          · intro k hk'
            rw [(hc k hk').1]
            exact h3 _ (by omega)
          · intro k hk'
            rw [(hc k hk').1]
            obtain ⟨h4, h5⟩ := hget k hk'
            rw [h5]
            exact hk _ h4
      | alias s q =>
        simp only [het, head] at h
        obtain ⟨hsd, _, X, hl, h⟩ := h
        dsimp only at h
        split at h
        case h_2 => exact h.elim
        rename_i n l
        obtain ⟨⟨hnT, hn0, h0, hle⟩, h⟩ := h
        have h' : ws = _ := h
        subst h'
        have hs0 := hR.aliasAt het _ hl rfl
        generalize hvv : vals a t = vv at hs0
        cases hs0 with
        | pers h => cases h
        | rnil => simp at hle; omega
        | orec n m l b c cs E us hb hz hlm h1 h2 h3 hu h4 hk =>
          have hjm : j.toNat < m := mul_lt_of (by rw [← hlm]; exact hle) hn0
          refine ⟨_, w, Z, β, hrun a w (.pointer (some ⟨b, j.toNat * n, none⟩)) (by rw [eval_tmp, hvv, hie]; simpa using run_indexAtR (b := b) (o := 0) (c := c) hnT.symm hn0 h0 hjm), ?_⟩
          exact hR.addrPut d s q (j.toNat * n) b hsd fun A hA hAo => hb
      | _ => simp only [het, head] at h; exact h.elim
    | _ => exact h.elim
  | _ => exact h.elim

noncomputable def rdLoadR (P : Program) (tr : Bool) (T d : Nat) (x : Operand) : Rd := match x with
  | .tmp t => .peek t fun h => match h with
    | .addr s q => .need (s ≠ d) (.get s fun c => rdGetP c q.dropLast fun C => match C with
      | .orec n l => .ex (List AV) fun a => .need (n ≠ 0 ∧ szT P T = some n ∧ aggT P T = some true ∧ allP a = true ∧ a.length = n ∧ a <+: l.drop (q.getLastD 0)) (.ret [.set d (.agg a)])
      | _ => .fail)
    | _ => rdLoad P tr T d x
  | _ => .fail

theorem rdLoadR_sound {P : Program} {κ : Con} {o : Oper} {e : Env} {ws : List Wr} {tr : Bool} {T d : Nat} {x : Operand} (ho : o.op = .load T x) (hd : o.dst = some d) (hn : (κ.lim.1 ≤ d ∧ d < κ.lim.2)) (h : (rdLoadR P tr T d x).Wo e ws) : Does P κ o e ws := by
  cases x with
  | tmp t =>
    obtain ⟨hj, h⟩ := h
    cases het : e t with
    | addr s q =>
      simp only [het, head] at h
      obtain ⟨hsd, hsj, C, hC, h⟩ := h
      dsimp only at h
      split at h
      case h_2 => exact h.elim
      rename_i n l
      obtain ⟨A, ⟨hn0, hT1, hT2, hAP, hAl, r, hr⟩, h⟩ := h
      have h' : ws = _ := h
      subst h'
      refine does_value hd hn fun a w Z β hR => ?_
      obtain ⟨q0, k, b, rfl, hv, hb⟩ := hR.addrAt het
      rw [List.dropLast_concat] at hC
      have hk0 : (q0 ++ [k]).getLastD 0 = k := by simp
      rw [hk0] at hr
      have hpl := plain_of_own hC rfl
      obtain ⟨u0, hu0, _⟩ := ORep.place q0 (hR.slot s hpl.2) hC
      have hb' := hb _ hC rfl
      have hget : ∀ j (hj : j < A.length), ∃ h2 : k + j < l.length, A[j] = l[k + j] := by
        intro j hj
        have h1 : (A ++ r)[j]? = (l.drop k)[j]? := by rw [hr]
        rw [List.getElem?_append_left hj, List.getElem?_eq_getElem hj, List.getElem?_drop] at h1
        obtain ⟨h2, h3⟩ := List.getElem?_eq_some_iff.1 h1.symm
        exact ⟨h2, h3.symm⟩
      have hu0' : ORep Z w.heap β (s :: q0) (.orec n l) u0 := by simpa using hu0
      have hrun : ∀ (u : Value), (Instr.loadAt T (a.eval (.tmp t))).run P w = .ok u w → (execOp a.eval o).run P w = .ok (.value u) w := by
        intro u hu
        simp only [execOp, ho]
        rw [Sem.run_bind, hu]
        rfl
      have hle : A.length ≠ 0 → k + A.length ≤ l.length := fun h0 => by
        have := (hget (A.length - 1) (by omega)).1
        omega
      have hA0 : A.length ≠ 0 := by omega
      · cases hu0' with
        | pers h => cases h
        | rnil => have h9 := hle hA0; simp only [List.length_nil] at h9; omega
        | orec n m l b2 c cs E us hb2 hz hlm h1 h2 h3 hu h4 hk =>
          rw [hb2] at hb'
          injection hb' with hb'
          subst hb'
          have hsz : l.length ≤ cs.size := by rw [← h2, hlm]; exact Nat.mul_le_mul_right _ h1
          obtain ⟨g1, g2⟩ := aggAt_spec A.length k cs
          refine ⟨.agg (aggAt A.length k cs), w, Z, β, hrun _ (by rw [eval_tmp, hv]; exact run_loadAt_aggR hT2 (by rw [hT1, hAl]) hz (by have := hle hA0; omega)), hR.put d (.agg A _ g1 fun j hj => ?_) (by simp)⟩
          rw [g2 j hj]
          obtain ⟨h5, h6⟩ := hget j hj
          have h7 := hu (k + j) h5
          have h8 : cs.getD (k + j) undef = us (k + j) := by simp [Array.getD_eq_getD_getElem?, h7]
          rw [h8, h6]
          exact ORep.toP (hk _ h5) (by rw [← h6]; exact (allP_iff A).1 hAP _ (List.getElem_mem hj))
    | _ =>
      simp only [het, head] at h
      exact rdLoad_sound ho hd hn h
  | _ => exact h.elim

noncomputable def rdLenRk (d n : Nat) (l : List AV) : Rd := .ex Nat fun m => .need (l.length = m * n ∧ n ≠ 0) (.ret [.set d (.num .i64 m)])
noncomputable def rdLenR (P : Program) (T d : Nat) (x : Operand) : Rd := match x with
  | .tmp t => .need ((slE P T).isSome = true) (.get t fun v => match v with
    | .srec n l => rdLenRk d n l
    | .orec n l => rdLenRk d n l
    | .alias s q => .get s fun c => rdGetP c q fun X => match X with
      | .orec n l => rdLenRk d n l
      | _ => .fail
    | _ => .fail)
  | _ => .fail

theorem mul_cancel {m m' n : Nat} (h : m * n = m' * n) (hn : n ≠ 0) : m = m' := Nat.eq_of_mul_eq_mul_right (by omega) h
theorem ORep.lenR {Z H β p n l v} (h : ORep Z H β p (.orec n l) v) {m : Nat} (hm : l.length = m * n) (hn : n ≠ 0) : ∃ A c, v = .slice A m c := by
  cases h with
  | pers h => cases h
  | rnil n =>
    have : m = 0 := by
      rcases Nat.mul_eq_zero.1 hm.symm with h | h
      · exact h
      · exact absurd h hn
    subst this
    exact ⟨_, _, rfl⟩
  | orec n m' l b c cs T us hb hz hlm =>
    have := mul_cancel (hlm.symm.trans hm) hn
    subst this
    exact ⟨_, _, rfl⟩
theorem PRep.lenR {Z n l v} (h : PRep Z (.srec n l) v) {m : Nat} (hm : l.length = m * n) (hn : n ≠ 0) : ∃ A c, v = .slice A m c := by
  cases h with
  | rnil n =>
    have : m = 0 := by
      rcases Nat.mul_eq_zero.1 hm.symm with h | h
      · exact h
      · exact absurd h hn
    subst this
    exact ⟨_, _, rfl⟩
  | srec n m' l b o c cs T fz us hz hlm =>
    have := mul_cancel (hlm.symm.trans hm) hn
    subst this
    exact ⟨_, _, rfl⟩

theorem rdLenR_sound {P : Program} {κ : Con} {o : Oper} {e : Env} {ws : List Wr} {T d : Nat} {x : Operand} (ho : o.op = .call { callee := .builtin .len, args := #[x], argTypes := #[T] }) (hd : o.dst = some d) (hn : (κ.lim.1 ≤ d ∧ d < κ.lim.2)) (h : (rdLenR P T d x).Wo e ws) : Does P κ o e ws := by
  cases x with
  | tmp t =>
    obtain ⟨hT, hj, h⟩ := h
    obtain ⟨E, hE⟩ := slE_spec hT
    have hrun : ∀ (a : Act) (w : World) A n c, vals a t = .slice A n c → (execOp a.eval o).run P w = .ok (.value (.int .i64 n)) w := by
      intro a w A n c hv
      simp [execOp, ho, resolve, invoke, builtin, eval_tmp, hv, Builtin.len_, run_underlying hE, goInt]
    refine does_value hd hn fun a w Z β hR => ?_
    cases het : e t with
    | srec n l =>
      simp only [het] at h
      obtain ⟨m, ⟨h1, h2⟩, h⟩ := h
      have h' : ws = _ := h
      subst h'
      obtain ⟨A, c, hv⟩ := PRep.lenR (ORep.toP (hR.slot' het (by simp)) rfl) h1 h2
      exact ⟨_, w, Z, β, hrun a w A _ c hv, hR.put d (.num _ _) (by simp)⟩
    | orec n l =>
      simp only [het] at h
      obtain ⟨m, ⟨h1, h2⟩, h⟩ := h
      have h' : ws = _ := h
      subst h'
      obtain ⟨A, c, hv⟩ := ORep.lenR (hR.slot' het (by simp)) h1 h2
      exact ⟨_, w, Z, β, hrun a w A _ c hv, hR.put d (.num _ _) (by simp)⟩
    | alias s q =>
      simp only [het] at h
      obtain ⟨_, X, hl, h⟩ := h
      dsimp only at h
      split at h
      case h_2 => exact h.elim
      obtain ⟨m, ⟨h1, h2⟩, h⟩ := h
      have h' : ws = _ := h
      subst h'
      obtain ⟨A, c, hv⟩ := ORep.lenR (hR.aliasAt het _ hl rfl) h1 h2
      exact ⟨_, w, Z, β, hrun a w A _ c hv, hR.put d (.num _ _) (by simp)⟩
    | _ => simp only [het] at h; exact h.elim
  | _ => exact h.elim

noncomputable def rdBuildR (P : Program) (T d n : Nat) (xs : List (Nat × Operand)) : Rd := match xs with
  | [(0, .tmp t)] => .need (n = 1 ∧ t ≠ d) (.get t fun v => match v with
    | .agg l => .need (l.length = recT P T ∧ recT P T ≠ 0 ∧ l.all one = true) (.ret [.set t .junk, .set d (.orec (recT P T) l)])
    | _ => .fail)
  | _ => .fail

theorem fill_whole {cs0 cs : Array Value} (h : cs.size = cs0.size) (i : Nat → Option (Nat × Nat)) (hi : i 0 = some (0, cs.size)) : Instr.fill i cs0 [(0, .agg cs)] = some cs := by
  have hc : (Value.agg cs).cells = cs := rfl
  simp only [Instr.fill, hi, hc, Nat.zero_add, h, ne_eq, not_true_eq_false, gt_iff_lt, Nat.lt_irrefl, decide_false, Bool.or_self, Bool.false_eq_true, if_false, Option.some.injEq, not_false_eq_true]
  have key : ∀ (l : List Value) (s : Nat) (acc : Array Value), (∀ k, k < l.length → cs[s + k]? = l[k]?) → s + l.length = cs.size → acc.size = cs.size → (∀ k, k < s → acc[k]? = cs[k]?) →
      (l.zipIdx s).foldl (fun (a : Array Value) x => a.setIfInBounds x.2 x.1) acc = cs := by
    intro l
    induction l with
    | nil =>
      intro s acc _ h2 h3 h4
      simp only [List.zipIdx_nil, List.foldl_nil]
      apply Array.ext'
      apply List.ext_getElem?
      intro k
      simp only [Array.getElem?_toList]
      by_cases hk : k < s
      · exact h4 k hk
      · have e1 : acc[k]? = none := by simp; simp at h2; omega
        have e2 : cs[k]? = none := by simp; simp at h2; omega
        rw [e1, e2]
    | cons x l ih =>
      intro s acc h1 h2 h3 h4
      simp only [List.zipIdx_cons, List.foldl_cons]
      refine ih (s + 1) _ (fun k hk => ?_) (by simp at h2; omega) (by simpa using h3) (fun k hk => ?_)
      · have := h1 (k + 1) (by simpa using hk)
        rw [show s + 1 + k = s + (k + 1) by omega, this]; simp
      · by_cases hks : k = s
        · subst hks
          have := h1 0 (by simp)
          simp only [Nat.add_zero, List.getElem?_cons_zero] at this
          have hlt : k < acc.size := by simp at h2; omega
          rw [this]; simp [hlt]
        · rw [Array.getElem?_setIfInBounds_ne (by omega)]
          exact h4 k (by omega)
  have := key cs.toList 0 cs0 (fun k _ => by simp) (by simp) h.symm (fun k hk => absurd hk (by omega))
  refine Eq.trans ?_ this
  rw [← Array.foldl_toList]
  simp [Array.toList_zipIdx]

theorem rdBuildR_sound {P : Program} {κ : Con} {o : Oper} {e : Env} {ws : List Wr} {T d n : Nat} {xs : Array (Nat × Operand)} (ho : o.op = .buildSlice T n xs) (hd : o.dst = some d) (hn : (κ.lim.1 ≤ d ∧ d < κ.lim.2)) (h : (rdBuildR P T d n xs.toList).Wo e ws) : Does P κ o e ws := by
  unfold rdBuildR at h
  split at h
  case h_2 => exact h.elim
  rename_i t hxs
  obtain ⟨⟨hn1, htd⟩, hj, h⟩ := h
  subst hn1
  cases het : e t with
  | agg l =>
    simp only [het] at h
    obtain ⟨⟨hlT, hT0, hone⟩, h⟩ := h
    have h' : ws = _ := h
    subst h'
    obtain ⟨E, i, z, hu, hi, hi1, hi2, hi64, hib, hz, hzs⟩ := recT_spec (P := P) (T := T) rfl hT0
    have hall : ∀ a ∈ l, one a = true := by simpa using hone
    refine does_value hd hn fun a w Z β hR => ?_
    have hO := hR.slot' het (by simp)
    obtain ⟨cs, hv, hcs, hk⟩ : ∃ cs : Array Value, vals a t = .agg cs ∧ cs.size = l.length ∧ ∀ k (h : k < l.length), ORep Z w.heap β [t, k] l[k] (cs.getD k undef) := by
      generalize vals a t = v at hO
      cases hO with
      | pers h => cases h with | agg l cs h1 hk => exact ⟨cs, rfl, h1, fun k h => .pers (hk k h)⟩
      | agg l cs h1 hk => exact ⟨cs, rfl, h1, hk⟩
    have hrun : (execOp a.eval o).run P w = .ok (.value (.slice (some ⟨w.heap.size, 0, none⟩) 1 1)) (w.alloc (.cells cs E)) := by
      have hps : (xs.map fun p => (p.1, a.eval p.2)).toList = [(0, Value.agg cs)] := by simp [hxs, eval_tmp, hv]
      have h24 : ¬ (16777216 < i.size) := by omega
      have hne : ¬ (i.size = 0) := by omega
      have hf := fill_whole (cs0 := (Array.range i.size).map (fun x => z.cells[x % z.cells.size]!)) (cs := cs) (by simp; omega) (fun j => some (j * i.size, i.size)) (by simp; omega)
      simp only [execOp, ho]
      simp only [Instr.buildSlice, hps]
      simp [run_underlying hu, sizeOf, typeInfo, zeroValue, hi, hz, h24, hne, newRow, hf]
    let F := apF none (some t) 0 d
    have hkeep := apF_keep none (some t) 0 d [t] (by simp) (by simp)
    have hinj := apF_inj (t1 := none) (t2 := some t) (n := 0) (d := d) (.inl rfl)
    have hori : ORep Z (w.alloc (.cells cs E)).heap (withB (viaF F β) d w.heap.size) [d] (.orec (recT P T) l) (.slice (some ⟨w.heap.size, 0, none⟩) 1 1) := by
      refine ORep.orec (recT P T) 1 l w.heap.size 1 cs E (fun k => cs.getD k undef) (by simp [withB]) (heap_alloc_new w _) (by omega) (Nat.le_refl _) (by omega) (by decide) (fun k hk' => by
        have : k < cs.size := by omega
        simp [Array.getD_eq_getD_getElem?, this]) (fun k hk' => ORep.one (hk k hk') (hall _ (List.getElem_mem hk'))) (fun k hk' => ?_)
      refine (hk k hk').move (fun _ _ h => h) fun r b hb => ⟨?_, Below.heap_alloc w _ b (hR.bo _ b hb).2.2⟩
      simpa [withB, viaF, F, apF] using hb
    exact ⟨_, _, Z, _, hrun, hR.bigParts [t] d F _ _ _ rfl rfl rfl (by simp) (fun b hb => Below.heap_alloc w _ b hb) hkeep (.inr ⟨rfl, by simp⟩) hinj hori (by simp)⟩
  | _ => simp only [het] at h; exact h.elim

theorem ORep.rowR {Z : Nat → Option Obj} {β : List Nat → Option Nat} {p : List Nat} {n : Nat} {l : List AV} {v : Value} {w : World} (h : ORep Z w.heap β p (.orec n l) v) :
    ∃ us : Nat → Value, (∀ k, k < l.length → (us k).oneCell' = true) ∧ (∀ k (h : k < l.length), ORep Z w.heap β (p ++ [k]) l[k] (us k)) ∧
      ((l = [] ∧ v = .slice none 0 0) ∨ ∃ m b c cs T, v = .slice (some ⟨b, 0, none⟩) m c ∧ β p = some b ∧ w.heap[b]? = some (.cells cs T (0, 0)) ∧ l.length = m * n ∧ m ≤ c ∧ c * n = cs.size ∧ c ≤ maxLen ∧ ∀ k, k < l.length → cs[k]? = some (us k)) := by
  cases h with
  | pers h => cases h
  | rnil => exact ⟨fun _ => undef, by simp, by simp, .inl ⟨rfl, rfl⟩⟩
  | orec n m l b c cs T us hb hz hl h1 h2 h3 hu h4 hk => exact ⟨us, h4, hk, .inr ⟨m, b, c, cs, T, rfl, hb, hz, hl, h1, h2, h3, hu⟩⟩

noncomputable def rdAppR (P : Program) (T T2 d : Nat) (x y : Operand) : Rd := match x, y with
  | .tmp t1, .tmp t2 => .need (recT P T ≠ 0 ∧ recT P T2 = recT P T ∧ t1 ≠ t2 ∧ t1 ≠ d ∧ t2 ≠ d) (.get t2 fun v2 => .get t1 fun v1 => match v1, v2 with
    | .orec n1 l, .orec n2 m => .need (n1 = recT P T ∧ n2 = recT P T ∧ l.length + m.length ≤ 1099511627776) (.ret [.set t1 .junk, .set t2 .junk, .set d (.orec n1 (l ++ m))])
    | _, _ => .fail)
  | _, _ => .fail

theorem rdAppR_sound {P : Program} {κ : Con} {o : Oper} {e : Env} {ws : List Wr} {T T2 d : Nat} {x y : Operand} (ho : o.op = .call { callee := .builtin .append, args := #[x, y], argTypes := #[T, T2] }) (hd : o.dst = some d) (hn : (κ.lim.1 ≤ d ∧ d < κ.lim.2)) (h : (rdAppR P T T2 d x y).Wo e ws) : Does P κ o e ws := by
  unfold rdAppR at h
  split at h
  case h_2 => exact h.elim
  rename_i t1 t2
  obtain ⟨⟨hT0, hT2, ht12, ht1d, ht2d⟩, hj2, hj1, h⟩ := h
  dsimp only at h
  split at h
  case h_2 => exact h.elim
  rename_i v1 v2 n1 l n2 m het1 het2
  obtain ⟨⟨hn1, hn2, hlen⟩, hw⟩ := h
  have hw' : ws = _ := hw
  subst hw'
  obtain ⟨E, i, z, hu, hi, hi1, hge2, hle64, hib, hz, hzs⟩ := recT_spec (P := P) (T := T) rfl hT0
  obtain ⟨E2, i2, z2, hu2, _⟩ := recT_spec (P := P) (T := T2) rfl (by rw [hT2]; exact hT0)
  subst hn1
  subst hn2
  generalize hN : recT P T = n at *
  refine does_value hd hn fun a w Z β hR => ?_
  obtain ⟨us1, hone1, hk1, hv1⟩ := ORep.rowR (hR.slot' het1 (by simp))
  obtain ⟨us2, hone2, hk2, hv2⟩ := ORep.rowR (hR.slot' het2 (by simp))
  have hrun : ∀ v w', (Builtin.append_ #[T, T2] o.type #[vals a t1, vals a t2]).run P w = .ok v w' → (execOp a.eval o).run P w = .ok (.value v) w' := by
    intro v w' hv
    simp [execOp, ho, resolve, invoke, builtin, eval_tmp, hv]
  have hS : ∃ M, m.length = M * n ∧ Src P n T2 (vals a t2) M (newsOf m.length us2) w := by
    have h1 : ∀ u ∈ newsOf m.length us2, u.oneCell' = true := by
      intro u hu
      simp only [newsOf, List.mem_map, List.mem_range] at hu
      obtain ⟨k, hk, rfl⟩ := hu
      exact hone2 k hk
    rcases hv2 with ⟨rfl, hv⟩ | ⟨M, b, c, cs, Tb, hv, hb, hzb, hlm, _, _, _, hcs⟩
    · rw [hv]; exact ⟨0, by simp, Src.ofNil w hu2 0⟩
    · rw [hv]
      refine ⟨M, hlm, Src.ofSlice w hu2 ⟨b, 0, none⟩ M c _ (by simp [newsOf, hlm]) (fun j u hj => ?_) h1⟩
      rw [Addr.add_mid]
      have hjn : j < m.length := by have := (List.getElem?_eq_some_iff.1 hj).1; simpa [newsOf] using this
      rw [newsOf_get hjn] at hj
      injection hj with hj
      rw [← hj]; exact cell_heap hzb (by simpa using hcs j hjn)
  obtain ⟨M, hM, hS⟩ := hS
  obtain ⟨L, hL, hv1⟩ : ∃ L, l.length = L * n ∧ ((l = [] ∧ L = 0 ∧ vals a t1 = .slice none 0 0) ∨ ∃ b c cs T, vals a t1 = .slice (some ⟨b, 0, none⟩) L c ∧ β [t1] = some b ∧ w.heap[b]? = some (.cells cs T (0, 0)) ∧ L ≤ c ∧ c * n = cs.size ∧ c ≤ maxLen ∧ ∀ k, k < l.length → cs[k]? = some (us1 k)) := by
    rcases hv1 with ⟨h1, h2⟩ | ⟨L, b, c, cs, T, g1, g2, g3, g4, g5⟩
    · exact ⟨0, by simp [h1], .inl ⟨h1, rfl, h2⟩⟩
    · exact ⟨L, g4, .inr ⟨b, c, cs, T, g1, g2, g3, g5⟩⟩
  have hn2 : 2 ≤ n := hge2
  have hLL : L ≤ l.length := by rw [hL]; exact Nat.le_mul_of_pos_right _ (by omega)
  have hMM : M ≤ m.length := by rw [hM]; exact Nat.le_mul_of_pos_right _ (by omega)
  have hkeep := apF_keep (some t1) (some t2) l.length d [t1, t2] (by simp) (by simp)
  have hinjF := apF_inj (t1 := some t1) (t2 := some t2) (n := l.length) (d := d) (.inr (by simpa using ht12))
  have hrep1 : ∀ k (h : k < l.length), ∀ (β' : List Nat → Option Nat) (H' : Array Obj), (∀ r b, viaF (apF (some t1) (some t2) l.length d) β (d :: k :: r) = some b → β' (d :: k :: r) = some b ∧ H'[b]? = w.heap[b]?) → ORep Z H' β' [d, k] l[k] (us1 k) := by
    intro k hk β' H' hβ
    refine (hk1 k hk).move (fun _ _ h => h) fun r b hr => ?_
    have := hβ r b (by simp [viaF, apF, hk]; simpa using hr)
    simpa using this
  have hrep2 : ∀ k (h : k < m.length), ∀ (β' : List Nat → Option Nat) (H' : Array Obj), (∀ r b, viaF (apF (some t1) (some t2) l.length d) β (d :: (l.length + k) :: r) = some b → β' (d :: (l.length + k) :: r) = some b ∧ H'[b]? = w.heap[b]?) → ORep Z H' β' [d, l.length + k] m[k] (us2 k) := by
    intro k hk β' H' hβ
    refine (hk2 k hk).move (fun _ _ h => h) fun r b hr => ?_
    have := hβ r b (by
      have : ¬ (l.length + k < l.length) := by omega
      simp [viaF, apF, this]; simpa using hr)
    simpa using this
  let us : Nat → Value := fun k => if k < l.length then us1 k else us2 (k - l.length)
  have hus : ∀ k, k < (l ++ m).length → (us k).oneCell' = true := by
    intro k hk
    simp only [List.length_append] at hk
    show (if k < l.length then us1 k else us2 (k - l.length)).oneCell' = true
    split
    · exact hone1 k (by assumption)
    · exact hone2 _ (by omega)
  have hLMn : l.length + m.length = (L + M) * n := by rw [hL, hM, Nat.add_mul]
  have fin : ∀ (β' : List Nat → Option Nat) (w' : World) (b c : Nat) (cs : Array Value) (Tb : TypeId), β' [d] = some b → w'.heap[b]? = some (.cells cs Tb (0, 0)) → L + M ≤ c → c * n = cs.size → c ≤ maxLen → (∀ k, k < l.length + m.length → cs[k]? = some (us k)) →
      (∀ k r b, viaF (apF (some t1) (some t2) l.length d) β (d :: k :: r) = some b → β' (d :: k :: r) = some b ∧ w'.heap[b]? = w.heap[b]?) → ORep Z w'.heap β' [d] (.orec n (l ++ m)) (.slice (some ⟨b, 0, none⟩) (L + M) c) := by
    intro β' w' b c cs Tb hb hzb h1 h2 h3 hcs hβ
    exact ORep.orec (Z := Z) (H := w'.heap) (β := β') (p := [d]) n (L + M) (l ++ m) b c cs Tb us hb hzb (by simpa using hLMn) h1 h2 h3 (fun k hk => hcs k (by simpa using hk)) hus (fun k hk => by
      simp only [List.length_append] at hk
      by_cases hkl : k < l.length
      · rw [List.getElem_append_left hkl]
        show ORep Z w'.heap β' [d, k] l[k] (if k < l.length then us1 k else us2 (k - l.length))
        rw [if_pos hkl]
        exact hrep1 k hkl β' w'.heap (hβ k)
      · rw [List.getElem_append_right (by omega)]
        show ORep Z w'.heap β' [d, k] m[k - l.length] (if k < l.length then us1 k else us2 (k - l.length))
        rw [if_neg hkl]
        have := hrep2 (k - l.length) (by omega) β' w'.heap (by rw [show l.length + (k - l.length) = k by omega]; exact hβ k)
        rwa [show l.length + (k - l.length) = k by omega] at this)
  have h48 : ∀ cap, cap < L + M → Builtin.nextslicecap (L + M) cap * i.bytes ≤ 281474976710656 := by
    intro cap hc
    refine growslice_fits hc ?_
    have := Nat.mul_le_mul (show L + M ≤ 1099511627776 by omega) hib
    omega
  have h63 : ((L + M : Nat) : Int) ≤ 9223372036854775807 := by omega
  have hws : ([Wr.set t1 .junk, .set t2 .junk, .set d (.orec n (l ++ m))] : List Wr) = (([t1, t2].map fun t => Wr.set t .junk) ++ [.set d (.orec n (l ++ m))]) := rfl
  have grow : ∀ (base : Option Addr) (cap : Nat), vals a t1 = .slice base L cap → (Builtin.firstCells i.size L (.slice base L cap)).run P w.drew = .ok (newsOf l.length us1).toArray w.drew → cap < L + M →
      ∃ u w' Z' β', (execOp a.eval o).run P w = .ok (.value u) w' ∧ Rep κ Z' β' (apps (([t1, t2].map fun t => Wr.set t .junk) ++ [.set d (.orec n (l ++ m))]) e) (setV (vals a) d u) w' := by
    intro base cap hx hfc hc
    have hg := run_append_grow_src w T T2 o.type E i z hu hi hz base L cap (newsOf l.length us1) hfc (vals a t2) M (newsOf m.length us2) (by rw [hi1]; exact hS) hc h63 (h48 cap hc)
    have hge := grownCap_ge w (L + M) cap E
    have hle := grownCap_le_maxLen w (L + M) cap E (by unfold maxLen; omega)
    generalize hgc : grownCap w (L + M) cap E = gc at hg hge hle
    generalize hcs : ((newsOf l.length us1 ++ newsOf m.length us2).toArray ++ Builtin.zeroCells z.cells (gc - (L + M))) = cs at hg
    have hcsz : gc * n = cs.size := by
      rw [← hcs]; simp only [Array.size_append, List.size_toArray, List.length_append, newsOf, List.length_map, List.length_range, size_zeroCells, hzs]
      rw [hLMn, ← Nat.add_mul]
      congr 1; omega
    have hck : ∀ k, k < l.length + m.length → cs[k]? = some (us k) := by
      intro k hk
      rw [← hcs]
      rw [Array.getElem?_append_left (by simp [newsOf]; omega)]
      simp only [List.getElem?_toArray]
      by_cases hkl : k < l.length
      · rw [List.getElem?_append_left (by simpa [newsOf] using hkl), newsOf_get hkl]
        simp [us, hkl]
      · rw [List.getElem?_append_right (by simp [newsOf]; omega)]
        simp only [newsOf, List.length_map, List.length_range]
        have := newsOf_get (us := us2) (show k - l.length < m.length by omega)
        simp only [newsOf] at this
        rw [this]
        simp [us, hkl]
    have hori := fin (withB (viaF (apF (some t1) (some t2) l.length d) β) d w.heap.size) (w.drew.alloc (.cells cs E)) w.heap.size gc cs E (by simp [withB]) (heap_alloc_new w.drew _) hge hcsz hle hck (fun k r b hb => ⟨by simpa [withB] using hb, Below.heap_alloc w.drew _ b (by
      have := viaF_bo (Q := fun b => b < w.heap.size) (fun p b hp => (hR.bo p b hp).2.2) _ b hb; exact this)⟩)
    refine ⟨_, _, Z, withB (viaF (apF (some t1) (some t2) l.length d) β) d w.heap.size, hrun _ _ (by rw [hx]; exact hg), ?_⟩
    exact hR.bigParts [t1, t2] d (apF (some t1) (some t2) l.length d) _ _ _ rfl rfl rfl (by show w.heap.size ≤ (w.drew.alloc _).heap.size; simp) (fun b hb => Below.heap_alloc w.drew _ b hb) hkeep (.inr ⟨rfl, by show w.heap.size < (w.drew.alloc _).heap.size; simp⟩) hinjF hori (by simp)
  rw [hws]
  rcases hv1 with ⟨hl0, hL0, hx⟩ | ⟨b, c, cs, Tb, hx, hb, hzb, hlc, hcc, hcm, hcs⟩
  · subst hl0
    subst hL0
    by_cases hm0 : M = 0
    · subst hm0
      have hm00 : m = [] := List.eq_nil_of_length_eq_zero (by simpa using hM)
      subst hm00
      have hn := hS.newsLen
      have hap : (Builtin.append_ #[T, T2] o.type #[vals a t1, vals a t2]).run P w = .ok (.slice none 0 0) w := by
        rw [hx]
        have hl := hS.len w
        have hc := hS.cells
        simp only [List.length_nil] at hl hc
        simp [Builtin.append_, run_underlying hu, run_underlying hu2, sizeOf, typeInfo, hi, hi1, hl, hc, newsOf]
      refine ⟨_, w, Z, viaF (apF (some t1) (some t2) 0 d) β, hrun _ _ hap, ?_⟩
      exact hR.bigParts [t1, t2] d (apF (some t1) (some t2) 0 d) (.orec n ([] ++ [])) _ _ rfl rfl rfl (Nat.le_refl _) (fun b hb => rfl) hkeep (.inl rfl) hinjF (.rnil n) (by simp)
    · refine grow none 0 hx ?_ (by omega)
      have := run_firstCells_none (P := P) w.drew i.size 0 0 0
      simpa [newsOf] using this
  · have hbV : viaF (apF (some t1) (some t2) l.length d) β [d] = some b := by simp [viaF, apF]; exact hb
    by_cases hroom : L + M ≤ c
    · have hcap : l.length + m.length ≤ cs.size := by rw [hLMn, ← hcc]; exact Nat.mul_le_mul_right _ hroom
      have hLs : L * i.size = l.length := by rw [hi1, hL]
      have hrm := run_append_room_src w T T2 o.type E i hu hi b 0 L c (vals a t2) M (newsOf m.length us2) (by rw [hi1]; exact hS) hroom (fun j hj => by
          simp [newsOf] at hj
          rw [cell_of_row w b _ cs Tb (0, 0) hzb, hLs]
          simp; omega) (fun j hj => by simp [World.frozen?, hzb])
      rw [hLs, Nat.zero_add] at hrm
      obtain ⟨cs', g1, g2, g3, g4, g5, g6, g7, g8, g9, g10⟩ := setCells_heap (newsOf m.length us2) l.length w cs hzb (by simp [newsOf]; omega)
      have hck : ∀ k, k < l.length + m.length → cs'[k]? = some (us k) := by
        intro k hk
        by_cases hkl : k < l.length
        · rw [g3 k hkl, hcs k hkl]; simp [us, hkl]
        · have := g4 (k - l.length) (by simp [newsOf]; omega)
          rw [show l.length + (k - l.length) = k by omega] at this
          rw [this, newsOf_get (by omega)]
          simp [us, hkl]
      have hinjV := viaF_inj hinjF hR.inj
      have hori := fin (viaF (apF (some t1) (some t2) l.length d) β) (w.setCells b l.length (newsOf m.length us2)) b c cs' Tb hbV g1 hroom (by rw [g2]; exact hcc) hcm hck (fun k r b' hb' => ⟨hb', g6 b' (by
        rintro rfl
        have := hinjV _ _ _ hb' hbV
        simp at this)⟩)
      refine ⟨_, _, Z, viaF (apF (some t1) (some t2) l.length d) β, hrun _ _ (by rw [hx]; exact hrm), ?_⟩
      rw [apps_append, apps_drops]
      show Rep κ Z _ ((Wr.set d (.orec n (l ++ m))).app (dropS [t1, t2] e)) _ _
      rw [← app_set_dropC]
      have hbo := viaF_bo (f := (apF (some t1) (some t2) l.length d)) hR.bo
      have hbb := hbo _ _ hbV
      refine hR.big [d, t1, t2] d (by simp) _ _ g8 g9 g10 (by rw [g7]; exact Nat.le_refl _) (fun b' hn _ => g6 b' (by rintro rfl; exact hn hbb.1)) (fun _ _ h => h) (fun _ _ h => .inl h)
        (fun b' o' ho' => by rw [g6 b' (by rintro rfl; rw [hbb.2.1] at ho'; cases ho')]; exact hR.zh b' o' ho') (fun r b' hr hn hb' => ⟨by simp [viaF, hkeep r hr hn, hb'], g6 b' ?_⟩) hinjV (fun p b' hp => by have := hbo p b' hp; rw [g7]; exact this) hori (by simp)
      rintro rfl
      have h1 : viaF (apF (some t1) (some t2) l.length d) β r = some b' := by simp [viaF, hkeep r hr hn, hb']
      have := hinjV _ _ _ h1 hbV
      subst this
      simp [root] at hn
    · refine grow (some ⟨b, 0, none⟩) c hx ?_ (by omega)
      have := run_firstCells_some (P := P) w.drew i.size L ⟨b, 0, none⟩ L c (newsOf l.length us1) (by rw [hi1]; simp only [newsOf, List.length_map, List.length_range]; exact hL) (fun j u hj => by
        rw [Addr.add_mid]
        have hjn : j < l.length := by have := (List.getElem?_eq_some_iff.1 hj).1; simpa [newsOf] using this
        rw [newsOf_get hjn] at hj
        injection hj with hj
        rw [← hj]
        show w.cell? _ = _
        exact cell_heap hzb (by simpa using hcs j hjn))
      exact this

noncomputable def rdAsg (P : Program) (ty d : Nat) (x : Operand) : Rd := match x with
  | .const (.slice none 0 0) => if recT P ty = 0 then rdMv true d x else .ret [.set d (.orec (recT P ty) [])]
  | _ => rdMv true d x
theorem rdAsg_sound {P : Program} {κ : Con} {o : Oper} {e : Env} {ws : List Wr} {ty d : Nat} {x : Operand} (ho : o.op = .assign x) (hd : o.dst = some d) (hn : (κ.lim.1 ≤ d ∧ d < κ.lim.2)) (h : (rdAsg P ty d x).Wo e ws) : Does P κ o e ws := by
  unfold rdAsg at h
  split at h
  · split at h
    · exact rdMv_sound (.inr ho) hd hn h
    · have h' : ws = _ := h
      subst h'
      refine does_value hd hn fun a w Z β hR => ⟨.slice none 0 0, w, Z, fun r => if root r = d then none else β r, by simp [execOp, ho, Act.eval], ?_⟩
      have := hR.big (Z' := Z) (w' := w) (β' := fun r => if root r = d then none else β r) [d] d (by simp) (.orec (recT P ty) []) (.slice none 0 0) rfl rfl rfl (Nat.le_refl _) (fun _ _ _ => rfl) (fun _ _ h => h) (fun _ _ h => .inl h) hR.zh (fun r b hr hn hb => ⟨by simp at hn; simp [hn, hb], rfl⟩) (fun p q b h1 h2 => by
        split at h1
        · cases h1
        · split at h2
          · cases h2
          · exact hR.inj _ _ _ h1 h2) (fun p b h1 => by
        split at h1
        · cases h1
        · exact hR.bo _ _ h1) (.rnil _) (by simp)
      rw [app_set_drop] at this
      exact this
  · exact rdMv_sound (.inr ho) hd hn h

end Go.Proofs.Ytehdfifncbokeaa

namespace Go.Proofs.Ytehdfifncbokeaa
set_option linter.unusedSimpArgs false
set_option linter.unusedVariables false
set_option maxRecDepth 8000
set_option maxHeartbeats 2000000
open Go Go.RowKit AV

section
variable (P : Program)
def stF (T f : Nat) : Option Nat := match P.underlying T with
  | some (.struct fs) => (match fs[f]? with
    | some fl => (match szT P fl.type with
      | some (_ + 1) => some fl.offset
      | _ => none)
    | none => none)
  | _ => none
def nestT (T : Nat) : Bool := match bPl P T with
  | some pl => pl.any fun x => x.2 != 1
  | none => false
end

theorem stF_spec {P : Program} {T f off : Nat} (h : stF P T f = some off) : ∃ fs fl n, P.underlying T = some (.struct fs) ∧ fs[f]? = some fl ∧ fl.offset = off ∧ szT P fl.type = some (n + 1) := by
  unfold stF at h
  split at h
  · rename_i fs hfs
    split at h
    · rename_i fl hfl
      split at h
      · rename_i n hn
        injection h with h
        exact ⟨fs, fl, n, hfs, hfl, h, hn⟩
      · cases h
    · cases h
  · cases h
theorem run_fieldAtF {P : Program} {w : World} {T f off b k : Nat} (h : stF P T f = some off) : (Instr.fieldAt T (.pointer (some ⟨b, k, none⟩)) f).run P w = .ok (.pointer (some ⟨b, k + off, none⟩)) w := by
  obtain ⟨fs, fl, n, hu, hf, ho, hs⟩ := stF_spec h
  obtain ⟨i, hi, hi1⟩ := szT_spec hs
  have hadd : (⟨b, k, none⟩ : Addr).add off = ⟨b, k + off, none⟩ := by unfold Addr.add; split <;> simp_all
  simp [Instr.fieldAt, run_underlying hu, hf, Instr.sureAddr, fieldPlace, sizeOf, typeInfo, hi, hi1, ho, hadd]

noncomputable def rdFieldN (P : Program) (T d t f : Nat) : Rd := match stF P T f with
  | some off => .peek t fun h => match h with
    | .box _ => .need (t ≠ d) (.ret [.set d (.addr t [off])])
    | .alias s q => .need (s ≠ d) (.get s fun c => rdGetP c q fun X => match X with
      | .box _ => .ret [.set d (.addr s (q ++ [off]))]
      | _ => .fail)
    | .addr s q => .need (s ≠ d) (.get s fun c => rdGetP c q.dropLast fun C => .need (isOwn C = true) (.ret [.set d (.addr s (q.dropLast ++ [q.getLastD 0 + off]))]))
    | _ => .fail
  | none => .fail
noncomputable def rdFieldX (P : Program) (T d : Nat) (x : Operand) (f : Nat) : Rd := match x with
  | .tmp t => .peek t fun h => match h with
    | .addr _ _ => rdFieldN P T d t f
    | _ => if (stO P T f).isSome then rdField P T d x f else rdFieldN P T d t f
  | _ => .fail

theorem rdFieldN_sound {P : Program} {κ : Con} {o : Oper} {e : Env} {ws : List Wr} {T d t f : Nat} (ho : o.op = .fieldAddr T (.tmp t) f) (hd : o.dst = some d) (hn : (κ.lim.1 ≤ d ∧ d < κ.lim.2)) (h : (rdFieldN P T d t f).Wo e ws) : Does P κ o e ws := by
  have hrun : ∀ (a : Act) (w : World) (u : Value), (Instr.fieldAt T (a.eval (.tmp t)) f).run P w = .ok u w → (execOp a.eval o).run P w = .ok (.value u) w := by
    intro a w u hu
    simp only [execOp, ho]
    rw [Sem.run_bind, hu]
    rfl
  unfold rdFieldN at h
  split at h
  case h_2 => exact h.elim
  rename_i off hoff
  obtain ⟨hj, h⟩ := h
  refine does_value hd hn fun a w Z β hR => ?_
  cases het : e t with
  | box l =>
    simp only [het, head] at h
    obtain ⟨htd, h⟩ := h
    have h' : ws = _ := h
    subst h'
    have hs0 := hR.slot' het (by simp)
    generalize hvv : vals a t = vv at hs0
    cases hs0 with
    | pers h => cases h
    | box l b cs E hb hz h1 h4 hk =>
      refine ⟨_, w, Z, β, hrun a w (.pointer (some ⟨b, off, none⟩)) (by rw [eval_tmp, hvv]; simpa using run_fieldAtF (b := b) (k := 0) hoff), ?_⟩
      refine hR.addrPut d t [] off b htd fun A hA hAo => ?_
      exact hb
  | alias s q =>
    simp only [het, head] at h
    obtain ⟨hsd, _, X, hl, h⟩ := h
    dsimp only at h
    split at h
    case h_2 => exact h.elim
    have h' : ws = _ := h
    subst h'
    have hs0 := hR.aliasAt het _ hl rfl
    generalize hvv : vals a t = vv at hs0
    cases hs0 with
    | pers h => cases h
    | box l b cs E hb hz h1 h4 hk =>
      refine ⟨_, w, Z, β, hrun a w (.pointer (some ⟨b, off, none⟩)) (by rw [eval_tmp, hvv]; simpa using run_fieldAtF (b := b) (k := 0) hoff), ?_⟩
      refine hR.addrPut d s q off b hsd fun A hA hAo => ?_
      exact hb
  | addr s q =>
    simp only [het, head] at h
    obtain ⟨hsd, _, C, hC, hCo, h⟩ := h
    have h' : ws = _ := h
    subst h'
    obtain ⟨q0, k, b, rfl, hv, hb⟩ := hR.addrAt het
    rw [List.dropLast_concat] at hC ⊢
    have hk0 : (q0 ++ [k]).getLastD 0 = k := by simp
    rw [hk0]
    refine ⟨_, w, Z, β, hrun a w (.pointer (some ⟨b, k + off, none⟩)) (by rw [eval_tmp, hv]; exact run_fieldAtF hoff), ?_⟩
    exact hR.addrPut d s q0 (k + off) b hsd fun A hA hAo => hb A hA hAo
  | _ => simp only [het, head] at h; exact h.elim

theorem rdFieldX_sound {P : Program} {κ : Con} {o : Oper} {e : Env} {ws : List Wr} {T d f : Nat} {x : Operand} (ho : o.op = .fieldAddr T x f) (hd : o.dst = some d) (hn : (κ.lim.1 ≤ d ∧ d < κ.lim.2)) (h : (rdFieldX P T d x f).Wo e ws) : Does P κ o e ws := by
  cases x with
  | tmp t =>
    obtain ⟨_, h⟩ := h
    dsimp only at h
    split at h
    · exact rdFieldN_sound ho hd hn h
    · split at h
      · exact rdField_sound ho hd hn h
      · exact rdFieldN_sound ho hd hn h
  | _ => exact h.elim

noncomputable def rdLoadX (P : Program) (tr : Bool) (T d : Nat) (x : Operand) : Rd := match x with
  | .tmp t => .peek t fun h => match h with
    | .addr s q => .need (s ≠ d) (.get s fun c => rdGetP c q.dropLast fun C => match C with
      | .box l => (match szT P T with
        | some n => .need (n ≠ 0 ∧ aggT P T = some true ∧ q.getLastD 0 + n ≤ l.length ∧ allP ((l.drop (q.getLastD 0)).take n) = true) (.ret [.set d (.agg ((l.drop (q.getLastD 0)).take n))])
        | none => .fail)
      | _ => rdLoadR P tr T d x)
    | _ => rdLoadR P tr T d x
  | _ => .fail

theorem rdLoadX_sound {P : Program} {κ : Con} {o : Oper} {e : Env} {ws : List Wr} {tr : Bool} {T d : Nat} {x : Operand} (ho : o.op = .load T x) (hd : o.dst = some d) (hn : (κ.lim.1 ≤ d ∧ d < κ.lim.2)) (h : (rdLoadX P tr T d x).Wo e ws) : Does P κ o e ws := by
  cases x with
  | tmp t =>
    obtain ⟨hj, h⟩ := h
    cases het : e t with
    | addr s q =>
      simp only [het, head] at h
      obtain ⟨hsd, hsj, C, hC, h⟩ := h
      dsimp only at h
      split at h
      case h_2 => exact rdLoadR_sound ho hd hn h
      rename_i l
      split at h
      case h_2 => exact h.elim
      rename_i n hT1'
      obtain ⟨⟨hn0, hT2, hkl, hAP⟩, h⟩ := h
      have h' : ws = _ := h
      subst h'
      refine does_value hd hn fun a w Z β hR => ?_
      obtain ⟨q0, k, b, rfl, hv, hb⟩ := hR.addrAt het
      rw [List.dropLast_concat] at hC
      have hk0 : (q0 ++ [k]).getLastD 0 = k := by simp
      rw [hk0] at hkl hAP ⊢
      have hAl : ((l.drop k).take n).length = n := by simp; omega
      obtain ⟨A, hAe⟩ : ∃ A, (l.drop k).take n = A := ⟨_, rfl⟩
      have hT1 : szT P T = some A.length := by rw [hT1', ← hAe, hAl]
      have hA0 : A.length ≠ 0 := by rw [← hAe, hAl]; exact hn0
      obtain ⟨r, hr⟩ : ∃ r, A ++ r = l.drop k := ⟨(l.drop k).drop n, by rw [← hAe]; exact List.take_append_drop _ _⟩
      rw [hAe] at hAP ⊢
      have hpl := plain_of_own hC rfl
      obtain ⟨u0, hu0, _⟩ := ORep.place q0 (hR.slot s hpl.2) hC
      have hb' := hb _ hC rfl
      have hget : ∀ j (hj : j < A.length), ∃ h2 : k + j < l.length, A[j] = l[k + j] := by
        intro j hj
        have h1 : (A ++ r)[j]? = (l.drop k)[j]? := by rw [hr]
        rw [List.getElem?_append_left hj, List.getElem?_eq_getElem hj, List.getElem?_drop] at h1
        obtain ⟨h2, h3⟩ := List.getElem?_eq_some_iff.1 h1.symm
        exact ⟨h2, h3.symm⟩
      have hu0' : ORep Z w.heap β (s :: q0) (.box l) u0 := by simpa using hu0
      have hrun : ∀ (u : Value), (Instr.loadAt T (a.eval (.tmp t))).run P w = .ok u w → (execOp a.eval o).run P w = .ok (.value u) w := by
        intro u hu
        simp only [execOp, ho]
        rw [Sem.run_bind, hu]
        rfl
      have hle : k + A.length ≤ l.length := by
        have := (hget (A.length - 1) (by omega)).1
        omega
      cases hu0' with
      | pers h => cases h
      | box l b2 cs E hb2 hz h1 h4 hk =>
        rw [hb2] at hb'
        injection hb' with hb'
        subst hb'
        obtain ⟨g1, g2⟩ := aggAt_spec A.length k cs
        refine ⟨.agg (aggAt A.length k cs), w, Z, β, hrun _ (by rw [eval_tmp, hv]; exact run_loadAt_aggR hT2 hT1 hz (by omega)), hR.put d (.agg A _ g1 fun j hj => ?_) (by simp)⟩
        rw [g2 j hj]
        obtain ⟨h5, h6⟩ := hget j hj
        rw [h6]
        exact ORep.toP (hk _ h5) (by rw [← h6]; exact (allP_iff A).1 hAP _ (List.getElem_mem hj))
    | _ =>
      simp only [het, head] at h
      exact rdLoadR_sound ho hd hn h
  | _ => exact h.elim

noncomputable def rdBuildN (P : Program) (T d : Nat) (xs : List (Nat × Operand)) : Rd := match zT P T with
  | some zs => (match xs with
    | [(0, .tmp t1), (1, .tmp t2)] => .get t1 fun A => .get t2 fun B => match A, B with
      | .agg l, .agg m => .need (allP l = true ∧ allP m = true ∧ bPl P T = some [(0, l.length), (l.length, m.length)] ∧ zs.length = l.length + m.length) (.ret [.set d (.agg (l ++ m))])
      | _, _ => .fail
    | _ => .fail)
  | none => .fail
noncomputable def rdBuildW (P : Program) (T d : Nat) (xs : List (Nat × Operand)) : Rd := match zT P T with
  | some zs => (match xs with
    | (0, .tmp t1) :: rest => .get t1 fun A => match A with
      | .agg [a, b] => rdParts (rest.map fun p => (2, p.2)) fun ps1 => .need ((rest.all fun p => p.1 == 1) = true ∧ rest.length ≤ 1 ∧ isP a = true ∧ isP b = true ∧ zs.length = 3 ∧ one a = true ∧ one b = true ∧ (srcs ps1).Nodup ∧ (∀ p ∈ ps1, one p.2.1 = true) ∧ d ∉ srcs ps1) (.ret (partW ps1 ++ [.set d (.agg (foldP ((0, a, none) :: (1, b, none) :: ps1) zs))]))
      | _ => .fail
    | _ => .fail)
  | none => .fail
noncomputable def rdBuildX (P : Program) (T d : Nat) (xs : List (Nat × Operand)) : Rd := if nestT P T = true then (if bPl P T = some [(0, 2), (2, 1)] then rdBuildW P T d xs else rdBuildN P T d xs) else rdBuild P T d xs

theorem foldl_put : ∀ (l : List Value) (s off : Nat) (acc : Array Value), ((l.zipIdx s).foldl (fun (a : Array Value) x => a.setIfInBounds (off + x.2) x.1) acc).size = acc.size ∧
    ∀ k, ((l.zipIdx s).foldl (fun (a : Array Value) x => a.setIfInBounds (off + x.2) x.1) acc)[k]? = if off + s ≤ k ∧ k < off + s + l.length ∧ k < acc.size then l[k - (off + s)]? else acc[k]?
  | [], s, off, acc => by
    refine ⟨rfl, fun k => ?_⟩
    rw [if_neg (by simp; omega)]; rfl
  | c :: l, s, off, acc => by
    obtain ⟨h1, h2⟩ := foldl_put l (s + 1) off (acc.setIfInBounds (off + s) c)
    rw [List.zipIdx_cons, List.foldl_cons]
    refine ⟨by rw [h1]; simp, fun k => ?_⟩
    rw [h2 k]
    simp only [Array.size_setIfInBounds, List.length_cons]
    by_cases g : off + s ≤ k ∧ k < off + s + (l.length + 1) ∧ k < acc.size
    · rw [if_pos g]
      by_cases e : k = off + s
      · subst e
        rw [if_neg (by omega), Nat.sub_self, Array.getElem?_setIfInBounds_self_of_lt (by omega)]; rfl
      · rw [if_pos (by omega), show k - (off + s) = (k - (off + (s + 1))) + 1 by omega]; rfl
    · rw [if_neg g, if_neg (by omega), Array.getElem?_setIfInBounds]
      by_cases e : off + s = k
      · rw [if_pos e]
        have : ¬ k < acc.size := by omega
        rw [if_neg (by omega)]
        simp; omega
      · rw [if_neg e]

theorem fill_two {cs1 cs2 z : Array Value} (h : z.size = cs1.size + cs2.size) :
    ∃ r : Array Value, Instr.fill (fun i => [(0, cs1.size), (cs1.size, cs2.size)].toArray[i]?) z [(0, .agg cs1), (1, .agg cs2)] = some r ∧ r.size = cs1.size + cs2.size ∧ (∀ k, k < cs1.size → r[k]? = cs1[k]?) ∧ ∀ k, k < cs2.size → r[cs1.size + k]? = cs2[k]? := by
  have hf : ∀ (cs acc : Array Value) (off : Nat), cs.zipIdx.foldl (fun (a : Array Value) (x : Value × Nat) => a.setIfInBounds (off + x.2) x.1) acc = (cs.toList.zipIdx 0).foldl (fun (a : Array Value) x => a.setIfInBounds (off + x.2) x.1) acc := by
    intro cs acc off
    rw [← Array.foldl_toList]
    simp [Array.toList_zipIdx]
  obtain ⟨g1, g2⟩ := foldl_put cs1.toList 0 0 z
  obtain ⟨g3, g4⟩ := foldl_put cs2.toList 0 cs1.size ((cs1.toList.zipIdx 0).foldl (fun (a : Array Value) x => a.setIfInBounds (0 + x.2) x.1) z)
  refine ⟨(cs2.toList.zipIdx 0).foldl (fun (a : Array Value) x => a.setIfInBounds (cs1.size + x.2) x.1) ((cs1.toList.zipIdx 0).foldl (fun (a : Array Value) x => a.setIfInBounds (0 + x.2) x.1) z), ?_, by rw [g3, g1, h], fun k hk => ?_, fun k hk => ?_⟩
  · have c1 : (Value.agg cs1).cells = cs1 := rfl
    have c2 : (Value.agg cs2).cells = cs2 := rfl
    have s1 : ¬ (cs1.size ≠ cs1.size ∨ 0 + cs1.size > z.size) := by omega
    have e1 := hf cs1 z 0
    have e2 := hf cs2 ((cs1.toList.zipIdx 0).foldl (fun (a : Array Value) x => a.setIfInBounds (0 + x.2) x.1) z) cs1.size
    have s2 : ¬ (cs2.size ≠ cs2.size ∨ cs1.size + cs2.size > ((cs1.toList.zipIdx 0).foldl (fun (a : Array Value) x => a.setIfInBounds (0 + x.2) x.1) z).size) := by rw [g1]; omega
    have p0 : [(0, cs1.size), (cs1.size, cs2.size)].toArray[0]? = some (0, cs1.size) := rfl
    have p1 : [(0, cs1.size), (cs1.size, cs2.size)].toArray[1]? = some (cs1.size, cs2.size) := rfl
    have u1 : (cs1.size != cs1.size || decide (0 + cs1.size > z.size)) = false := by simp; omega
    have u2 : (cs2.size != cs2.size || decide (cs1.size + cs2.size > ((cs1.toList.zipIdx 0).foldl (fun (a : Array Value) x => a.setIfInBounds (0 + x.2) x.1) z).size)) = false := by rw [g1]; simp; omega
    unfold Instr.fill
    rw [p0]
    dsimp only
    rw [c1, if_neg (by simp; omega)]
    show Instr.fill _ (cs1.zipIdx.foldl (fun (a : Array Value) (x : Value × Nat) => a.setIfInBounds (0 + x.2) x.1) z) _ = _
    rw [e1]
    unfold Instr.fill
    rw [p1]
    dsimp only
    rw [c2, if_neg (by rw [g1]; simp; omega)]
    show Instr.fill _ (cs2.zipIdx.foldl (fun (a : Array Value) (x : Value × Nat) => a.setIfInBounds (cs1.size + x.2) x.1) _) _ = _
    rw [e2]
    rfl
  · rw [g4 k, if_neg (by omega), g2 k]
    simp only [Array.length_toList]
    rw [if_pos (by omega)]
    simp
  · rw [g4 (cs1.size + k)]
    simp only [Array.length_toList]
    rw [if_pos (by rw [g1]; omega)]
    simp

theorem rdBuildN_sound {P : Program} {κ : Con} {o : Oper} {e : Env} {ws : List Wr} {T d : Nat} {xs : Array (Nat × Operand)} (ho : o.op = .build T xs) (hd : o.dst = some d) (hn : (κ.lim.1 ≤ d ∧ d < κ.lim.2)) (h : (rdBuildN P T d xs.toList).Wo e ws) : Does P κ o e ws := by
  unfold rdBuildN at h
  split at h
  case h_2 => exact h.elim
  rename_i zs hz
  split at h
  case h_2 => exact h.elim
  rename_i t1 t2 hxs
  obtain ⟨hj1, hj2, h⟩ := h
  cases het1 : e t1 with
  | agg l =>
    cases het2 : e t2 with
    | agg m =>
      simp only [het1, het2] at h
      obtain ⟨⟨hp1, hp2, hpl0, hlen⟩, h⟩ := h
      have h' : ws = _ := h
      subst h'
      obtain ⟨i, z, hi, hz0, rfl, hz1⟩ := zT_spec hz
      refine does_value hd hn fun a w Z β hR => ?_
      have q1 := ORep.toP (hR.slot' het1 (by simp)) (by simpa [isP] using hp1)
      have q2 := ORep.toP (hR.slot' het2 (by simp)) (by simpa [isP] using hp2)
      generalize hv1 : vals a t1 = v1 at q1
      generalize hv2 : vals a t2 = v2 at q2
      cases q1 with
      | agg l cs1 a1 k1 =>
        cases q2 with
        | agg m cs2 a2 k2 =>
          obtain ⟨r, hfill, hr, r1, r2⟩ := fill_two (cs1 := cs1) (cs2 := cs2) (z := z.cells) (by simp at hlen; omega)
          have hvs : (xs.map fun p => (p.1, a.eval p.2)).toList = [(0, .agg cs1), (1, .agg cs2)] := by simp [hxs, eval_tmp, hv1, hv2]
          have hrun : (execOp a.eval o).run P w = .ok (.value (.agg r)) w := by
            have hb : P.built T (xs.map fun p => (p.1, a.eval p.2)).toList = some r := by
              unfold bPl at hpl0
              split at hpl0
              · rename_i fs hfs
                simp only [Program.built, hi, hfs, hz0, hpl0, hvs]
                rw [← a1, ← a2]
                exact hfill
              · cases hpl0
            simp only [execOp, ho]
            have := run_build (P := P) w T (xs.map fun p => (p.1, a.eval p.2)) r hb
            rw [Sem.run_bind]
            show ((Instr.build T (xs.map fun (i, x) => (i, a.eval x))).run P w).andThen _ = _
            rw [show (xs.map fun (i, x) => (i, a.eval x)) = xs.map fun p => (p.1, a.eval p.2) from rfl, this]
            rfl
          refine ⟨_, w, Z, β, hrun, hR.put d (.agg (l ++ m) r (by rw [hr, a1, a2, List.length_append]) fun k hk => ?_) (by simp)⟩
          rw [List.length_append] at hk
          by_cases g : k < l.length
          · rw [List.getElem_append_left g]
            have := r1 k (by omega)
            have e : r.getD k undef = cs1.getD k undef := by simp [Array.getD_eq_getD_getElem?, this]
            rw [e]; exact k1 k g
          · rw [List.getElem_append_right (by omega)]
            have := r2 (k - cs1.size) (by omega)
            rw [show cs1.size + (k - cs1.size) = k by omega] at this
            have e : r.getD k undef = cs2.getD (k - l.length) undef := by simp [Array.getD_eq_getD_getElem?, this, a1]
            rw [e]; exact k2 (k - l.length) (by omega)
    | _ => simp only [het1, het2] at h; exact h.elim
  | _ => simp only [het1] at h; exact h.elim
theorem arr2 {cs : Array Value} (h : cs.size = 2) : cs = #[cs.getD 0 undef, cs.getD 1 undef] := by
  apply Array.ext_getElem?
  intro i
  match i with
  | 0 => simp [Array.getD_eq_getD_getElem?, h]
  | 1 => simp [Array.getD_eq_getD_getElem?, h]
  | n + 2 => simp [h]

theorem rdBuildW_sound {P : Program} {κ : Con} {o : Oper} {e : Env} {ws : List Wr} {T d : Nat} {xs : Array (Nat × Operand)} (ho : o.op = .build T xs) (hd : o.dst = some d) (hn : (κ.lim.1 ≤ d ∧ d < κ.lim.2)) (hpl0 : bPl P T = some [(0, 2), (2, 1)]) (h : (rdBuildW P T d xs.toList).Wo e ws) : Does P κ o e ws := by
  unfold rdBuildW at h
  split at h
  case h_2 => exact h.elim
  rename_i zs hz
  split at h
  case h_2 => exact h.elim
  rename_i t1 rest hxs
  obtain ⟨hj1, h⟩ := h
  generalize het1 : e t1 = A1 at h
  dsimp only at h
  split at h
  case h_2 => exact h.elim
  rename_i a b
  obtain ⟨ps1, ⟨⟨hk1, hr1, hpa, hpb, hlen, hoa, hob, hs, hone, hds⟩, hw⟩, hpl, hps⟩ := rdParts_sound _ _ h
  have hw' : ws = _ := hw
  subst hw'
  obtain ⟨i, z, hi, hz0, rfl, hz1⟩ := zT_spec hz
  have hzl : z.cells.size = 3 := by simpa using hlen
  refine does_value hd hn fun ac w Z β hR => ?_
  have q1 := ORep.toP (hR.slot' het1 (by simp)) (by simp [isP, allP, hpa, hpb])
  generalize hv1 : vals ac t1 = v1 at q1
  cases q1 with
  | agg l cs a1 k1 =>
    have hcs := arr2 (cs := cs) (by simpa using a1)
    have r0 := k1 0 (by simp)
    have r1 := k1 1 (by simp)
    simp only [List.getElem_cons_zero, List.getElem_cons_succ] at r0 r1
    generalize cs.getD 0 undef = u0 at hcs r0
    generalize cs.getD 1 undef = u1 at hcs r1
    subst hcs
    obtain ⟨hpo1, hpo2⟩ := hps hR
    generalize hvs1 : ((rest.map fun p => (2, p.2)).map fun p : Nat × Operand => (p.1, ac.eval p.2)) = vs1 at hpo1 hpo2
    have hpo : PartsOK Z w.heap β e ((0, a, none) :: (1, b, none) :: ps1) ((0, u0) :: (1, u1) :: vs1) := by
      refine ⟨by simpa using hpo1, fun j hj hj' => ?_⟩
      match j with
      | 0 => exact ⟨fun t ht => by simp at ht, fun _ Z' H' β' p hZ => .pers (r0.mono hZ)⟩
      | 1 => exact ⟨fun t ht => by simp at ht, fun _ Z' H' β' p hZ => .pers (r1.mono hZ)⟩
      | j + 2 => exact hpo2 j (by simpa using hj) (by simpa using hj')
    have hsrc : srcs ((0, a, none) :: (1, b, none) :: ps1) = srcs ps1 := by simp [srcs]
    have hm1 : ps1.map (·.1) = rest.map fun _ => 2 := by rw [hpo1, ← hvs1]; simp
    have hkn : (((0, a, none) :: (1, b, none) :: ps1).map (·.1)).Nodup := by
      have : ((0, a, none) :: (1, b, none) :: ps1 : Parts).map (·.1) = 0 :: 1 :: rest.map fun _ => 2 := by simp [hm1]
      rw [this]
      match rest, hr1 with
      | [], _ => simp
      | [_], _ => simp
    have hv1' := partsOne hpo (by
      intro p hp
      rcases List.mem_cons.1 hp with rfl | hp
      · exact hoa
      · rcases List.mem_cons.1 hp with rfl | hp
        · exact hob
        · exact hone p hp)
    have hfill : Instr.fill (fun i => [(0, 2), (2, 1)].toArray[i]?) z.cells ((0, .agg #[u0, u1]) :: rest.map fun p => (p.1, ac.eval p.2)) = some (((0, u0) :: (1, u1) :: vs1).foldl (fun (cs : Array Value) p => cs.setIfInBounds p.1 p.2) z.cells) := by
      have c1 : (Value.agg #[u0, u1]).cells = #[u0, u1] := rfl
      have p0 : ([(0, 2), (2, 1)] : List (Nat × Nat)).toArray[0]? = some (0, 2) := rfl
      have p1 : ([(0, 2), (2, 1)] : List (Nat × Nat)).toArray[1]? = some (2, 1) := rfl
      match rest, hr1, hk1, hvs1 with
      | [], _, _, hvs1 =>
        subst hvs1
        simp [Instr.fill, c1, hzl]
      | [(j, y)], _, hk1, hvs1 =>
        have hj : j = 1 := by simpa using hk1
        subst hj
        subst hvs1
        have hc := cells_one (hv1' (2, ac.eval y) (by simp))
        simp only at hc
        simp [Instr.fill, c1, hzl, hc]
    have hrun : (execOp ac.eval o).run P w = .ok (.value (.agg (((0, u0) :: (1, u1) :: vs1).foldl (fun (cs : Array Value) p => cs.setIfInBounds p.1 p.2) z.cells))) w := by
      have hvs : (xs.map fun p => (p.1, ac.eval p.2)).toList = (0, .agg #[u0, u1]) :: rest.map fun p => (p.1, ac.eval p.2) := by simp [hxs, eval_tmp, hv1]
      have hb : P.built T (xs.map fun p => (p.1, ac.eval p.2)).toList = some (((0, u0) :: (1, u1) :: vs1).foldl (fun (cs : Array Value) p => cs.setIfInBounds p.1 p.2) z.cells) := by
        unfold bPl at hpl0
        split at hpl0
        · rename_i fs hfs
          simp only [Program.built, hi, hfs, hz0, hpl0, hvs]
          exact hfill
        · cases hpl0
      simp only [execOp, ho]
      have := run_build (P := P) w T (xs.map fun p => (p.1, ac.eval p.2)) _ hb
      rw [Sem.run_bind]
      show ((Instr.build T (xs.map fun (i, x) => (i, ac.eval x))).run P w).andThen _ = _
      rw [show (xs.map fun (i, x) => (i, ac.eval x)) = xs.map fun p => (p.1, ac.eval p.2) from rfl, this]
      rfl
    generalize hps2 : ((0, a, none) :: (1, b, none) :: ps1 : Parts) = ps at hpo hsrc hkn hv1' ⊢
    generalize ((0, u0) :: (1, u1) :: vs1 : List (Nat × Value)) = vs at hpo hrun hv1'
    have hs2 : (srcs ps).Nodup := by rw [hsrc]; exact hs
    have hpw : partW ps1 = partW ps := by unfold partW; rw [hsrc]
    have hg := gather hR hpo hs2 hkn (H' := w.heap) (fun b hb => rfl) (viaF (gaF (srcOf ps) (srcs ps) d) β) (fun _ _ => rfl)
    have hrel := foldP_rep (Rel := fun k A v => ORep Z w.heap (viaF (gaF (srcOf ps) (srcs ps) d) β) [d, k] A v) ps vs (z.cells.toList.map cst) z.cells (by simp) hpo.1 hg (fun k hk => cst_getD hk)
    rw [hpw]
    exact ⟨_, _, Z, _, hrun, hR.bigParts (srcs ps) d (gaF (srcOf ps) (srcs ps) d) _ _ _ rfl rfl rfl (Nat.le_refl _) (fun b hb => rfl) (gaF_keep _ _ _) (.inl rfl) (gaF_inj (srcs_inj hs2 hkn).1 (srcs_inj hs2 hkn).2) (.agg _ _ hrel.1 fun k hk => hrel.2 k hk) (by simp)⟩

theorem rdBuildX_sound {P : Program} {κ : Con} {o : Oper} {e : Env} {ws : List Wr} {T d : Nat} {xs : Array (Nat × Operand)} (ho : o.op = .build T xs) (hd : o.dst = some d) (hn : (κ.lim.1 ≤ d ∧ d < κ.lim.2)) (h : (rdBuildX P T d xs.toList).Wo e ws) : Does P κ o e ws := by
  unfold rdBuildX at h
  split at h
  · split at h
    · exact rdBuildW_sound ho hd hn ‹_› h
    · exact rdBuildN_sound ho hd hn h
  · exact rdBuild_sound ho hd hn h

end Go.Proofs.Ytehdfifncbokeaa
