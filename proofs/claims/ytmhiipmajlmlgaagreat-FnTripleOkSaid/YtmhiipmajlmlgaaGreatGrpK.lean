/- Contracts of functions with several results, structs in memory among them. No program in sight. -/
import Derived.Test.YtmhiipmajlmlgaaGreatGrpJ
import Derived.Lib.MinMax
namespace Go.Proofs.YtmhiipmajlmlgaaGreat
set_option linter.unusedSimpArgs false
set_option linter.unusedVariables false
set_option maxRecDepth 8000
set_option maxHeartbeats 2000000
open Go Go.RowKit AV

def slotR : ResultVar → Nat
  | .tmp t => t
  | .cell t _ => t

def ResI (P : Program) (e : Env) (rv : ResultVar) (A : AV) : Prop := match rv with
  | .tmp t => plainB A = true ∧ (A = e t ∨ A = view (e t))
  | .cell t T => ∃ l, aggT P T = some true ∧ szT P T = some l.length ∧ e t = .box l ∧ A = .agg l

def ResL (P : Program) (e : Env) : List ResultVar → List AV → Prop
  | [], [] => True
  | rv :: rs, A :: l => ResI P e rv A ∧ ResL P e rs l
  | _, _ => False

def resB (rv : ResultVar) (A : AV) : Nat × AV := match rv, A with
  | .cell t _, .agg m => (t, .box m)
  | rv, A => (slotR rv, A)

theorem ResL.len {P : Program} {e : Env} : ∀ {rs : List ResultVar} {l : List AV}, ResL P e rs l → l.length = rs.length
  | [], [], _ => rfl
  | _ :: _, _ :: _, h => by simp [h.2.len]
  | [], _ :: _, h => h.elim
  | _ :: _, [], h => h.elim
theorem ResL.get {P : Program} {e : Env} : ∀ {rs : List ResultVar} {l : List AV}, ResL P e rs l → ∀ k (h1 : k < rs.length) (h2 : k < l.length), ResI P e rs[k] l[k]
  | _ :: _, _ :: _, h, 0, _, _ => h.1
  | _ :: _, _ :: _, h, k + 1, h1, h2 => by simpa using h.2.get k (by simpa using h1) (by simpa using h2)
  | [], _ :: _, h, _, _, _ => h.elim
  | [], [], _, _, h1, _ => by simp at h1
theorem ResL.leL {P : Program} {e : Env} {L : List (Nat × AV)} (hL : LeL e L) : ∀ {rs : List ResultVar} {l : List AV}, ResL P e rs l → LeL e (List.zipWith resB rs l ++ L)
  | [], [], _ => hL
  | rv :: _, A :: _, h => by
    refine ⟨?_, h.2.leL hL⟩
    have h1 := h.1
    cases rv with
    | tmp t => exact h1.2
    | cell t T =>
      obtain ⟨l, _, _, he, rfl⟩ := h1
      exact .inl he.symm
  | [], _ :: _, h => h.elim
  | _ :: _, [], h => h.elim

theorem resB_slot {P : Program} {e : Env} {rv : ResultVar} {A : AV} (h : ResI P e rv A) : (resB rv A).1 = slotR rv := by
  cases rv with
  | tmp t => rfl
  | cell t T => obtain ⟨l, _, _, _, rfl⟩ := h; rfl

theorem env_zip {P : Program} {e : Env} {L : List (Nat × AV)} : ∀ {rs : List ResultVar} {l : List AV}, ResL P e rs l → (rs.map slotR).Nodup → ∀ k (h1 : k < rs.length) (h2 : k < l.length), envOf (List.zipWith resB rs l ++ L) (slotR rs[k]) = (resB rs[k] l[k]).2
  | rv :: rs, A :: l, h, hn, 0, _, _ => by
    simp only [List.zipWith_cons_cons, List.cons_append, List.getElem_cons_zero]
    show upd _ (resB rv A).1 (resB rv A).2 (slotR rv) = _
    rw [resB_slot h.1, upd_same]
  | rv :: rs, A :: l, h, hn, k + 1, h1, h2 => by
    simp only [List.zipWith_cons_cons, List.cons_append, List.getElem_cons_succ]
    show upd _ (resB rv A).1 (resB rv A).2 (slotR _) = _
    simp only [List.map_cons, List.nodup_cons] at hn
    have hk : k < rs.length := by simpa using h1
    rw [resB_slot h.1, upd_ne]
    · exact env_zip h.2 hn.2 k hk (by simpa using h2)
    · intro he
      exact hn.1 (he ▸ List.mem_map.2 ⟨_, List.getElem_mem hk, rfl⟩)
  | [], _ :: _, h, _, _, _, _ => h.elim
  | [], [], _, _, _, h1, _ => by simp at h1
theorem env_zip_ne {L : List (Nat × AV)} {s : Nat} : ∀ {P : Program} {e : Env} {rs : List ResultVar} {l : List AV}, ResL P e rs l → s ∉ rs.map slotR → envOf (List.zipWith resB rs l ++ L) s = envOf L s
  | _, _, [], [], _, _ => rfl
  | P, e, rv :: rs, A :: l, h, hs => by
    simp only [List.map_cons, List.mem_cons, not_or] at hs
    simp only [List.zipWith_cons_cons, List.cons_append]
    show upd _ (resB rv A).1 (resB rv A).2 s = _
    rw [resB_slot h.1, upd_ne _ _ _ _ hs.1]
    exact env_zip_ne h.2 hs.2
  | _, _, [], _ :: _, h, _ => h.elim
  | _, _, _ :: _, [], h, _ => h.elim

noncomputable def resF (tmps : Array Value) (rv : ResultVar) : Sem Value := match rv with
    | .tmp t => pure (tmps.getD t undef)
    | .cell a t => do loadVar t (← asAddr (tmps.getD a undef))
theorem results_resF (fn : Func) (tmps : Array Value) : results fn tmps = (do
    let vs ← fn.results.mapM (resF tmps)
    pure (if h : vs.size = 1 then vs[0] else .tuple vs)) := by
  unfold results
  congr 1

theorem mapM_all {P : Program} {w : World} {f : ResultVar → Sem Value} : ∀ (rs : List ResultVar) (vs : List Value), vs.length = rs.length → (∀ k (h1 : k < rs.length) (h2 : k < vs.length), (f rs[k]).run P w = .ok vs[k] w) → (rs.mapM f).run P w = .ok vs w
  | [], [], _, _ => by simp
  | r :: rs, v :: vs, hl, h => by
    have h0 := h 0 (by simp) (by simp)
    have ih := mapM_all (P := P) (w := w) (f := f) rs vs (by simpa using hl) fun k h1 h2 => h (k + 1) (Nat.succ_lt_succ h1) (Nat.succ_lt_succ h2)
    simp only [List.getElem_cons_zero] at h0
    rw [List.mapM_cons]
    simp [Sem.run_bind, h0, ih]
  | [], _ :: _, hl, _ => by simp at hl
  | _ :: _, [], hl, _ => by simp at hl

theorem results_many {P : Program} {fn : Func} {tmps : Array Value} {w : World} {rs : List ResultVar} (h : fn.results.toList = rs) (hlen : rs.length ≠ 1) (vs : List Value) (hl : vs.length = rs.length)
    (hk : ∀ k (h1 : k < rs.length) (h2 : k < vs.length), (resF tmps rs[k]).run P w = .ok vs[k] w) : (results fn tmps).run P w = .ok (.tuple vs.toArray) w := by
  have e : fn.results = rs.toArray := by rw [← h]
  have hv : vs.length ≠ 1 := by omega
  have hm := mapM_all (P := P) (w := w) (f := resF tmps) rs vs hl hk
  rw [results_resF, e]
  simp [Sem.run_bind, hm, hv]

def lfM (rs : List ResultVar) : List Nat → Option (List Nat)
  | 0 :: k :: q => if h : k < rs.length then some (slotR rs[k] :: q) else none
  | 1 :: q => some (0 :: q)
  | _ => none
theorem lfM_inj {rs : List ResultVar} (hn : (rs.map slotR).Nodup) (h0 : 0 ∉ rs.map slotR) : ∀ r1 r2 x, lfM rs r1 = some x → lfM rs r2 = some x → r1 = r2 := by
  have hne : ∀ k (h : k < rs.length), slotR rs[k] ≠ 0 := fun k h he => h0 (he ▸ List.mem_map.2 ⟨_, List.getElem_mem h, rfl⟩)
  have hinj : ∀ k j (h : k < rs.length) (h' : j < rs.length), slotR rs[k] = slotR rs[j] → k = j := by
    intro k j h h' he
    have := (List.getElem_inj (h₀ := by simpa using h) (h₁ := by simpa using h') hn (i := k) (j := j)).1 (by simpa using he)
    exact this
  intro r1 r2 x h1 h2
  unfold lfM at h1 h2
  split at h1 <;> split at h2
  · split at h1
    · split at h2
      · injection h1 with h1; injection h2 with h2
        rw [← h2] at h1
        injection h1 with e1 e2
        rw [hinj _ _ _ _ e1, e2]
      · cases h2
    · cases h1
  · split at h1
    · injection h1 with h1; injection h2 with h2
      rw [← h2] at h1
      injection h1 with e1 e2
      exact absurd e1 (hne _ _)
    · cases h1
  · cases h2
  · split at h2
    · injection h1 with h1; injection h2 with h2
      rw [← h2] at h1
      injection h1 with e1 e2
      exact absurd e1.symm (hne _ _)
    · cases h2
  · injection h1 with h1; injection h2 with h2
    rw [← h2] at h1
    injection h1 with e1 e2
    rw [e2]
  all_goals first | (cases h1; done) | (cases h2; done)

def RetML (P : Program) (rs : List ResultVar) (e : Env) (r A : AV) : Prop := e 0 = A ∧ isOwn A = true ∧ ∃ l : List AV, r = .tup l ∧ rs.length ≠ 1 ∧ (rs.map slotR).Nodup ∧ 0 ∉ rs.map slotR ∧ ResL P e rs l
def RetM (P : Program) (rs : List ResultVar) (e : Env) (r : AV) : Prop := ∃ l : List AV, r = .tup l ∧ rs.length ≠ 1 ∧ (rs.map slotR).Nodup ∧ 0 ∉ rs.map slotR ∧ ResL P e rs l
def retML (P : Program) (rs : List ResultVar) (r A : AV) : QA
  | .normal, e => RetML P rs e r A
  | .ret, e => RetML P rs e r A
  | _, _ => False
def retM (P : Program) (rs : List ResultVar) (r : AV) : QA
  | .normal, e => RetM P rs e r
  | .ret, e => RetM P rs e r
  | _, _ => False
theorem retML_ret (P : Program) (rs : List ResultVar) (r A : AV) (e : Env) : retML P rs r A .ret e = RetML P rs e r A := rfl
theorem retML_normal (P : Program) (rs : List ResultVar) (r A : AV) (e : Env) : retML P rs r A .normal e = RetML P rs e r A := rfl
theorem retM_ret (P : Program) (rs : List ResultVar) (r : AV) (e : Env) : retM P rs r .ret e = RetM P rs e r := rfl
theorem retM_normal (P : Program) (rs : List ResultVar) (r : AV) (e : Env) : retM P rs r .normal e = RetM P rs e r := rfl

theorem ret_many {P : Program} {fn : Func} {κ : Con} {β0 : List Nat → Option Nat} (hO : κ.O0 = fun b => ∃ p, β0 p = some b) {e : Env} {a : Act} {w : World} {r : AV} {L : List (Nat × AV)} (hL : LeL e L) (hs : St κ e a w) (hr : RetM P fn.results.toList e r) :
    ∃ v Z' β' β1 e1, (results fn a.tmps).run P w = .ok v w ∧ Left κ.Z0 β0 κ.W0 Z' β' w ∧ ORep Z' w.heap β' [0] r v ∧ Rep κ Z' β1 e1 (vals a) w ∧ e1 0 = envOf L 0 ∧ ∀ q, β' (1 :: q) = β1 (0 :: q) := by
  obtain ⟨h1, h2, Z, β, hR⟩ := hs
  obtain ⟨l, rfl, hlen, hn, h0, hres⟩ := hr
  generalize hrs : fn.results.toList = rs at *
  obtain ⟨Z', β', hR'⟩ := hR.weaken (ResL.leL hL hres).le
  have hl := hres.len
  have hnew : ∀ b, new κ b → (∃ q, β0 q = some b) ∨ κ.W0.heap.size ≤ b := fun b hb => by
    unfold new at hb; rw [hO] at hb; exact hb
  have each : ∀ k (g1 : k < rs.length) (g2 : k < l.length), ∃ v, (resF a.tmps rs[k]).run P w = .ok v w ∧ ORep Z' w.heap (viaF (lfM rs) β') [0, k] l[k] v := by
    intro k g1 g2
    have hb := env_zip (L := L) hres hn k g1 g2
    have hI := hres.get k g1 g2
    have hlf : ∀ q, lfM rs (0 :: k :: q) = some (slotR rs[k] :: q) := fun q => by simp [lfM, g1]
    generalize rs[k] = rv at hb hI hlf
    generalize l[k] = A at hb hI
    cases rv with
    | tmp t =>
      have hsl := hR'.slot' (t := t) (A := A) hb (plainB_spec hI.1).2
      exact ⟨vals a t, by simp [resF, vals, Array.getD_eq_getD_getElem?], hsl.move (fun _ _ h => h) fun q b hq => ⟨by simpa [viaF, hlf, slotR] using hq, rfl⟩⟩
    | cell t T =>
      obtain ⟨m, hT, hsz, _, rfl⟩ := hI
      have hsl := hR'.slot' (t := t) (A := .box m) hb (by simp)
      generalize hvv : vals a t = v at hsl
      cases hsl with
      | pers h => cases h
      | box m b cs E hb' hz g3 g4 hk =>
        refine ⟨.agg cs, ?_, .agg m cs g3 fun j hj => (hk j hj).move (fun _ _ h => h) fun q b' hq => ⟨by simpa [viaF, hlf, slotR] using hq, rfl⟩⟩
        have := run_loadAt_agg' (P := P) hT (by rw [hsz, g3]) hz
        have h3 : a.tmps[t]?.getD undef = .pointer (some ⟨b, 0, none⟩) := by rw [← hvv]; simp [vals, Array.getD_eq_getD_getElem?]
        have h4 : (loadVar T ⟨b, 0, none⟩).run P w = .ok (.agg cs) w := by simpa [Instr.loadAt, Instr.sureAddr] using this
        simp [resF, h3, asAddr, h4]
  have pick : ∃ vs : List Value, vs.length = rs.length ∧ ∀ k (g1 : k < rs.length) (g2 : k < l.length) (g3 : k < vs.length), (resF a.tmps rs[k]).run P w = .ok vs[k] w ∧ ORep Z' w.heap (viaF (lfM rs) β') [0, k] l[k] vs[k] := by
    classical
    refine ⟨(List.range rs.length).map fun k => if h : k < rs.length then Classical.choose (each k h (by omega)) else undef, by simp, fun k g1 g2 g3 => ?_⟩
    simp only [List.getElem_map, List.getElem_range, g1, dif_pos]
    exact Classical.choose_spec (each k g1 g2)
  obtain ⟨vs, hvl, hvs⟩ := pick
  refine ⟨.tuple vs.toArray, Z', viaF (lfM rs) β', β', _, results_many hrs hlen vs hvl fun k g1 g2 => (hvs k g1 (by omega) g2).1, ?_, ?_, hR', env_zip_ne hres h0, fun q => rfl⟩
  · refine ⟨hR'.os, hR'.tape, hR'.output, hR'.size, fun b hb hn => hR'.frame b hb ?_, hR'.z0, fun b o ho => (hR'.zo b o ho).imp id fun h => hnew b h, hR'.zh, viaF_inj (lfM_inj hn h0) hR'.inj, fun p b hp => ?_⟩
    · rw [hO]; rintro ⟨p, hp⟩; exact hn p hp
    · have := viaF_bo (Q := fun b => new κ b ∧ Z' b = none ∧ b < w.heap.size) hR'.bo p b hp
      exact ⟨hnew b this.1, this.2⟩
  · refine .tup l _ (by simp; omega) fun k hk => ?_
    have := (hvs k (by omega) hk (by omega)).2
    have e : vs.toArray.getD k undef = vs[k]'(by omega) := by simp [Array.getD_eq_getD_getElem?, List.getElem?_eq_getElem (show k < vs.length by omega)]
    rw [e]
    exact this

theorem ctr_many {P : Program} {f : Nat} {fn : Func} {c : Code} (hf : P.funcs[f]? = some fn) (hname : (fn.name == "runtime.NumGoroutine") = false) (hb : fn.body = some c) {nt : Nat} (hnt : fn.ntmps = nt) {rel : List AV → AV → Prop}
    (h : ∀ args r, rel args r → args.length ≤ nt ∧ ∀ κ : Con, κ.lim = (0, nt) → CW P κ c (retM P fn.results.toList r) (argEnv args)) : CtrOK P f (pureC rel) := by
  refine ⟨⟨fn, c, hf, hname, hb⟩, fun args r args' hrel w Z β vs hvs hwf hargs => ?_⟩
  obtain ⟨rfl, hrel⟩ := hrel
  obtain ⟨hlen, hcw⟩ := h args r hrel
  simp only [pureC_eff, Bool.false_eq_true, if_false] at hargs
  obtain ⟨hβ, hargs⟩ := hargs
  subst hβ
  let κ : Con := ⟨w, Z, fun b => ∃ p, (fun _ : List Nat => (none : Option Nat)) p = some b, fun _ => undef, (0, nt)⟩
  refine calls_of_wp hf hb (wp_mono (hcw κ rfl { tmps := vs ++ Array.replicate (fn.ntmps - vs.size) undef, defers := [] } w ⟨rfl, ⟨by simp [hnt, hvs]; show _ = nt; omega, fun t ht => absurd ht (Nat.not_lt_zero t)⟩, Z, fun _ => none, ?_⟩) fun x a w' ⟨e', hq, hs'⟩ => ?_)
  · refine ⟨rfl, rfl, rfl, Nat.le_refl _, fun _ _ _ => rfl, fun _ _ h => h, fun _ _ h => .inl h, hwf.zh, by simp, by simp, fun t => ?_⟩
    unfold TRep argEnv
    by_cases ht : t < args.length
    · have e1 : args.getD t .junk = args[t] := by simp [List.getD, List.getElem?_eq_getElem ht]
      have e2 : vals { tmps := vs ++ Array.replicate (fn.ntmps - vs.size) undef, defers := [] } t = vs.getD t undef := by
        have : t < vs.size := by omega
        simp [vals, Array.getD_eq_getD_getElem?, Array.getElem?_append_left this]
      rw [e1, e2]
      have := hargs t ht
      have hpl := this.plain
      generalize args[t] = X at this hpl
      cases X with
      | alias s p => exact absurd rfl (hpl s p).1
      | valias s p => exact absurd rfl (hpl s p).2.1
      | addr s p => exact absurd rfl (hpl s p).2.2.1
      | win s p k => exact absurd rfl ((hpl s p).2.2.2 k)
      | _ => exact .pers this
    · have e1 : args.getD t .junk = .junk := by simp [List.getD, List.getElem?_eq_none (Nat.le_of_not_lt ht)]
      rw [e1]
      exact .pers (.junk _)
  · have hd : a.defers = [] := hs'.1
    have key : RetM P fn.results.toList e' r → ∃ v, (results fn a.tmps).run P w' = .ok v w' ∧ ∃ v' Z' β', Ending.returned v = .returned v' ∧ Left Z (fun _ => none) w Z' β' w' ∧ ORep Z' w'.heap β' [0] r v' ∧ ∀ i (h : i < ([] : List AV).length), ORep Z' w'.heap β' [i + 1] [][i] (vs.getD i undef) := by
      intro hr
      obtain ⟨v, Z', β', _, _, g1, g2, g3, _⟩ := ret_many (κ := κ) rfl (L := []) trivial hs' hr
      exact ⟨v, g1, v, Z', β', rfl, g2, g3, by simp⟩
    cases x with
    | normal => obtain ⟨v, g1, g2⟩ := key hq; exact ⟨hd, v, g1, g2⟩
    | ret => obtain ⟨v, g1, g2⟩ := key hq; exact ⟨hd, v, g1, g2⟩
    | _ => exact hq.elim

end Go.Proofs.YtmhiipmajlmlgaaGreat

namespace Go.Proofs.YtmhiipmajlmlgaaGreat
set_option linter.unusedSimpArgs false
set_option linter.unusedVariables false
set_option maxRecDepth 8000
set_option maxHeartbeats 2000000
open Go Go.RowKit AV

inductive Frz : Env → Env → Prop
  | refl (e : Env) : Frz e e
  | step {e e' : Env} (s : Nat) (p : List Nat) (A : AV) (hg : getP (e s) p = some A) (hA : isOwn A = true) (h : Frz ((Wr.mod s p (view A)).app e) e') : Frz e e'

theorem Frz.st {κ : Con} {e e' : Env} (h : Frz e e') : ∀ {a : Act} {w : World}, St κ e a w → St κ e' a w := by
  induction h with
  | refl e => exact fun h => h
  | step s p A hg hA _ ih =>
    intro a w ⟨h1, h2, Z, β, hR⟩
    have hpl := plain_of_own hg hA
    obtain ⟨Z', β', hR', _⟩ := hR.freeze s p A hg hpl.2 hpl.1 (view_plain A) (view_noOwn A)
    exact ih ⟨h1, h2, Z', β', hR'⟩

theorem CW.seqM {P : Program} {κ : Con} {Q : QA} {e : Env} {x y : Code} {ι : Type} (inv : ι → List (Nat × AV)) (pre : ι → Prop) (hM : ∀ i, pre i → CW P κ y Q (envOf (inv i)))
    (h : CW P κ x (thenA (fun e' => ∃ i, LeL e' (inv i) ∧ pre i) Q) e) : CW P κ (.seq x y) Q e :=
  CW.seq (h.mono fun x e hq => by
    cases x with
    | normal => obtain ⟨i, hle, hp⟩ := hq; exact CW.weaken hle.le (hM i hp)
    | _ => exact hq)

def takesX (o : Oper) : List Nat := match o.op with
  | .call c => (match c.callee with
    | .builtin .append => (match c.args.toList with
      | x :: _ => opT x
      | _ => [])
    | _ => [])
  | .buildSlice _ _ ps => opTs ps.toList
  | .build _ ps => opTs ps.toList
  | .store _ _ v => opT v
  | .assign x => opT x
  | .box _ x => opT x
  | .extract x _ => opT x
  | _ => []
def takenX : List Oper → List Nat
  | [] => []
  | o :: l => takesX o ++ takenX l
theorem CW.regX {P : Program} {κ : Con} {Q : QA} {e : Env} {Γ : Ctx} (hΓ : ∀ f c, Γ f = some c → CtrOK P f c) {id : Nat} {ops : List Oper} (hd : dstOK κ.lim ops = true) (h : wpOpsA P Γ (takenX ops) ops.toArray ops e (Q .normal)) : CW P κ (.region id ops.toArray false) Q e :=
  CW.region hΓ _ hd h
theorem CW.drwX {P : Program} {κ : Con} {Q : QA} {e : Env} {Γ : Ctx} (hΓ : ∀ f c, Γ f = some c → CtrOK P f c) (hm : P.follows .mixedOrders = true) {id : Nat} {ops : List Oper} (hd : dstOK κ.lim ops = true) (hf : fwdB ops.toArray = true)
    (h : ∀ B, befB ops.toArray = B → wpOpsD P Γ (takenX ops) ops.toArray B ops 0 [] e (Q .normal)) : CW P κ (.region id ops.toArray true) Q e :=
  CW.draw hΓ hm _ _ hd hf rfl (h _ rfl)

end Go.Proofs.YtmhiipmajlmlgaaGreat

namespace Go.Proofs.YtmhiipmajlmlgaaGreat
set_option linter.unusedSimpArgs false
set_option linter.unusedVariables false
set_option maxRecDepth 8000
set_option maxHeartbeats 2000000
open Go Go.RowKit AV

noncomputable def rdMinN (d : Nat) (A B : AV) : Rd := match A, B with
  | .num .i64 m, .num .i64 n => .ret [.set d (.num .i64 (min m n))]
  | _, _ => .fail
noncomputable def rdMin (d : Nat) (x y : Operand) : Rd := rdX x fun A => rdX y fun B => rdMinN d A B
def minOf (o : Oper) : Option (Nat × Operand × Operand) := match o.dst, o.guard, o.op with
  | some d, none, .call c => (match c.callee, c.args.toList with
    | .builtin .min, [x, y] => some (d, x, y)
    | _, _ => none)
  | _, _, _ => none

noncomputable def rdGM (P : Program) (Γ : Ctx) (tl : List Nat) (ops : Array Oper) (o : Oper) : Rd := match minOf o with
  | some (d, x, y) => rdMin d x y
  | none => rdG P Γ tl ops o

end Go.Proofs.YtmhiipmajlmlgaaGreat

namespace Go.Proofs.YtmhiipmajlmlgaaGreat
set_option linter.unusedSimpArgs false
set_option linter.unusedVariables false
set_option maxRecDepth 8000
set_option maxHeartbeats 2000000
open Go Go.RowKit AV

section
variable {R : Nat → Rd} {ops : Array Oper}

def wpOpsDR (R : Nat → Rd) (B : Array Nat) : List Oper → Nat → List (Nat × Fp) → Env → (Env → Prop) → Prop
  | [], _, acc, e, K => chkP B acc = true ∧ K e
  | o :: rest, i, acc, e, K => (R i).D e [] [] [] fun f => wpOpsDR R B rest (i + 1) ((i, f) :: acc) (apps f.ws e) K

end

section
variable {P : Program} {ops : Array Oper} {R : Nat → Rd} {S : Env → Act → World → Prop}
end

end Go.Proofs.YtmhiipmajlmlgaaGreat

namespace Go.Proofs.YtmhiipmajlmlgaaGreat
set_option linter.unusedSimpArgs false
set_option linter.unusedVariables false
set_option maxRecDepth 8000
set_option maxHeartbeats 2000000
open Go Go.RowKit AV

def lentMv (s0 : Nat) (o : Oper) : Option Nat := match o.dst, o.guard, o.op with
  | some d, none, .move (.tmp t) => if t = s0 then some d else none
  | _, _, _ => none

def lentCall (ms : List Nat) (s0 : Nat) (o : Oper) : Option (Nat × Oper) := match o.op with
  | .call c => (match c.args.toList with
    | .tmp t :: rest => if ms.contains t then some (t, { o with op := .call { c with args := (.tmp s0 :: rest).toArray } }) else none
    | _ => none)
  | _ => none

noncomputable def rdLR (P : Program) (Γ : Ctx) (tl : List Nat) (ops : Array Oper) (ms : List Nat) (s0 : Nat) (v0 : Value) (i : Nat) : Rd := match ops[i]? with
  | none => .fail
  | some o => match lentMv s0 o with
    | some d => .ret [.set d (.pin .junk v0)]
    | none => match lentCall ms s0 o with
      | some (t, o') => .get t fun A => .need (A = .pin .junk v0) (rdG P Γ tl ops o')
      | none => rdGM P Γ tl ops o

def KOpsR (R : Nat → Rd) (B : Array Nat) (rest : List Oper) (i : Nat) (acc : List (Nat × Fp)) (e : Env) (K : Env → Prop) (f : Fp) : Prop := wpOpsDR R B rest (i + 1) ((i, f) :: acc) (apps f.ws e) K
theorem wpOpsDR_cons {R : Nat → Rd} {B : Array Nat} {e : Env} {K : Env → Prop} (o : Oper) (rest : List Oper) (i : Nat) (acc) : wpOpsDR R B (o :: rest) i acc e K = (R i).D e [] [] [] (KOpsR R B rest i acc e K) := rfl
theorem wpOpsDR_nil {R : Nat → Rd} {B : Array Nat} {e : Env} {K : Env → Prop} (i : Nat) (acc) : wpOpsDR R B [] i acc e K = (chkP B acc = true ∧ K e) := rfl
theorem KOpsR_app {R : Nat → Rd} {B : Array Nat} {e : Env} {K : Env → Prop} (rest : List Oper) (i : Nat) (acc) (f : Fp) : KOpsR R B rest i acc e K f = wpOpsDR R B rest (i + 1) ((i, f) :: acc) (apps f.ws e) K := rfl

end Go.Proofs.YtmhiipmajlmlgaaGreat

namespace Go.Proofs.YtmhiipmajlmlgaaGreat
set_option linter.unusedSimpArgs false
set_option linter.unusedVariables false
set_option maxRecDepth 8000
set_option maxHeartbeats 2000000
open Go Go.RowKit AV

mutual
def noMap : AV → Bool
  | sh l => allM l
  | own l => allM l
  | orec _ l => allM l
  | srec _ l => allM l
  | mfn _ l => allM l
  | agg l => allM l
  | tup l => allM l
  | box l => allM l
  | pbox l => allM l
  | fn _ l => allM l
  | pcell v => noMap v
  | pin v _ => noMap v
  | omap ks vs => allM ks && allM vs
  | pmap _ _ => false
  | oiter _ _ _ => false
  | memo _ _ => false
  | _ => true
def allM : List AV → Bool
  | [] => true
  | a :: l => noMap a && allM l
end
theorem allM_iff (l : List AV) : allM l = true ↔ ∀ a ∈ l, noMap a = true := by induction l <;> simp_all [allM]

theorem PRep.unmap {Z : Nat → Option Obj} {b : Nat} {es : Array MapEntry} {n : Nat} (hb : Z b = some (.map es n)) {A v} (h : PRep Z A v) (hA : noMap A = true) : PRep (fun b' => if b' = b then none else Z b') A v := by
  have hne : ∀ b' cs T fz, Z b' = some (.cells cs T fz) → (if b' = b then none else Z b') = some (.cells cs T fz) := by
    intro b' cs T fz hz
    rw [if_neg]
    · exact hz
    · rintro rfl; rw [hb] at hz; cases hz
  induction h with
  | junk v => exact .junk v
  | num k n => exact .num k n
  | bool b => exact .bool b
  | nil A c hc => exact .nil A c hc
  | sh l b' o c cs T fz us hz h1 h2 hu h3 _ ih =>
    simp only [noMap, allM_iff] at hA
    exact .sh l b' o c cs T fz us (hne _ _ _ _ hz) h1 h2 hu h3 fun k hk => ih k hk (hA _ (List.getElem_mem hk))
  | agg l cs h1 _ ih =>
    simp only [noMap, allM_iff] at hA
    exact .agg l cs h1 fun k hk => ih k hk (hA _ (List.getElem_mem hk))
  | tup l cs h1 _ ih =>
    simp only [noMap, allM_iff] at hA
    exact .tup l cs h1 fun k hk => ih k hk (hA _ (List.getElem_mem hk))
  | mfn f l cs h1 _ ih =>
    simp only [noMap, allM_iff] at hA
    exact .mfn f l cs h1 fun k hk => ih k hk (hA _ (List.getElem_mem hk))
  | rnil n A c hc => exact .rnil n A c hc
  | srec n m l b' o c cs T fz us hz hl h1 h2 hu h3 _ ih =>
    simp only [noMap, allM_iff] at hA
    exact .srec n m l b' o c cs T fz us (hne _ _ _ _ hz) hl h1 h2 hu h3 fun k hk => ih k hk (hA _ (List.getElem_mem hk))
  | pbox l b' o cs T fz hz h1 h3 _ ih =>
    simp only [noMap, allM_iff] at hA
    exact .pbox l b' o cs T fz (hne _ _ _ _ hz) h1 h3 fun k hk => ih k hk (hA _ (List.getElem_mem hk))
  | pcell v b' o cs T fz u hz hu h3 _ ih => exact .pcell v b' o cs T fz u (hne _ _ _ _ hz) hu h3 (ih (by simpa [noMap] using hA))
  | fn f l cs h1 _ ih =>
    simp only [noMap, allM_iff] at hA
    exact .fn f l cs h1 fun k hk => ih k hk (hA _ (List.getElem_mem hk))
  | pmap => simp [noMap] at hA
  | pin A v _ ih => exact .pin A v (ih (by simpa [noMap] using hA))

theorem ORep.unmap {Z : Nat → Option Obj} {b : Nat} {es : Array MapEntry} {n : Nat} (hb : Z b = some (.map es n)) {H : Array Obj} {β : List Nat → Option Nat} {p A v} (h : ORep Z H β p A v) (hA : noMap A = true) : ORep (fun b' => if b' = b then none else Z b') H β p A v := by
  induction h with
  | pers h => exact .pers (h.unmap hb hA)
  | nil => exact .nil
  | own l b' c cs T us hb' hz h1 h2 h3 hu h4 _ ih =>
    simp only [noMap, allM_iff] at hA
    exact .own l b' c cs T us hb' hz h1 h2 h3 hu h4 fun k hk => ih k hk (hA _ (List.getElem_mem hk))
  | rnil n => exact .rnil n
  | orec n m l b' c cs T us hb' hz hl h1 h2 h3 hu h4 _ ih =>
    simp only [noMap, allM_iff] at hA
    exact .orec n m l b' c cs T us hb' hz hl h1 h2 h3 hu h4 fun k hk => ih k hk (hA _ (List.getElem_mem hk))
  | box l b' cs T hb' hz h1 h4 _ ih =>
    simp only [noMap, allM_iff] at hA
    exact .box l b' cs T hb' hz h1 h4 fun k hk => ih k hk (hA _ (List.getElem_mem hk))
  | agg l cs h1 _ ih =>
    simp only [noMap, allM_iff] at hA
    exact .agg l cs h1 fun k hk => ih k hk (hA _ (List.getElem_mem hk))
  | tup l cs h1 _ ih =>
    simp only [noMap, allM_iff] at hA
    exact .tup l cs h1 fun k hk => ih k hk (hA _ (List.getElem_mem hk))
  | omap ks vs b' es kf vf hb' hz h1 h2 he hk hv =>
    simp only [noMap, Bool.and_eq_true, allM_iff] at hA
    exact .omap ks vs b' es kf vf hb' hz h1 h2 he (fun i hi => (hk i hi).unmap hb (hA.1 _ (List.getElem_mem hi))) fun i hi => (hv i hi).unmap hb (hA.2 _ (List.getElem_mem hi))
  | oiter => simp [noMap] at hA
  | memo => simp [noMap] at hA

theorem getP_noMap : ∀ (q : List Nat) {A B : AV}, noMap A = true → getP A q = some B → noMap B = true
  | [], A, B, h, hg => by simp only [getP, Option.some.injEq] at hg; exact hg ▸ h
  | k :: q, A, B, h, hg => by
    simp only [getP] at hg
    cases hl : kids A with
    | none => simp only [hl] at hg; cases hg
    | some l =>
      simp only [hl] at hg
      cases hb : l[k]? with
      | none => simp only [hb] at hg; cases hg
      | some b =>
        simp only [hb] at hg
        refine getP_noMap q ?_ hg
        have hm := List.mem_of_getElem? hb
        cases A <;> simp only [kids, Option.some.injEq, reduceCtorEq] at hl
        all_goals (subst hl; simp only [noMap, allM_iff] at h; exact h _ hm)

theorem Rep.unscope {κ κ' : Con} {Z Z2 : Nat → Option Obj} {β β2 : List Nat → Option Nat} {e e' : Env} {val val' : Nat → Value} {w w2 : World} (hR : Rep κ Z β e val w) {s b : Nat} {es : Array MapEntry} {ks vs : List AV} (hβ : β [s] = some b)
    {Z1 : Nat → Option Obj} {β1 : List Nat → Option Nat} (hκ : κ' = ⟨w, Z1, fun b' => ∃ p, β1 p = some b', κ.V0, κ.lim⟩) (hb1 : Z1 b = some (.map es ks.length)) (hz1 : ∀ b' o, Z1 b' = some o → κ.Z0 b' = some o ∨ new κ b') (hz0 : ∀ b' o, κ.Z0 b' = some o → Z1 b' = some o) (hbo1 : ∀ p b', β1 p = some b' → new κ b')
    (h2 : Rep κ' Z2 β2 e' val' w2) (hs : e' s = .pin (.pmap ks vs) (.map (some b))) (hno : ∀ t, t ≠ s → noMap (e' t) = true) (hk : allM ks = true) (hv : allM vs = true) :
    ∃ Z3 β3, Rep κ Z3 β3 ((Wr.set s (.omap ks vs)).app e') val' w2 := by
  subst hκ
  have hZb : Z2 b = some (.map es ks.length) := h2.z0 b _ hb1
  have hbb := hR.bo _ b hβ
  have hnew : ∀ b', new ⟨w, Z1, fun b' => ∃ p, β1 p = some b', κ.V0, κ.lim⟩ b' → new κ b' := by
    rintro b' (⟨p, hp⟩ | h)
    · exact hbo1 p b' hp
    · exact .inr (Nat.le_trans hR.size h)
  let Z3 : Nat → Option Obj := fun b' => if b' = b then none else Z2 b'
  let β3 : List Nat → Option Nat := fun q => match q with
    | [] => none
    | x :: q' => if x = s then (if q' = [] then some b else none) else β2 (x :: q')
  have hout : ∀ x q', x ≠ s → β3 (x :: q') = β2 (x :: q') := fun x q' hx => if_neg hx
  have hin : ∀ q, β3 (s :: q) = if q = [] then some b else none := fun q => if_pos rfl
  have hne : ∀ q b', β2 q = some b' → b' ≠ b := by
    rintro q b' hq rfl
    have := (h2.bo q _ hq).2.1
    rw [hZb] at this; cases this
  have hZ3 : ∀ b' o, Z3 b' = some o → b' ≠ b ∧ Z2 b' = some o := by
    intro b' o ho
    replace ho : (if b' = b then none else Z2 b') = some o := ho
    split at ho
    · cases ho
    · exact ⟨by assumption, ho⟩
  refine ⟨Z3, β3, h2.os.trans hR.os, h2.tape.trans hR.tape, h2.output.trans hR.output, Nat.le_trans hR.size h2.size, fun b' hb' hn => ?_, fun b' o ho => ?_, fun b' o ho => ?_, fun b' o ho => h2.zh b' o (hZ3 b' o ho).2, fun p q b' hp hq => ?_, fun p b' hp => ?_, fun t => ?_⟩
  · refine (h2.frame b' (Nat.lt_of_lt_of_le hb' hR.size) ?_).trans (hR.frame b' hb' hn)
    rintro ⟨p, hp⟩
    rcases hbo1 p b' hp with h | h
    · exact hn h
    · omega
  · have h3 := h2.z0 b' o (hz0 b' o ho)
    show (if b' = b then none else Z2 b') = some o
    rw [if_neg]
    · exact h3
    · rintro rfl
      have := hR.z0 _ o ho
      rw [hbb.2.1] at this; cases this
  · rcases h2.zo b' o (hZ3 b' o ho).2 with h | h
    · exact hz1 b' o h
    · exact .inr (hnew b' h)
  · cases p with
    | nil => cases hp
    | cons x p =>
      cases q with
      | nil => cases hq
      | cons y q =>
        by_cases hx : x = s <;> by_cases hy : y = s
        · subst hx; subst hy
          rw [hin] at hp hq
          split at hp <;> split at hq <;> simp_all
        · subst hx
          rw [hin] at hp
          rw [hout _ _ hy] at hq
          split at hp
          · injection hp with hp; subst hp; exact absurd rfl (hne _ _ hq)
          · cases hp
        · subst hy
          rw [hin] at hq
          rw [hout _ _ hx] at hp
          split at hq
          · injection hq with hq; subst hq; exact absurd rfl (hne _ _ hp)
          · cases hq
        · rw [hout _ _ hx] at hp
          rw [hout _ _ hy] at hq
          exact h2.inj _ _ _ hp hq
  · cases p with
    | nil => cases hp
    | cons x p =>
      by_cases hx : x = s
      · subst hx
        rw [hin] at hp
        split at hp
        · injection hp with hp
          subst hp
          exact ⟨hbb.1, if_pos rfl, Nat.lt_of_lt_of_le hbb.2.2 h2.size⟩
        · cases hp
      · rw [hout _ _ hx] at hp
        have := h2.bo _ b' hp
        refine ⟨hnew b' this.1, ?_, this.2.2⟩
        show (if b' = b then none else Z2 b') = none
        split
        · rfl
        · exact this.2.1
  · have hmv : ∀ t q A u, t ≠ s → noMap A = true → ORep Z2 w2.heap β2 (t :: q) A u → ORep Z3 w2.heap β3 (t :: q) A u := fun t q A u ht hA hO =>
      (hO.unmap hZb hA).move (fun _ _ h => h) fun r b' hr => ⟨by rw [show t :: q ++ r = t :: (q ++ r) from rfl, hout _ _ ht]; simpa using hr, rfl⟩
    have heq : ∀ t, t ≠ s → (Wr.set s (.omap ks vs)).app e' t = killV s [] (e' t) := by
      intro t ht
      simp [Wr.app, isOwn, upd, kill, ht]
    by_cases hts : t = s
    · subst hts
      have h3 : (Wr.set t (.omap ks vs)).app e' t = .omap ks vs := by simp [Wr.app, isOwn, upd]
      unfold TRep
      rw [h3]
      have hp := ORep.toP (h2.slot' hs (by simp)) rfl
      generalize hvv : val' t = v at hp
      cases hp with
      | pin A v hp =>
        cases hp with
        | pmap ks vs b es' kf vf hz g1 g2 ge gk gv =>
          rw [hZb] at hz
          injection hz with hz
          injection hz with hz _
          subst hz
          exact .omap ks vs b _ kf vf (by rw [hin]; rfl) (h2.zh _ _ hZb) g1 g2 ge (fun i hi => (gk i hi).unmap hZb ((allM_iff _).1 hk _ (List.getElem_mem hi))) fun i hi => (gv i hi).unmap hZb ((allM_iff _).1 hv _ (List.getElem_mem hi))
    · have ht := h2.reps t
      have hnt := hno t hts
      have hget : ∀ s' q B, s' ≠ s → getP ((Wr.set s (.omap ks vs)).app e' s') q = some B → isOwn B = true → getP (e' s') q = some B := by
        intro s' q B hs' hg hB
        rw [heq s' hs'] at hg
        cases hes : e' s' with
        | alias a p => rw [hes] at hg; simp only [killV] at hg; split at hg <;> cases q <;> simp_all [getP, kids] <;> subst hg <;> simp [isOwn] at hB
        | valias a p => rw [hes] at hg; simp only [killV] at hg; split at hg <;> cases q <;> simp_all [getP, kids] <;> subst hg <;> simp [isOwn] at hB
        | addr a p => rw [hes] at hg; simp only [killV] at hg; split at hg <;> cases q <;> simp_all [getP, kids] <;> subst hg <;> simp [isOwn] at hB
        | win a p k' => rw [hes] at hg; simp only [killV] at hg; split at hg <;> cases q <;> simp_all [getP, kids] <;> subst hg <;> simp [isOwn] at hB
        | _ => rw [hes] at hg; exact hg
      unfold TRep at ht ⊢
      rw [heq t hts]
      cases het : e' t with
      | alias s' q =>
        rw [het] at ht
        simp only [killV, List.nil_prefix, and_true]
        by_cases hs' : s' = s
        · simp only [hs', if_true]
          exact .pers (.junk _)
        · simp only [hs', if_false]
          intro B hg hB
          have hg' := hget s' q B hs' hg hB
          exact hmv s' q B _ hs' (getP_noMap q (hno s' hs') hg') (ht B hg' hB)
      | valias s' q =>
        rw [het] at ht
        simp only [killV, List.nil_prefix, and_true]
        by_cases hs' : s' = s
        · simp only [hs', if_true]
          exact .pers (.junk _)
        · simp only [hs', if_false]
          intro l hg
          have hg' := hget s' q _ hs' hg rfl
          obtain ⟨cs, g1, g2, b', T, g3, g4⟩ := ht l hg'
          have hl : noMap (.agg l) = true := by have := getP_noMap q (hno s' hs') hg'; simpa [noMap] using this
          exact ⟨cs, g1, hmv s' q _ _ hs' hl g2, b', T, (hout _ _ hs').trans g3, g4⟩
      | addr s' q =>
        rw [het] at ht
        simp only [killV, List.nil_prefix, and_true]
        by_cases hs' : s' = s
        · simp only [hs', if_true]
          exact .pers (.junk _)
        · simp only [hs', if_false]
          obtain ⟨q', k, b', g1, g2, g3⟩ := ht
          exact ⟨q', k, b', g1, g2, fun B hg hB => (hout _ _ hs').trans (g3 B (hget s' q' B hs' hg hB) hB)⟩
      | win s' q k =>
        rw [het] at ht
        simp only [killV, List.nil_prefix, and_true]
        by_cases hs' : s' = s
        · simp only [hs', if_true]
          exact .pers (.junk _)
        · simp only [hs', if_false]
          intro l hg
          have hg' := hget s' q _ hs' hg rfl
          obtain ⟨u, g1, g2⟩ := ht l hg'
          exact ⟨u, hmv s' q _ _ hs' (getP_noMap q (hno s' hs') hg') g1, g2⟩
      | _ =>
        rw [het] at ht hnt
        exact hmv t [] _ _ hts hnt ht

theorem CW.scopeM {P : Program} {κ : Con} {c : Code} {Q : QA} {e : Env} (s : Nat) (ks vs : List AV) (he : e s = .omap ks vs) (hk : allM ks = true) (hv : allM vs = true)
    (h : ∀ κ' : Con, κ'.lim = κ.lim → ∀ v, CW P κ' c (fun x e' => e' s = .pin (.pmap ks vs) v ∧ (∀ t, t ≠ s → noMap (e' t) = true) ∧ Q x ((Wr.set s (.omap ks vs)).app e')) (upd e s (.pin (.pmap ks vs) v))) : CW P κ c Q e := by
  intro a w ⟨g1, g2, Z, β, hR⟩
  have hO := hR.slot' he (by simp)
  obtain ⟨Z1, β1, hR1, -, hfr, -⟩ := hR.freeze s [] (.omap ks vs) (by rw [he]; rfl) (by rw [he]; simp) (by rw [he]; simp) (view_plain _) (view_noOwn _)
  generalize hvv : vals a s = v at hO
  cases hO with
  | pers h => cases h
  | omap ks vs b es kf vf hb hz h1 h2 he' hk' hv' =>
    have hb1 : Z1 b = some (.map es ks.length) := by
      have := hfr [] b (by simpa using hb)
      rw [this]; exact hz
    have hpm : PRep Z1 (.pmap ks vs) (vals a s) := ORep.toP (hR1.slot' (t := s) (A := .pmap ks vs) (by simp [Wr.app, AV.view, isOwn, upd, setP]) (by simp)) rfl
    have hR2 := hR1.put s (A := .pin (.pmap ks vs) (vals a s)) (u := vals a s) (.pin _ _ hpm) (by simp)
    rw [setV_self] at hR2
    have henv : (Wr.set s (.pin (.pmap ks vs) (vals a s))).app ((Wr.mod s [] (AV.view (.omap ks vs))).app e) = upd e s (.pin (.pmap ks vs) (vals a s)) := by
      funext t
      simp only [Wr.app, AV.view, isOwn, upd, setP, Bool.false_eq_true, if_false]
      by_cases ht : t = s <;> simp [upd, ht]
    rw [henv] at hR2
    let κ' : Con := ⟨w, Z1, fun b' => ∃ p, β1 p = some b', κ.V0, κ.lim⟩
    have hR3 : Rep κ' Z1 β1 (upd e s (.pin (.pmap ks vs) (vals a s))) (vals a) w := ⟨rfl, rfl, rfl, Nat.le_refl _, fun _ _ _ => rfl, fun _ _ h => h, fun _ _ h => .inl h, hR2.zh, hR2.inj, fun p b' hp => ⟨.inl ⟨p, hp⟩, (hR2.bo p b' hp).2⟩, hR2.reps⟩
    refine wp_mono (h κ' rfl (vals a s) a w ⟨g1, g2, Z1, β1, hR3⟩) fun x a' w' ⟨e', ⟨q1, q2, q3⟩, hs'⟩ => ?_
    obtain ⟨g1', g2', Z2, β2, hR'⟩ := hs'
    rw [hvv] at q1
    obtain ⟨Z3, β3, hfin⟩ := hR.unscope hb rfl hb1 hR1.zo hR1.z0 (fun p b' hp => (hR1.bo p b' hp).1) hR' q1 q2 hk hv
    exact ⟨_, q3, g1', g2', Z3, β3, hfin⟩

end Go.Proofs.YtmhiipmajlmlgaaGreat

namespace Go.Proofs.YtmhiipmajlmlgaaGreat
set_option linter.unusedSimpArgs false
set_option linter.unusedVariables false
set_option maxRecDepth 8000
set_option maxHeartbeats 2000000
open Go Go.RowKit AV

theorem CW.less {P : Program} {κ : Con} {c : Code} {Q : QA} {e : Env} (h : CW P κ c (fun x e' => ∃ e'', Le e' e'' ∧ Q x e'') e) : CW P κ c Q e := fun a w hs =>
  wp_mono (h a w hs) fun _ _ _ ⟨_, ⟨_, hle, hq⟩, hs'⟩ => ⟨_, hq, hs'.weaken hle⟩

theorem envOf_ne {L : List (Nat × AV)} {Pr : AV → Prop} (hj : Pr .junk) {s : Nat} (h : ∀ p ∈ L, p.1 ≠ s → Pr p.2) {t : Nat} (ht : t ≠ s) : Pr (envOf L t) := by
  induction L with
  | nil => exact hj
  | cons p L ih =>
    obtain ⟨k, v⟩ := p
    simp only [envOf]
    by_cases hk : t = k
    · subst hk; rw [upd_same]; exact h (t, v) (by simp) ht
    · rw [upd_ne _ _ _ _ hk]; exact ih fun p hp => h p (List.mem_cons_of_mem _ hp)

theorem CW.scopeL {P : Program} {κ : Con} {c : Code} {Q : QA} {e : Env} (s : Nat) (ks vs : List AV) (he : e s = .omap ks vs) (hk : allM ks = true) (hv : allM vs = true)
    (h : ∀ κ' : Con, κ'.lim = κ.lim → ∀ v, CW P κ' c (fun x e' => ∃ L, LeL e' ((s, .pin (.pmap ks vs) v) :: L) ∧ (∀ p ∈ L, noMap p.2 = true) ∧ Q x ((Wr.set s (.omap ks vs)).app (envOf ((s, .pin (.pmap ks vs) v) :: L)))) (upd e s (.pin (.pmap ks vs) v))) : CW P κ c Q e :=
  CW.scopeM s ks vs he hk hv fun κ' hκ v => CW.less ((h κ' hκ v).mono fun x e' ⟨L, h1, h2, h3⟩ => ⟨_, h1.le, by simp [envOf, upd], fun t ht => by
    refine envOf_ne (Pr := fun A => noMap A = true) rfl (s := s) (fun p hp hps => ?_) ht
    rcases List.mem_cons.1 hp with rfl | hp
    · exact absurd rfl hps
    · exact h2 p hp, h3⟩)

end Go.Proofs.YtmhiipmajlmlgaaGreat

namespace Go.Proofs.YtmhiipmajlmlgaaGreat
set_option linter.unusedSimpArgs false
set_option linter.unusedVariables false
set_option maxRecDepth 8000
set_option maxHeartbeats 2000000
open Go Go.RowKit AV

def wpOpsL (R : Nat → Rd) : List Oper → Nat → Env → (Env → Prop) → Prop
  | [], _, e, K => K e
  | _ :: rest, i, e, K => (R i).W e fun ws => wpOpsL R rest (i + 1) (apps ws e) K

def KOpsL (R : Nat → Rd) (rest : List Oper) (i : Nat) (e : Env) (K : Env → Prop) (ws : List Wr) : Prop := wpOpsL R rest (i + 1) (apps ws e) K
theorem wpOpsL_cons {R : Nat → Rd} {e : Env} {K : Env → Prop} (o : Oper) (rest : List Oper) (i : Nat) : wpOpsL R (o :: rest) i e K = (R i).W e (KOpsL R rest i e K) := rfl
theorem wpOpsL_nil {R : Nat → Rd} {e : Env} {K : Env → Prop} (i : Nat) : wpOpsL R [] i e K = K e := rfl
theorem KOpsL_app {R : Nat → Rd} {e : Env} {K : Env → Prop} (rest : List Oper) (i : Nat) (ws : List Wr) : KOpsL R rest i e K ws = wpOpsL R rest (i + 1) (apps ws e) K := rfl

end Go.Proofs.YtmhiipmajlmlgaaGreat

namespace Go.Proofs.YtmhiipmajlmlgaaGreat
set_option linter.unusedSimpArgs false
set_option linter.unusedVariables false
set_option maxRecDepth 8000
set_option maxHeartbeats 2000000
open Go Go.RowKit AV

section
variable {κ : Con} {Z : Nat → Option Obj} {β : List Nat → Option Nat} {e : Env} {val : Nat → Value} {w : World}

end

noncomputable def rdG3 (Γ : Ctx) (d f s t u : Nat) : Rd := .get s fun X => .get t fun Y => .get u fun V => .need (isOwn X = true ∧ isOwn Y = true ∧ isOwn V = true ∧ isP (view V) = true ∧ s ≠ t ∧ s ≠ u ∧ t ≠ u)
  (rdAskE Γ f [X, Y, view V] fun r A' => .need ((isP r || isOwn r) = true ∧ isOwn A' = true) (.ret [.mod u [] (view V), .set t .junk, .set s A', .set d r]))

end Go.Proofs.YtmhiipmajlmlgaaGreat

namespace Go.Proofs.YtmhiipmajlmlgaaGreat
set_option linter.unusedSimpArgs false
set_option linter.unusedVariables false
set_option maxRecDepth 8000
set_option maxHeartbeats 2000000
open Go Go.RowKit AV

def lent3 (ms : List Nat) (g : Nat) (o : Oper) : Option (Nat × Nat × Nat × Nat × Oper) := match o.dst, o.guard, o.op with
  | some d, none, .call c => (match c.callee, c.args.toList with
    | .value (.func f), [.tmp t, .tmp y, .tmp z] => if f = g ∧ ms.contains t = true then some (t, y, z, d, o) else none
    | _, _ => none)
  | _, _, _ => none

noncomputable def rdLG (P : Program) (Γ : Ctx) (tl : List Nat) (ops : Array Oper) (ms : List Nat) (g s0 : Nat) (v0 : Value) (i : Nat) : Rd := match ops[i]? with
  | none => .fail
  | some o => match lent3 ms g o with
    | some (t, y, z, d, _) => .get t fun A => .need (A = .pin .junk v0) (rdG3 Γ d g s0 y z)
    | none => rdLR P Γ tl ops ms s0 v0 i

end Go.Proofs.YtmhiipmajlmlgaaGreat

namespace Go.Proofs.YtmhiipmajlmlgaaGreat
set_option linter.unusedSimpArgs false
set_option linter.unusedVariables false
set_option maxRecDepth 8000
set_option maxHeartbeats 2000000
open Go Go.RowKit AV

noncomputable def rdSrcP (y : Operand) (k : List AV → Option Nat → Rd) : Rd := match y with
  | .tmp t => .get t fun v => match v with
    | .win s q j => .get s fun c => rdGetP c q fun X => match X with
      | .own l => .need (allP (l.take (j - bigW)) = true ∧ bigW ≤ j ∧ j - bigW ≤ l.length) (k (l.take (j - bigW)) none)
      | _ => .fail
    | _ => rdSrc y k
  | _ => rdSrc y k

noncomputable def rdAppP (P : Program) (T T2 d : Nat) (x y : Operand) : Rd := .need (slOK P T = true ∧ slOK P T2 = true) (rdSrcP y fun m t2 => rdDst x fun l t1 => .need ((t1 = none ∨ t1 ≠ t2) ∧ l.length + m.length ≤ 1099511627776 ∧ t1 ≠ some d ∧ t2 ≠ some d)
  (.ret (srcW t1 ++ srcW t2 ++ [.set d (.own (l ++ m))])))

def appOf (o : Oper) : Option (Nat × Nat × Nat × Operand × Operand) := match o.dst, o.guard, o.op with
  | some d, none, .call c => (match c.callee, c.args.toList, c.argTypes.toList with
    | .builtin .append, [x, y], [T, T2] => some (T, T2, d, x, y)
    | _, _, _ => none)
  | _, _, _ => none

noncomputable def rdGA (P : Program) (Γ : Ctx) (tl : List Nat) (ops : Array Oper) (o : Oper) : Rd := match appOf o with
  | some (T, T2, d, x, y) => rdAppP P T T2 d x y
  | none => rdG P Γ tl ops o

def wpOpsQ (P : Program) (Γ : Ctx) (tl : List Nat) (ops : Array Oper) : List Oper → Env → (Env → Prop) → Prop
  | [], e, K => K e
  | o :: rest, e, K => (rdGA P Γ tl ops o).W e fun ws => wpOpsQ P Γ tl ops rest (apps ws e) K

def KOpsQ (P : Program) (Γ : Ctx) (tl : List Nat) (ops : Array Oper) (rest : List Oper) (e : Env) (K : Env → Prop) (ws : List Wr) : Prop := wpOpsQ P Γ tl ops rest (apps ws e) K
theorem wpOpsQ_cons {P : Program} {Γ : Ctx} {tl : List Nat} {ops : Array Oper} {e : Env} {K : Env → Prop} (o : Oper) (rest : List Oper) : wpOpsQ P Γ tl ops (o :: rest) e K = (rdGA P Γ tl ops o).W e (KOpsQ P Γ tl ops rest e K) := rfl
theorem wpOpsQ_nil {P : Program} {Γ : Ctx} {tl : List Nat} {ops : Array Oper} {e : Env} {K : Env → Prop} : wpOpsQ P Γ tl ops [] e K = K e := rfl
theorem KOpsQ_app {P : Program} {Γ : Ctx} {tl : List Nat} {ops : Array Oper} {e : Env} {K : Env → Prop} (rest : List Oper) (ws : List Wr) : KOpsQ P Γ tl ops rest e K ws = wpOpsQ P Γ tl ops rest (apps ws e) K := rfl

end Go.Proofs.YtmhiipmajlmlgaaGreat

namespace Go.Proofs.YtmhiipmajlmlgaaGreat
set_option linter.unusedSimpArgs false
set_option linter.unusedVariables false
set_option maxRecDepth 8000
set_option maxHeartbeats 2000000
open Go Go.RowKit AV

theorem equalIn_nil0 {P : Program} {w : World} {T E : Nat} {A : Option Addr} {c : Nat} (d : Nat) (h : P.underlying T = some (.slice E)) : (Op.equalIn (d + 1) T (.slice A 0 c) (.slice none 0 0)).run P w = .ok A.isNone w := by
  cases A <;> simp [Op.equalIn, run_underlying h]

theorem nil_step {P : Program} {κ : Con} {o : Oper} {e : Env} {T yT E d1 d2 : Nat} (ho : o.op = .binOp .eql T (.tmp d1) (.const (.slice none 0 0)) yT) (hd : o.dst = some d2) (hn : κ.lim.1 ≤ d2 ∧ d2 < κ.lim.2) (hT : P.underlying T = some (.slice E)) (he : e d1 = .sh [])
    (Q : Exit → Act → World → Prop) (K : Act → World → Prop) (a : Act) (w : World) (hs : St κ e a w) (hK : ∀ b a' w', St κ (upd e d2 (.bool b)) a' w' → K a' w') : o.wp P a w K Q := by
  obtain ⟨h1, h2, Z, β, hR⟩ := hs
  have hp := ORep.toP (hR.slot' he (by simp)) rfl
  have hv : ∃ A c, vals a d1 = .slice A 0 c := by
    generalize vals a d1 = v at hp
    generalize hl : AV.sh [] = X at hp
    cases hp with
    | nil A c hc => exact ⟨_, _, rfl⟩
    | sh l b o c cs T fz us hz g1 g2 hu g3 hk =>
      injection hl with hl
      subst hl
      exact ⟨_, _, rfl⟩
    | _ => cases hl
  obtain ⟨A, c, hv⟩ := hv
  have hx : a.eval (.tmp d1) = .slice A 0 c := by rw [eval_tmp, hv]
  have hy : a.eval (.const (.slice none 0 0)) = .slice none 0 0 := rfl
  have hrun : (execOp a.eval o).run P w = .ok (.value (.bool A.isNone)) w := by
    have hg : (eqGuard .eql T (.tmp d1) (.const (.slice none 0 0)) (.slice A 0 c) (.slice none 0 0)).run P w = .ok () w := rfl
    have hq : (Go.binOp .eql T (.slice A 0 c) (.slice none 0 0)).run P w = .ok (.bool A.isNone) w := by
      simp only [Go.binOp, Op.equal]
      rw [Sem.run_bind]
      have h6 : (Op.equalIn Op.maxDepth T (.slice A 0 c) (.slice none 0 0)).run P w = .ok A.isNone w := equalIn_nil0 (P := P) (w := w) 9999 hT
      rw [h6]
      rfl
    simp only [execOp, ho, hx, hy]
    simp only [Sem.run_bind, hg, Result.andThen_ok, hq]
    rfl
  unfold Oper.wp
  rw [hrun, Oper.upon_value, hd]
  refine hK A.isNone _ _ ⟨h1, keep_put hn h2, Z, β, ?_⟩
  rw [vals_put (by omega)]
  exact hR.put d2 (.bool _) (by simp)

theorem CW.nilReg {P : Program} {κ : Con} {Q : QA} {e : Env} {o1 o2 : Oper} {id s d1 d2 T yT : Nat} (ho1 : o1.op = .move (.tmp s)) (hd1 : o1.dst = some d1) (hg1 : o1.guard = none) (ho2 : o2.op = .binOp .eql T (.tmp d1) (.const (.slice none 0 0)) yT) (hd2 : o2.dst = some d2) (hg2 : o2.guard = none)
    (hn1 : κ.lim.1 ≤ d1 ∧ d1 < κ.lim.2) (hn2 : κ.lim.1 ≤ d2 ∧ d2 < κ.lim.2) (hT : (slE P T).isSome = true) (he : e s = .sh []) (h : ∀ b, Q .normal (upd (upd e d1 (.sh [])) d2 (.bool b))) : CW P κ (.region id [o1, o2].toArray false) Q e := fun a w hs =>
  wp_region_lit (by
    obtain ⟨E, hE⟩ := slE_spec hT
    unfold wpList
    have hw1 : ∀ x, Region.wanted o1 x = true := fun x => by simp [Region.wanted, hg1]
    have hw2 : ∀ x, Region.wanted o2 x = true := fun x => by simp [Region.wanted, hg2]
    rw [if_pos (hw1 _)]
    refine .inl (rdMv_sound (κ := κ) (e := e) (tr := false) (x := .tmp s) (ws := [Wr.set d1 (.sh [])]) (.inl ho1) hd1 hn1 ?_ _ _ a w hs fun a' w' hs' => ?_)
    · simp [rdMv, rdBor, Rd.Wo, he, head, isP, allP]
    · unfold wpList
      rw [if_pos (hw2 _)]
      refine .inl (nil_step ho2 hd2 hn2 hE (e := upd e d1 (.sh [])) (by simp [upd]) _ _ a' w' hs' fun b a'' w'' hs'' => ?_)
      exact ⟨_, h b, hs''⟩)

end Go.Proofs.YtmhiipmajlmlgaaGreat
