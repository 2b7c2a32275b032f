/- Contracts of functions with several results, structs in memory among them. No program in sight. -/
import Derived.Test.YtehdfifncbokeaaGrpJ
import Derived.Lib.MinMax
namespace Go.Proofs.Ytehdfifncbokeaa
set_option linter.unusedSimpArgs false
set_option linter.unusedVariables false
set_option maxRecDepth 8000
set_option maxHeartbeats 2000000
open Go Go.RowKit AV

def slotR : ResultVar → Nat
  | .tmp t => t
  | .cell t _ => t

def ResI (P : Program) (e : Env) (rv : ResultVar) (A : AV) : Prop := match rv with
  | .tmp t => plainB A = true ∧ (A = e t ∨ A = view (e t))
  | .cell t T => ∃ l, aggT P T = some true ∧ szT P T = some l.length ∧ e t = .box l ∧ A = .agg l

def ResL (P : Program) (e : Env) : List ResultVar → List AV → Prop
  | [], [] => True
  | rv :: rs, A :: l => ResI P e rv A ∧ ResL P e rs l
  | _, _ => False

def resB (rv : ResultVar) (A : AV) : Nat × AV := match rv, A with
  | .cell t _, .agg m => (t, .box m)
  | rv, A => (slotR rv, A)

theorem ResL.len {P : Program} {e : Env} : ∀ {rs : List ResultVar} {l : List AV}, ResL P e rs l → l.length = rs.length
  | [], [], _ => rfl
  | _ :: _, _ :: _, h => by simp [h.2.len]
  | [], _ :: _, h => h.elim
  | _ :: _, [], h => h.elim
theorem ResL.get {P : Program} {e : Env} : ∀ {rs : List ResultVar} {l : List AV}, ResL P e rs l → ∀ k (h1 : k < rs.length) (h2 : k < l.length), ResI P e rs[k] l[k]
  | _ :: _, _ :: _, h, 0, _, _ => h.1
  | _ :: _, _ :: _, h, k + 1, h1, h2 => by simpa using h.2.get k (by simpa using h1) (by simpa using h2)
  | [], _ :: _, h, _, _, _ => h.elim
  | [], [], _, _, h1, _ => by simp at h1
theorem ResL.leL {P : Program} {e : Env} {L : List (Nat × AV)} (hL : LeL e L) : ∀ {rs : List ResultVar} {l : List AV}, ResL P e rs l → LeL e (List.zipWith resB rs l ++ L)
  | [], [], _ => hL
  | rv :: _, A :: _, h => by
    refine ⟨?_, h.2.leL hL⟩
    have h1 := h.1
    cases rv with
    | tmp t => exact h1.2
    | cell t T =>
      obtain ⟨l, _, _, he, rfl⟩ := h1
      exact .inl he.symm
  | [], _ :: _, h => h.elim
  | _ :: _, [], h => h.elim

theorem resB_slot {P : Program} {e : Env} {rv : ResultVar} {A : AV} (h : ResI P e rv A) : (resB rv A).1 = slotR rv := by
  cases rv with
  | tmp t => rfl
  | cell t T => obtain ⟨l, _, _, _, rfl⟩ := h; rfl

theorem env_zip {P : Program} {e : Env} {L : List (Nat × AV)} : ∀ {rs : List ResultVar} {l : List AV}, ResL P e rs l → (rs.map slotR).Nodup → ∀ k (h1 : k < rs.length) (h2 : k < l.length), envOf (List.zipWith resB rs l ++ L) (slotR rs[k]) = (resB rs[k] l[k]).2
  | rv :: rs, A :: l, h, hn, 0, _, _ => by
    simp only [List.zipWith_cons_cons, List.cons_append, List.getElem_cons_zero]
    show upd _ (resB rv A).1 (resB rv A).2 (slotR rv) = _
    rw [resB_slot h.1, upd_same]
  | rv :: rs, A :: l, h, hn, k + 1, h1, h2 => by
    simp only [List.zipWith_cons_cons, List.cons_append, List.getElem_cons_succ]
    show upd _ (resB rv A).1 (resB rv A).2 (slotR _) = _
    simp only [List.map_cons, List.nodup_cons] at hn
    have hk : k < rs.length := by simpa using h1
    rw [resB_slot h.1, upd_ne]
    · exact env_zip h.2 hn.2 k hk (by simpa using h2)
    · intro he
      exact hn.1 (he ▸ List.mem_map.2 ⟨_, List.getElem_mem hk, rfl⟩)
  | [], _ :: _, h, _, _, _, _ => h.elim
  | [], [], _, _, _, h1, _ => by simp at h1
theorem env_zip_ne {L : List (Nat × AV)} {s : Nat} : ∀ {P : Program} {e : Env} {rs : List ResultVar} {l : List AV}, ResL P e rs l → s ∉ rs.map slotR → envOf (List.zipWith resB rs l ++ L) s = envOf L s
  | _, _, [], [], _, _ => rfl
  | P, e, rv :: rs, A :: l, h, hs => by
    simp only [List.map_cons, List.mem_cons, not_or] at hs
    simp only [List.zipWith_cons_cons, List.cons_append]
    show upd _ (resB rv A).1 (resB rv A).2 s = _
    rw [resB_slot h.1, upd_ne _ _ _ _ hs.1]
    exact env_zip_ne h.2 hs.2
  | _, _, [], _ :: _, h, _ => h.elim
  | _, _, _ :: _, [], h, _ => h.elim

noncomputable def resF (tmps : Array Value) (rv : ResultVar) : Sem Value := match rv with
    | .tmp t => pure (tmps.getD t undef)
    | .cell a t => do loadVar t (← asAddr (tmps.getD a undef))
theorem results_resF (fn : Func) (tmps : Array Value) : results fn tmps = (do
    let vs ← fn.results.mapM (resF tmps)
    pure (if h : vs.size = 1 then vs[0] else .tuple vs)) := by
  unfold results
  congr 1

theorem mapM_all {P : Program} {w : World} {f : ResultVar → Sem Value} : ∀ (rs : List ResultVar) (vs : List Value), vs.length = rs.length → (∀ k (h1 : k < rs.length) (h2 : k < vs.length), (f rs[k]).run P w = .ok vs[k] w) → (rs.mapM f).run P w = .ok vs w
  | [], [], _, _ => by simp
  | r :: rs, v :: vs, hl, h => by
    have h0 := h 0 (by simp) (by simp)
    have ih := mapM_all (P := P) (w := w) (f := f) rs vs (by simpa using hl) fun k h1 h2 => h (k + 1) (Nat.succ_lt_succ h1) (Nat.succ_lt_succ h2)
    simp only [List.getElem_cons_zero] at h0
    rw [List.mapM_cons]
    simp [Sem.run_bind, h0, ih]
  | [], _ :: _, hl, _ => by simp at hl
  | _ :: _, [], hl, _ => by simp at hl

theorem results_many {P : Program} {fn : Func} {tmps : Array Value} {w : World} {rs : List ResultVar} (h : fn.results.toList = rs) (hlen : rs.length ≠ 1) (vs : List Value) (hl : vs.length = rs.length)
    (hk : ∀ k (h1 : k < rs.length) (h2 : k < vs.length), (resF tmps rs[k]).run P w = .ok vs[k] w) : (results fn tmps).run P w = .ok (.tuple vs.toArray) w := by
  have e : fn.results = rs.toArray := by rw [← h]
  have hv : vs.length ≠ 1 := by omega
  have hm := mapM_all (P := P) (w := w) (f := resF tmps) rs vs hl hk
  rw [results_resF, e]
  simp [Sem.run_bind, hm, hv]

def lfM (rs : List ResultVar) : List Nat → Option (List Nat)
  | 0 :: k :: q => if h : k < rs.length then some (slotR rs[k] :: q) else none
  | 1 :: q => some (0 :: q)
  | _ => none
theorem lfM_inj {rs : List ResultVar} (hn : (rs.map slotR).Nodup) (h0 : 0 ∉ rs.map slotR) : ∀ r1 r2 x, lfM rs r1 = some x → lfM rs r2 = some x → r1 = r2 := by
  have hne : ∀ k (h : k < rs.length), slotR rs[k] ≠ 0 := fun k h he => h0 (he ▸ List.mem_map.2 ⟨_, List.getElem_mem h, rfl⟩)
  have hinj : ∀ k j (h : k < rs.length) (h' : j < rs.length), slotR rs[k] = slotR rs[j] → k = j := by
    intro k j h h' he
    have := (List.getElem_inj (h₀ := by simpa using h) (h₁ := by simpa using h') hn (i := k) (j := j)).1 (by simpa using he)
    exact this
  intro r1 r2 x h1 h2
  unfold lfM at h1 h2
  split at h1 <;> split at h2
  · split at h1
    · split at h2
      · injection h1 with h1; injection h2 with h2
        rw [← h2] at h1
        injection h1 with e1 e2
        rw [hinj _ _ _ _ e1, e2]
      · cases h2
    · cases h1
  · split at h1
    · injection h1 with h1; injection h2 with h2
      rw [← h2] at h1
      injection h1 with e1 e2
      exact absurd e1 (hne _ _)
    · cases h1
  · cases h2
  · split at h2
    · injection h1 with h1; injection h2 with h2
      rw [← h2] at h1
      injection h1 with e1 e2
      exact absurd e1.symm (hne _ _)
    · cases h2
  · injection h1 with h1; injection h2 with h2
    rw [← h2] at h1
    injection h1 with e1 e2
    rw [e2]
  all_goals first | (cases h1; done) | (cases h2; done)

def RetML (P : Program) (rs : List ResultVar) (e : Env) (r A : AV) : Prop := e 0 = A ∧ isOwn A = true ∧ ∃ l : List AV, r = .tup l ∧ rs.length ≠ 1 ∧ (rs.map slotR).Nodup ∧ 0 ∉ rs.map slotR ∧ ResL P e rs l
def RetM (P : Program) (rs : List ResultVar) (e : Env) (r : AV) : Prop := ∃ l : List AV, r = .tup l ∧ rs.length ≠ 1 ∧ (rs.map slotR).Nodup ∧ 0 ∉ rs.map slotR ∧ ResL P e rs l
def retML (P : Program) (rs : List ResultVar) (r A : AV) : QA
  | .normal, e => RetML P rs e r A
  | .ret, e => RetML P rs e r A
  | _, _ => False
def retM (P : Program) (rs : List ResultVar) (r : AV) : QA
  | .normal, e => RetM P rs e r
  | .ret, e => RetM P rs e r
  | _, _ => False
theorem retML_ret (P : Program) (rs : List ResultVar) (r A : AV) (e : Env) : retML P rs r A .ret e = RetML P rs e r A := rfl
theorem retML_normal (P : Program) (rs : List ResultVar) (r A : AV) (e : Env) : retML P rs r A .normal e = RetML P rs e r A := rfl
theorem retM_ret (P : Program) (rs : List ResultVar) (r : AV) (e : Env) : retM P rs r .ret e = RetM P rs e r := rfl
theorem retM_normal (P : Program) (rs : List ResultVar) (r : AV) (e : Env) : retM P rs r .normal e = RetM P rs e r := rfl

theorem ret_many {P : Program} {fn : Func} {κ : Con} {β0 : List Nat → Option Nat} (hO : κ.O0 = fun b => ∃ p, β0 p = some b) {e : Env} {a : Act} {w : World} {r : AV} {L : List (Nat × AV)} (hL : LeL e L) (hs : St κ e a w) (hr : RetM P fn.results.toList e r) :
    ∃ v Z' β' β1 e1, (results fn a.tmps).run P w = .ok v w ∧ Left κ.Z0 β0 κ.W0 Z' β' w ∧ ORep Z' w.heap β' [0] r v ∧ Rep κ Z' β1 e1 (vals a) w ∧ e1 0 = envOf L 0 ∧ ∀ q, β' (1 :: q) = β1 (0 :: q) := by
  obtain ⟨h1, h2, Z, β, hR⟩ := hs
  obtain ⟨l, rfl, hlen, hn, h0, hres⟩ := hr
  generalize hrs : fn.results.toList = rs at *
  obtain ⟨Z', β', hR'⟩ := hR.weaken (ResL.leL hL hres).le
  have hl := hres.len
  have hnew : ∀ b, new κ b → (∃ q, β0 q = some b) ∨ κ.W0.heap.size ≤ b := fun b hb => by
    unfold new at hb; rw [hO] at hb; exact hb
  have each : ∀ k (g1 : k < rs.length) (g2 : k < l.length), ∃ v, (resF a.tmps rs[k]).run P w = .ok v w ∧ ORep Z' w.heap (viaF (lfM rs) β') [0, k] l[k] v := by
    intro k g1 g2
    have hb := env_zip (L := L) hres hn k g1 g2
    have hI := hres.get k g1 g2
    have hlf : ∀ q, lfM rs (0 :: k :: q) = some (slotR rs[k] :: q) := fun q => by simp [lfM, g1]
    generalize rs[k] = rv at hb hI hlf
    generalize l[k] = A at hb hI
    cases rv with
    | tmp t =>
      have hsl := hR'.slot' (t := t) (A := A) hb (plainB_spec hI.1).2
      exact ⟨vals a t, by simp [resF, vals, Array.getD_eq_getD_getElem?], hsl.move (fun _ _ h => h) fun q b hq => ⟨by simpa [viaF, hlf, slotR] using hq, rfl⟩⟩
    | cell t T =>
      obtain ⟨m, hT, hsz, _, rfl⟩ := hI
      have hsl := hR'.slot' (t := t) (A := .box m) hb (by simp)
      generalize hvv : vals a t = v at hsl
      cases hsl with
      | pers h => cases h
      | box m b cs E hb' hz g3 g4 hk =>
        refine ⟨.agg cs, ?_, .agg m cs g3 fun j hj => (hk j hj).move (fun _ _ h => h) fun q b' hq => ⟨by simpa [viaF, hlf, slotR] using hq, rfl⟩⟩
        have := run_loadAt_agg' (P := P) hT (by rw [hsz, g3]) hz
        have h3 : a.tmps[t]?.getD undef = .pointer (some ⟨b, 0, none⟩) := by rw [← hvv]; simp [vals, Array.getD_eq_getD_getElem?]
        have h4 : (loadVar T ⟨b, 0, none⟩).run P w = .ok (.agg cs) w := by simpa [Instr.loadAt, Instr.sureAddr] using this
        simp [resF, h3, asAddr, h4]
  have pick : ∃ vs : List Value, vs.length = rs.length ∧ ∀ k (g1 : k < rs.length) (g2 : k < l.length) (g3 : k < vs.length), (resF a.tmps rs[k]).run P w = .ok vs[k] w ∧ ORep Z' w.heap (viaF (lfM rs) β') [0, k] l[k] vs[k] := by
    classical
    refine ⟨(List.range rs.length).map fun k => if h : k < rs.length then Classical.choose (each k h (by omega)) else undef, by simp, fun k g1 g2 g3 => ?_⟩
    simp only [List.getElem_map, List.getElem_range, g1, dif_pos]
    exact Classical.choose_spec (each k g1 g2)
  obtain ⟨vs, hvl, hvs⟩ := pick
  refine ⟨.tuple vs.toArray, Z', viaF (lfM rs) β', β', _, results_many hrs hlen vs hvl fun k g1 g2 => (hvs k g1 (by omega) g2).1, ?_, ?_, hR', env_zip_ne hres h0, fun q => rfl⟩
  · refine ⟨hR'.os, hR'.tape, hR'.output, hR'.size, fun b hb hn => hR'.frame b hb ?_, hR'.z0, fun b o ho => (hR'.zo b o ho).imp id fun h => hnew b h, hR'.zh, viaF_inj (lfM_inj hn h0) hR'.inj, fun p b hp => ?_⟩
    · rw [hO]; rintro ⟨p, hp⟩; exact hn p hp
    · have := viaF_bo (Q := fun b => new κ b ∧ Z' b = none ∧ b < w.heap.size) hR'.bo p b hp
      exact ⟨hnew b this.1, this.2⟩
  · refine .tup l _ (by simp; omega) fun k hk => ?_
    have := (hvs k (by omega) hk (by omega)).2
    have e : vs.toArray.getD k undef = vs[k]'(by omega) := by simp [Array.getD_eq_getD_getElem?, List.getElem?_eq_getElem (show k < vs.length by omega)]
    rw [e]
    exact this

theorem ctr_many {P : Program} {f : Nat} {fn : Func} {c : Code} (hf : P.funcs[f]? = some fn) (hname : (fn.name == "runtime.NumGoroutine") = false) (hb : fn.body = some c) {nt : Nat} (hnt : fn.ntmps = nt) {rel : List AV → AV → Prop}
    (h : ∀ args r, rel args r → args.length ≤ nt ∧ ∀ κ : Con, κ.lim = (0, nt) → CW P κ c (retM P fn.results.toList r) (argEnv args)) : CtrOK P f (pureC rel) := by
  refine ⟨⟨fn, c, hf, hname, hb⟩, fun args r args' hrel w Z β vs hvs hwf hargs => ?_⟩
  obtain ⟨rfl, hrel⟩ := hrel
  obtain ⟨hlen, hcw⟩ := h args r hrel
  simp only [pureC_eff, Bool.false_eq_true, if_false] at hargs
  obtain ⟨hβ, hargs⟩ := hargs
  subst hβ
  let κ : Con := ⟨w, Z, fun b => ∃ p, (fun _ : List Nat => (none : Option Nat)) p = some b, fun _ => undef, (0, nt)⟩
  refine calls_of_wp hf hb (wp_mono (hcw κ rfl { tmps := vs ++ Array.replicate (fn.ntmps - vs.size) undef, defers := [] } w ⟨rfl, ⟨by simp [hnt, hvs]; show _ = nt; omega, fun t ht => absurd ht (Nat.not_lt_zero t)⟩, Z, fun _ => none, ?_⟩) fun x a w' ⟨e', hq, hs'⟩ => ?_)
  · refine ⟨rfl, rfl, rfl, Nat.le_refl _, fun _ _ _ => rfl, fun _ _ h => h, fun _ _ h => .inl h, hwf.zh, by simp, by simp, fun t => ?_⟩
    unfold TRep argEnv
    by_cases ht : t < args.length
    · have e1 : args.getD t .junk = args[t] := by simp [List.getD, List.getElem?_eq_getElem ht]
      have e2 : vals { tmps := vs ++ Array.replicate (fn.ntmps - vs.size) undef, defers := [] } t = vs.getD t undef := by
        have : t < vs.size := by omega
        simp [vals, Array.getD_eq_getD_getElem?, Array.getElem?_append_left this]
      rw [e1, e2]
      have := hargs t ht
      have hpl := this.plain
      generalize args[t] = X at this hpl
      cases X with
      | alias s p => exact absurd rfl (hpl s p).1
      | valias s p => exact absurd rfl (hpl s p).2.1
      | addr s p => exact absurd rfl (hpl s p).2.2.1
      | win s p k => exact absurd rfl ((hpl s p).2.2.2 k)
      | _ => exact .pers this
    · have e1 : args.getD t .junk = .junk := by simp [List.getD, List.getElem?_eq_none (Nat.le_of_not_lt ht)]
      rw [e1]
      exact .pers (.junk _)
  · have hd : a.defers = [] := hs'.1
    have key : RetM P fn.results.toList e' r → ∃ v, (results fn a.tmps).run P w' = .ok v w' ∧ ∃ v' Z' β', Ending.returned v = .returned v' ∧ Left Z (fun _ => none) w Z' β' w' ∧ ORep Z' w'.heap β' [0] r v' ∧ ∀ i (h : i < ([] : List AV).length), ORep Z' w'.heap β' [i + 1] [][i] (vs.getD i undef) := by
      intro hr
      obtain ⟨v, Z', β', _, _, g1, g2, g3, _⟩ := ret_many (κ := κ) rfl (L := []) trivial hs' hr
      exact ⟨v, g1, v, Z', β', rfl, g2, g3, by simp⟩
    cases x with
    | normal => obtain ⟨v, g1, g2⟩ := key hq; exact ⟨hd, v, g1, g2⟩
    | ret => obtain ⟨v, g1, g2⟩ := key hq; exact ⟨hd, v, g1, g2⟩
    | _ => exact hq.elim

end Go.Proofs.Ytehdfifncbokeaa

namespace Go.Proofs.Ytehdfifncbokeaa
set_option linter.unusedSimpArgs false
set_option linter.unusedVariables false
set_option maxRecDepth 8000
set_option maxHeartbeats 2000000
open Go Go.RowKit AV

inductive Frz : Env → Env → Prop
  | refl (e : Env) : Frz e e
  | step {e e' : Env} (s : Nat) (p : List Nat) (A : AV) (hg : getP (e s) p = some A) (hA : isOwn A = true) (h : Frz ((Wr.mod s p (view A)).app e) e') : Frz e e'

theorem Frz.st {κ : Con} {e e' : Env} (h : Frz e e') : ∀ {a : Act} {w : World}, St κ e a w → St κ e' a w := by
  induction h with
  | refl e => exact fun h => h
  | step s p A hg hA _ ih =>
    intro a w ⟨h1, h2, Z, β, hR⟩
    have hpl := plain_of_own hg hA
    obtain ⟨Z', β', hR', _⟩ := hR.freeze s p A hg hpl.2 hpl.1 (view_plain A) (view_noOwn A)
    exact ih ⟨h1, h2, Z', β', hR'⟩

theorem CW.seqM {P : Program} {κ : Con} {Q : QA} {e : Env} {x y : Code} {ι : Type} (inv : ι → List (Nat × AV)) (pre : ι → Prop) (hM : ∀ i, pre i → CW P κ y Q (envOf (inv i)))
    (h : CW P κ x (thenA (fun e' => ∃ i, LeL e' (inv i) ∧ pre i) Q) e) : CW P κ (.seq x y) Q e :=
  CW.seq (h.mono fun x e hq => by
    cases x with
    | normal => obtain ⟨i, hle, hp⟩ := hq; exact CW.weaken hle.le (hM i hp)
    | _ => exact hq)

def takesX (o : Oper) : List Nat := match o.op with
  | .call c => (match c.callee with
    | .builtin .append => (match c.args.toList with
      | x :: _ => opT x
      | _ => [])
    | _ => [])
  | .buildSlice _ _ ps => opTs ps.toList
  | .build _ ps => opTs ps.toList
  | .store _ _ v => opT v
  | .assign x => opT x
  | .box _ x => opT x
  | .extract x _ => opT x
  | _ => []
def takenX : List Oper → List Nat
  | [] => []
  | o :: l => takesX o ++ takenX l
theorem CW.regX {P : Program} {κ : Con} {Q : QA} {e : Env} {Γ : Ctx} (hΓ : ∀ f c, Γ f = some c → CtrOK P f c) {id : Nat} {ops : List Oper} (hd : dstOK κ.lim ops = true) (h : wpOpsA P Γ (takenX ops) ops.toArray ops e (Q .normal)) : CW P κ (.region id ops.toArray false) Q e :=
  CW.region hΓ _ hd h
theorem CW.drwX {P : Program} {κ : Con} {Q : QA} {e : Env} {Γ : Ctx} (hΓ : ∀ f c, Γ f = some c → CtrOK P f c) (hm : P.follows .mixedOrders = true) {id : Nat} {ops : List Oper} (hd : dstOK κ.lim ops = true) (hf : fwdB ops.toArray = true)
    (h : ∀ B, befB ops.toArray = B → wpOpsD P Γ (takenX ops) ops.toArray B ops 0 [] e (Q .normal)) : CW P κ (.region id ops.toArray true) Q e :=
  CW.draw hΓ hm _ _ hd hf rfl (h _ rfl)

end Go.Proofs.Ytehdfifncbokeaa

namespace Go.Proofs.Ytehdfifncbokeaa
set_option linter.unusedSimpArgs false
set_option linter.unusedVariables false
set_option maxRecDepth 8000
set_option maxHeartbeats 2000000
open Go Go.RowKit AV

noncomputable def rdMinN (d : Nat) (A B : AV) : Rd := match A, B with
  | .num .i64 m, .num .i64 n => .ret [.set d (.num .i64 (min m n))]
  | _, _ => .fail
theorem rdMinN_spec {d : Nat} {A B : AV} {e : Env} {ws : List Wr} (h : (rdMinN d A B).Wo e ws) : ∃ m n, A = .num .i64 m ∧ B = .num .i64 n ∧ ws = [.set d (.num .i64 (min m n))] := by
  unfold rdMinN at h
  split at h
  · exact ⟨_, _, rfl, rfl, h⟩
  · exact h.elim
noncomputable def rdMin (d : Nat) (x y : Operand) : Rd := rdX x fun A => rdX y fun B => rdMinN d A B
theorem rdMin_sound {P : Program} {κ : Con} {o : Oper} {e : Env} {ws : List Wr} {ts : Array TypeId} {d : Nat} {x y : Operand} (ho : o.op = .call { callee := .builtin .min, args := #[x, y], argTypes := ts }) (hd : o.dst = some d) (hn : (κ.lim.1 ≤ d ∧ d < κ.lim.2)) (h : (rdMin d x y).Wo e ws) : Does P κ o e ws := by
  obtain ⟨A, h, hA0, hA⟩ := rdX_sound h
  obtain ⟨B, h, hB0, hB⟩ := rdX_sound h
  obtain ⟨m, n, rfl, rfl, rfl⟩ := rdMinN_spec h
  refine does_value hd hn fun a w Z β hR => ?_
  have e1 := hA hR rfl
  have e2 := hB hR rfl
  refine ⟨.int .i64 (min m n), w, Z, β, ?_, hR.put d (.num _ _) (by simp)⟩
  generalize hx : a.eval x = vx at e1
  generalize hy : a.eval y = vy at e2
  cases e1
  cases e2
  simp [execOp, ho, resolve, invoke, builtin, hx, hy, Go.Lib.run_min_ints, Sem.run_bind]

def minOf (o : Oper) : Option (Nat × Operand × Operand) := match o.dst, o.guard, o.op with
  | some d, none, .call c => (match c.callee, c.args.toList with
    | .builtin .min, [x, y] => some (d, x, y)
    | _, _ => none)
  | _, _, _ => none

noncomputable def rdGM (P : Program) (Γ : Ctx) (tl : List Nat) (ops : Array Oper) (o : Oper) : Rd := match minOf o with
  | some (d, x, y) => rdMin d x y
  | none => rdG P Γ tl ops o

theorem minOf_spec {o : Oper} {d : Nat} {x y : Operand} (h : minOf o = some (d, x, y)) : o.dst = some d ∧ o.guard = none ∧ ∃ ts, o.op = .call { callee := .builtin .min, args := #[x, y], argTypes := ts } := by
  unfold minOf at h
  split at h
  · rename_i d' c h1 h2 h3
    split at h
    · rename_i x' y' h4 h5
      simp only [Option.some.injEq, Prod.mk.injEq] at h
      obtain ⟨rfl, rfl, rfl⟩ := h
      refine ⟨h1, h2, c.argTypes, ?_⟩
      rw [h3]
      obtain ⟨cal, args, ats⟩ := c
      dsimp only at h4 h5 ⊢
      subst h4
      have : args = #[x', y'] := by rw [← Array.toArray_toList (xs := args), h5]
      rw [this]
    · cases h
  · cases h

theorem rdGM_sound {P : Program} {κ : Con} {Γ : Ctx} (hΓ : ∀ f c, Γ f = some c → CtrOK P f c) {tl : List Nat} {ops : Array Oper} {o : Oper} {e : Env} {ws : List Wr} (hn : ∀ d, o.dst = some d → (κ.lim.1 ≤ d ∧ d < κ.lim.2)) (h : (rdGM P Γ tl ops o).Wo e ws) : Steps1 P κ ops o e ws := by
  unfold rdGM at h
  split at h
  · rename_i d x y hm
    obtain ⟨hd, hg, ts, ho⟩ := minOf_spec hm
    intro Q K a w hs hK
    have hw : Region.wanted o (yielded ops a.tmps) = true := by simp [Region.wanted, hg]
    rw [if_pos hw]
    exact .inl (rdMin_sound ho hd (hn d hd) h Q K a w hs hK)
  · exact rdG_sound hΓ hn h

def wpOpsY (P : Program) (Γ : Ctx) (tl : List Nat) (ops : Array Oper) : List Oper → Env → (Env → Prop) → Prop
  | [], e, K => K e
  | o :: rest, e, K => (rdGM P Γ tl ops o).W e fun ws => wpOpsY P Γ tl ops rest (apps ws e) K

def KOpsY (P : Program) (Γ : Ctx) (tl : List Nat) (ops : Array Oper) (rest : List Oper) (e : Env) (K : Env → Prop) (ws : List Wr) : Prop := wpOpsY P Γ tl ops rest (apps ws e) K
theorem wpOpsY_cons {P : Program} {Γ : Ctx} {tl : List Nat} {ops : Array Oper} {e : Env} {K : Env → Prop} (o : Oper) (rest : List Oper) : wpOpsY P Γ tl ops (o :: rest) e K = (rdGM P Γ tl ops o).W e (KOpsY P Γ tl ops rest e K) := rfl
theorem wpOpsY_nil {P : Program} {Γ : Ctx} {tl : List Nat} {ops : Array Oper} {e : Env} {K : Env → Prop} : wpOpsY P Γ tl ops [] e K = K e := rfl
theorem KOpsY_app {P : Program} {Γ : Ctx} {tl : List Nat} {ops : Array Oper} {e : Env} {K : Env → Prop} (rest : List Oper) (ws : List Wr) : KOpsY P Γ tl ops rest e K ws = wpOpsY P Γ tl ops rest (apps ws e) K := rfl

end Go.Proofs.Ytehdfifncbokeaa

namespace Go.Proofs.Ytehdfifncbokeaa
set_option linter.unusedSimpArgs false
set_option linter.unusedVariables false
set_option maxRecDepth 8000
set_option maxHeartbeats 2000000
open Go Go.RowKit AV

def RunFR (R : Nat → Rd) (F : Nat → Fp) : List Nat → Env → Env → Prop
  | [], e, e' => e' = e
  | i :: l, e, e' => (R i).Ok e (F i) ∧ RunFR R F l (apps (F i).ws e) e'

def anyAR (R : Nat → Rd) (ops : Array Oper) (K : Env → Prop) : Nat → Array Bool → Env → Prop
  | 0, listed, e => Region.ready .any ops listed = [] ∧ K e
  | n + 1, listed, e => (Region.ready .any ops listed = [] → K e) ∧ ∀ i ∈ Region.ready .any ops listed, ∃ f, (R i).Ok e f ∧ anyAR R ops K n (listed.setIfInBounds i true) (apps f.ws e)

section
variable {R : Nat → Rd} {ops : Array Oper}

theorem bubbleR {F : Nat → Fp} {i : Nat} {l2 : List Nat} {e' : Env} : ∀ (l1 : List Nat) {e : Env}, RunFR R F (l1 ++ i :: l2) e e' → (∀ j ∈ l1, indep (F j) (F i) = true) → RunFR R F (i :: (l1 ++ l2)) e e'
  | [], e, h, _ => h
  | j :: l1, e, ⟨h1, h⟩, hi => by
    obtain ⟨h2, h3⟩ := bubbleR l1 h fun k hk => hi k (by simp [hk])
    obtain ⟨g1, g2, g3⟩ := swap h1 h2 (hi j (by simp))
    refine ⟨g1, g2, ?_⟩
    rw [← g3]
    exact h3

theorem anyAR_of_run {F : Nat → Fp} {K : Env → Prop} {e' : Env} (hf : fwdB ops = true) (hK : K e') : ∀ (n : Nat) (l : List Nat) (listed : Array Bool) (e : Env), l.length = n → listed.size = ops.size → (∀ i, i ∈ l ↔ i < ops.size ∧ listed.getD i true = false) → l.Pairwise (· < ·) →
    (∀ j ∈ l, ∀ i ∈ l, j < i → ordB (befB ops) j i = true ∨ indep (F j) (F i) = true) → Down ops listed → RunFR R F l e e' → anyAR R ops K n listed e := by
  have hready : ∀ (l : List Nat) (listed : Array Bool), listed.size = ops.size → (∀ i, i ∈ l ↔ i < ops.size ∧ listed.getD i true = false) → l.Pairwise (· < ·) → l ≠ [] → Region.ready .any ops listed ≠ [] := by
    intro l listed hsz hl hp hne hr
    cases l with
    | nil => exact hne rfl
    | cons i l =>
      obtain ⟨hi, hli⟩ := (hl i).1 (by simp)
      have : i ∈ Region.ready .any ops listed := by
        rw [mem_ready]
        refine ⟨hli, ops[i], Array.getElem?_eq_getElem hi, fun ed he hb => ?_⟩
        have hlt : ed.on < i := by
          have := List.all_eq_true.1 hf (ops[i], i) (by
            rw [List.mem_zipIdx_iff_getElem?]
            simp [hi])
          simp only [Array.all_eq_true_iff_forall_mem] at this
          have := this ed he
          simpa [hb] using this
        have hlts : ed.on < listed.size := by omega
        cases hv : listed.getD ed.on false with
        | true => rfl
        | false =>
          have : ed.on ∈ i :: l := (hl _).2 ⟨by omega, by simpa [hlts] using hv⟩
          rcases List.mem_cons.1 this with h | h
          · omega
          · have := (List.pairwise_cons.1 hp).1 _ h; omega
      rw [hr] at this
      cases this
  intro n
  induction n with
  | zero =>
    intro l listed e hn hsz hl hp hi hD hrun
    have : l = [] := List.eq_nil_of_length_eq_zero hn
    subst this
    have : e' = e := hrun
    subst this
    refine ⟨?_, hK⟩
    cases hr : Region.ready .any ops listed with
    | nil => rfl
    | cons i r =>
      exfalso
      have hm : i ∈ Region.ready .any ops listed := by rw [hr]; simp
      obtain ⟨h1, o, ho, _⟩ := mem_ready.1 hm
      have := (hl i).2 ⟨(Array.getElem?_eq_some_iff.1 ho).1, h1⟩
      cases this
  | succ n ih =>
    intro l listed e hn hsz hl hp hi hD hrun
    have hne : l ≠ [] := by rintro rfl; simp at hn
    refine ⟨fun h => absurd h (hready l listed hsz hl hp hne), fun i hir => ?_⟩
    obtain ⟨h1, o, ho, hall⟩ := mem_ready.1 hir
    have hios : i < ops.size := (Array.getElem?_eq_some_iff.1 ho).1
    have him : i ∈ l := (hl i).2 ⟨hios, h1⟩
    obtain ⟨l1, l2, rfl⟩ := List.append_of_mem him
    have hp' := List.pairwise_append.1 hp
    have hlt1 : ∀ j ∈ l1, j < i := fun j hj => hp'.2.2 j hj i (by simp)
    obtain ⟨hok, hrest⟩ := bubbleR l1 hrun fun j hj => by
      rcases hi j (by simp [hj]) i (by simp) (hlt1 j hj) with h | h
      · exfalso
        have := ord_listed hf hD hsz (i + 1) i (by omega) (.inl hir) j h
        have hj' := (hl j).1 (by simp [hj])
        have hjs : j < listed.size := by omega
        have h3 := hj'.2
        simp [hjs] at this h3
        rw [h3] at this
        cases this
      · exact h
    refine ⟨F i, hok, ?_⟩
    have hne1 : ∀ j, j ∈ l1 ++ l2 → j ≠ i := by
      intro j hj
      rcases List.mem_append.1 hj with h | h
      · have := hlt1 j h; omega
      · have := (List.pairwise_cons.1 hp'.2.1).1 j h; omega
    refine ih (l1 ++ l2) _ _ (by simp at hn ⊢; omega) (by simpa using hsz) (fun j => ?_) ?_ (fun j hj k hk hlt => hi j (by simp at hj ⊢; rcases hj with h | h <;> simp [h]) k (by simp at hk ⊢; rcases hk with h | h <;> simp [h]) hlt) ?_ hrest
    · constructor
      · intro hj
        have hji := hne1 j hj
        have := (hl j).1 (by simp at hj ⊢; rcases hj with h | h <;> simp [h])
        exact ⟨this.1, by rw [getD_set_ne true (Ne.symm hji)]; exact this.2⟩
      · rintro ⟨hj, hjl⟩
        by_cases hji : j = i
        · subst hji
          have hjs : j < listed.size := by omega
          simp [hjs] at hjl
        · rw [getD_set_ne true (Ne.symm hji)] at hjl
          have := (hl j).2 ⟨hj, hjl⟩
          simp at this ⊢
          rcases this with h | h | h
          · exact .inl h
          · exact absurd h hji
          · exact .inr h
    · refine List.pairwise_append.2 ⟨hp'.1, (List.pairwise_cons.1 hp'.2.1).2, fun a ha b hb => hp'.2.2 a ha b (by simp [hb])⟩
    · intro k ok hok' hlk hks ed hed hb
      by_cases hki : k = i
      · subst hki
        rw [ho] at hok'
        injection hok' with hok'
        subst hok'
        exact getD_set_true (hall ed hed hb)
      · rw [getD_set_ne true (Ne.symm hki)] at hlk
        exact getD_set_true (hD k ok hok' hlk (by simpa using hks) ed hed hb)

def wpOpsDR (R : Nat → Rd) (B : Array Nat) : List Oper → Nat → List (Nat × Fp) → Env → (Env → Prop) → Prop
  | [], _, acc, e, K => chkP B acc = true ∧ K e
  | o :: rest, i, acc, e, K => (R i).D e [] [] [] fun f => wpOpsDR R B rest (i + 1) ((i, f) :: acc) (apps f.ws e) K

theorem wpOpsDR_run {K : Env → Prop} : ∀ (l : List Oper) (i : Nat) (acc : List (Nat × Fp)) (e : Env), (∀ j, l[j]? = ops[i + j]?) → wpOpsDR R (befB ops) l i acc e K →
    ∃ (F : Nat → Fp) (e' : Env), RunFR R F (List.range' i l.length) e e' ∧ K e' ∧ (∀ p ∈ acc, ∀ k, i ≤ k → k < i + l.length → ordB (befB ops) p.1 k = true ∨ indep p.2 (F k) = true) ∧
      (∀ j k, i ≤ j → j < k → k < i + l.length → ordB (befB ops) j k = true ∨ indep (F j) (F k) = true) ∧ chkP (befB ops) acc = true
  | [], i, acc, e, _, h => ⟨fun _ => ⟨[], [], [], []⟩, e, rfl, h.2, fun p _ k h1 h2 => by simp at h2; omega, fun j k h1 h2 h3 => by simp at h3; omega, h.1⟩
  | o :: l, i, acc, e, hl, h => by
    obtain ⟨f, g, g1, g3, g4, _⟩ := Rd.D.ok h
    have h0 : ops[i]? = some o := by simpa using (hl 0).symm
    obtain ⟨F, e', r1, r2, r3, r4, r5⟩ := wpOpsDR_run l (i + 1) _ _ (fun j => by have := hl (j + 1); simpa [Nat.add_assoc, Nat.add_comm 1 j] using this) g3
    simp only [chkP, Bool.and_eq_true] at r5
    obtain ⟨g2, r6⟩ := r5
    have hF : ∀ k, i < k → (fun k => if k = i then f else F k) k = F k := fun k hk => by simp [Nat.ne_of_gt hk]
    refine ⟨fun k => if k = i then f else F k, e', ?_, r2, fun p hp k hk1 hk2 => ?_, fun j k hj hjk hk => ?_, r6⟩
    · simp only [List.length_cons, List.range'_succ, RunFR, if_true]
      refine ⟨g1, ?_⟩
      rw [g4.2.2.2]
      have cong : ∀ (m : List Nat) (e1 : Env), (∀ x ∈ m, i < x) → RunFR R F m e1 e' → RunFR R (fun k => if k = i then f else F k) m e1 e' := by
        intro m
        induction m with
        | nil => intro e1 _ h; exact h
        | cons x m ih =>
          intro e1 hm ⟨h1, h2⟩
          have hx := hF x (hm x (by simp))
          simp only at hx
          simp only [RunFR, hx]
          exact ⟨h1, ih _ (fun y hy => hm y (by simp [hy])) h2⟩
      exact cong _ _ (fun x hx => by have := List.mem_range'_1.1 hx; omega) r1
    · simp only [List.length_cons] at hk2
      by_cases hki : k = i
      · subst hki
        have := List.all_eq_true.1 g2 p hp
        simp only [Bool.or_eq_true] at this
        simp only [if_true]
        exact this.imp id fun h => indep_mono ⟨fun _ h => h, fun _ h => h, fun _ h => h, rfl⟩ g4 h
      · simp only [hki, if_false]
        exact r3 p (by simp [hp]) k (by omega) (by omega)
    · simp only [List.length_cons] at hk
      by_cases hji : j = i
      · subst hji
        have hkj : k ≠ j := by omega
        simp only [if_true, hkj, if_false]
        exact (r3 (j, g) (by simp) k (by omega) (by omega)).imp id fun h => indep_mono g4 ⟨fun _ h => h, fun _ h => h, fun _ h => h, rfl⟩ h
      · have hki : k ≠ i := by omega
        simp only [hji, hki, if_false]
        exact r4 j k (by omega) hjk (by omega)

end

section
variable {P : Program} {ops : Array Oper} {R : Nat → Rd} {S : Env → Act → World → Prop}
def StepsS (P : Program) (ops : Array Oper) (R : Nat → Rd) (S : Env → Act → World → Prop) : Prop := ∀ i o, ops[i]? = some o → ∀ e ws, (R i).Wo e ws →
  ∀ (Q : Exit → Act → World → Prop) (K : Act → World → Prop) (a : Act) (w : World), S e a w → (∀ a' w', S (apps ws e) a' w' → K a' w') →
    if Region.wanted o (yielded ops a.tmps) then o.wp P a w K Q ∨ (o.asks P a w ∧ LetsOut Q) else K (a.put o.dst undef) w

theorem wpAny_of_anyAR (hR : StepsS P ops R S) {Q : Exit → Act → World → Prop} {K : Env → Prop} (hK : ∀ e a w, K e → S e a w → Q .normal a w) :
    ∀ (n : Nat) (listed : Array Bool) (e : Env) (a : Act) (w : World), anyAR R ops K n listed e → S e a w → wpAny P .any ops Q n listed a w
  | 0, listed, e, a, w, h, hs => ⟨h.1, hK e a w h.2 hs⟩
  | n + 1, listed, e, a, w, h, hs => by
    refine ⟨fun h0 => hK e a w (h.1 h0) hs, fun i hi => ?_⟩
    obtain ⟨f, hok, hrest⟩ := h.2 i hi
    obtain ⟨_, o, ho, _⟩ := mem_ready.1 hi
    have := hR i o ho e f.ws hok.wo Q (wpAny P .any ops Q n (listed.setIfInBounds i true)) a w hs fun a' w' hs' => wpAny_of_anyAR hR hK n _ _ a' w' hrest hs'
    unfold wpOp
    simp only [ho]
    exact this

theorem wpOpsDR_sound (hR : StepsS P ops R S) (hm : P.follows .mixedOrders = true) {id : Nat} {Q : Exit → Act → World → Prop} {K : Env → Prop} (hK : ∀ e a w, K e → S e a w → Q .normal a w)
    (hf : fwdB ops = true) {e : Env} {a : Act} {w : World} (h : wpOpsDR R (befB ops) ops.toList 0 [] e K) (hs : S e a { w with drawn := w.drawn + 1 }) : (Code.region id ops true).wp P Q a w := by
  obtain ⟨F, e', r1, r2, _, r4, _⟩ := wpOpsDR_run ops.toList 0 [] e (by simp) h
  refine wp_region_any hm (wpAny_of_anyAR hR hK _ _ _ _ _ ?_ hs)
  refine anyAR_of_run (F := F) hf r2 ops.size (List.range ops.size) (Array.replicate ops.size false) e (by simp) (by simp) (fun i => ?_) ?_ (fun j hj i hi hji => r4 j i (by omega) hji (by simp at hi ⊢; omega)) (fun i o ho hl hlt => ?_) ?_
  · simp only [List.mem_range]
    constructor
    · intro hi; exact ⟨hi, by simp [hi]⟩
    · exact fun h => h.1
  · exact List.pairwise_lt_range
  · have : i < ops.size := by simpa using hlt
    simp [this] at hl
  · rw [List.range_eq_range']
    simpa using r1
end

end Go.Proofs.Ytehdfifncbokeaa

namespace Go.Proofs.Ytehdfifncbokeaa
set_option linter.unusedSimpArgs false
set_option linter.unusedVariables false
set_option maxRecDepth 8000
set_option maxHeartbeats 2000000
open Go Go.RowKit AV

def lentMv (s0 : Nat) (o : Oper) : Option Nat := match o.dst, o.guard, o.op with
  | some d, none, .move (.tmp t) => if t = s0 then some d else none
  | _, _, _ => none

def lentCall (ms : List Nat) (s0 : Nat) (o : Oper) : Option (Nat × Oper) := match o.op with
  | .call c => (match c.args.toList with
    | .tmp t :: rest => if ms.contains t then some (t, { o with op := .call { c with args := (.tmp s0 :: rest).toArray } }) else none
    | _ => none)
  | _ => none

noncomputable def rdLR (P : Program) (Γ : Ctx) (tl : List Nat) (ops : Array Oper) (ms : List Nat) (s0 : Nat) (v0 : Value) (i : Nat) : Rd := match ops[i]? with
  | none => .fail
  | some o => match lentMv s0 o with
    | some d => .ret [.set d (.pin .junk v0)]
    | none => match lentCall ms s0 o with
      | some (t, o') => .get t fun A => .need (A = .pin .junk v0) (rdG P Γ tl ops o')
      | none => rdGM P Γ tl ops o

theorem eval_args {a : Act} {t s0 : Nat} {rest : List Operand} (h : vals a t = vals a s0) : (Operand.tmp t :: rest).toArray.map a.eval = (Operand.tmp s0 :: rest).toArray.map a.eval := by
  have h2 : a.eval (.tmp t) = a.eval (.tmp s0) := by rw [eval_tmp, eval_tmp]; exact h
  simp [h2]

theorem exec_lent {a : Act} {t s0 : Nat} {o : Oper} {c : Call} {rest : List Operand} (ho : o.op = .call c) (hc : c.args.toList = .tmp t :: rest) (h : vals a t = vals a s0) :
    execOp a.eval o = execOp a.eval { o with op := .call { c with args := (.tmp s0 :: rest).toArray } } := by
  obtain ⟨dst, op, ty, pos, after, guard⟩ := o
  dsimp only at ho
  subst ho
  obtain ⟨cal, args, ats⟩ := c
  dsimp only at hc
  have : args = (Operand.tmp t :: rest).toArray := by rw [← hc]
  subst this
  have h2 := eval_args (rest := rest) h
  have h3 : resolve a.eval { callee := cal, args := (Operand.tmp t :: rest).toArray, argTypes := ats } ty = resolve a.eval { callee := cal, args := (Operand.tmp s0 :: rest).toArray, argTypes := ats } ty := by
    unfold resolve
    dsimp only
    rw [h2]
    cases cal <;> simp
  simp only [execOp]
  rw [h3]

def noDst (s : Nat) (ops : List Oper) : Bool := ops.all fun o => match o.dst with
  | some d => !(d == s)
  | none => true
theorem noDst_spec {s : Nat} {ops : List Oper} (h : noDst s ops = true) {o : Oper} (ho : o ∈ ops) : o.dst ≠ some s := by
  have := List.all_eq_true.1 h o ho
  intro he
  rw [he] at this
  simp at this

theorem vals_put_ne {a : Act} {o : Option Nat} {u : Value} {s : Nat} (h : o ≠ some s) : vals (a.put o u) s = vals a s := by
  cases o with
  | none => rfl
  | some d =>
    have hd : d ≠ s := fun he => h (by rw [he])
    simp only [vals, Act.put, Array.getD_eq_getD_getElem?]
    rw [Array.getElem?_setIfInBounds_ne hd]

theorem wp_keeps {P : Program} {o : Oper} {a : Act} {w : World} {K : Act → World → Prop} {Q : Exit → Act → World → Prop} {s : Nat} (hd : o.dst ≠ some s) (h : o.wp P a w K Q) : o.wp P a w (fun a' w' => K a' w' ∧ vals a' s = vals a s) Q := by
  unfold Oper.wp at *
  generalize (execOp a.eval o).run P w = r at *
  cases r with
  | ok n w' =>
    cases n with
    | value v => exact ⟨h, vals_put_ne hd⟩
    | skip => exact ⟨h, vals_put_ne hd⟩
    | defer d => exact ⟨h, vals_put_ne (a := { a with defers := d :: a.defers }) hd⟩
    | enter f args =>
      refine Calls.mono h fun en w'' hen => ?_
      cases en with
      | returned v => exact ⟨hen, vals_put_ne hd⟩
      | panicked c => exact hen
      | outgrown => exact hen
    | row row args => exact Rows.mono h fun v w'' hv => ⟨hv, vals_put_ne hd⟩
    | _ => exact h
  | halt c w' => cases c <;> exact h

theorem stepsLR {P : Program} {κ : Con} {Γ : Ctx} (hΓ : ∀ f c, Γ f = some c → CtrOK P f c) {tl : List Nat} {ops : Array Oper} (ms : List Nat) (s0 : Nat) (v0 : Value) (hs0 : noDst s0 ops.toList = true) (hd : dstOK κ.lim ops.toList = true) :
    StepsS P ops (rdLR P Γ tl ops ms s0 v0) (fun e a w => St κ e a w ∧ vals a s0 = v0) := by
  intro i o ho e ws h
  have hmem : o ∈ ops.toList := by simpa using Array.mem_of_getElem? ho
  have hn := dstOK_spec hd hmem
  have hne := noDst_spec hs0 hmem
  have lift : ∀ (o' : Oper), o'.dst = o.dst → o'.guard = o.guard → (∀ (a : Act) (w : World), St κ e a w ∧ vals a s0 = v0 → execOp a.eval o' = execOp a.eval o) → Steps1 P κ ops o' e ws →
      ∀ (Q : Exit → Act → World → Prop) (K : Act → World → Prop) (a : Act) (w : World), (St κ e a w ∧ vals a s0 = v0) → (∀ a' w', (St κ (apps ws e) a' w' ∧ vals a' s0 = v0) → K a' w') →
        if Region.wanted o (yielded ops a.tmps) then o.wp P a w K Q ∨ (o.asks P a w ∧ LetsOut Q) else K (a.put o.dst undef) w := by
    intro o' hd' hg' hex hst Q K a w hs hK
    have hx := hex a w hs
    have key := hst Q (fun a' w' => St κ (apps ws e) a' w') a w hs.1 (fun _ _ h => h)
    have hw : Region.wanted o' (yielded ops a.tmps) = Region.wanted o (yielded ops a.tmps) := by simp only [Region.wanted, hg']
    rw [hw, hd'] at key
    have conv : ∀ (K' : Act → World → Prop), o'.wp P a w K' Q → o.wp P a w K' Q := by
      intro K' hwp
      unfold Oper.wp at *
      rw [hx] at hwp
      generalize (execOp a.eval o).run P w = r at *
      cases r with
      | ok n w' => cases n <;> first | (simp only [Oper.upon] at hwp ⊢; rw [hd'] at hwp; exact hwp) | exact hwp
      | halt c w' => cases c <;> exact hwp
    split
    · rename_i hyes
      rw [if_pos hyes] at key
      rcases key with key | ⟨k1, k2⟩
      · exact .inl (Oper.wp_mono (fun a' w' ⟨h1, h2⟩ => hK a' w' ⟨h1, h2.trans hs.2⟩) (wp_keeps hne (conv _ key)))
      · refine .inr ⟨?_, k2⟩
        unfold Oper.asks at *
        rw [hx] at k1
        exact k1
    · rename_i hno
      rw [if_neg hno] at key
      exact hK _ _ ⟨key, (vals_put_ne hne).trans hs.2⟩
  unfold rdLR at h
  rw [ho] at h
  dsimp only at h
  split at h
  · rename_i d hm
    have h' : ws = _ := h
    subst h'
    unfold lentMv at hm
    split at hm
    · rename_i d' t hd1 hg1 hop
      split at hm
      · rename_i ht
        injection hm with hm
        subst hm ht
        intro Q K a w ⟨hs, hv0⟩ hK
        have hw : Region.wanted o (yielded ops a.tmps) = true := by simp [Region.wanted, hg1]
        rw [if_pos hw]
        refine .inl ?_
        obtain ⟨h1, h2, Z, β, hR⟩ := hs
        have hrun : (execOp a.eval o).run P w = .ok (.value (vals a t)) w := by simp [execOp, hop, eval_tmp]
        unfold Oper.wp
        rw [hrun, Oper.upon_value, hd1]
        have hnd := hn d' hd1
        rw [hd1] at hne
        refine hK _ _ ⟨⟨h1, keep_put hnd h2, Z, β, ?_⟩, (vals_put_ne hne).trans hv0⟩
        rw [vals_put (by rw [h2.1]; exact hnd.2)]
        have hp : PRep Z (.pin .junk v0) (vals a t) := by rw [hv0]; exact .pin _ _ (.junk _)
        exact hR.put d' hp (by simp)
      · cases hm
    · cases hm
  · split at h
    · rename_i t o' hm
      obtain ⟨hj, hA, h⟩ := h
      unfold lentCall at hm
      split at hm
      · rename_i c hop
        split at hm
        · rename_i t' rest hargs
          split at hm
          · simp only [Option.some.injEq, Prod.mk.injEq] at hm
            obtain ⟨rfl, rfl⟩ := hm
            refine lift { o with op := .call { c with args := (.tmp s0 :: rest).toArray } } rfl rfl (fun a w hs => ?_) (rdG_sound hΓ hn h)
            have hv : vals a t' = vals a s0 := by
              obtain ⟨⟨h1, h2, Z, β, hR⟩, hv0⟩ := hs
              have hv := ORep.toP (hR.slot' hA (by simp)) rfl
              generalize hvv : vals a t' = vv at hv
              cases hv with
              | pin A v _ => exact hv0.symm
            exact (exec_lent hop hargs hv).symm
          · cases hm
        · cases hm
      · cases hm
    · exact lift o rfl rfl (fun _ _ _ => rfl) (rdGM_sound hΓ hn h)

def KOpsR (R : Nat → Rd) (B : Array Nat) (rest : List Oper) (i : Nat) (acc : List (Nat × Fp)) (e : Env) (K : Env → Prop) (f : Fp) : Prop := wpOpsDR R B rest (i + 1) ((i, f) :: acc) (apps f.ws e) K
theorem wpOpsDR_cons {R : Nat → Rd} {B : Array Nat} {e : Env} {K : Env → Prop} (o : Oper) (rest : List Oper) (i : Nat) (acc) : wpOpsDR R B (o :: rest) i acc e K = (R i).D e [] [] [] (KOpsR R B rest i acc e K) := rfl
theorem wpOpsDR_nil {R : Nat → Rd} {B : Array Nat} {e : Env} {K : Env → Prop} (i : Nat) (acc) : wpOpsDR R B [] i acc e K = (chkP B acc = true ∧ K e) := rfl
theorem KOpsR_app {R : Nat → Rd} {B : Array Nat} {e : Env} {K : Env → Prop} (rest : List Oper) (i : Nat) (acc) (f : Fp) : KOpsR R B rest i acc e K f = wpOpsDR R B rest (i + 1) ((i, f) :: acc) (apps f.ws e) K := rfl

theorem CW.drwL {P : Program} {κ : Con} {Q : QA} {e : Env} {Γ : Ctx} (hΓ : ∀ f c, Γ f = some c → CtrOK P f c) (hm : P.follows .mixedOrders = true) {id : Nat} {ops : List Oper} (ms : List Nat) (s0 : Nat) (hd : dstOK κ.lim ops = true) (hf : fwdB ops.toArray = true) (hs0 : noDst s0 ops = true)
    (h : ∀ v0 B, befB ops.toArray = B → wpOpsDR (rdLR P Γ (takenL ops) ops.toArray ms s0 v0) B ops 0 [] e (Q .normal)) : CW P κ (.region id ops.toArray true) Q e := fun a w hs =>
  wpOpsDR_sound (stepsLR hΓ ms s0 (vals a s0) (by simpa using hs0) (by simpa using hd)) hm (fun e' _ _ hq hs' => ⟨e', hq, hs'.1⟩) hf (by simpa using h _ _ rfl) ⟨⟨hs.1, hs.2.1, let ⟨Z, β, hR⟩ := hs.2.2; ⟨Z, β, hR.drew⟩⟩, rfl⟩

end Go.Proofs.Ytehdfifncbokeaa

namespace Go.Proofs.Ytehdfifncbokeaa
set_option linter.unusedSimpArgs false
set_option linter.unusedVariables false
set_option maxRecDepth 8000
set_option maxHeartbeats 2000000
open Go Go.RowKit AV

mutual
def noMap : AV → Bool
  | sh l => allM l
  | own l => allM l
  | orec _ l => allM l
  | srec _ l => allM l
  | mfn _ l => allM l
  | agg l => allM l
  | tup l => allM l
  | box l => allM l
  | pbox l => allM l
  | fn _ l => allM l
  | pcell v => noMap v
  | pin v _ => noMap v
  | omap ks vs => allM ks && allM vs
  | pmap _ _ => false
  | oiter _ _ _ => false
  | memo _ _ => false
  | _ => true
def allM : List AV → Bool
  | [] => true
  | a :: l => noMap a && allM l
end
end Go.Proofs.Ytehdfifncbokeaa

namespace Go.Proofs.Ytehdfifncbokeaa
set_option linter.unusedSimpArgs false
set_option linter.unusedVariables false
set_option maxRecDepth 8000
set_option maxHeartbeats 2000000
open Go Go.RowKit AV

end Go.Proofs.Ytehdfifncbokeaa

namespace Go.Proofs.Ytehdfifncbokeaa
set_option linter.unusedSimpArgs false
set_option linter.unusedVariables false
set_option maxRecDepth 8000
set_option maxHeartbeats 2000000
open Go Go.RowKit AV

def wpOpsL (R : Nat → Rd) : List Oper → Nat → Env → (Env → Prop) → Prop
  | [], _, e, K => K e
  | _ :: rest, i, e, K => (R i).W e fun ws => wpOpsL R rest (i + 1) (apps ws e) K

def KOpsL (R : Nat → Rd) (rest : List Oper) (i : Nat) (e : Env) (K : Env → Prop) (ws : List Wr) : Prop := wpOpsL R rest (i + 1) (apps ws e) K
theorem wpOpsL_cons {R : Nat → Rd} {e : Env} {K : Env → Prop} (o : Oper) (rest : List Oper) (i : Nat) : wpOpsL R (o :: rest) i e K = (R i).W e (KOpsL R rest i e K) := rfl
theorem wpOpsL_nil {R : Nat → Rd} {e : Env} {K : Env → Prop} (i : Nat) : wpOpsL R [] i e K = K e := rfl
theorem KOpsL_app {R : Nat → Rd} {e : Env} {K : Env → Prop} (rest : List Oper) (i : Nat) (ws : List Wr) : KOpsL R rest i e K ws = wpOpsL R rest (i + 1) (apps ws e) K := rfl

end Go.Proofs.Ytehdfifncbokeaa

namespace Go.Proofs.Ytehdfifncbokeaa
set_option linter.unusedSimpArgs false
set_option linter.unusedVariables false
set_option maxRecDepth 8000
set_option maxHeartbeats 2000000
open Go Go.RowKit AV

section
variable {κ : Con} {Z : Nat → Option Obj} {β : List Nat → Option Nat} {e : Env} {val : Nat → Value} {w : World}

end

noncomputable def rdG3 (Γ : Ctx) (d f s t u : Nat) : Rd := .get s fun X => .get t fun Y => .get u fun V => .need (isOwn X = true ∧ isOwn Y = true ∧ isOwn V = true ∧ isP (view V) = true ∧ s ≠ t ∧ s ≠ u ∧ t ≠ u)
  (rdAskE Γ f [X, Y, view V] fun r A' => .need ((isP r || isOwn r) = true ∧ isOwn A' = true) (.ret [.mod u [] (view V), .set t .junk, .set s A', .set d r]))

end Go.Proofs.Ytehdfifncbokeaa

namespace Go.Proofs.Ytehdfifncbokeaa
set_option linter.unusedSimpArgs false
set_option linter.unusedVariables false
set_option maxRecDepth 8000
set_option maxHeartbeats 2000000
open Go Go.RowKit AV

def lent3 (ms : List Nat) (g : Nat) (o : Oper) : Option (Nat × Nat × Nat × Nat × Oper) := match o.dst, o.guard, o.op with
  | some d, none, .call c => (match c.callee, c.args.toList with
    | .value (.func f), [.tmp t, .tmp y, .tmp z] => if f = g ∧ ms.contains t = true then some (t, y, z, d, o) else none
    | _, _ => none)
  | _, _, _ => none

noncomputable def rdLG (P : Program) (Γ : Ctx) (tl : List Nat) (ops : Array Oper) (ms : List Nat) (g s0 : Nat) (v0 : Value) (i : Nat) : Rd := match ops[i]? with
  | none => .fail
  | some o => match lent3 ms g o with
    | some (t, y, z, d, _) => .get t fun A => .need (A = .pin .junk v0) (rdG3 Γ d g s0 y z)
    | none => rdLR P Γ tl ops ms s0 v0 i

end Go.Proofs.Ytehdfifncbokeaa

namespace Go.Proofs.Ytehdfifncbokeaa
set_option linter.unusedSimpArgs false
set_option linter.unusedVariables false
set_option maxRecDepth 8000
set_option maxHeartbeats 2000000
open Go Go.RowKit AV

noncomputable def rdSrcP (y : Operand) (k : List AV → Option Nat → Rd) : Rd := match y with
  | .tmp t => .get t fun v => match v with
    | .win s q j => .get s fun c => rdGetP c q fun X => match X with
      | .own l => .need (allP (l.take (j - bigW)) = true ∧ bigW ≤ j ∧ j - bigW ≤ l.length) (k (l.take (j - bigW)) none)
      | _ => .fail
    | _ => rdSrc y k
  | _ => rdSrc y k

noncomputable def rdAppP (P : Program) (T T2 d : Nat) (x y : Operand) : Rd := .need (slOK P T = true ∧ slOK P T2 = true) (rdSrcP y fun m t2 => rdDst x fun l t1 => .need ((t1 = none ∨ t1 ≠ t2) ∧ l.length + m.length ≤ 1099511627776 ∧ t1 ≠ some d ∧ t2 ≠ some d)
  (.ret (srcW t1 ++ srcW t2 ++ [.set d (.own (l ++ m))])))

def appOf (o : Oper) : Option (Nat × Nat × Nat × Operand × Operand) := match o.dst, o.guard, o.op with
  | some d, none, .call c => (match c.callee, c.args.toList, c.argTypes.toList with
    | .builtin .append, [x, y], [T, T2] => some (T, T2, d, x, y)
    | _, _, _ => none)
  | _, _, _ => none

noncomputable def rdGA (P : Program) (Γ : Ctx) (tl : List Nat) (ops : Array Oper) (o : Oper) : Rd := match appOf o with
  | some (T, T2, d, x, y) => rdAppP P T T2 d x y
  | none => rdG P Γ tl ops o

def wpOpsQ (P : Program) (Γ : Ctx) (tl : List Nat) (ops : Array Oper) : List Oper → Env → (Env → Prop) → Prop
  | [], e, K => K e
  | o :: rest, e, K => (rdGA P Γ tl ops o).W e fun ws => wpOpsQ P Γ tl ops rest (apps ws e) K

def KOpsQ (P : Program) (Γ : Ctx) (tl : List Nat) (ops : Array Oper) (rest : List Oper) (e : Env) (K : Env → Prop) (ws : List Wr) : Prop := wpOpsQ P Γ tl ops rest (apps ws e) K
theorem wpOpsQ_cons {P : Program} {Γ : Ctx} {tl : List Nat} {ops : Array Oper} {e : Env} {K : Env → Prop} (o : Oper) (rest : List Oper) : wpOpsQ P Γ tl ops (o :: rest) e K = (rdGA P Γ tl ops o).W e (KOpsQ P Γ tl ops rest e K) := rfl
theorem wpOpsQ_nil {P : Program} {Γ : Ctx} {tl : List Nat} {ops : Array Oper} {e : Env} {K : Env → Prop} : wpOpsQ P Γ tl ops [] e K = K e := rfl
theorem KOpsQ_app {P : Program} {Γ : Ctx} {tl : List Nat} {ops : Array Oper} {e : Env} {K : Env → Prop} (rest : List Oper) (ws : List Wr) : KOpsQ P Γ tl ops rest e K ws = wpOpsQ P Γ tl ops rest (apps ws e) K := rfl

end Go.Proofs.Ytehdfifncbokeaa

namespace Go.Proofs.Ytehdfifncbokeaa
set_option linter.unusedSimpArgs false
set_option linter.unusedVariables false
set_option maxRecDepth 8000
set_option maxHeartbeats 2000000
open Go Go.RowKit AV

end Go.Proofs.Ytehdfifncbokeaa
