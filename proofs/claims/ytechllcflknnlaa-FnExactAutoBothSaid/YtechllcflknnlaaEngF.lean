/- Contracts of functions that write what their first argument holds. No program in sight. -/
import Derived.Test.YtechllcflknnlaaEng16
namespace Go.Proofs.Ytechllcflknnlaa
set_option linter.unusedSimpArgs false
set_option linter.unusedVariables false
set_option maxRecDepth 8000
open Go Go.RowKit AV

/-- A result that owns nothing. -/
def RetP (rs : List ResultVar) (e : Env) (r : AV) : Prop := match rs with
  | [.tmp t] => isP r = true ∧ e t = r
  | [] => r = .tup []
  | _ => False

theorem retP0 (e : Env) (r : AV) : RetP [] e r = (r = .tup []) := rfl
theorem retP1 (t : Nat) (e : Env) (r : AV) : RetP [.tmp t] e r = (isP r = true ∧ e t = r) := rfl

/-- What the first argument holds now. -/
def backA (e : Env) (A : AV) : Prop := match e 0 with
  | .alias s p => getP (e s) p = some A ∧ isOwn A = true
  | .valias s p => ∃ l, getP (e s) p = some (.box l) ∧ A = .agg l
  | X => X = A ∧ isOwn A = true

def retE (rs : List ResultVar) (r A : AV) : QA
  | .normal, e => RetP rs e r ∧ backA e A
  | .ret, e => RetP rs e r ∧ backA e A
  | _, _ => False

theorem retE_ret (rs : List ResultVar) (r A : AV) (e : Env) : retE rs r A .ret e = (RetP rs e r ∧ backA e A) := rfl
theorem retE_normal (rs : List ResultVar) (r A : AV) (e : Env) : retE rs r A .normal e = (RetP rs e r ∧ backA e A) := rfl

def outB (β : List Nat → Option Nat) (s : Nat) (p : List Nat) (U : List Nat → Bool) : List Nat → Option Nat
  | 1 :: r => if U r then β (s :: p ++ r) else none
  | _ => none

theorem outB_spec {β : List Nat → Option Nat} {s : Nat} {p : List Nat} {U : List Nat → Bool} {q : List Nat} {b : Nat} (h : outB β s p U q = some b) : ∃ r, q = 1 :: r ∧ U r = true ∧ β (s :: p ++ r) = some b := by
  rcases q with _ | ⟨x, r⟩
  · cases h
  · rcases x with _ | _ | x
    · cases h
    · simp only [outB] at h
      split at h
      · exact ⟨r, rfl, by assumption, h⟩
      · cases h
    · cases h

theorem ret_eff {P : Program} {fn : Func} {κ : Con} {β0 : List Nat → Option Nat} (hO : κ.O0 = fun b => ∃ p, β0 p = some b) (hl : 0 < κ.lim.1) {e : Env} {a : Act} {w : World} {r A : AV} (hs : St κ e a w) (hr : RetP fn.results.toList e r) (hA : backA e A) :
    ∃ v Z' β', (results fn a.tmps).run P w = .ok v w ∧ Left κ.Z0 β0 κ.W0 Z' β' w ∧ ORep Z' w.heap β' [0] r v ∧ ORep Z' w.heap β' [1] A (κ.V0 0) := by
  obtain ⟨h1, h2, Z, β, hR⟩ := hs
  have hv0 : vals a 0 = κ.V0 0 := h2.2 0 hl
  have mk : ∀ (s : Nat) (p : List Nat) (U : List Nat → Bool), Left κ.Z0 β0 κ.W0 Z (outB β s p U) w := by
    intro s p U
    have hnew : ∀ b, new κ b → (∃ q, β0 q = some b) ∨ κ.W0.heap.size ≤ b := fun b hb => by
      unfold new at hb; rw [hO] at hb; exact hb
    refine ⟨hR.os, hR.tape, hR.output, hR.size, fun b hb hn => hR.frame b hb ?_, hR.z0, fun b o ho => (hR.zo b o ho).imp id fun h => hnew b h, hR.zh, fun p q b hp hq => ?_, fun p b hp => ?_⟩
    · rw [hO]; rintro ⟨p, hp⟩; exact hn p hp
    · obtain ⟨r1, rfl, _, g1⟩ := outB_spec hp
      obtain ⟨r2, rfl, _, g2⟩ := outB_spec hq
      have := hR.inj _ _ _ g1 g2
      simp at this
      rw [this]
    · obtain ⟨r1, rfl, _, g1⟩ := outB_spec hp
      have := hR.bo _ b g1
      exact ⟨hnew b this.1, this.2⟩
  have res : ∃ v, (results fn a.tmps).run P w = .ok v w ∧ PRep Z r v := by
    unfold RetP at hr
    split at hr
    · rename_i t hrs
      obtain ⟨hp, hrt⟩ := hr
      have hres : fn.results = #[.tmp t] := by rw [← Array.toArray_toList (xs := fn.results), hrs]
      exact ⟨_, results_tmp hres _ _ _, ORep.toP (hR.slot' hrt (isP_plain hp)) hp⟩
    · rename_i hrs
      subst hr
      have hres : fn.results = #[] := by rw [← Array.toArray_toList (xs := fn.results), hrs]
      exact ⟨_, results_none hres _ _ _, .tup [] #[] rfl (by simp)⟩
    · exact hr.elim
  obtain ⟨v, hv, hPr⟩ := res
  have plain : (∀ s p, e 0 ≠ .alias s p ∧ e 0 ≠ .valias s p ∧ e 0 ≠ .addr s p) → e 0 = A → isOwn A = true → ∃ v Z' β', (results fn a.tmps).run P w = .ok v w ∧ Left κ.Z0 β0 κ.W0 Z' β' w ∧ ORep Z' w.heap β' [0] r v ∧ ORep Z' w.heap β' [1] A (κ.V0 0) := by
    intro hpl he ho
    refine ⟨v, Z, outB β 0 [] (fun _ => true), hv, mk _ _ _, .pers hPr, ?_⟩
    have := hR.slot 0 hpl
    rw [he, hv0] at this
    exact this.move (fun _ _ h => h) fun r b hb => ⟨by simpa [outB] using hb, rfl⟩
  unfold backA at hA
  cases he : e 0 with
  | alias s p =>
    rw [he] at hA
    obtain ⟨hg, ho⟩ := hA
    refine ⟨v, Z, outB β s p (fun _ => true), hv, mk _ _ _, .pers hPr, ?_⟩
    have := hR.aliasAt he A hg ho
    rw [hv0] at this
    exact this.move (fun _ _ h => h) fun r b hb => ⟨by simpa [outB] using hb, rfl⟩
  | valias s p =>
    rw [he] at hA
    obtain ⟨l, hg, rfl⟩ := hA
    obtain ⟨cs, hcs, hO', _⟩ := hR.valiasAt he l hg
    rw [hv0] at hcs
    rw [hcs]
    have key : ∃ hcs : cs.size = l.length, ∀ k (h : k < l.length), ORep Z w.heap β (s :: p ++ [k]) l[k] (cs.getD k undef) := by
      cases hO' with
      | pers h => cases h with | agg l cs h1 hk => exact ⟨h1, fun k h => .pers (hk k h)⟩
      | agg l cs h1 hk => exact ⟨h1, hk⟩
    obtain ⟨hsz, hk⟩ := key
    exact ⟨v, Z, outB β s p (fun _ => true), hv, mk _ _ _, .pers hPr, .agg l cs hsz fun k hk' => (hk k hk').move (fun _ _ h => h) fun r b hb => ⟨by simpa [outB] using hb, rfl⟩⟩
  | addr s p => rw [he] at hA; obtain ⟨rfl, ho⟩ := hA; cases ho
  | _ => rw [he] at hA; exact plain (by rw [he]; simp) (he.trans hA.1) hA.2

/-- A contract of a function that writes what its first argument holds. -/
theorem ctr_eff {P : Program} {f : Nat} {fn : Func} {c : Code} (hf : P.funcs[f]? = some fn) (hname : (fn.name == "runtime.NumGoroutine") = false) (hb : fn.body = some c) {nt : Nat} (hnt : fn.ntmps = nt) {rel : List AV → AV → List AV → Prop}
    (h : ∀ args r args', rel args r args' → ∃ A, args' = [A] ∧ 0 < args.length ∧ args.length ≤ nt ∧ ∀ κ : Con, κ.lim = (1, nt) → CW P κ c (retE fn.results.toList r A) (argEnv args)) : CtrOK P f ⟨true, rel⟩ := by
  refine ⟨⟨fn, c, hf, hname, hb⟩, fun args r args' hrel w Z β vs hvs hwf hargs => ?_⟩
  obtain ⟨A, rfl, h0, hlen, hcw⟩ := h args r args' hrel
  simp only [if_true] at hargs
  let κ : Con := ⟨w, Z, fun b => ∃ p, β p = some b, fun t => vs.getD t undef, (1, nt)⟩
  have hval : ∀ t, t < args.length → vals { tmps := vs ++ Array.replicate (fn.ntmps - vs.size) undef, defers := [] } t = vs.getD t undef := by
    intro t ht
    have : t < vs.size := by omega
    simp [vals, Array.getD_eq_getD_getElem?, Array.getElem?_append_left this]
  refine calls_of_wp hf hb (wp_mono (hcw κ rfl { tmps := vs ++ Array.replicate (fn.ntmps - vs.size) undef, defers := [] } w ⟨rfl, ⟨by simp [hnt, hvs]; show _ = nt; omega, fun t ht => hval t (by have : t < 1 := ht; omega)⟩, Z, β, ?_⟩) fun x a w' ⟨e', hq, hs'⟩ => ?_)
  · refine ⟨rfl, rfl, rfl, Nat.le_refl _, fun _ _ _ => rfl, fun _ _ h => h, fun _ _ h => .inl h, hwf.zh, hwf.inj, fun p b hp => ⟨.inl ⟨p, hp⟩, hwf.bo p b hp⟩, fun t => ?_⟩
    unfold TRep argEnv
    by_cases ht : t < args.length
    · have e1 : args.getD t .junk = args[t] := by simp [List.getD, List.getElem?_eq_getElem ht]
      rw [e1, hval t ht]
      have := hargs t ht
      have hpl := this.plain
      generalize args[t] = X at this hpl
      cases X with
      | alias s p => exact absurd rfl (hpl s p).1
      | valias s p => exact absurd rfl (hpl s p).2.1
      | addr s p => exact absurd rfl (hpl s p).2.2
      | _ => exact this
    · have e1 : args.getD t .junk = .junk := by simp [List.getD, List.getElem?_eq_none (Nat.le_of_not_lt ht)]
      rw [e1]
      exact .pers (.junk _)
  · have hd : a.defers = [] := hs'.1
    have key : RetP fn.results.toList e' r ∧ backA e' A → ∃ v, (results fn a.tmps).run P w' = .ok v w' ∧ ∃ v' Z' β', Ending.returned v = .returned v' ∧ Left Z β w Z' β' w' ∧ ORep Z' w'.heap β' [0] r v' ∧ ∀ i (h : i < ([A] : List AV).length), ORep Z' w'.heap β' [i + 1] [A][i] (vs.getD i undef) := by
      rintro ⟨hr, hA⟩
      obtain ⟨v, Z', β', g1, g2, g3, g4⟩ := ret_eff (κ := κ) rfl (Nat.zero_lt_one) hs' hr hA
      refine ⟨v, g1, v, Z', β', rfl, g2, g3, fun i hi => ?_⟩
      have : i = 0 := by simpa using hi
      subst this
      exact g4
    cases x with
    | normal => obtain ⟨v, g1, g2⟩ := key hq; exact ⟨hd, v, g1, g2⟩
    | ret => obtain ⟨v, g1, g2⟩ := key hq; exact ⟨hd, v, g1, g2⟩
    | _ => exact hq.elim

/-- A context, listed. -/
def ctxOf : List (Nat × Ctr) → Ctx
  | [], _ => none
  | (g, c) :: L, f => if f = g then some c else ctxOf L f

theorem ctxOf_ok {P : Program} : ∀ {L : List (Nat × Ctr)}, (∀ x ∈ L, CtrOK P x.1 x.2) → ∀ f c, ctxOf L f = some c → CtrOK P f c
  | [], _, f, c, h => by cases h
  | (g, c0) :: L, hL, f, c, h => by
    simp only [ctxOf] at h
    split at h
    · rename_i hfg
      injection h with h
      subst hfg; subst h
      exact hL (f, c0) (by simp)
    · exact ctxOf_ok (fun x hx => hL x (by simp [hx])) f c h

theorem isE_of {Γ : Ctx} {f : Nat} {c : Ctr} (h : Γ f = some c) : isE Γ f = c.eff := by simp [isE, h]

theorem allN_oints (l : List (List Int)) : AV.allN (l.map oints) = true := by rw [allN_iff]; intro a ha; obtain ⟨x, _, rfl⟩ := List.mem_map.1 ha; exact noSh_ints x
theorem view_I : AV.view ∘ I = I := by funext n; rfl
theorem view_ints : AV.view ∘ ints = ints := by funext l; rfl
theorem view_oo : AV.view ∘ oints = ints := by funext l; simp [oints, ints, view, viewL_map, view_I]

theorem retOK_box {P : Program} {T t : Nat} {e : Env} {l : List AV} (hT : aggT P T = some true) (hs : szT P T = some l.length) (he : e t = .box l) : RetOK P [.cell t T] e (.agg l) := ⟨l, hT, hs, he, .inl rfl⟩
theorem retOK_boxV {P : Program} {T t : Nat} {e : Env} {l : List AV} (hT : aggT P T = some true) (hs : szT P T = some l.length) (he : e t = .box l) : RetOK P [.cell t T] e (.agg (viewL l)) := ⟨l, hT, hs, he, .inr rfl⟩

theorem W_br_t {e : Env} (x y : Rd) (K : List Wr → Prop) : Rd.W e (.br True x y) K = Rd.W e x K := by simp [Rd.W]
theorem W_br_f {e : Env} (x y : Rd) (K : List Wr → Prop) : Rd.W e (.br False x y) K = Rd.W e y K := by simp [Rd.W]
theorem D_br_t {e : Env} (x y : Rd) (gs ps ts) (K : Fp → Prop) : Rd.D e (.br True x y) gs ps ts K = Rd.D e x gs ps ts K := by simp [Rd.D]
theorem D_br_f {e : Env} (x y : Rd) (gs ps ts) (K : Fp → Prop) : Rd.D e (.br False x y) gs ps ts K = Rd.D e y gs ps ts K := by simp [Rd.D]
theorem W_brs {e : Env} {c : Prop} {x y : Rd} {K : List Wr → Prop} (h1 : c → Rd.W e x K) (h2 : ¬ c → Rd.W e y K) : Rd.W e (.br c x y) K := ⟨h1, h2⟩
theorem D_brs {e : Env} {c : Prop} {x y : Rd} {gs ps ts} {K : Fp → Prop} (h1 : c → Rd.D e x gs ps ts K) (h2 : ¬ c → Rd.D e y gs ps ts K) : Rd.D e (.br c x y) gs ps ts K := ⟨h1, h2⟩

theorem cast_div (a b : Nat) : (a : Int) / (b : Int) = ((a / b : Nat) : Int) := (Int.natCast_ediv a b).symm
theorem cast_mod (a b : Nat) : (a : Int) % (b : Int) = ((a % b : Nat) : Int) := (Int.natCast_emod a b).symm

def killIf (b : Bool) (s : Nat) (p : List Nat) (e : Env) : Env := match b with
  | true => kill s p e
  | false => e
theorem killIf_t (s : Nat) (p : List Nat) (e : Env) : killIf true s p e = kill s p e := rfl
theorem killIf_f (s : Nat) (p : List Nat) (e : Env) : killIf false s p e = e := rfl
theorem app_set_junk (d : Nat) (e : Env)  : (Wr.set d AV.junk).app e = upd e d AV.junk := rfl
theorem app_mod_junk (s : Nat) (p : List Nat) (e : Env)  : (Wr.mod s p AV.junk).app e = upd e s (setP (e s) p AV.junk) := rfl
theorem app_set_num (d : Nat) (e : Env) (k : IntKind) (n : Int) : (Wr.set d (AV.num k n)).app e = upd e d (AV.num k n) := rfl
theorem app_mod_num (s : Nat) (p : List Nat) (e : Env) (k : IntKind) (n : Int) : (Wr.mod s p (AV.num k n)).app e = upd e s (setP (e s) p (AV.num k n)) := rfl
theorem app_set_bool (d : Nat) (e : Env) (b : Bool) : (Wr.set d (AV.bool b)).app e = upd e d (AV.bool b) := rfl
theorem app_mod_bool (s : Nat) (p : List Nat) (e : Env) (b : Bool) : (Wr.mod s p (AV.bool b)).app e = upd e s (setP (e s) p (AV.bool b)) := rfl
theorem app_set_sh (d : Nat) (e : Env) (l : List AV) : (Wr.set d (AV.sh l)).app e = upd e d (AV.sh l) := rfl
theorem app_mod_sh (s : Nat) (p : List Nat) (e : Env) (l : List AV) : (Wr.mod s p (AV.sh l)).app e = upd e s (setP (e s) p (AV.sh l)) := rfl
theorem app_set_own (d : Nat) (e : Env) (l : List AV) : (Wr.set d (AV.own l)).app e = upd (kill d [] e) d (AV.own l) := rfl
theorem app_mod_own (s : Nat) (p : List Nat) (e : Env) (l : List AV) : (Wr.mod s p (AV.own l)).app e = upd (kill s p e) s (setP (e s) p (AV.own l)) := rfl
theorem app_set_box (d : Nat) (e : Env) (l : List AV) : (Wr.set d (AV.box l)).app e = upd (kill d [] e) d (AV.box l) := rfl
theorem app_mod_box (s : Nat) (p : List Nat) (e : Env) (l : List AV) : (Wr.mod s p (AV.box l)).app e = upd (kill s p e) s (setP (e s) p (AV.box l)) := rfl
theorem app_set_pbox (d : Nat) (e : Env) (l : List AV) : (Wr.set d (AV.pbox l)).app e = upd e d (AV.pbox l) := rfl
theorem app_mod_pbox (s : Nat) (p : List Nat) (e : Env) (l : List AV) : (Wr.mod s p (AV.pbox l)).app e = upd e s (setP (e s) p (AV.pbox l)) := rfl
theorem app_set_pcell (d : Nat) (e : Env) (v : AV) : (Wr.set d (AV.pcell v)).app e = upd e d (AV.pcell v) := rfl
theorem app_mod_pcell (s : Nat) (p : List Nat) (e : Env) (v : AV) : (Wr.mod s p (AV.pcell v)).app e = upd e s (setP (e s) p (AV.pcell v)) := rfl
theorem app_set_alias (d : Nat) (e : Env) (s' : Nat) (q : List Nat) : (Wr.set d (AV.alias s' q)).app e = upd e d (AV.alias s' q) := rfl
theorem app_mod_alias (s : Nat) (p : List Nat) (e : Env) (s' : Nat) (q : List Nat) : (Wr.mod s p (AV.alias s' q)).app e = upd e s (setP (e s) p (AV.alias s' q)) := rfl
theorem app_set_valias (d : Nat) (e : Env) (s' : Nat) (q : List Nat) : (Wr.set d (AV.valias s' q)).app e = upd e d (AV.valias s' q) := rfl
theorem app_mod_valias (s : Nat) (p : List Nat) (e : Env) (s' : Nat) (q : List Nat) : (Wr.mod s p (AV.valias s' q)).app e = upd e s (setP (e s) p (AV.valias s' q)) := rfl
theorem app_set_addr (d : Nat) (e : Env) (s' : Nat) (q : List Nat) : (Wr.set d (AV.addr s' q)).app e = upd e d (AV.addr s' q) := rfl
theorem app_mod_addr (s : Nat) (p : List Nat) (e : Env) (s' : Nat) (q : List Nat) : (Wr.mod s p (AV.addr s' q)).app e = upd e s (setP (e s) p (AV.addr s' q)) := rfl
theorem app_set_fn (d : Nat) (e : Env) (f : Nat) (l : List AV) : (Wr.set d (AV.fn f l)).app e = upd e d (AV.fn f l) := rfl
theorem app_mod_fn (s : Nat) (p : List Nat) (e : Env) (f : Nat) (l : List AV) : (Wr.mod s p (AV.fn f l)).app e = upd e s (setP (e s) p (AV.fn f l)) := rfl
theorem app_set_agg (d : Nat) (e : Env) (l : List AV) : (Wr.set d (.agg l)).app e = upd (killIf (anyOwn l) d [] e) d (.agg l) := by cases h : anyOwn l <;> simp [Wr.app, isOwn, h, killIf]
theorem app_mod_agg (s : Nat) (p : List Nat) (e : Env) (l : List AV) : (Wr.mod s p (.agg l)).app e = upd (killIf (anyOwn l) s p e) s (setP (e s) p (.agg l)) := by cases h : anyOwn l <;> simp [Wr.app, isOwn, h, killIf]
theorem app_set_tup (d : Nat) (e : Env) (l : List AV) : (Wr.set d (.tup l)).app e = upd (killIf (anyOwn l) d [] e) d (.tup l) := by cases h : anyOwn l <;> simp [Wr.app, isOwn, h, killIf]
theorem app_mod_tup (s : Nat) (p : List Nat) (e : Env) (l : List AV) : (Wr.mod s p (.tup l)).app e = upd (killIf (anyOwn l) s p e) s (setP (e s) p (.tup l)) := by cases h : anyOwn l <;> simp [Wr.app, isOwn, h, killIf]

theorem isE_no (f : Nat) : isE noCtx f = false := rfl
theorem isE_nil (f : Nat) : isE (ctxOf []) f = false := rfl
theorem isE_cons (g : Nat) (c : Ctr) (L : List (Nat × Ctr)) (f : Nat) : isE (ctxOf ((g, c) :: L)) f = if f = g then c.eff else isE (ctxOf L) f := by
  by_cases h : f = g <;> simp [isE, ctxOf, h]

def effC (rel : List AV → AV → List AV → Prop) : Ctr := ⟨true, rel⟩
def pureC (rel : List AV → AV → Prop) : Ctr := ⟨false, fun args r args' => args' = [] ∧ rel args r⟩
theorem effC_eff (rel) : (effC rel).eff = true := rfl
theorem pureC_eff (rel) : (pureC rel).eff = false := rfl
theorem effC_rel (rel) : (effC rel).rel = rel := rfl
theorem pureC_rel (rel) (args r args') : (pureC rel).rel args r args' = (args' = [] ∧ rel args r) := rfl

theorem W_askP {e : Env} {Γ : Ctx} {f : Nat} {args : List AV} {k : AV → Rd} {K : List Wr → Prop} {rel : List AV → AV → Prop} (hf : Γ f = some (pureC rel)) (r : AV) (hr : rel args r) (h : Rd.W e (k r) K) : Rd.W e (rdAsk Γ f args k) K :=
  ⟨_, r, ⟨hf, rfl, rfl, hr⟩, h⟩
theorem D_askP {e : Env} {Γ : Ctx} {f : Nat} {args : List AV} {k : AV → Rd} {gs ps ts} {K : Fp → Prop} {rel : List AV → AV → Prop} (hf : Γ f = some (pureC rel)) (r : AV) (hr : rel args r) (h : Rd.D e (k r) gs ps ts K) : Rd.D e (rdAsk Γ f args k) gs ps ts K :=
  ⟨_, r, ⟨hf, rfl, rfl, hr⟩, h⟩
theorem W_askE {e : Env} {Γ : Ctx} {f : Nat} {args : List AV} {k : AV → AV → Rd} {K : List Wr → Prop} {rel : List AV → AV → List AV → Prop} (hf : Γ f = some (effC rel)) (r A : AV) (hr : rel args r [A]) (h : Rd.W e (k r A) K) : Rd.W e (rdAskE Γ f args k) K :=
  ⟨_, r, A, ⟨hf, rfl, hr⟩, h⟩
theorem D_askE {e : Env} {Γ : Ctx} {f : Nat} {args : List AV} {k : AV → AV → Rd} {gs ps ts} {K : Fp → Prop} {rel : List AV → AV → List AV → Prop} (hf : Γ f = some (effC rel)) (r A : AV) (hr : rel args r [A]) (h : Rd.D e (k r A) gs ps ts K) : Rd.D e (rdAskE Γ f args k) gs ps ts K :=
  ⟨_, r, A, ⟨hf, rfl, hr⟩, h⟩

/-- A contract of a function that reads its arguments alone. -/
theorem ctr_pure' {P : Program} {f : Nat} {fn : Func} {c : Code} (hf : P.funcs[f]? = some fn) (hname : (fn.name == "runtime.NumGoroutine") = false) (hb : fn.body = some c) {nt : Nat} (hnt : fn.ntmps = nt) {rel : List AV → AV → Prop}
    (h : ∀ args r, rel args r → args.length ≤ nt ∧ ∀ κ : Con, κ.lim = (0, nt) → CW P κ c (retQ P fn.results.toList r) (argEnv args)) : CtrOK P f (pureC rel) :=
  ctr_pure hf hname hb hnt fun args r args' ⟨h1, h2⟩ => ⟨h1, h args r h2⟩

theorem ctr_eff' {P : Program} {f : Nat} {fn : Func} {c : Code} (hf : P.funcs[f]? = some fn) (hname : (fn.name == "runtime.NumGoroutine") = false) (hb : fn.body = some c) {nt : Nat} (hnt : fn.ntmps = nt) {rel : List AV → AV → List AV → Prop}
    (h : ∀ args r args', rel args r args' → ∃ A, args' = [A] ∧ 0 < args.length ∧ args.length ≤ nt ∧ ∀ κ : Con, κ.lim = (1, nt) → CW P κ c (retE fn.results.toList r A) (argEnv args)) : CtrOK P f (effC rel) := ctr_eff hf hname hb hnt h

theorem take_succ_eq {α : Type} {l m : List α} {k : Nat} (hl : k < l.length) (hm : k < m.length) (h : l.take k = m.take k) (he : l[k] = m[k]) : l.take (k + 1) = m.take (k + 1) := by
  rw [List.take_succ_eq_append_getElem hl, List.take_succ_eq_append_getElem hm, h, he]

theorem getElem_of_drop {α : Type} {l m : List α} {k : Nat} (h : l.drop k = m.drop k) (hl : k < l.length) (hm : k < m.length) : l[k] = m[k] := by
  have := congrArg (fun l => l[0]?) h
  simp only [List.getElem?_drop, Nat.add_zero, List.getElem?_eq_getElem hl, List.getElem?_eq_getElem hm, Option.some.injEq] at this
  exact this

theorem drop_set_succ {α : Type} {X l : List α} {k : Nat} {v : α} (h : X.drop k = l.drop k) : (X.set k v).drop (k + 1) = l.drop (k + 1) := by
  have := congrArg (List.drop 1) h
  simp only [List.drop_drop] at this
  rw [List.drop_set_of_lt (by omega), this]

theorem take_set_succ {α : Type} {X l : List α} {k : Nat} (hk : k < l.length) (hX : k < X.length) (h : X.take k = l.take k) : (X.set k l[k]).take (k + 1) = l.take (k + 1) := by
  refine List.ext_getElem? fun i => ?_
  rw [List.getElem?_take, List.getElem?_take]
  by_cases hi : i < k + 1
  · simp only [hi, if_true]
    by_cases hik : i = k
    · subst hik; simp [hX, hk]
    · have := congrArg (fun l => l[i]?) h
      simp only [List.getElem?_take, show i < k by omega, if_true] at this
      rw [List.getElem?_set_ne (Ne.symm hik), this]
  · simp [hi]

end Go.Proofs.Ytechllcflknnlaa
